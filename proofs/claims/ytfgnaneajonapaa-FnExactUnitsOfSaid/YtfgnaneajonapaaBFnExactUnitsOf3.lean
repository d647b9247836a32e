/- A part of the proof of the law FnExactUnitsOf: its texts, one behind the other. -/
import Derived.Laws.IdiomCopy
import Derived.Shelf.Abstract
import Derived.Test.YtfgnaneajonapaaBFnExactUnitsOf1
import Derived.Test.YtfgnaneajonapaaBFnExactUnitsOf2
/- Printed out of the translation by this session's pr.py over the kit's print. Lean checks it. -/
namespace Go.Proofs.Ytfgnaneajonapaa.Pr
open Go.RowKit Go.Proofs.YtfgnaneajonapaaW.PrintWords Go.Proofs.YtfgnaneajonapaaW.PrintLast Go.Proofs.YtfgnaneajonapaaW.PrintMore
attribute [local go_sem] max2_int min2_int max_two min_two max_three min_three max_four min_four
set_option linter.unusedVariables false
set_option linter.unusedSimpArgs false

/-! ### impl_UnitsOf: function 17 -/
mutual
def impl_UnitsOf.l0 : Nat → List (S97) → Int → Int → Int → List ByteArray → List Bool → Int → Option (List ByteArray × List Bool)
  | 0, _, _, _, _, _, _, _ => none
  | k + 1, x0, x2, x8, x9, x11, x12, x13 => if x13 < (wrap64 (x8 + x9)) then (impl_UnitsOf.l1 k x0 x2 x8 x9 x11 x12 x13 (⟨#[]⟩ : ByteArray) false x0 (x0.length : Int) 0) else (some (x11, x12))
def impl_UnitsOf.l1 : Nat → List (S97) → Int → Int → Int → List ByteArray → List Bool → Int → ByteArray → Bool → List (S97) → Int → Int → Option (List ByteArray × List Bool)
  | 0, _, _, _, _, _, _, _, _, _, _, _, _ => none
  | k + 1, x0, x2, x8, x9, x11, x12, x13, x14, x15, x31, x32, x33 => if x33 < x32 then (if 0 ≤ x33 then (if x33 < (x31.length : Int) then ((impl_GetUnit.f k ((rd_T97 x31 x33).f0) ((rd_T97 x31 x33).f1) ((rd_T97 x31 x33).f2) x2 x13).bind fun bt182 => (if bt182.2 = true then (if x11.length < 8796093022208 then (if x12.length < 140737488355328 then (impl_UnitsOf.l0 k x0 x2 x8 x9 (x11 ++ [bt182.1]) (x12 ++ [bt182.2]) (wrap64 (x13 + 1))) else (none)) else (none)) else (impl_UnitsOf.l1 k x0 x2 x8 x9 x11 x12 x13 bt182.1 bt182.2 x31 x32 (wrap64 (x33 + 1))))) else (none)) else (none)) else (if x11.length < 8796093022208 then (if x12.length < 140737488355328 then (impl_UnitsOf.l0 k x0 x2 x8 x9 (x11 ++ [x14]) (x12 ++ [x15]) (wrap64 (x13 + 1))) else (none)) else (none))
end
def impl_UnitsOf.f (k : Nat) (l0 : List (S97)) (a1 : Int) (a2 : Int) : Option (List ByteArray × List Bool) := (impl_SchemaOf.f a1).bind fun bt177 => (impl_UnitsOf.l0 k l0 a2 bt177.1 bt177.2.1 ([] : List ByteArray) ([] : List Bool) 0)
set_option maxHeartbeats 8000000 in
set_option maxRecDepth 100000 in
theorem impl_UnitsOf.calls (k : Nat) (A0 : Option Addr) (c0 : Nat) (l0 : List (S97)) (a1 : Int) (a2 : Int) (r1 : List ByteArray) (r2 : List Bool) (w : World) (hr0 : Kd.C k97 w A0 l0.length l0) (hc0 : l0.length ≤ c0) (h : impl_UnitsOf.f k l0 a1 a2 = some (r1, r2)) :
    Calls Try.prog 17 #[.slice A0 l0.length c0, .int .i64 a1, .int .i64 a2] w fun e w' => ∃ v0_ v1_ : Value, e = .returned (.tuple #[v0_, v1_]) ∧ Kd.R Kd.string 9 w' w.heap.size (fun _ => True) v0_ r1 ∧ Kd.R Kd.bool 4 w' w.heap.size (fun _ => True) v1_ r2 ∧ Below w.heap.size w w' := by
  have hu97 := Try.underlying97
  have HR0 := Aside0.mk hr0
  have HC0 := Aside0.mk hc0
  clear hr0 hc0
  have HB := Aside0.mk (Below.refl w.heap.size w)
  have H : ((impl_SchemaOf.f a1).bind fun bt177 => (impl_UnitsOf.l0 k l0 a2 bt177.1 bt177.2.1 ([] : List ByteArray) ([] : List Bool) 0)) = some (r1, r2) := h
  clear h
  replace H := Option.bind_eq_some_iff.mp H
  obtain ⟨⟨t177, t178, t179⟩, A40, H⟩ := H
  replace H : (impl_UnitsOf.l0 k l0 a2 t177 t178 ([] : List ByteArray) ([] : List Bool) 0) = some (r1, r2) := H
  have A4 := Aside0.mk A40
  clear A40
  have H' := Aside0.mk H
  clear H
  go_enter Try.func17, Try.ntmps17
  go_wp2_with (first | ((with_reducible refine gate_callee (f := 57) rfl ?_); refine GL (some 20) rfl rfl Try.func57 #[.int .i64 a1] rfl ?_; (with_reducible refine (impl_SchemaOf.calls a1 t177 t178 t179 _ A4.out).mono ?_); rintro e w' ⟨rfl, ⟨nd, rfl⟩⟩; refine ⟨_, rfl, ?_⟩))
  go_loopg [11, 12, 13] k (fun kq v11 v12 v13 w' => ∃ (x11_1 : List ByteArray) (x12_1 : List Bool) (x13_1 : Int), v13 = .int .i64 x13_1 ∧ Aside0 (impl_UnitsOf.l0 kq l0 a2 t177 t178 x11_1 x12_1 x13_1 = some (r1, r2)) ∧ Aside0 (kq ≤ k) ∧ Aside0 (Kd.R Kd.string 9 w' w.heap.size (fun _ => True) v11 x11_1) ∧ Aside0 (Kd.R Kd.bool 4 w' w.heap.size (fun _ => True) v12 x12_1) ∧ Aside0 (Below w.heap.size w w'))
  case atStart => exact ⟨(([] : List ByteArray)), (([] : List Bool)), (0), FR, H', ⟨Nat.le_refl _⟩, ⟨by first | exact Kd.R_nil _ _ _ _ _ | exact Kd.N_nil _ _ _ _ _ | exact Kd.V_nil _ _ _ _ _ | exact Kd.Q_nil _ _ _ _ _ | exact Kd.S_nil _ _ _ _ _⟩, ⟨by first | exact Kd.R_nil _ _ _ _ _ | exact Kd.N_nil _ _ _ _ _ | exact Kd.V_nil _ _ _ _ _ | exact Kd.Q_nil _ _ _ _ _ | exact Kd.S_nil _ _ _ _ _⟩, ⟨(BB HB.out)⟩⟩
  case round =>
    clear H'
    try clear c1
    try clear p2
    obtain ⟨x11_1, x12_1, x13_1, rfl, HA, HK1, HO_11, HO_12, HB⟩ := hrel
    cases gk with
    | zero => exact absurd HA.out (by simp [impl_UnitsOf.l0])
    | succ k1 =>
      have H := HA.out
      clear HA
      simp only [impl_UnitsOf.l0] at H
      by_cases c5 : x13_1 < (wrap64 (t177 + t178))
      · rw [if_pos c5] at H
        have c5b0 : decide (x13_1 < (wrap64 (t177 + t178))) = true := decide_eq_true c5
        clear c5
        have H' := Aside0.mk H
        clear H
        go_wp2
        go_loopg [14, 15, 33] k1 (fun kq v14 v15 v33 w' => ∃ (x14_2 : ByteArray) (x15_2 : Bool) (x33_2 : Int), v14 = .string x14_2 ∧ v15 = .bool x15_2 ∧ v33 = .int .i64 x33_2 ∧ Aside0 (impl_UnitsOf.l1 kq l0 a2 t177 t178 x11_1 x12_1 x13_1 x14_2 x15_2 l0 (l0.length : Int) x33_2 = some (r1, r2)) ∧ Aside0 (kq ≤ k1) ∧ Aside0 (Kd.R Kd.string 9 w' w.heap.size (fun _ => True) u11 x11_1) ∧ Aside0 (Kd.R Kd.bool 4 w' w.heap.size (fun _ => True) u12 x12_1) ∧ Aside0 (Below w.heap.size w w'))
        case atStart => exact ⟨((⟨#[]⟩ : ByteArray)), (false), (0), FR, FR, FR, H', ⟨Nat.le_refl _⟩, ⟨(RR HO_11.out)⟩, ⟨(RR HO_12.out)⟩, ⟨(BB HB.out)⟩⟩
        case round =>
          clear H'
          try clear c1
          try clear p2
          try clear c5
          try clear c5b0
          try clear p2
          obtain ⟨x14_2, x15_2, x33_2, rfl, rfl, rfl, HA, HK2, HO_11, HO_12, HB⟩ := hrel
          cases gk with
          | zero => exact absurd HA.out (by simp [impl_UnitsOf.l1])
          | succ k2 =>
            have H := HA.out
            clear HA
            simp only [impl_UnitsOf.l1] at H
            by_cases c6 : x33_2 < (l0.length : Int)
            · rw [if_pos c6] at H
              have c6b0 : decide (x33_2 < (l0.length : Int)) = true := decide_eq_true c6
              clear c6
              by_cases c7 : 0 ≤ x33_2
              · rw [if_pos c7] at H
                have c7b0 : decide (0 ≤ x33_2) = true := decide_eq_true c7
                clear c7
                by_cases c8 : x33_2 < (l0.length : Int)
                · rw [if_pos c8] at H
                  have c8b0 : decide (x33_2 < (l0.length : Int)) = true := decide_eq_true c8
                  clear c8
                  replace H := Option.bind_eq_some_iff.mp H
                  obtain ⟨⟨t182, t183⟩, A90, H⟩ := H
                  replace H : (if t183 = true then (if x11_1.length < 8796093022208 then (if x12_1.length < 140737488355328 then (impl_UnitsOf.l0 k2 l0 a2 t177 t178 (x11_1 ++ [t182]) (x12_1 ++ [t183]) (wrap64 (x13_1 + 1))) else (none)) else (none)) else (impl_UnitsOf.l1 k2 l0 a2 t177 t178 x11_1 x12_1 x13_1 t182 t183 l0 (l0.length : Int) (wrap64 (x33_2 + 1)))) = some (r1, r2) := H
                  have A9 := Aside0.mk A90
                  clear A90
                  by_cases c10 : t183 = true
                  · subst c10
                    have H1 : (if x11_1.length < 8796093022208 then (if x12_1.length < 140737488355328 then (impl_UnitsOf.l0 k2 l0 a2 t177 t178 (x11_1 ++ [t182]) (x12_1 ++ [true]) (wrap64 (x13_1 + 1))) else (none)) else (none)) = some (r1, r2) := by rw [if_pos rfl] at H; exact H
                    clear H
                    have H := H1
                    clear H1
                    by_cases c11 : x11_1.length < 8796093022208
                    · rw [if_pos c11] at H
                      have LMc11 := Aside0.mk c11
                      clear c11
                      obtain ⟨y184, hy184⟩ : ∃ y_ : List ByteArray, y_ = (x11_1 ++ [t182]) := ⟨_, rfl⟩
                      replace H : (if x12_1.length < 140737488355328 then (impl_UnitsOf.l0 k2 l0 a2 t177 t178 y184 (x12_1 ++ [true]) (wrap64 (x13_1 + 1))) else (none)) = some (r1, r2) := by first | (rw [hy184]; with_reducible exact H) | (have H2_ := (Option.bind_some _ _).symm.trans H; rw [hy184]; with_reducible exact H2_) | (have H2_ := (Option.bind_some _ _).symm.trans H; with_reducible exact H2_) | with_reducible exact H | (rw [hy184]; exact H) | exact H
                      have Ny184 := Aside0.mk hy184
                      clear hy184
                      by_cases c12 : x12_1.length < 140737488355328
                      · rw [if_pos c12] at H
                        have LMc12 := Aside0.mk c12
                        clear c12
                        obtain ⟨y187, hy187⟩ : ∃ y_ : List Bool, y_ = (x12_1 ++ [true]) := ⟨_, rfl⟩
                        replace H : (impl_UnitsOf.l0 k2 l0 a2 t177 t178 y184 y187 (wrap64 (x13_1 + 1))) = some (r1, r2) := by first | (rw [hy187]; with_reducible exact H) | (have H2_ := (Option.bind_some _ _).symm.trans H; rw [hy187]; with_reducible exact H2_) | (have H2_ := (Option.bind_some _ _).symm.trans H; with_reducible exact H2_) | with_reducible exact H | (rw [hy187]; exact H) | exact H
                        have Ny187 := Aside0.mk hy187
                        clear hy187
                        have H' := Aside0.mk H
                        clear H
                        have p180 : 0 ≤ (x33_2 : Int) := DT
                        have q180 : x33_2 < (l0.length : Int) := DT
                        obtain ⟨ad180, A180_2, c180_2, e180, hx180_0, hx180_1, hx180_2, hl180_2, hi180_2⟩ := at_T97 HR0.out x33_2 p180 q180
                        cases e180
                        replace hx180_0 := (HB.out.cell (World.block_lt_of_cell? w _ hx180_0)).trans hx180_0
                        replace hx180_1 := (HB.out.cell (World.block_lt_of_cell? w _ hx180_1)).trans hx180_1
                        replace hx180_2 := (HB.out.cell (World.block_lt_of_cell? w _ hx180_2)).trans hx180_2
                        have HR180_2 := Aside0.mk hi180_2
                        have HC180_2 := Aside0.mk hl180_2
                        clear hi180_2 hl180_2
                        replace p180 := eq_true p180
                        replace q180 := eq_true q180
                        go_wp2_with (first | ((with_reducible refine gate_dst (N := 17) rfl ?_); refine BX 17 #[.int .i64 0, .bool false, .slice none 0 0] 97 ?_; intro gb181 hg w13 hbox hb; have BK181 := Aside0.mk (hbox); have GW181 : Aside0 (w.heap.size ≤ gb181) := WG hg (BB HB.out); have GE181 := GW181; replace HO_11 := Aside0.mk (Kd.R_below (RR HO_11.out) hb); replace HO_12 := Aside0.mk (Kd.R_below (RR HO_12.out) hb); replace HB := Aside0.mk (below_step (BB HB.out) hb); clear hb hbox hg; have hcz14 := blk_cell BK181.out; have hfz14 := blk_frozen BK181.out) | ((with_reducible refine gate_callee (f := 58) rfl ?_); refine GL (some 41) rfl rfl Try.func58 #[.agg #[.int .i64 ((rd_T97 l0 x33_2).f0), .bool ((rd_T97 l0 x33_2).f1), .slice A180_2 ((rd_T97 l0 x33_2).f2).length c180_2], .int .i64 a2, .int .i64 x13_1] rfl ?_; (with_reducible refine (impl_GetUnit.calls k2 ((rd_T97 l0 x33_2).f0) ((rd_T97 l0 x33_2).f1) _ _ ((rd_T97 l0 x33_2).f2) a2 x13_1 t182 true _ ?side1 ?side2 A9.out).mono ?_); (case side1 => exact Kd.C_below HR180_2.out (BB1 HB.out GE181.out)); (case side2 => exact HC180_2.out); rintro e w15 ⟨rfl, hb⟩; refine ⟨_, rfl, ?_⟩; have n0_ := Aside0.mk (Kd.R_below (by (with_reducible repeat (first | apply Kd.R_alloc | apply Kd.R_drewN | apply Kd.R_drew)); exact (Kd.R_mono (Kd.R_far (p := ⟨gb181, 2, none⟩) (Kd.R_far (p := ⟨gb181, 1, none⟩) (Kd.R_far (p := ⟨gb181, 0, none⟩) (Kd.R_types HO_11.out BK181.out (by decide)) (fun _ hk => hk.2) (.int .i64 ((rd_T97 l0 x33_2).f0))) (fun _ hk => hk.2) (.bool ((rd_T97 l0 x33_2).f1))) (fun _ hk => hk.2) (.slice A180_2 ((rd_T97 l0 x33_2).f2).length c180_2)) (fun _ h_ => h_.1))) hb); have n1_ := Aside0.mk (Kd.R_below (by (with_reducible repeat (first | apply Kd.R_alloc | apply Kd.R_drewN | apply Kd.R_drew)); exact (Kd.R_mono (Kd.R_far (p := ⟨gb181, 2, none⟩) (Kd.R_far (p := ⟨gb181, 1, none⟩) (Kd.R_far (p := ⟨gb181, 0, none⟩) (Kd.R_types HO_12.out BK181.out (by decide)) (fun _ hk => hk.2) (.int .i64 ((rd_T97 l0 x33_2).f0))) (fun _ hk => hk.2) (.bool ((rd_T97 l0 x33_2).f1))) (fun _ hk => hk.2) (.slice A180_2 ((rd_T97 l0 x33_2).f2).length c180_2)) (fun _ h_ => h_.1))) hb); have n2_ := Aside0.mk (blk_below (g := gb181) (o := .cells #[.int .i64 ((rd_T97 l0 x33_2).f0), .bool ((rd_T97 l0 x33_2).f1), .slice A180_2 ((rd_T97 l0 x33_2).f2).length c180_2] 97 (0, 0)) (by (with_reducible repeat (first | refine blk_drewN ?_ _ | refine blk_drew ?_ | refine blk_alloc ?_ _)); refine blk_put (cs := #[.int .i64 ((rd_T97 l0 x33_2).f0), .bool ((rd_T97 l0 x33_2).f1), .slice none 0 0]) ?_ 2 _ rfl; (with_reducible repeat (first | refine blk_drewN ?_ _ | refine blk_drew ?_ | refine blk_alloc ?_ _)); refine blk_put (cs := #[.int .i64 ((rd_T97 l0 x33_2).f0), .bool false, .slice none 0 0]) ?_ 1 _ rfl; (with_reducible repeat (first | refine blk_drewN ?_ _ | refine blk_drew ?_ | refine blk_alloc ?_ _)); refine blk_put (cs := #[.int .i64 0, .bool false, .slice none 0 0]) ?_ 0 _ rfl; (with_reducible repeat (first | refine blk_drewN ?_ _ | refine blk_drew ?_ | refine blk_alloc ?_ _)); exact BK181.out) hb); have n3_ := Aside0.mk (below_step (BB1 HB.out GE181.out) hb); clear HO_11; clear HO_12; clear BK181; clear HB; have HO_11 := n0_; have HO_12 := n1_; have BK181 := n2_; have HB := n3_; clear n0_ n1_ n2_ n3_; (try clear hb)) | ((with_reducible refine gate_builtin (b := .append) (xs := #[.tmp 46, .tmp 48]) rfl ?_); at_builtin; refine Kd.R_append Kd.string (w0 := w) w.heap.size rfl (.tmp 46) (.tmp 48) 29 9 (.string ⟨#[]⟩) 16 rfl Try.underlying29 info9 rfl (by decide) (by omega) u11 x11_1 t182 [.string t182] (fun _ => True) (fun _ => False) rfl rfl ?aP (fun _ hk => hk.elim) ?aF ?aO ?aB ?aS ?aL ?_; (case aP => exact rfl); (case aB => exact (BB1 HB.out GE181.out)); (case aF => exact (fun _ _ => trivial)); (case aO => exact (RR HO_11.out)); (case aS => exact (below_size (BB1 HB.out GE181.out))); (case aL => have := LMc11.out; omega); intro v185 w16 ho hb hg hat; rw [← Ny184.out] at ho; have n0_ := Aside0.mk (Kd.R_over' (RR HO_12.out) (Kd.R_typed (RR HO_11.out)) (by decide) hg); have n1_ := Aside0.mk (blk_grown (g := gb181) (o := .cells #[.int .i64 ((rd_T97 l0 x33_2).f0), .bool ((rd_T97 l0 x33_2).f1), .slice A180_2 ((rd_T97 l0 x33_2).f2).length c180_2] 97 (0, 0)) (by (with_reducible repeat (first | refine blk_drewN ?_ _ | refine blk_drew ?_ | refine blk_alloc ?_ _)); exact BK181.out) hg (Kd.R_ne HO_11.out BK181.out (by decide))); have n2_ := Aside0.mk (hb); have n3_ := Aside0.mk (ho); clear HO_12; clear BK181; clear HB; clear HO_11; have HO_12 := n0_; have BK181 := n1_; have HB := n2_; have HO186 := n3_; clear n0_ n1_ n2_ n3_; clear ho hb hg hat) | ((with_reducible refine gate_builtin (b := .append) (xs := #[.tmp 50, .tmp 52]) rfl ?_); at_builtin; refine Kd.R_append Kd.bool (w0 := w) w.heap.size rfl (.tmp 50) (.tmp 52) 30 4 (.bool false) 1 rfl Try.underlying30 info4 rfl (by decide) (by omega) u12 x12_1 true [.bool true] (fun _ => True) (fun _ => False) rfl rfl ?aP (fun _ hk => hk.elim) ?aF ?aO ?aB ?aS ?aL ?_; (case aP => exact rfl); (case aB => exact (BB1 HB.out GE181.out)); (case aF => exact (fun _ _ => trivial)); (case aO => exact (RR HO_12.out)); (case aS => exact (below_size (BB1 HB.out GE181.out))); (case aL => have := LMc12.out; omega); intro v188 w17 ho hb hg hat; rw [← Ny187.out] at ho; have n0_ := Aside0.mk (blk_grown (g := gb181) (o := .cells #[.int .i64 ((rd_T97 l0 x33_2).f0), .bool ((rd_T97 l0 x33_2).f1), .slice A180_2 ((rd_T97 l0 x33_2).f2).length c180_2] 97 (0, 0)) (by (with_reducible repeat (first | refine blk_drewN ?_ _ | refine blk_drew ?_ | refine blk_alloc ?_ _)); exact BK181.out) hg (Kd.R_ne HO_12.out BK181.out (by decide))); have n1_ := Aside0.mk (Kd.R_over' (RR HO186.out) (Kd.R_typed (RR HO_12.out)) (by decide) hg); have n2_ := Aside0.mk (hb); have n3_ := Aside0.mk (ho); clear BK181; clear HO186; clear HB; clear HO_12; have BK181 := n0_; have HO186 := n1_; have HB := n2_; have HO189 := n3_; clear n0_ n1_ n2_ n3_; clear ho hb hg hat))
                        go_roundg k2
                        case measure => have := HK1.out; have := HK2.out; omega
                        case rel => exact ⟨(y184), (y187), (wrap64 (x13_1 + 1)), FR, H', ⟨by have := HK1.out; have := HK2.out; omega⟩, ⟨(RR HO186.out)⟩, ⟨(RR HO189.out)⟩, ⟨(BB1 HB.out GE181.out)⟩⟩
                      · rw [if_neg c12] at H
                        exact absurd H (by simp)
                    · rw [if_neg c11] at H
                      exact absurd H (by simp)
                  · replace c10 := Bool.eq_false_iff.mpr c10
                    subst c10
                    have H1 : (impl_UnitsOf.l1 k2 l0 a2 t177 t178 x11_1 x12_1 x13_1 t182 false l0 (l0.length : Int) (wrap64 (x33_2 + 1))) = some (r1, r2) := by rw [if_neg (show ¬ (false = true) by decide)] at H; exact H
                    clear H
                    have H := H1
                    clear H1
                    have H' := Aside0.mk H
                    clear H
                    have p180 : 0 ≤ (x33_2 : Int) := DT
                    have q180 : x33_2 < (l0.length : Int) := DT
                    obtain ⟨ad180, A180_2, c180_2, e180, hx180_0, hx180_1, hx180_2, hl180_2, hi180_2⟩ := at_T97 HR0.out x33_2 p180 q180
                    cases e180
                    replace hx180_0 := (HB.out.cell (World.block_lt_of_cell? w _ hx180_0)).trans hx180_0
                    replace hx180_1 := (HB.out.cell (World.block_lt_of_cell? w _ hx180_1)).trans hx180_1
                    replace hx180_2 := (HB.out.cell (World.block_lt_of_cell? w _ hx180_2)).trans hx180_2
                    have HR180_2 := Aside0.mk hi180_2
                    have HC180_2 := Aside0.mk hl180_2
                    clear hi180_2 hl180_2
                    replace p180 := eq_true p180
                    replace q180 := eq_true q180
                    go_wp2_with (first | ((with_reducible refine gate_dst (N := 17) rfl ?_); refine BX 17 #[.int .i64 0, .bool false, .slice none 0 0] 97 ?_; intro gb181 hg w18 hbox hb; have BK181 := Aside0.mk (hbox); have GW181 : Aside0 (w.heap.size ≤ gb181) := WG hg (BB HB.out); have GE181 := GW181; replace HO_11 := Aside0.mk (Kd.R_below (RR HO_11.out) hb); replace HO_12 := Aside0.mk (Kd.R_below (RR HO_12.out) hb); replace HB := Aside0.mk (below_step (BB HB.out) hb); clear hb hbox hg; have hcz19 := blk_cell BK181.out; have hfz19 := blk_frozen BK181.out) | ((with_reducible refine gate_callee (f := 58) rfl ?_); refine GL (some 41) rfl rfl Try.func58 #[.agg #[.int .i64 ((rd_T97 l0 x33_2).f0), .bool ((rd_T97 l0 x33_2).f1), .slice A180_2 ((rd_T97 l0 x33_2).f2).length c180_2], .int .i64 a2, .int .i64 x13_1] rfl ?_; (with_reducible refine (impl_GetUnit.calls k2 ((rd_T97 l0 x33_2).f0) ((rd_T97 l0 x33_2).f1) _ _ ((rd_T97 l0 x33_2).f2) a2 x13_1 t182 false _ ?side1 ?side2 A9.out).mono ?_); (case side1 => exact Kd.C_below HR180_2.out (BB1 HB.out GE181.out)); (case side2 => exact HC180_2.out); rintro e w20 ⟨rfl, hb⟩; refine ⟨_, rfl, ?_⟩; have n0_ := Aside0.mk (Kd.R_below (by (with_reducible repeat (first | apply Kd.R_alloc | apply Kd.R_drewN | apply Kd.R_drew)); exact (Kd.R_mono (Kd.R_far (p := ⟨gb181, 2, none⟩) (Kd.R_far (p := ⟨gb181, 1, none⟩) (Kd.R_far (p := ⟨gb181, 0, none⟩) (Kd.R_types HO_11.out BK181.out (by decide)) (fun _ hk => hk.2) (.int .i64 ((rd_T97 l0 x33_2).f0))) (fun _ hk => hk.2) (.bool ((rd_T97 l0 x33_2).f1))) (fun _ hk => hk.2) (.slice A180_2 ((rd_T97 l0 x33_2).f2).length c180_2)) (fun _ h_ => h_.1))) hb); have n1_ := Aside0.mk (Kd.R_below (by (with_reducible repeat (first | apply Kd.R_alloc | apply Kd.R_drewN | apply Kd.R_drew)); exact (Kd.R_mono (Kd.R_far (p := ⟨gb181, 2, none⟩) (Kd.R_far (p := ⟨gb181, 1, none⟩) (Kd.R_far (p := ⟨gb181, 0, none⟩) (Kd.R_types HO_12.out BK181.out (by decide)) (fun _ hk => hk.2) (.int .i64 ((rd_T97 l0 x33_2).f0))) (fun _ hk => hk.2) (.bool ((rd_T97 l0 x33_2).f1))) (fun _ hk => hk.2) (.slice A180_2 ((rd_T97 l0 x33_2).f2).length c180_2)) (fun _ h_ => h_.1))) hb); have n2_ := Aside0.mk (blk_below (g := gb181) (o := .cells #[.int .i64 ((rd_T97 l0 x33_2).f0), .bool ((rd_T97 l0 x33_2).f1), .slice A180_2 ((rd_T97 l0 x33_2).f2).length c180_2] 97 (0, 0)) (by (with_reducible repeat (first | refine blk_drewN ?_ _ | refine blk_drew ?_ | refine blk_alloc ?_ _)); refine blk_put (cs := #[.int .i64 ((rd_T97 l0 x33_2).f0), .bool ((rd_T97 l0 x33_2).f1), .slice none 0 0]) ?_ 2 _ rfl; (with_reducible repeat (first | refine blk_drewN ?_ _ | refine blk_drew ?_ | refine blk_alloc ?_ _)); refine blk_put (cs := #[.int .i64 ((rd_T97 l0 x33_2).f0), .bool false, .slice none 0 0]) ?_ 1 _ rfl; (with_reducible repeat (first | refine blk_drewN ?_ _ | refine blk_drew ?_ | refine blk_alloc ?_ _)); refine blk_put (cs := #[.int .i64 0, .bool false, .slice none 0 0]) ?_ 0 _ rfl; (with_reducible repeat (first | refine blk_drewN ?_ _ | refine blk_drew ?_ | refine blk_alloc ?_ _)); exact BK181.out) hb); have n3_ := Aside0.mk (below_step (BB1 HB.out GE181.out) hb); clear HO_11; clear HO_12; clear BK181; clear HB; have HO_11 := n0_; have HO_12 := n1_; have BK181 := n2_; have HB := n3_; clear n0_ n1_ n2_ n3_; (try clear hb)))
                    go_roundg k2
                    case measure => have := HK1.out; have := HK2.out; omega
                    case rel => exact ⟨(t182), (false), (wrap64 (x33_2 + 1)), FR, FR, FR, H', ⟨by have := HK1.out; have := HK2.out; omega⟩, ⟨(RR HO_11.out)⟩, ⟨(RR HO_12.out)⟩, ⟨(BB1 HB.out GE181.out)⟩⟩
                · rw [if_neg c8] at H
                  exact absurd H (by simp)
              · rw [if_neg c7] at H
                exact absurd H (by simp)
            · rw [if_neg c6] at H
              have c6b0 : decide (x33_2 < (l0.length : Int)) = false := decide_eq_false c6
              clear c6
              by_cases c21 : x11_1.length < 8796093022208
              · rw [if_pos c21] at H
                have LMc21 := Aside0.mk c21
                clear c21
                obtain ⟨y190, hy190⟩ : ∃ y_ : List ByteArray, y_ = (x11_1 ++ [x14_2]) := ⟨_, rfl⟩
                replace H : (if x12_1.length < 140737488355328 then (impl_UnitsOf.l0 k2 l0 a2 t177 t178 y190 (x12_1 ++ [x15_2]) (wrap64 (x13_1 + 1))) else (none)) = some (r1, r2) := by first | (rw [hy190]; with_reducible exact H) | (have H2_ := (Option.bind_some _ _).symm.trans H; rw [hy190]; with_reducible exact H2_) | (have H2_ := (Option.bind_some _ _).symm.trans H; with_reducible exact H2_) | with_reducible exact H | (rw [hy190]; exact H) | exact H
                have Ny190 := Aside0.mk hy190
                clear hy190
                by_cases c22 : x12_1.length < 140737488355328
                · rw [if_pos c22] at H
                  have LMc22 := Aside0.mk c22
                  clear c22
                  obtain ⟨y193, hy193⟩ : ∃ y_ : List Bool, y_ = (x12_1 ++ [x15_2]) := ⟨_, rfl⟩
                  replace H : (impl_UnitsOf.l0 k2 l0 a2 t177 t178 y190 y193 (wrap64 (x13_1 + 1))) = some (r1, r2) := by first | (rw [hy193]; with_reducible exact H) | (have H2_ := (Option.bind_some _ _).symm.trans H; rw [hy193]; with_reducible exact H2_) | (have H2_ := (Option.bind_some _ _).symm.trans H; with_reducible exact H2_) | with_reducible exact H | (rw [hy193]; exact H) | exact H
                  have Ny193 := Aside0.mk hy193
                  clear hy193
                  have H' := Aside0.mk H
                  clear H
                  go_wp2_with (first | ((with_reducible refine gate_builtin (b := .append) (xs := #[.tmp 46, .tmp 48]) rfl ?_); at_builtin; refine Kd.R_append Kd.string (w0 := w) w.heap.size rfl (.tmp 46) (.tmp 48) 29 9 (.string ⟨#[]⟩) 16 rfl Try.underlying29 info9 rfl (by decide) (by omega) u11 x11_1 x14_2 [.string x14_2] (fun _ => True) (fun _ => False) rfl rfl ?aP (fun _ hk => hk.elim) ?aF ?aO ?aB ?aS ?aL ?_; (case aP => exact rfl); (case aB => exact (BB HB.out)); (case aF => exact (fun _ _ => trivial)); (case aO => exact (RR HO_11.out)); (case aS => exact (below_size (BB HB.out))); (case aL => have := LMc21.out; omega); intro v191 w23 ho hb hg hat; rw [← Ny190.out] at ho; have HO192 := Aside0.mk (ho); replace HO_12 := Aside0.mk (Kd.R_over' (RR HO_12.out) (Kd.R_typed (RR HO_11.out)) (by decide) hg); replace HB := Aside0.mk (hb); clear HO_11; clear ho hb hg hat) | ((with_reducible refine gate_builtin (b := .append) (xs := #[.tmp 50, .tmp 52]) rfl ?_); at_builtin; refine Kd.R_append Kd.bool (w0 := w) w.heap.size rfl (.tmp 50) (.tmp 52) 30 4 (.bool false) 1 rfl Try.underlying30 info4 rfl (by decide) (by omega) u12 x12_1 x15_2 [.bool x15_2] (fun _ => True) (fun _ => False) rfl rfl ?aP (fun _ hk => hk.elim) ?aF ?aO ?aB ?aS ?aL ?_; (case aP => exact rfl); (case aB => exact (BB HB.out)); (case aF => exact (fun _ _ => trivial)); (case aO => exact (RR HO_12.out)); (case aS => exact (below_size (BB HB.out))); (case aL => have := LMc22.out; omega); intro v194 w24 ho hb hg hat; rw [← Ny193.out] at ho; have HO195 := Aside0.mk (ho); replace HO192 := Aside0.mk (Kd.R_over' (RR HO192.out) (Kd.R_typed (RR HO_12.out)) (by decide) hg); replace HB := Aside0.mk (hb); clear HO_12; clear ho hb hg hat))
                  go_roundg k2
                  case measure => have := HK1.out; have := HK2.out; omega
                  case rel => exact ⟨(y190), (y193), (wrap64 (x13_1 + 1)), FR, H', ⟨by have := HK1.out; have := HK2.out; omega⟩, ⟨(RR HO192.out)⟩, ⟨(RR HO195.out)⟩, ⟨(BB HB.out)⟩⟩
                · rw [if_neg c22] at H
                  exact absurd H (by simp)
              · rw [if_neg c21] at H
                exact absurd H (by simp)
      · rw [if_neg c5] at H
        have c5b0 : decide (x13_1 < (wrap64 (t177 + t178))) = false := decide_eq_false c5
        clear c5
        simp only [Option.some.injEq, Prod.mk.injEq] at H
        obtain ⟨rfl, rfl⟩ := H
        go_wp2
        go_ret2
        exact ⟨_, _, ER, by (with_reducible repeat (first | apply Kd.R_alloc | apply Kd.R_drewN | apply Kd.R_drew)); exact HO_11.out, by (with_reducible repeat (first | apply Kd.R_alloc | apply Kd.R_drewN | apply Kd.R_drew)); exact HO_12.out, (BB HB.out)⟩

end Go.Proofs.Ytfgnaneajonapaa.Pr

/- Printed out of the translation by this session's pr.py over the kit's print. Lean checks it. -/
namespace Go.Proofs.Ytfgnaneajonapaa.Pr
open Go.RowKit Go.Proofs.YtfgnaneajonapaaW.PrintWords Go.Proofs.YtfgnaneajonapaaW.PrintLast Go.Proofs.YtfgnaneajonapaaW.PrintMore
attribute [local go_sem] max2_int min2_int max_two min_two max_three min_three max_four min_four
set_option linter.unusedVariables false
set_option linter.unusedSimpArgs false

/-! ### spec_SchemaOf: function 55 -/
def spec_SchemaOf.f (a0 : Int) : Option (Int × Int × Bool) := if a0 = 1 then (some (2, 1, true)) else (if a0 = 2 then (some (3, 2, true)) else (if a0 = 3 then (some (4, 2, true)) else (some (0, 0, false))))
set_option maxHeartbeats 8000000 in
set_option maxRecDepth 100000 in
theorem spec_SchemaOf.calls (a0 : Int) (r1 : Int) (r2 : Int) (r3 : Bool) (w : World) (h : spec_SchemaOf.f a0 = some (r1, r2, r3)) :
    Calls Try.prog 55 #[.int .i64 a0] w fun e w' => e = .returned (.tuple #[.int .i64 r1, .int .i64 r2, .bool r3]) ∧ Drawn0 w w' := by
  have H : (if a0 = 1 then (some (2, 1, true)) else (if a0 = 2 then (some (3, 2, true)) else (if a0 = 3 then (some (4, 2, true)) else (some (0, 0, false))))) = some (r1, r2, r3) := h
  clear h
  by_cases c2 : a0 = 1
  · rw [if_pos c2] at H
    have c2b0 : (a0 == 1) = true := beq_iff_eq.mpr c2
    have c2b1 : (a0 != 1) = false := bne_eq_false_iff_eq.mpr c2
    clear c2
    simp only [Option.some.injEq, Prod.mk.injEq] at H
    obtain ⟨rfl, rfl, rfl⟩ := H
    go_enter Try.func55, Try.ntmps55
    go_wp2
    go_ret3
    exact ⟨FR, by repeat (first | exact Drawn0.refl _ | apply Drawn0.step)⟩
  · rw [if_neg c2] at H
    have c2b0 : (a0 == 1) = false := beq_eq_false_iff_ne.mpr c2
    have c2b1 : (a0 != 1) = true := bne_iff_ne.mpr c2
    by_cases c3 : a0 = 2
    · rw [if_pos c3] at H
      have c3b0 : (a0 == 2) = true := beq_iff_eq.mpr c3
      have c3b1 : (a0 != 2) = false := bne_eq_false_iff_eq.mpr c3
      clear c3
      simp only [Option.some.injEq, Prod.mk.injEq] at H
      obtain ⟨rfl, rfl, rfl⟩ := H
      go_enter Try.func55, Try.ntmps55
      go_wp2
      go_ret3
      exact ⟨FR, by repeat (first | exact Drawn0.refl _ | apply Drawn0.step)⟩
    · rw [if_neg c3] at H
      have c3b0 : (a0 == 2) = false := beq_eq_false_iff_ne.mpr c3
      have c3b1 : (a0 != 2) = true := bne_iff_ne.mpr c3
      by_cases c4 : a0 = 3
      · rw [if_pos c4] at H
        have c4b0 : (a0 == 3) = true := beq_iff_eq.mpr c4
        have c4b1 : (a0 != 3) = false := bne_eq_false_iff_eq.mpr c4
        clear c4
        simp only [Option.some.injEq, Prod.mk.injEq] at H
        obtain ⟨rfl, rfl, rfl⟩ := H
        go_enter Try.func55, Try.ntmps55
        go_wp2
        go_ret3
        exact ⟨FR, by repeat (first | exact Drawn0.refl _ | apply Drawn0.step)⟩
      · rw [if_neg c4] at H
        have c4b0 : (a0 == 3) = false := beq_eq_false_iff_ne.mpr c4
        have c4b1 : (a0 != 3) = true := bne_iff_ne.mpr c4
        simp only [Option.some.injEq, Prod.mk.injEq] at H
        obtain ⟨rfl, rfl, rfl⟩ := H
        go_enter Try.func55, Try.ntmps55
        go_wp2
        go_ret3
        exact ⟨FR, by repeat (first | exact Drawn0.refl _ | apply Drawn0.step)⟩

end Go.Proofs.Ytfgnaneajonapaa.Pr

/- Printed out of the translation by this session's pr.py over the kit's print. Lean checks it. -/
namespace Go.Proofs.Ytfgnaneajonapaa.Pr
open Go.RowKit Go.Proofs.YtfgnaneajonapaaW.PrintWords Go.Proofs.YtfgnaneajonapaaW.PrintLast Go.Proofs.YtfgnaneajonapaaW.PrintMore
attribute [local go_sem] max2_int min2_int max_two min_two max_three min_three max_four min_four
set_option linter.unusedVariables false
set_option linter.unusedSimpArgs false

/-! ### spec_UnitsOf: function 16 -/
mutual
def spec_UnitsOf.l0 : Nat → List (S97) → Int → Int → Int → List ByteArray → List Bool → Int → Option (List ByteArray × List Bool)
  | 0, _, _, _, _, _, _, _ => none
  | k + 1, x0, x2, x8, x9, x11, x12, x13 => if x13 < (wrap64 (x8 + x9)) then (spec_UnitsOf.l1 k x0 x2 x8 x9 x11 x12 x13 0) else (some (x11, x12))
def spec_UnitsOf.l1 : Nat → List (S97) → Int → Int → Int → List ByteArray → List Bool → Int → Int → Option (List ByteArray × List Bool)
  | 0, _, _, _, _, _, _, _, _ => none
  | k + 1, x0, x2, x8, x9, x11, x12, x13, x14 => if x14 < (x0.length : Int) then (if 0 ≤ x13 then (if x13 < (x12.length : Int) then (spec_UnitsOf.j2 k x0 x2 x8 x9 x11 x12 x13 x14 (!(rdOf false x12 x13))) else (none)) else (none)) else (spec_UnitsOf.j2 k x0 x2 x8 x9 x11 x12 x13 x14 false)
def spec_UnitsOf.j2 : Nat → List (S97) → Int → Int → Int → List ByteArray → List Bool → Int → Int → Bool → Option (List ByteArray × List Bool)
  | 0, _, _, _, _, _, _, _, _, _ => none
  | k + 1, x0, x2, x8, x9, x11, x12, x13, x14, x48 => if x48 = true then (if 0 ≤ x14 then (if x14 < (x0.length : Int) then ((spec_GetUnit.f k ((rd_T97 x0 x14).f0) ((rd_T97 x0 x14).f1) ((rd_T97 x0 x14).f2) x2 x13).bind fun bt130 => (if bt130.2 = true then (if 0 ≤ x13 then (if x13 < (x11.length : Int) then (if x13 < (x12.length : Int) then (spec_UnitsOf.l1 k x0 x2 x8 x9 (x11.set (x13 : Int).toNat bt130.1) (x12.set (x13 : Int).toNat true) x13 (wrap64 (x14 + 1))) else (none)) else (none)) else (none)) else (spec_UnitsOf.l1 k x0 x2 x8 x9 x11 x12 x13 (wrap64 (x14 + 1))))) else (none)) else (none)) else (spec_UnitsOf.l0 k x0 x2 x8 x9 x11 x12 (wrap64 (x13 + 1)))
end
def spec_UnitsOf.f (k : Nat) (l0 : List (S97)) (a1 : Int) (a2 : Int) : Option (List ByteArray × List Bool) := (spec_SchemaOf.f a1).bind fun bt119 => (if 0 ≤ (wrap64 (bt119.1 + bt119.2.1)) then (if (wrap64 (bt119.1 + bt119.2.1) : Int).toNat ≤ 17592186044416 then (if (wrap64 (bt119.1 + bt119.2.1) : Int).toNat ≤ 281474976710656 then (spec_UnitsOf.l0 k l0 a2 bt119.1 bt119.2.1 (List.replicate (wrap64 (bt119.1 + bt119.2.1) : Int).toNat (⟨#[]⟩ : ByteArray)) (List.replicate (wrap64 (bt119.1 + bt119.2.1) : Int).toNat false) 0) else (none)) else (none)) else (none))
set_option maxHeartbeats 8000000 in
set_option maxRecDepth 100000 in
theorem spec_UnitsOf.calls (k : Nat) (A0 : Option Addr) (c0 : Nat) (l0 : List (S97)) (a1 : Int) (a2 : Int) (r1 : List ByteArray) (r2 : List Bool) (w : World) (hr0 : Kd.C k97 w A0 l0.length l0) (hc0 : l0.length ≤ c0) (h : spec_UnitsOf.f k l0 a1 a2 = some (r1, r2)) :
    Calls Try.prog 16 #[.slice A0 l0.length c0, .int .i64 a1, .int .i64 a2] w fun e w' => ∃ v0_ v1_ : Value, e = .returned (.tuple #[v0_, v1_]) ∧ Kd.R Kd.string 9 w' w.heap.size (fun _ => True) v0_ r1 ∧ Kd.R Kd.bool 4 w' w.heap.size (fun _ => True) v1_ r2 ∧ Below w.heap.size w w' := by
  have hu97 := Try.underlying97
  have HR0 := Aside0.mk hr0
  have HC0 := Aside0.mk hc0
  clear hr0 hc0
  have HB := Aside0.mk (Below.refl w.heap.size w)
  have H : ((spec_SchemaOf.f a1).bind fun bt119 => (if 0 ≤ (wrap64 (bt119.1 + bt119.2.1)) then (if (wrap64 (bt119.1 + bt119.2.1) : Int).toNat ≤ 17592186044416 then (if (wrap64 (bt119.1 + bt119.2.1) : Int).toNat ≤ 281474976710656 then (spec_UnitsOf.l0 k l0 a2 bt119.1 bt119.2.1 (List.replicate (wrap64 (bt119.1 + bt119.2.1) : Int).toNat (⟨#[]⟩ : ByteArray)) (List.replicate (wrap64 (bt119.1 + bt119.2.1) : Int).toNat false) 0) else (none)) else (none)) else (none))) = some (r1, r2) := h
  clear h
  replace H := Option.bind_eq_some_iff.mp H
  obtain ⟨⟨t119, t120, t121⟩, A40, H⟩ := H
  replace H : (if 0 ≤ (wrap64 (t119 + t120)) then (if (wrap64 (t119 + t120) : Int).toNat ≤ 17592186044416 then (if (wrap64 (t119 + t120) : Int).toNat ≤ 281474976710656 then (spec_UnitsOf.l0 k l0 a2 t119 t120 (List.replicate (wrap64 (t119 + t120) : Int).toNat (⟨#[]⟩ : ByteArray)) (List.replicate (wrap64 (t119 + t120) : Int).toNat false) 0) else (none)) else (none)) else (none)) = some (r1, r2) := H
  have A4 := Aside0.mk A40
  clear A40
  obtain ⟨ji5, hji5⟩ : ∃ j_ : Int, (wrap64 (t119 + t120)) = j_ := ⟨_, rfl⟩
  replace H : (if 0 ≤ (ji5) then (if (ji5 : Int).toNat ≤ 17592186044416 then (if (ji5 : Int).toNat ≤ 281474976710656 then (spec_UnitsOf.l0 k l0 a2 t119 t120 (List.replicate (ji5 : Int).toNat (⟨#[]⟩ : ByteArray)) (List.replicate (ji5 : Int).toNat false) 0) else (none)) else (none)) else (none)) = some (r1, r2) := by first | (rw [hji5] at H; exact H) | (simp only [hji5] at H ⊢; exact H)
  (try rw [hji5] at A4)
  have hji5w : (IntKind.i64.wrap (t119 + t120)) = ji5 := (i64_w _).trans hji5
  by_cases c6 : 0 ≤ (ji5)
  · rw [if_pos c6] at H
    have c6b0 := eq_true c6
    have c6b1 : decide (0 ≤ (ji5)) = true := decide_eq_true c6
    clear c6
    by_cases c7 : (ji5 : Int).toNat ≤ 17592186044416
    · rw [if_pos c7] at H
      have c7b0 := eq_true c7
      have c7b1 : decide ((ji5 : Int).toNat ≤ 17592186044416) = true := decide_eq_true c7
      clear c7
      obtain ⟨y122, hy122⟩ : ∃ y_ : List ByteArray, y_ = (List.replicate (ji5 : Int).toNat (⟨#[]⟩ : ByteArray)) := ⟨_, rfl⟩
      replace H : (if (ji5 : Int).toNat ≤ 281474976710656 then (spec_UnitsOf.l0 k l0 a2 t119 t120 y122 (List.replicate (ji5 : Int).toNat false) 0) else (none)) = some (r1, r2) := by first | (rw [hy122]; with_reducible exact H) | (have H2_ := (Option.bind_some _ _).symm.trans H; rw [hy122]; with_reducible exact H2_) | (have H2_ := (Option.bind_some _ _).symm.trans H; with_reducible exact H2_) | with_reducible exact H | (rw [hy122]; exact H) | exact H
      have Ny122 := Aside0.mk hy122
      clear hy122
      by_cases c8 : (ji5 : Int).toNat ≤ 281474976710656
      · rw [if_pos c8] at H
        have c8b0 := eq_true c8
        have c8b1 : decide ((ji5 : Int).toNat ≤ 281474976710656) = true := decide_eq_true c8
        clear c8
        obtain ⟨y125, hy125⟩ : ∃ y_ : List Bool, y_ = (List.replicate (ji5 : Int).toNat false) := ⟨_, rfl⟩
        replace H : (spec_UnitsOf.l0 k l0 a2 t119 t120 y122 y125 0) = some (r1, r2) := by first | (rw [hy125]; with_reducible exact H) | (have H2_ := (Option.bind_some _ _).symm.trans H; rw [hy125]; with_reducible exact H2_) | (have H2_ := (Option.bind_some _ _).symm.trans H; with_reducible exact H2_) | with_reducible exact H | (rw [hy125]; exact H) | exact H
        have Ny125 := Aside0.mk hy125
        clear hy125
        have H' := Aside0.mk H
        clear H
        go_enter Try.func16, Try.ntmps16
        go_wp2_with (first | ((with_reducible refine gate_callee (f := 55) rfl ?_); refine GL (some 19) rfl rfl Try.func55 #[.int .i64 a1] rfl ?_; (with_reducible refine (spec_SchemaOf.calls a1 t119 t120 t121 _ A4.out).mono ?_); rintro e w' ⟨rfl, ⟨nd, rfl⟩⟩; refine ⟨_, rfl, ?_⟩) | ((with_reducible refine gate_dst (N := 26) rfl ?_); refine Kd.R_make Kd.string _ 9 rfl (N := 26) rfl 29 _ _ rfl ji5 rfl rfl Try.underlying29 (.string ⟨#[]⟩) 16 info9 rfl (by decide) (by omega) (⟨#[]⟩ : ByteArray) (ok := fun _ => True) (okp := fun _ => True) rfl (fun _ hk => hk) trivial DT (Nat.le_trans (Nat.mul_le_mul_right _ (DT : ji5.toNat ≤ 17592186044416)) (by omega)) (Below.refl _ _) (Nat.le_refl _) ?_; intro v123 w9 ho10 hb hg_ hnew_; clear hg_ hnew_; (first | rw [← Ny122.out] at ho10 | (simp only [Int.reduceToNat] at ho10; rw [← Ny122.out] at ho10)); have HO124 := Aside0.mk (Kd.R_lower ho10 (below_size (BB HB.out))); replace HB := Aside0.mk (below_step (BB HB.out) hb); clear hb ho10) | ((with_reducible refine gate_dst (N := 30) rfl ?_); refine Kd.R_make Kd.bool _ 4 rfl (N := 30) rfl 30 _ _ rfl ji5 rfl rfl Try.underlying30 (.bool false) 1 info4 rfl (by decide) (by omega) false (ok := fun _ => True) (okp := fun _ => True) rfl (fun _ hk => hk) trivial DT (Nat.le_trans (Nat.mul_le_mul_right _ (DT : ji5.toNat ≤ 281474976710656)) (by omega)) (Below.refl _ _) (Nat.le_refl _) ?_; intro v126 w11 ho12 hb hg_ hnew_; clear hg_ hnew_; (first | rw [← Ny125.out] at ho12 | (simp only [Int.reduceToNat] at ho12; rw [← Ny125.out] at ho12)); have HO127 := Aside0.mk (Kd.R_lower ho12 (below_size (BB HB.out))); replace HO124 := Aside0.mk (Kd.R_below (RR HO124.out) hb); replace HB := Aside0.mk (below_step (BB HB.out) hb); clear hb ho12))
        go_loopg [13] k (fun kq v13 w' => ∃ (x11_1 : List ByteArray) (x12_1 : List Bool) (x13_1 : Int), v13 = .int .i64 x13_1 ∧ Aside0 (spec_UnitsOf.l0 kq l0 a2 t119 t120 x11_1 x12_1 x13_1 = some (r1, r2)) ∧ Aside0 (kq ≤ k) ∧ Aside0 (Kd.R Kd.string 9 w' w.heap.size (fun _ => True) v123 x11_1) ∧ Aside0 (Kd.R Kd.bool 4 w' w.heap.size (fun _ => True) v126 x12_1) ∧ Aside0 (Below w.heap.size w w'))
        case atStart => exact ⟨(y122), (y125), (0), FR, H', ⟨Nat.le_refl _⟩, ⟨(RR HO124.out)⟩, ⟨(RR HO127.out)⟩, ⟨(BB HB.out)⟩⟩
        case round =>
          clear H'
          try clear c1
          try clear p2
          try clear c5
          try clear c6
          try clear c6b0
          try clear c6b1
          try clear p6
          try clear c7
          try clear c7b0
          try clear c7b1
          try clear c8
          try clear c8b0
          try clear c8b1
          obtain ⟨x11_1, x12_1, x13_1, rfl, HA, HK1, HO_11, HO_12, HB⟩ := hrel
          cases gk with
          | zero => exact absurd HA.out (by simp [spec_UnitsOf.l0])
          | succ k1 =>
            have H := HA.out
            clear HA
            simp only [spec_UnitsOf.l0] at H
            by_cases c13 : x13_1 < (wrap64 (t119 + t120))
            · rw [if_pos c13] at H
              have c13b0 : decide (x13_1 < (wrap64 (t119 + t120))) = true := decide_eq_true c13
              (try simp only [hji5] at c13b0)
              clear c13
              have H' := Aside0.mk H
              clear H
              go_wp2
              go_loopg [14] k1 (fun kq v14 w' => ∃ (x11_2 : List ByteArray) (x12_2 : List Bool) (x14_2 : Int), v14 = .int .i64 x14_2 ∧ Aside0 (spec_UnitsOf.l1 kq l0 a2 t119 t120 x11_2 x12_2 x13_1 x14_2 = some (r1, r2)) ∧ Aside0 (kq ≤ k1) ∧ Aside0 (Kd.R Kd.string 9 w' w.heap.size (fun _ => True) v123 x11_2) ∧ Aside0 (Kd.R Kd.bool 4 w' w.heap.size (fun _ => True) v126 x12_2) ∧ Aside0 (Below w.heap.size w w'))
              case atStart => exact ⟨(x11_1), (x12_1), (0), FR, H', ⟨Nat.le_refl _⟩, ⟨(RR HO_11.out)⟩, ⟨(RR HO_12.out)⟩, ⟨(BB HB.out)⟩⟩
              case round =>
                clear H'
                try clear c1
                try clear p2
                try clear c5
                try clear c6
                try clear c6b0
                try clear c6b1
                try clear p6
                try clear c7
                try clear c7b0
                try clear c7b1
                try clear c8
                try clear c8b0
                try clear c8b1
                try clear c13
                try clear c13b0
                try clear p2
                try clear p6
                obtain ⟨x11_2, x12_2, x14_2, rfl, HA, HK2, HO_11, HO_12, HB⟩ := hrel
                cases gk with
                | zero => exact absurd HA.out (by simp [spec_UnitsOf.l1])
                | succ k2 =>
                  have H := HA.out
                  clear HA
                  simp only [spec_UnitsOf.l1] at H
                  have HC14 := Aside0.mk H
                  clear H
                  go_upto_region 8 with (fail)
                  go_cut [48] (fun v48 wc => ∃ (kq : Nat) (x48_13 : Bool), v48 = .bool x48_13 ∧ Aside0 (spec_UnitsOf.j2 kq l0 a2 t119 t120 x11_2 x12_2 x13_1 x14_2 x48_13 = some (r1, r2)) ∧ Aside0 (kq ≤ k2) ∧ Aside0 (Kd.R Kd.string 9 wc w.heap.size (fun _ => True) v123 x11_2) ∧ Aside0 (Kd.R Kd.bool 4 wc w.heap.size (fun _ => True) v126 x12_2) ∧ Aside0 (Below w.heap.size w wc))
                  case first =>
                    have H := HC14.out
                    clear HC14
                    by_cases c15 : x14_2 < (l0.length : Int)
                    · rw [if_pos c15] at H
                      have c15b0 : decide (x14_2 < (l0.length : Int)) = true := decide_eq_true c15
                      clear c15
                      (first | rw [c15b0] | (simp only [i64_w, i32_w]; rw [c15b0]) | skip)
                      by_cases c16 : 0 ≤ x13_1
                      · rw [if_pos c16] at H
                        have c16b0 : decide (0 ≤ x13_1) = true := decide_eq_true c16
                        clear c16
                        by_cases c17 : x13_1 < (x12_2.length : Int)
                        · rw [if_pos c17] at H
                          have c17b0 : decide (x13_1 < (x12_2.length : Int)) = true := decide_eq_true c17
                          clear c17
                          have H' := Aside0.mk H
                          clear H
                          obtain ⟨Ao18, co18, eo18⟩ := Kd.R_slice HO_12.out
                          subst eo18
                          have p128 : 0 ≤ (x13_1 : Int) := DT
                          have q128 : x13_1 < (x12_2.length : Int) := DT
                          obtain ⟨ad128, e128, hx128_0⟩ := Kd.at_bool (Kd.R_reads' HO_12.out).2.2 x13_1 p128 q128
                          cases e128
                          replace p128 := eq_true p128
                          replace q128 := eq_true q128
                          go_wp2
                          go_meet
                          case rel => exact ⟨_, (!(rdOf false x12_2 x13_1)), FR, H', ⟨by have := HK1.out; have := HK2.out; first | omega | exact Nat.le_refl _⟩, ⟨(RR HO_11.out)⟩, ⟨(RR HO_12.out)⟩, ⟨(BB HB.out)⟩⟩
                        · rw [if_neg c17] at H
                          exact absurd H (by simp)
                      · rw [if_neg c16] at H
                        exact absurd H (by simp)
                    · rw [if_neg c15] at H
                      have c15b0 : decide (x14_2 < (l0.length : Int)) = false := decide_eq_false c15
                      clear c15
                      (first | rw [c15b0] | (simp only [i64_w, i32_w]; rw [c15b0]) | skip)
                      have H' := Aside0.mk H
                      clear H
                      go_wp2
                      go_meet
                      case rel => exact ⟨_, (false), FR, H', ⟨by have := HK1.out; have := HK2.out; first | omega | exact Nat.le_refl _⟩, ⟨(RR HO_11.out)⟩, ⟨(RR HO_12.out)⟩, ⟨(BB HB.out)⟩⟩
                  case rest =>
                    clear HC14
                    try clear c1
                    try clear p1
                    try clear q1
                    try clear hx1
                    try clear p2
                    try clear c5
                    try clear c6
                    try clear c6b0
                    try clear c6b1
                    try clear p6
                    try clear c7
                    try clear c7b0
                    try clear c7b1
                    try clear c8
                    try clear c8b0
                    try clear c8b1
                    try clear p12
                    try clear q12
                    try clear hx12
                    try clear c13
                    try clear c13b0
                    try clear c15
                    try clear c15b0
                    try clear c16
                    try clear c16b0
                    try clear c17
                    try clear c17b0
                    try clear hx128_0
                    try clear p128
                    try clear p2
                    try clear p6
                    try clear q128
                    obtain ⟨kq, x48_13, rfl, HA, HJ13, HO_11, HO_12, HB⟩ := hcut
                    cases kq with
                    | zero => exact absurd HA.out (by simp [spec_UnitsOf.j2])
                    | succ kj13 =>
                      have H := HA.out
                      clear HA
                      simp only [spec_UnitsOf.j2] at H
                      by_cases c19 : x48_13 = true
                      · subst c19
                        have H1 : (if 0 ≤ x14_2 then (if x14_2 < (l0.length : Int) then ((spec_GetUnit.f kj13 ((rd_T97 l0 x14_2).f0) ((rd_T97 l0 x14_2).f1) ((rd_T97 l0 x14_2).f2) a2 x13_1).bind fun bt130 => (if bt130.2 = true then (if 0 ≤ x13_1 then (if x13_1 < (x11_2.length : Int) then (if x13_1 < (x12_2.length : Int) then (spec_UnitsOf.l1 kj13 l0 a2 t119 t120 (x11_2.set (x13_1 : Int).toNat bt130.1) (x12_2.set (x13_1 : Int).toNat true) x13_1 (wrap64 (x14_2 + 1))) else (none)) else (none)) else (none)) else (spec_UnitsOf.l1 kj13 l0 a2 t119 t120 x11_2 x12_2 x13_1 (wrap64 (x14_2 + 1))))) else (none)) else (none)) = some (r1, r2) := by rw [if_pos rfl] at H; exact H
                        clear H
                        have H := H1
                        clear H1
                        by_cases c20 : 0 ≤ x14_2
                        · rw [if_pos c20] at H
                          have c20b0 : decide (0 ≤ x14_2) = true := decide_eq_true c20
                          clear c20
                          by_cases c21 : x14_2 < (l0.length : Int)
                          · rw [if_pos c21] at H
                            have c21b0 : decide (x14_2 < (l0.length : Int)) = true := decide_eq_true c21
                            clear c21
                            replace H := Option.bind_eq_some_iff.mp H
                            obtain ⟨⟨t130, t131⟩, A220, H⟩ := H
                            replace H : (if t131 = true then (if 0 ≤ x13_1 then (if x13_1 < (x11_2.length : Int) then (if x13_1 < (x12_2.length : Int) then (spec_UnitsOf.l1 kj13 l0 a2 t119 t120 (x11_2.set (x13_1 : Int).toNat t130) (x12_2.set (x13_1 : Int).toNat true) x13_1 (wrap64 (x14_2 + 1))) else (none)) else (none)) else (none)) else (spec_UnitsOf.l1 kj13 l0 a2 t119 t120 x11_2 x12_2 x13_1 (wrap64 (x14_2 + 1)))) = some (r1, r2) := H
                            have A22 := Aside0.mk A220
                            clear A220
                            by_cases c23 : t131 = true
                            · subst c23
                              have H1 : (if 0 ≤ x13_1 then (if x13_1 < (x11_2.length : Int) then (if x13_1 < (x12_2.length : Int) then (spec_UnitsOf.l1 kj13 l0 a2 t119 t120 (x11_2.set (x13_1 : Int).toNat t130) (x12_2.set (x13_1 : Int).toNat true) x13_1 (wrap64 (x14_2 + 1))) else (none)) else (none)) else (none)) = some (r1, r2) := by rw [if_pos rfl] at H; exact H
                              clear H
                              have H := H1
                              clear H1
                              by_cases c24 : 0 ≤ x13_1
                              · rw [if_pos c24] at H
                                have c24b0 : decide (0 ≤ x13_1) = true := decide_eq_true c24
                                clear c24
                                by_cases c25 : x13_1 < (x11_2.length : Int)
                                · rw [if_pos c25] at H
                                  have c25b0 : decide (x13_1 < (x11_2.length : Int)) = true := decide_eq_true c25
                                  clear c25
                                  obtain ⟨y132, hy132⟩ : ∃ y_ : List ByteArray, y_ = (x11_2.set (x13_1 : Int).toNat t130) := ⟨_, rfl⟩
                                  replace H : (if x13_1 < (x12_2.length : Int) then (spec_UnitsOf.l1 kj13 l0 a2 t119 t120 y132 (x12_2.set (x13_1 : Int).toNat true) x13_1 (wrap64 (x14_2 + 1))) else (none)) = some (r1, r2) := by first | (rw [hy132]; with_reducible exact H) | (have H2_ := (Option.bind_some _ _).symm.trans H; rw [hy132]; with_reducible exact H2_) | (have H2_ := (Option.bind_some _ _).symm.trans H; with_reducible exact H2_) | with_reducible exact H | (rw [hy132]; exact H) | exact H
                                  have Ny132 := Aside0.mk hy132
                                  clear hy132
                                  by_cases c27 : x13_1 < (x12_2.length : Int)
                                  · rw [if_pos c27] at H
                                    have c27b0 : decide (x13_1 < (x12_2.length : Int)) = true := decide_eq_true c27
                                    clear c27
                                    obtain ⟨y133, hy133⟩ : ∃ y_ : List Bool, y_ = (x12_2.set (x13_1 : Int).toNat true) := ⟨_, rfl⟩
                                    replace H : (spec_UnitsOf.l1 kj13 l0 a2 t119 t120 y132 y133 x13_1 (wrap64 (x14_2 + 1))) = some (r1, r2) := by first | (rw [hy133]; with_reducible exact H) | (have H2_ := (Option.bind_some _ _).symm.trans H; rw [hy133]; with_reducible exact H2_) | (have H2_ := (Option.bind_some _ _).symm.trans H; with_reducible exact H2_) | with_reducible exact H | (rw [hy133]; exact H) | exact H
                                    have Ny133 := Aside0.mk hy133
                                    clear hy133
                                    have H' := Aside0.mk H
                                    clear H
                                    have p129 : 0 ≤ (x14_2 : Int) := DT
                                    have q129 : x14_2 < (l0.length : Int) := DT
                                    obtain ⟨ad129, A129_2, c129_2, e129, hx129_0, hx129_1, hx129_2, hl129_2, hi129_2⟩ := at_T97 HR0.out x14_2 p129 q129
                                    cases e129
                                    replace hx129_0 := (HB.out.cell (World.block_lt_of_cell? w _ hx129_0)).trans hx129_0
                                    replace hx129_1 := (HB.out.cell (World.block_lt_of_cell? w _ hx129_1)).trans hx129_1
                                    replace hx129_2 := (HB.out.cell (World.block_lt_of_cell? w _ hx129_2)).trans hx129_2
                                    have HR129_2 := Aside0.mk hi129_2
                                    have HC129_2 := Aside0.mk hl129_2
                                    clear hi129_2 hl129_2
                                    replace p129 := eq_true p129
                                    replace q129 := eq_true q129
                                    go_wp2_with (first | ((with_reducible refine gate_callee (f := 56) rfl ?_); refine GL (some 58) rfl rfl Try.func56 #[.agg #[.int .i64 ((rd_T97 l0 x14_2).f0), .bool ((rd_T97 l0 x14_2).f1), .slice A129_2 ((rd_T97 l0 x14_2).f2).length c129_2], .int .i64 a2, .int .i64 x13_1] rfl ?_; (with_reducible refine (spec_GetUnit.calls kj13 ((rd_T97 l0 x14_2).f0) ((rd_T97 l0 x14_2).f1) _ _ ((rd_T97 l0 x14_2).f2) a2 x13_1 t130 true _ ?side1 ?side2 A22.out).mono ?_); (case side1 => exact CC (Kd.C_below HR129_2.out HB.out)); (case side2 => exact HC129_2.out); rintro e w29 ⟨rfl, hb⟩; refine ⟨_, rfl, ?_⟩; replace HO_11 := Aside0.mk (Kd.R_below (RR HO_11.out) hb); replace HO_12 := Aside0.mk (Kd.R_below (RR HO_12.out) hb); replace HB := Aside0.mk (below_step (BB HB.out) hb); (try clear hb); have p26 : 0 ≤ (x13_1 : Int) := DT; have q26 : (x13_1 : Int) < ((x11_2.length : Int) : Int) := DT; obtain ⟨go26, co26, eo26, gb26, gl26, cl26, HG26⟩ := Kd.R_form HO_11.out (by omega); (first | cases eo26 | (injection eo26 with ea_ en_ ec_; (first | subst ea_ | (injection ea_ with ea_; subst ea_)); subst ec_; clear en_)); have GB26 := Aside0.mk gb26; have GG26 := Aside0.mk HG26; clear gb26 gl26 HG26; obtain ⟨hx26_0, hf26_0⟩ := Kd.R_celln (⟨#[]⟩ : ByteArray) HO_11.out (x13_1 : Int) p26 q26; replace p26 := eq_true p26; replace q26 := eq_true q26; obtain ⟨hy30_, hz30_⟩ := Kd.R_celln (⟨#[]⟩ : ByteArray) HO_11.out (x13_1 : Int) DT DT; have HP30 := Kd.R_putg HO_11.out (x13_1 : Int) t130) | ((with_reducible refine gate_store (t := 9) (p := 65) rfl ?_); refine store_event (t := 9) (p := 65) (v := ?vo_w31) (w1 := (w29.setCell ⟨go26, (x13_1 : Int).toNat, none⟩ (.string t130))) ?hg ?ho ?hn ?hr ?_; (case ho => rfl); (case hg => rfl); (case hn => rfl); (case hr => first | (go_simp; done) | (go_simp; rfl)); intro w31 hw; have hg : w29.grownBy w31 (some go26) := (by rw [hw]; exact HP30.2); have hp_ : Kd.R Kd.string 9 w31 w.heap.size (fun _ => True) (.slice (some ⟨go26, 0, none⟩) x11_2.length co26) y132 := (by rw [hw, Ny132.out]; exact HP30.1); clear HP30; have n0_ := Aside0.mk (hp_); have n1_ := Aside0.mk (Kd.R_over' (v := (.slice (some ⟨go26, 0, none⟩) x11_2.length co26)) (RR HO_12.out) (Kd.R_typed HO_11.out) (by decide) hg); have n2_ := Aside0.mk ((by rw [hw]; exact below_set (HB.out) GB26.out : Below w.heap.size w w31)); clear HO_11; clear HO_12; clear HB; have HO_11 := n0_; have HO_12 := n1_; have HB := n2_; clear n0_ n1_ n2_; clear hg hw hp_; have p28 : 0 ≤ (x13_1 : Int) := DT; have q28 : (x13_1 : Int) < ((x12_2.length : Int) : Int) := DT; obtain ⟨go28, co28, eo28, gb28, gl28, cl28, HG28⟩ := Kd.R_form HO_12.out (by omega); (first | cases eo28 | (injection eo28 with ea_ en_ ec_; (first | subst ea_ | (injection ea_ with ea_; subst ea_)); subst ec_; clear en_)); have GB28 := Aside0.mk gb28; have GG28 := Aside0.mk HG28; clear gb28 gl28 HG28; obtain ⟨hx28_0, hf28_0⟩ := Kd.R_celln false HO_12.out (x13_1 : Int) p28 q28; replace p28 := eq_true p28; replace q28 := eq_true q28; obtain ⟨hy32_, hz32_⟩ := Kd.R_celln false HO_12.out (x13_1 : Int) DT DT; have HP32 := Kd.R_putg HO_12.out (x13_1 : Int) true) | ((with_reducible refine gate_store (t := 4) (p := 68) rfl ?_); refine store_event (t := 4) (p := 68) (v := ?vo_w33) (w1 := (w31.setCell ⟨go28, (x13_1 : Int).toNat, none⟩ (.bool true))) ?hg ?ho ?hn ?hr ?_; (case ho => rfl); (case hg => rfl); (case hn => rfl); (case hr => first | (go_simp; done) | (go_simp; rfl)); intro w33 hw; have hg : w31.grownBy w33 (some go28) := (by rw [hw]; exact HP32.2); have hp_ : Kd.R Kd.bool 4 w33 w.heap.size (fun _ => True) (.slice (some ⟨go28, 0, none⟩) x12_2.length co28) y133 := (by rw [hw, Ny133.out]; exact HP32.1); clear HP32; have n0_ := Aside0.mk (Kd.R_over' (v := (.slice (some ⟨go28, 0, none⟩) x12_2.length co28)) (RR HO_11.out) (Kd.R_typed HO_12.out) (by decide) hg); have n1_ := Aside0.mk (hp_); have n2_ := Aside0.mk ((by rw [hw]; exact below_set (HB.out) GB28.out : Below w.heap.size w w33)); clear HO_11; clear HO_12; clear HB; have HO_11 := n0_; have HO_12 := n1_; have HB := n2_; clear n0_ n1_ n2_; clear hg hw hp_))
                                    go_roundg kj13
                                    case measure => have := HK1.out; have := HK2.out; have := HJ13.out; omega
                                    case rel => exact ⟨(y132), (y133), (wrap64 (x14_2 + 1)), FR, H', ⟨by have := HK1.out; have := HK2.out; have := HJ13.out; omega⟩, ⟨(RR HO_11.out)⟩, ⟨(RR HO_12.out)⟩, ⟨(BB HB.out)⟩⟩
                                  · rw [if_neg c27] at H
                                    exact absurd H (by simp)
                                · rw [if_neg c25] at H
                                  exact absurd H (by simp)
                              · rw [if_neg c24] at H
                                exact absurd H (by simp)
                            · replace c23 := Bool.eq_false_iff.mpr c23
                              subst c23
                              have H1 : (spec_UnitsOf.l1 kj13 l0 a2 t119 t120 x11_2 x12_2 x13_1 (wrap64 (x14_2 + 1))) = some (r1, r2) := by rw [if_neg (show ¬ (false = true) by decide)] at H; exact H
                              clear H
                              have H := H1
                              clear H1
                              have H' := Aside0.mk H
                              clear H
                              have p129 : 0 ≤ (x14_2 : Int) := DT
                              have q129 : x14_2 < (l0.length : Int) := DT
                              obtain ⟨ad129, A129_2, c129_2, e129, hx129_0, hx129_1, hx129_2, hl129_2, hi129_2⟩ := at_T97 HR0.out x14_2 p129 q129
                              cases e129
                              replace hx129_0 := (HB.out.cell (World.block_lt_of_cell? w _ hx129_0)).trans hx129_0
                              replace hx129_1 := (HB.out.cell (World.block_lt_of_cell? w _ hx129_1)).trans hx129_1
                              replace hx129_2 := (HB.out.cell (World.block_lt_of_cell? w _ hx129_2)).trans hx129_2
                              have HR129_2 := Aside0.mk hi129_2
                              have HC129_2 := Aside0.mk hl129_2
                              clear hi129_2 hl129_2
                              replace p129 := eq_true p129
                              replace q129 := eq_true q129
                              go_wp2_with (first | ((with_reducible refine gate_callee (f := 56) rfl ?_); refine GL (some 58) rfl rfl Try.func56 #[.agg #[.int .i64 ((rd_T97 l0 x14_2).f0), .bool ((rd_T97 l0 x14_2).f1), .slice A129_2 ((rd_T97 l0 x14_2).f2).length c129_2], .int .i64 a2, .int .i64 x13_1] rfl ?_; (with_reducible refine (spec_GetUnit.calls kj13 ((rd_T97 l0 x14_2).f0) ((rd_T97 l0 x14_2).f1) _ _ ((rd_T97 l0 x14_2).f2) a2 x13_1 t130 false _ ?side1 ?side2 A22.out).mono ?_); (case side1 => exact CC (Kd.C_below HR129_2.out HB.out)); (case side2 => exact HC129_2.out); rintro e w34 ⟨rfl, hb⟩; refine ⟨_, rfl, ?_⟩; replace HO_11 := Aside0.mk (Kd.R_below (RR HO_11.out) hb); replace HO_12 := Aside0.mk (Kd.R_below (RR HO_12.out) hb); replace HB := Aside0.mk (below_step (BB HB.out) hb); (try clear hb)))
                              go_roundg kj13
                              case measure => have := HK1.out; have := HK2.out; have := HJ13.out; omega
                              case rel => exact ⟨(x11_2), (x12_2), (wrap64 (x14_2 + 1)), FR, H', ⟨by have := HK1.out; have := HK2.out; have := HJ13.out; omega⟩, ⟨(RR HO_11.out)⟩, ⟨(RR HO_12.out)⟩, ⟨(BB HB.out)⟩⟩
                          · rw [if_neg c21] at H
                            exact absurd H (by simp)
                        · rw [if_neg c20] at H
                          exact absurd H (by simp)
                      · replace c19 := Bool.eq_false_iff.mpr c19
                        subst c19
                        have H1 : (spec_UnitsOf.l0 kj13 l0 a2 t119 t120 x11_2 x12_2 (wrap64 (x13_1 + 1))) = some (r1, r2) := by rw [if_neg (show ¬ (false = true) by decide)] at H; exact H
                        clear H
                        have H := H1
                        clear H1
                        have H' := Aside0.mk H
                        clear H
                        go_wp2
                        go_roundg kj13
                        case measure => have := HK1.out; have := HK2.out; have := HJ13.out; omega
                        case rel => exact ⟨(x11_2), (x12_2), (wrap64 (x13_1 + 1)), FR, H', ⟨by have := HK1.out; have := HK2.out; have := HJ13.out; omega⟩, ⟨(RR HO_11.out)⟩, ⟨(RR HO_12.out)⟩, ⟨(BB HB.out)⟩⟩
            · rw [if_neg c13] at H
              have c13b0 : decide (x13_1 < (wrap64 (t119 + t120))) = false := decide_eq_false c13
              (try simp only [hji5] at c13b0)
              clear c13
              simp only [Option.some.injEq, Prod.mk.injEq] at H
              obtain ⟨rfl, rfl⟩ := H
              go_wp2
              go_ret2
              exact ⟨_, _, by first | rfl | (simp [errW_none, errW_some] <;> rfl) | (simp only [← hji5]; first | rfl | (simp [errW_none, errW_some] <;> rfl)) | (simp [*, errW_none, errW_some] <;> rfl), by (with_reducible repeat (first | apply Kd.R_alloc | apply Kd.R_drewN | apply Kd.R_drew)); exact HO_11.out, by (with_reducible repeat (first | apply Kd.R_alloc | apply Kd.R_drewN | apply Kd.R_drew)); exact HO_12.out, (BB HB.out)⟩
      · rw [if_neg c8] at H
        exact absurd H (by simp)
    · rw [if_neg c7] at H
      exact absurd H (by simp)
  · rw [if_neg c6] at H
    exact absurd H (by simp)

end Go.Proofs.Ytfgnaneajonapaa.Pr

/- UnitsOf and LeftOf: the program's and the reference's are one function of the hosts. -/
namespace Go.Proofs.Ytfgnaneajonapaa.Pu
open Go.RowKit Go.Proofs.YtfgnaneajonapaaW.PrintWords Go.Proofs.Ytfgnaneajonapaa.Pr Go.Proofs.Ytfgnaneajonapaa.Evs Go.Proofs.Ytfgnaneajonapaa.Lw
set_option linter.unusedVariables false

/-- What lists of hosts that come in are. -/
def shortH (hs : List ImHost) : Prop := hs.length < 9223372036854775807 ∧ ∀ h ∈ hs, shortU h.f2
/-- The unit of the first host that has it. -/
def firstU : List ImHost → Int → Int → ByteArray × Bool
  | [], _, _ => (⟨#[]⟩, false)
  | h :: s, g, i => if (getUnit h.f1 h.f2 g i).2 = true then getUnit h.f1 h.f2 g i else firstU s g i
theorem firstU_no (s : List ImHost) (g i : Int) (h : (firstU s g i).2 = false) : (firstU s g i).1 = ⟨#[]⟩ := by
  induction s with
  | nil => rfl
  | cons x s ih =>
    unfold firstU at h ⊢
    split
    · rename_i h1
      rw [if_pos h1] at h
      rw [h1] at h
      cases h
    · rename_i h1
      rw [if_neg h1] at h
      exact ih h
/-- Of all places from i on, d of them. -/
def fromU (hs : List ImHost) (g : Int) : Nat → Nat → List (ByteArray × Bool)
  | _, 0 => []
  | i, d + 1 => firstU hs g (i : Int) :: fromU hs g (i + 1) d
theorem fromU_length (hs : List ImHost) (g : Int) (d : Nat) : ∀ i, (fromU hs g i d).length = d := by
  induction d with
  | zero => intro i; rfl
  | succ d ih => intro i; simp [fromU, ih]
def schemaOf (s : Int) : Int × Int × Bool := if s = 1 then (2, 1, true) else if s = 2 then (3, 2, true) else if s = 3 then (4, 2, true) else (0, 0, false)
theorem spec_SchemaOf_eq (s : Int) : spec_SchemaOf.f s = some (schemaOf s) := by
  unfold spec_SchemaOf.f schemaOf
  split
  · rfl
  · split
    · rfl
    · split <;> rfl
theorem impl_SchemaOf_eq (s : Int) : impl_SchemaOf.f s = some (schemaOf s) := by
  unfold impl_SchemaOf.f schemaOf
  split
  · rfl
  · split
    · rfl
    · split <;> rfl
/-- How many units and sums a scheme has. -/
def many (s : Int) : Nat := if s = 1 then 3 else if s = 2 then 5 else if s = 3 then 6 else 0
theorem many_eq (s : Int) : (schemaOf s).1 + (schemaOf s).2.1 = (many s : Int) := by
  unfold schemaOf many
  split
  · rfl
  · split
    · rfl
    · split <;> rfl
theorem many_le (s : Int) : many s ≤ 6 := by unfold many; split <;> (try split) <;> (try split) <;> omega
theorem many_wrap (s : Int) : wrap64 ((schemaOf s).1 + (schemaOf s).2.1) = (many s : Int) := by
  have := many_le s
  rw [many_eq]
  exact wrap_in (by omega) (by omega)
def unitsOf (hs : List ImHost) (s g : Int) : List ByteArray × List Bool := ((fromU hs g 0 (many s)).map (·.1), (fromU hs g 0 (many s)).map (·.2))
-- the program's
theorem impl_UnitsOf_l1 (hs : List ImHost) (g a b : Int) (i : Int) (xs : List ByteArray) (ys : List Bool) (r : List ByteArray × List Bool) (hx : xs.length < 1000000) (hy : ys.length < 1000000) (s : List ImHost)
    (hE : Ev (fun k => impl_UnitsOf.l0 k hs g a b (xs ++ [(firstU s g i).1]) (ys ++ [(firstU s g i).2]) (wrap64 (i + 1))) r) : ∀ (p : List ImHost) (n : Int), n = ((p ++ s).length : Int) → shortH (p ++ s) →
    Ev (fun k => impl_UnitsOf.l1 k hs g a b xs ys i ⟨#[]⟩ false (p ++ s) n (p.length : Int)) r := by
  induction s with
  | nil =>
    intro p n hn hs
    exact ev_step (fun k => impl_UnitsOf.l1.eq_2 _ _ _ _ _ _ _ _ _ _ _ _ k) (ev_neg (by simp at hn; omega) (ev_pos (by omega) (ev_pos (by omega) hE)))
  | cons x s ih =>
    intro p n hn hs
    have hl := hs.1
    simp at hl hn
    have hu : shortU x.f2 := hs.2 x (by simp)
    refine ev_step (fun k => impl_UnitsOf.l1.eq_2 _ _ _ _ _ _ _ _ _ _ _ _ k) (ev_pos (by omega) (ev_pos (by omega) (ev_pos (by simp; omega) ?_)))
    have e : wrap64 ((p.length : Int) + 1) = (p.length : Int) + 1 := wrap_in (by omega) (by omega)
    simp only [rd97, e]
    refine ev_bind (impl_GetUnit_ev x.f0 x.f1 x.f2 g i hu) ?_
    by_cases c : (getUnit x.f1 x.f2 g i).2 = true
    · refine ev_pos c (ev_pos (by omega) (ev_pos (by omega) ?_))
      rw [firstU, if_pos c] at hE
      exact hE
    · have hf : (getUnit x.f1 x.f2 g i).2 = false := by simpa using c
      refine ev_neg c ?_
      rw [getUnit_no hf, hf]
      rw [firstU, if_neg c] at hE
      have h := ih hE (p ++ [x]) n (by simp; omega) (by simpa using hs)
      simpa using h
theorem impl_UnitsOf_l0 (hs : List ImHost) (hh : shortH hs) (g a b : Int) (m : Nat) (hm : wrap64 (a + b) = (m : Int)) (hm6 : m ≤ 6) (d : Nat) : ∀ (i : Nat) (xs : List ByteArray) (ys : List Bool), i + d = m → xs.length + d ≤ 100 → ys.length + d ≤ 100 →
    Ev (fun k => impl_UnitsOf.l0 k hs g a b xs ys (i : Int)) (xs ++ (fromU hs g i d).map (·.1), ys ++ (fromU hs g i d).map (·.2)) := by
  induction d with
  | zero => intro i xs ys hi hx hy; exact ev_step (fun k => impl_UnitsOf.l0.eq_2 _ _ _ _ _ _ _ k) (ev_neg (by rw [hm]; omega) (ev_eq (ev_some _) (by simp [fromU])))
  | succ d ih =>
    intro i xs ys hi hx hy
    refine ev_step (fun k => impl_UnitsOf.l0.eq_2 _ _ _ _ _ _ _ k) (ev_pos (by rw [hm]; omega) ?_)
    have h := ih (i + 1) (xs ++ [(firstU hs g (i : Int)).1]) (ys ++ [(firstU hs g (i : Int)).2]) (by omega) (by simp; omega) (by simp; omega)
    have e : wrap64 ((i : Int) + 1) = ((i + 1 : Nat) : Int) := by rw [wrap_in (by omega) (by omega)]; omega
    have h2 := impl_UnitsOf_l1 hs g a b (i : Int) xs ys _ (by omega) (by omega) hs (by rw [e]; exact h) [] (hs.length : Int) (by simp) (by simpa using hh)
    refine ev_eq (by simpa using h2) ?_
    simp [fromU]
theorem impl_UnitsOf_ev (hs : List ImHost) (hh : shortH hs) (s g : Int) : Ev (fun k => impl_UnitsOf.f k hs s g) (unitsOf hs s g) := by
  unfold impl_UnitsOf.f
  refine ev_call (impl_SchemaOf_eq s) ?_
  have := many_le s
  have h := impl_UnitsOf_l0 hs hh g _ _ (many s) (many_wrap s) (many_le s) (many s) 0 [] [] (by omega) (by simp; omega) (by simp; omega)
  simpa [unitsOf] using h
-- the reference's
theorem set_snoc {α : Type} (xs : List α) (z y : α) (zs : List α) (i : Int) (hi : i = (xs.length : Int)) : (xs ++ z :: zs).set i.toNat y = (xs ++ [y]) ++ zs := by rw [set_mid _ _ _ _ _ hi]; simp
theorem rdOf_mid (xs zs : List Bool) (z : Bool) (i : Int) (hi : i = (xs.length : Int)) : rdOf false (xs ++ z :: zs) i = z := by unfold rdOf; exact getD_mid' _ _ _ _ _ hi
theorem spec_UnitsOf_l1 (hs : List ImHost) (g a b : Int) (i : Int) (xs : List ByteArray) (ys : List Bool) (xt : List ByteArray) (yt : List Bool) (r : List ByteArray × List Bool) (hxi : i = (xs.length : Int)) (hyi : i = (ys.length : Int)) (s : List ImHost)
    (hE : Ev (fun k => spec_UnitsOf.l0 k hs g a b (xs ++ (firstU s g i).1 :: xt) (ys ++ (firstU s g i).2 :: yt) (wrap64 (i + 1))) r) : ∀ (p : List ImHost), hs = p ++ s → shortH (p ++ s) →
    Ev (fun k => spec_UnitsOf.l1 k hs g a b (xs ++ ⟨#[]⟩ :: xt) (ys ++ false :: yt) i (p.length : Int)) r := by
  induction s with
  | nil =>
    intro p hp hs'
    subst hp
    exact ev_step (fun k => spec_UnitsOf.l1.eq_2 _ _ _ _ _ _ _ _ k) (ev_neg (by simp) (ev_step (fun k => spec_UnitsOf.j2.eq_2 _ _ _ _ _ _ _ _ _ k) (ev_neg (by simp) hE)))
  | cons x s ih =>
    intro p hp hs'
    have hl := hs'.1
    simp at hl
    have hu : shortU x.f2 := hs'.2 x (by simp)
    have e : wrap64 ((p.length : Int) + 1) = (p.length : Int) + 1 := wrap_in (by omega) (by omega)
    have hrd : rd_T97 hs (p.length : Int) = x := by rw [hp]; exact rd97 p s x
    refine ev_step (fun k => spec_UnitsOf.l1.eq_2 _ _ _ _ _ _ _ _ k) (ev_pos (by rw [hp]; simp; omega) (ev_pos (by omega) (ev_pos (by simp; omega) ?_)))
    rw [rdOf_mid _ _ _ _ hyi]
    refine ev_step (fun k => spec_UnitsOf.j2.eq_2 _ _ _ _ _ _ _ _ _ k) (ev_pos (by simp) (ev_pos (by omega) (ev_pos (by rw [hp]; simp; omega) ?_)))
    simp only [hrd, e]
    refine ev_bind (spec_GetUnit_ev x.f0 x.f1 x.f2 g i hu) ?_
    by_cases c : (getUnit x.f1 x.f2 g i).2 = true
    · refine ev_pos c (ev_pos (by omega) (ev_pos (by simp; omega) (ev_pos (by simp; omega) ?_)))
      rw [firstU, if_pos c, c] at hE
      simp only [set_mid _ _ _ _ _ hxi, set_mid _ _ _ _ _ hyi]
      -- the rest of the hosts is not asked
      have hstop : ∀ q : Int, 0 ≤ q → Ev (fun k => spec_UnitsOf.l1 k hs g a b (xs ++ (getUnit x.f1 x.f2 g i).1 :: xt) (ys ++ true :: yt) i q) r := by
        intro q hq
        refine ev_step (fun k => spec_UnitsOf.l1.eq_2 _ _ _ _ _ _ _ _ k) ?_
        by_cases c2 : q < (hs.length : Int)
        · refine ev_pos c2 (ev_pos (by omega) (ev_pos (by simp; omega) ?_))
          rw [rdOf_mid _ _ _ _ hyi]
          exact ev_step (fun k => spec_UnitsOf.j2.eq_2 _ _ _ _ _ _ _ _ _ k) (ev_neg (by simp) hE)
        · exact ev_neg c2 (ev_step (fun k => spec_UnitsOf.j2.eq_2 _ _ _ _ _ _ _ _ _ k) (ev_neg (by simp) hE))
      exact hstop _ (by omega)
    · refine ev_neg c ?_
      rw [firstU, if_neg c] at hE
      have h := ih hE (p ++ [x]) (by simpa using hp) (by simpa using hs')
      simpa using h
theorem spec_UnitsOf_l0 (hs : List ImHost) (hh : shortH hs) (g a b : Int) (m : Nat) (hm : wrap64 (a + b) = (m : Int)) (hm6 : m ≤ 6) (d : Nat) : ∀ (i : Nat) (xs : List ByteArray) (ys : List Bool), i + d = m → xs.length = i → ys.length = i →
    Ev (fun k => spec_UnitsOf.l0 k hs g a b (xs ++ List.replicate d ⟨#[]⟩) (ys ++ List.replicate d false) (i : Int)) (xs ++ (fromU hs g i d).map (·.1), ys ++ (fromU hs g i d).map (·.2)) := by
  induction d with
  | zero => intro i xs ys hi hx hy; exact ev_step (fun k => spec_UnitsOf.l0.eq_2 _ _ _ _ _ _ _ k) (ev_neg (by rw [hm]; omega) (ev_eq (ev_some _) (by simp [fromU])))
  | succ d ih =>
    intro i xs ys hi hx hy
    refine ev_step (fun k => spec_UnitsOf.l0.eq_2 _ _ _ _ _ _ _ k) (ev_pos (by rw [hm]; omega) ?_)
    have h := ih (i + 1) (xs ++ [(firstU hs g (i : Int)).1]) (ys ++ [(firstU hs g (i : Int)).2]) (by omega) (by simp; omega) (by simp; omega)
    have e : wrap64 ((i : Int) + 1) = ((i + 1 : Nat) : Int) := by rw [wrap_in (by omega) (by omega)]; omega
    have h2 := spec_UnitsOf_l1 hs g a b (i : Int) xs ys (List.replicate d ⟨#[]⟩) (List.replicate d false) _ (by omega) (by omega) hs (by rw [e]; simpa using h) [] (by simp) (by simpa using hh)
    refine ev_eq (by simpa [List.replicate_succ] using h2) ?_
    simp [fromU]
theorem spec_UnitsOf_ev (hs : List ImHost) (hh : shortH hs) (s g : Int) : Ev (fun k => spec_UnitsOf.f k hs s g) (unitsOf hs s g) := by
  unfold spec_UnitsOf.f
  refine ev_call (spec_SchemaOf_eq s) ?_
  have := many_le s
  simp only [many_wrap]
  refine ev_pos (by omega) (ev_pos (by omega) (ev_pos (by omega) ?_))
  have h := spec_UnitsOf_l0 hs hh g _ _ (many s) (many_wrap s) (many_le s) (many s) 0 [] [] (by omega) rfl rfl
  simpa [unitsOf] using h
end Go.Proofs.Ytfgnaneajonapaa.Pu

/- Printed out of the translation by this session's pr.py over the kit's print. Lean checks it. -/
namespace Go.Proofs.Ytfgnaneajonapaa.Pr
open Go.RowKit Go.Proofs.YtfgnaneajonapaaW.PrintWords Go.Proofs.YtfgnaneajonapaaW.PrintLast Go.Proofs.YtfgnaneajonapaaW.PrintMore
attribute [local go_sem] max2_int min2_int max_two min_two max_three min_three max_four min_four
set_option linter.unusedVariables false
set_option linter.unusedSimpArgs false

/-! ### impl_LeftOf: function 14 -/
def impl_LeftOf.l0 : Nat → Int → List Bool → Int → Int → Option (Int)
  | 0, _, _, _, _ => none
  | k + 1, x9, x19, x20, x21 => if x21 < x20 then (if 0 ≤ x21 then (if x21 < (x19.length : Int) then (if rdOf false x19 x21 = true then (impl_LeftOf.l0 k (wrap64 (x9 + 1)) x19 x20 (wrap64 (x21 + 1))) else (impl_LeftOf.l0 k x9 x19 x20 (wrap64 (x21 + 1)))) else (none)) else (none)) else (some x9)
def impl_LeftOf.f (k : Nat) (l0 : List (S97)) (a1 : Int) (a2 : Int) : Option (Int) := (impl_UnitsOf.f k l0 a1 a2).bind fun bt196 => (impl_LeftOf.l0 k 0 bt196.2 (bt196.2.length : Int) 0)
set_option maxHeartbeats 8000000 in
set_option maxRecDepth 100000 in
theorem impl_LeftOf.calls (k : Nat) (A0 : Option Addr) (c0 : Nat) (l0 : List (S97)) (a1 : Int) (a2 : Int) (r : Int) (w : World) (hr0 : Kd.C k97 w A0 l0.length l0) (hc0 : l0.length ≤ c0) (h : impl_LeftOf.f k l0 a1 a2 = some r) :
    Calls Try.prog 14 #[.slice A0 l0.length c0, .int .i64 a1, .int .i64 a2] w fun e w' => e = .returned (.int .i64 r) ∧ Below w.heap.size w w' := by
  have HR0 := Aside0.mk hr0
  have HC0 := Aside0.mk hc0
  clear hr0 hc0
  have HB := Aside0.mk (Below.refl w.heap.size w)
  have H : ((impl_UnitsOf.f k l0 a1 a2).bind fun bt196 => (impl_LeftOf.l0 k 0 bt196.2 (bt196.2.length : Int) 0)) = some r := h
  clear h
  replace H := Option.bind_eq_some_iff.mp H
  obtain ⟨⟨t196, t197⟩, A40, H⟩ := H
  replace H : (impl_LeftOf.l0 k 0 t197 (t197.length : Int) 0) = some r := H
  have A4 := Aside0.mk A40
  clear A40
  have H' := Aside0.mk H
  clear H
  go_enter Try.func14, Try.ntmps14
  go_wp2_with (first | ((with_reducible refine gate_callee (f := 17) rfl ?_); refine GL (some 16) rfl rfl Try.func17 #[.slice A0 l0.length c0, .int .i64 a1, .int .i64 a2] rfl ?_; (with_reducible refine (impl_UnitsOf.calls k _ _ l0 a1 a2 t196 t197 _ ?side1 ?side2 A4.out).mono ?_); (case side1 => exact CC HR0.out); (case side2 => exact HC0.out); rintro e w5 ⟨v198, v200, rfl, ho0, ho1, hb⟩; refine ⟨_, rfl, ?_⟩; have HO199 := Aside0.mk (Kd.R_lower ho0 (below_size (BB HB.out))); have HO201 := Aside0.mk (Kd.R_lower ho1 (below_size (BB HB.out))); replace HB := Aside0.mk (below_step (BB HB.out) hb); (try clear hb); (try clear ho0); (try clear ho1); obtain ⟨Ao6, co6, eo6⟩ := Kd.R_slice HO201.out; subst eo6))
  go_loopg [9, 21] k (fun kq v9 v21 w' => ∃ (x9_1 : Int) (x21_1 : Int), v9 = .int .i64 x9_1 ∧ v21 = .int .i64 x21_1 ∧ Aside0 (impl_LeftOf.l0 kq x9_1 t197 (t197.length : Int) x21_1 = some r) ∧ Aside0 (kq ≤ k) ∧ Aside0 (Kd.R Kd.bool 4 w' w.heap.size (fun _ => True) (.slice Ao6 t197.length co6) t197) ∧ Aside0 (Below w.heap.size w w'))
  case atStart => exact ⟨(0), (0), FR, FR, H', ⟨Nat.le_refl _⟩, ⟨(RR HO201.out)⟩, ⟨(BB HB.out)⟩⟩
  case round =>
    clear H'
    try clear c1
    try clear p2
    obtain ⟨x9_1, x21_1, rfl, rfl, HA, HK1, HO_19, HB⟩ := hrel
    cases gk with
    | zero => exact absurd HA.out (by simp [impl_LeftOf.l0])
    | succ k1 =>
      have H := HA.out
      clear HA
      simp only [impl_LeftOf.l0] at H
      by_cases c7 : x21_1 < (t197.length : Int)
      · rw [if_pos c7] at H
        have c7b0 : decide (x21_1 < (t197.length : Int)) = true := decide_eq_true c7
        clear c7
        by_cases c8 : 0 ≤ x21_1
        · rw [if_pos c8] at H
          have c8b0 : decide (0 ≤ x21_1) = true := decide_eq_true c8
          clear c8
          by_cases c9 : x21_1 < (t197.length : Int)
          · rw [if_pos c9] at H
            have c9b0 : decide (x21_1 < (t197.length : Int)) = true := decide_eq_true c9
            clear c9
            obtain ⟨bq10, hbq10⟩ : ∃ b_ : Bool, b_ = (rdOf false t197 x21_1) := ⟨_, rfl⟩
            replace H : (if bq10 = true then (impl_LeftOf.l0 k1 (wrap64 (x9_1 + 1)) t197 (t197.length : Int) (wrap64 (x21_1 + 1))) else (impl_LeftOf.l0 k1 x9_1 t197 (t197.length : Int) (wrap64 (x21_1 + 1)))) = some r := by rw [← hbq10] at H; exact H
            have Nbq10 := Aside0.mk hbq10
            clear hbq10
            by_cases c11 : bq10 = true
            · subst c11
              have H1 : (impl_LeftOf.l0 k1 (wrap64 (x9_1 + 1)) t197 (t197.length : Int) (wrap64 (x21_1 + 1))) = some r := by rw [if_pos rfl] at H; exact H
              clear H
              have H := H1
              clear H1
              have H' := Aside0.mk H
              clear H
              have p202 : 0 ≤ (x21_1 : Int) := DT
              have q202 : x21_1 < (t197.length : Int) := DT
              obtain ⟨ad202, e202, hx202_0⟩ := Kd.at_bool (Kd.R_reads' HO_19.out).2.2 x21_1 p202 q202
              (try rw [← Nbq10.out] at hx202_0)
              cases e202
              replace p202 := eq_true p202
              replace q202 := eq_true q202
              go_wp2
              go_roundg k1
              case measure => have := HK1.out; omega
              case rel => exact ⟨(wrap64 (x9_1 + 1)), (wrap64 (x21_1 + 1)), FR, FR, H', ⟨by have := HK1.out; omega⟩, ⟨(RR HO_19.out)⟩, ⟨(BB HB.out)⟩⟩
            · replace c11 := Bool.eq_false_iff.mpr c11
              subst c11
              have H1 : (impl_LeftOf.l0 k1 x9_1 t197 (t197.length : Int) (wrap64 (x21_1 + 1))) = some r := by rw [if_neg (show ¬ (false = true) by decide)] at H; exact H
              clear H
              have H := H1
              clear H1
              have H' := Aside0.mk H
              clear H
              have p202 : 0 ≤ (x21_1 : Int) := DT
              have q202 : x21_1 < (t197.length : Int) := DT
              obtain ⟨ad202, e202, hx202_0⟩ := Kd.at_bool (Kd.R_reads' HO_19.out).2.2 x21_1 p202 q202
              (try rw [← Nbq10.out] at hx202_0)
              cases e202
              replace p202 := eq_true p202
              replace q202 := eq_true q202
              go_wp2
              go_roundg k1
              case measure => have := HK1.out; omega
              case rel => exact ⟨(x9_1), (wrap64 (x21_1 + 1)), FR, FR, H', ⟨by have := HK1.out; omega⟩, ⟨(RR HO_19.out)⟩, ⟨(BB HB.out)⟩⟩
          · rw [if_neg c9] at H
            exact absurd H (by simp)
        · rw [if_neg c8] at H
          exact absurd H (by simp)
      · rw [if_neg c7] at H
        have c7b0 : decide (x21_1 < (t197.length : Int)) = false := decide_eq_false c7
        clear c7
        obtain rfl := Option.some.inj H
        go_wp2
        go_ret
        exact ⟨ER, (BB HB.out)⟩

end Go.Proofs.Ytfgnaneajonapaa.Pr

/- Printed out of the translation by this session's pr.py over the kit's print. Lean checks it. -/
namespace Go.Proofs.Ytfgnaneajonapaa.Pr
open Go.RowKit Go.Proofs.YtfgnaneajonapaaW.PrintWords Go.Proofs.YtfgnaneajonapaaW.PrintLast Go.Proofs.YtfgnaneajonapaaW.PrintMore
attribute [local go_sem] max2_int min2_int max_two min_two max_three min_three max_four min_four
set_option linter.unusedVariables false
set_option linter.unusedSimpArgs false

/-! ### spec_LeftOf: function 12 -/
def spec_LeftOf.l0 : Nat → List Bool → Int → Int → Option (Int)
  | 0, _, _, _ => none
  | k + 1, x8, x9, x10 => if x10 < (x8.length : Int) then (if 0 ≤ x10 then (if rdOf false x8 x10 = true then (spec_LeftOf.l0 k x8 (wrap64 (x9 + 1)) (wrap64 (x10 + 1))) else (spec_LeftOf.l0 k x8 x9 (wrap64 (x10 + 1)))) else (none)) else (some x9)
def spec_LeftOf.f (k : Nat) (l0 : List (S97)) (a1 : Int) (a2 : Int) : Option (Int) := (spec_UnitsOf.f k l0 a1 a2).bind fun bt134 => (spec_LeftOf.l0 k bt134.2 0 0)
set_option maxHeartbeats 8000000 in
set_option maxRecDepth 100000 in
theorem spec_LeftOf.calls (k : Nat) (A0 : Option Addr) (c0 : Nat) (l0 : List (S97)) (a1 : Int) (a2 : Int) (r : Int) (w : World) (hr0 : Kd.C k97 w A0 l0.length l0) (hc0 : l0.length ≤ c0) (h : spec_LeftOf.f k l0 a1 a2 = some r) :
    Calls Try.prog 12 #[.slice A0 l0.length c0, .int .i64 a1, .int .i64 a2] w fun e w' => e = .returned (.int .i64 r) ∧ Below w.heap.size w w' := by
  have HR0 := Aside0.mk hr0
  have HC0 := Aside0.mk hc0
  clear hr0 hc0
  have HB := Aside0.mk (Below.refl w.heap.size w)
  have H : ((spec_UnitsOf.f k l0 a1 a2).bind fun bt134 => (spec_LeftOf.l0 k bt134.2 0 0)) = some r := h
  clear h
  replace H := Option.bind_eq_some_iff.mp H
  obtain ⟨⟨t134, t135⟩, A40, H⟩ := H
  replace H : (spec_LeftOf.l0 k t135 0 0) = some r := H
  have A4 := Aside0.mk A40
  clear A40
  have H' := Aside0.mk H
  clear H
  go_enter Try.func12, Try.ntmps12
  go_wp2_with (first | ((with_reducible refine gate_callee (f := 16) rfl ?_); refine GL (some 15) rfl rfl Try.func16 #[.slice A0 l0.length c0, .int .i64 a1, .int .i64 a2] rfl ?_; (with_reducible refine (spec_UnitsOf.calls k _ _ l0 a1 a2 t134 t135 _ ?side1 ?side2 A4.out).mono ?_); (case side1 => exact CC HR0.out); (case side2 => exact HC0.out); rintro e w5 ⟨v136, v138, rfl, ho0, ho1, hb⟩; refine ⟨_, rfl, ?_⟩; have HO137 := Aside0.mk (Kd.R_lower ho0 (below_size (BB HB.out))); have HO139 := Aside0.mk (Kd.R_lower ho1 (below_size (BB HB.out))); replace HB := Aside0.mk (below_step (BB HB.out) hb); (try clear hb); (try clear ho0); (try clear ho1)))
  go_loopg [9, 10] k (fun kq v9 v10 w' => ∃ (x9_1 : Int) (x10_1 : Int), v9 = .int .i64 x9_1 ∧ v10 = .int .i64 x10_1 ∧ Aside0 (spec_LeftOf.l0 kq t135 x9_1 x10_1 = some r) ∧ Aside0 (kq ≤ k) ∧ Aside0 (Kd.R Kd.bool 4 w' w.heap.size (fun _ => True) v138 t135) ∧ Aside0 (Below w.heap.size w w'))
  case atStart => exact ⟨(0), (0), FR, FR, H', ⟨Nat.le_refl _⟩, ⟨(RR HO139.out)⟩, ⟨(BB HB.out)⟩⟩
  case round =>
    clear H'
    try clear c1
    try clear p2
    obtain ⟨x9_1, x10_1, rfl, rfl, HA, HK1, HO_8, HB⟩ := hrel
    cases gk with
    | zero => exact absurd HA.out (by simp [spec_LeftOf.l0])
    | succ k1 =>
      have H := HA.out
      clear HA
      simp only [spec_LeftOf.l0] at H
      by_cases c6 : x10_1 < (t135.length : Int)
      · rw [if_pos c6] at H
        have c6b0 : decide (x10_1 < (t135.length : Int)) = true := decide_eq_true c6
        clear c6
        by_cases c7 : 0 ≤ x10_1
        · rw [if_pos c7] at H
          have c7b0 : decide (0 ≤ x10_1) = true := decide_eq_true c7
          clear c7
          obtain ⟨bq8, hbq8⟩ : ∃ b_ : Bool, b_ = (rdOf false t135 x10_1) := ⟨_, rfl⟩
          replace H : (if bq8 = true then (spec_LeftOf.l0 k1 t135 (wrap64 (x9_1 + 1)) (wrap64 (x10_1 + 1))) else (spec_LeftOf.l0 k1 t135 x9_1 (wrap64 (x10_1 + 1)))) = some r := by rw [← hbq8] at H; exact H
          have Nbq8 := Aside0.mk hbq8
          clear hbq8
          by_cases c9 : bq8 = true
          · subst c9
            have H1 : (spec_LeftOf.l0 k1 t135 (wrap64 (x9_1 + 1)) (wrap64 (x10_1 + 1))) = some r := by rw [if_pos rfl] at H; exact H
            clear H
            have H := H1
            clear H1
            have H' := Aside0.mk H
            clear H
            obtain ⟨Ao10, co10, eo10⟩ := Kd.R_slice HO_8.out
            subst eo10
            have p140 : 0 ≤ (x10_1 : Int) := DT
            have q140 : x10_1 < (t135.length : Int) := DT
            obtain ⟨ad140, e140, hx140_0⟩ := Kd.at_bool (Kd.R_reads' HO_8.out).2.2 x10_1 p140 q140
            (try rw [← Nbq8.out] at hx140_0)
            cases e140
            replace p140 := eq_true p140
            replace q140 := eq_true q140
            go_wp2
            go_roundg k1
            case measure => have := HK1.out; omega
            case rel => exact ⟨(wrap64 (x9_1 + 1)), (wrap64 (x10_1 + 1)), FR, FR, H', ⟨by have := HK1.out; omega⟩, ⟨(RR HO_8.out)⟩, ⟨(BB HB.out)⟩⟩
          · replace c9 := Bool.eq_false_iff.mpr c9
            subst c9
            have H1 : (spec_LeftOf.l0 k1 t135 x9_1 (wrap64 (x10_1 + 1))) = some r := by rw [if_neg (show ¬ (false = true) by decide)] at H; exact H
            clear H
            have H := H1
            clear H1
            have H' := Aside0.mk H
            clear H
            obtain ⟨Ao11, co11, eo11⟩ := Kd.R_slice HO_8.out
            subst eo11
            have p140 : 0 ≤ (x10_1 : Int) := DT
            have q140 : x10_1 < (t135.length : Int) := DT
            obtain ⟨ad140, e140, hx140_0⟩ := Kd.at_bool (Kd.R_reads' HO_8.out).2.2 x10_1 p140 q140
            (try rw [← Nbq8.out] at hx140_0)
            cases e140
            replace p140 := eq_true p140
            replace q140 := eq_true q140
            go_wp2
            go_roundg k1
            case measure => have := HK1.out; omega
            case rel => exact ⟨(x9_1), (wrap64 (x10_1 + 1)), FR, FR, H', ⟨by have := HK1.out; omega⟩, ⟨(RR HO_8.out)⟩, ⟨(BB HB.out)⟩⟩
        · rw [if_neg c7] at H
          exact absurd H (by simp)
      · rw [if_neg c6] at H
        have c6b0 : decide (x10_1 < (t135.length : Int)) = false := decide_eq_false c6
        clear c6
        obtain rfl := Option.some.inj H
        obtain ⟨Ao12, co12, eo12⟩ := Kd.R_slice HO_8.out
        subst eo12
        go_wp2
        go_ret
        exact ⟨ER, (BB HB.out)⟩

end Go.Proofs.Ytfgnaneajonapaa.Pr

/- LeftOf: the program's and the reference's are one function of the hosts. -/
namespace Go.Proofs.Ytfgnaneajonapaa.Pu
open Go.RowKit Go.Proofs.YtfgnaneajonapaaW.PrintWords Go.Proofs.Ytfgnaneajonapaa.Pr Go.Proofs.Ytfgnaneajonapaa.Evs Go.Proofs.Ytfgnaneajonapaa.Lw
set_option linter.unusedVariables false

def trues : List Bool → Nat
  | [] => 0
  | b :: s => (if b = true then 1 else 0) + trues s
theorem trues_le (s : List Bool) : trues s ≤ s.length := by
  induction s with
  | nil => simp [trues]
  | cons b s ih => simp [trues]; split <;> omega
theorem spec_LeftOf_loop (s : List Bool) : ∀ (p : List Bool) (n : Int), 0 ≤ n → n + s.length < 9223372036854775807 → p.length + s.length < 9223372036854775807 → Ev (fun k => spec_LeftOf.l0 k (p ++ s) n (p.length : Int)) (n + (trues s : Int)) := by
  induction s with
  | nil => intro p n h0 h1 hl; exact ev_step (fun k => spec_LeftOf.l0.eq_2 _ _ _ k) (ev_neg (by simp) (ev_eq (ev_some _) (by simp [trues])))
  | cons x s ih =>
    intro p n h0 h1 hl
    simp at hl h1
    refine ev_step (fun k => spec_LeftOf.l0.eq_2 _ _ _ k) (ev_pos (by simp; omega) (ev_pos (by omega) ?_))
    have e : wrap64 ((p.length : Int) + 1) = (p.length : Int) + 1 := wrap_in (by omega) (by omega)
    have e1 : wrap64 (n + 1) = n + 1 := wrap_in (by omega) (by omega)
    have er : rdOf false (p ++ x :: s) (p.length : Int) = x := by unfold rdOf; exact getD_mid' _ _ _ _ _ rfl
    simp only [er, e, e1]
    by_cases c : x = true
    · refine ev_pos c (ev_eq (by simpa using ih (p ++ [x]) (n + 1) (by omega) (by omega) (by simp; omega)) ?_)
      simp [trues, c]; omega
    · refine ev_neg c (ev_eq (by simpa using ih (p ++ [x]) n (by omega) (by omega) (by simp; omega)) ?_)
      simp [trues, c]
theorem impl_LeftOf_loop (m : Int) (s : List Bool) : ∀ (p : List Bool) (n : Int), m = ((p ++ s).length : Int) → 0 ≤ n → n + s.length < 9223372036854775807 → p.length + s.length < 9223372036854775807 → Ev (fun k => impl_LeftOf.l0 k n (p ++ s) m (p.length : Int)) (n + (trues s : Int)) := by
  induction s with
  | nil => intro p n hm h0 h1 hl; exact ev_step (fun k => impl_LeftOf.l0.eq_2 _ _ _ _ k) (ev_neg (by simp at hm; omega) (ev_eq (ev_some _) (by simp [trues])))
  | cons x s ih =>
    intro p n hm h0 h1 hl
    simp at hl h1 hm
    refine ev_step (fun k => impl_LeftOf.l0.eq_2 _ _ _ _ k) (ev_pos (by omega) (ev_pos (by omega) (ev_pos (by simp; omega) ?_)))
    have e : wrap64 ((p.length : Int) + 1) = (p.length : Int) + 1 := wrap_in (by omega) (by omega)
    have e1 : wrap64 (n + 1) = n + 1 := wrap_in (by omega) (by omega)
    have er : rdOf false (p ++ x :: s) (p.length : Int) = x := by unfold rdOf; exact getD_mid' _ _ _ _ _ rfl
    simp only [er, e, e1]
    by_cases c : x = true
    · refine ev_pos c (ev_eq (by simpa using ih (p ++ [x]) (n + 1) (by simp; omega) (by omega) (by omega) (by simp; omega)) ?_)
      simp [trues, c]; omega
    · refine ev_neg c (ev_eq (by simpa using ih (p ++ [x]) n (by simp; omega) (by omega) (by omega) (by simp; omega)) ?_)
      simp [trues, c]
def leftOf (hs : List ImHost) (s g : Int) : Int := (trues (unitsOf hs s g).2 : Int)
theorem unitsOf_len (hs : List ImHost) (s g : Int) : (unitsOf hs s g).2.length ≤ 6 := by
  have := many_le s
  simp [unitsOf, fromU_length]
  omega
theorem impl_LeftOf_ev (hs : List ImHost) (hh : shortH hs) (s g : Int) : Ev (fun k => impl_LeftOf.f k hs s g) (leftOf hs s g) := by
  unfold impl_LeftOf.f
  refine ev_bind (impl_UnitsOf_ev hs hh s g) ?_
  have := unitsOf_len hs s g
  have h := impl_LeftOf_loop _ (unitsOf hs s g).2 [] 0 rfl (by omega) (by omega) (by simp; omega)
  simpa [leftOf] using h
theorem spec_LeftOf_ev (hs : List ImHost) (hh : shortH hs) (s g : Int) : Ev (fun k => spec_LeftOf.f k hs s g) (leftOf hs s g) := by
  unfold spec_LeftOf.f
  refine ev_bind (spec_UnitsOf_ev hs hh s g) ?_
  have := unitsOf_len hs s g
  have h := spec_LeftOf_loop (unitsOf hs s g).2 [] 0 (by omega) (by omega) (by simp; omega)
  simpa [leftOf] using h
theorem short_bd {hs : List ImHost} (h : hs.length ≤ 1048576) (h' : ∀ x ∈ hs, bdHost x) : shortH hs :=
  ⟨by omega, fun x hx => ⟨by have := (h' x hx).1; omega, fun u hu => by have := (h' x hx).2 u hu; unfold bdUnit at this; omega⟩⟩
theorem short_to (l : List LHost) (h : wtHostS l ≤ 1048576) : shortH (l.map toHost) := short_bd (bd_toHostS l h).1 (bd_toHostS l h).2
theorem ln_to (l : List LHost) (h : wtHostS l ≤ 1048576) : ∀ x ∈ l.map toHost, lnHost x := fun x hx => ln_bdHost ((bd_toHostS l h).2 x hx)
end Go.Proofs.Ytfgnaneajonapaa.Pu

/- Printed out of the translation by this session's pr.py over the kit's print. Lean checks it. -/
namespace Go.Proofs.Ytfgnaneajonapaa.Pr
open Go.RowKit Go.Proofs.YtfgnaneajonapaaW.PrintWords Go.Proofs.YtfgnaneajonapaaW.PrintLast Go.Proofs.YtfgnaneajonapaaW.PrintMore
attribute [local go_sem] max2_int min2_int max_two min_two max_three min_three max_four min_four
set_option linter.unusedVariables false
set_option linter.unusedSimpArgs false

/-! ### laws_eqStringS: function 18 -/
def laws_eqStringS.l0 : Nat → List ByteArray → List ByteArray → Int → Option (Bool)
  | 0, _, _, _ => none
  | k + 1, x0, x1, x5 => if x5 < (x0.length : Int) then (if 0 ≤ x5 then (if x5 < (x1.length : Int) then (if (rdOf ByteArray.empty x0 x5).toList = (rdOf ByteArray.empty x1 x5).toList then (laws_eqStringS.l0 k x0 x1 (wrap64 (x5 + 1))) else (some false)) else (none)) else (none)) else (some true)
def laws_eqStringS.f (k : Nat) (l0 : List ByteArray) (l1 : List ByteArray) : Option (Bool) := if (l0.length : Int) = (l1.length : Int) then (laws_eqStringS.l0 k l0 l1 0) else (some false)
set_option maxHeartbeats 8000000 in
set_option maxRecDepth 100000 in
theorem laws_eqStringS.calls (k : Nat) (A0 : Option Addr) (c0 : Nat) (l0 : List ByteArray) (A1 : Option Addr) (c1 : Nat) (l1 : List ByteArray) (r : Bool) (w : World) (hr0 : Kd.C Kd.string w A0 l0.length l0) (hc0 : l0.length ≤ c0) (hr1 : Kd.C Kd.string w A1 l1.length l1) (hc1 : l1.length ≤ c1) (h : laws_eqStringS.f k l0 l1 = some r) (hr_ : Aside0 (r = true) := by exact ⟨rfl⟩) :
    Calls Try.prog 18 #[.slice A0 l0.length c0, .slice A1 l1.length c1] w fun e w' => e = .returned (.bool r) ∧ Drawn0 w w' := by
  have HR0 := Aside0.mk hr0
  have HC0 := Aside0.mk hc0
  clear hr0 hc0
  have HR1 := Aside0.mk hr1
  have HC1 := Aside0.mk hc1
  clear hr1 hc1
  have H : (if (l0.length : Int) = (l1.length : Int) then (laws_eqStringS.l0 k l0 l1 0) else (some false)) = some r := h
  clear h
  by_cases c3 : (l0.length : Int) = (l1.length : Int)
  · rw [if_pos c3] at H
    have c3b0 : ((l0.length : Int) == (l1.length : Int)) = true := beq_iff_eq.mpr c3
    have c3b1 : ((l0.length : Int) != (l1.length : Int)) = false := bne_eq_false_iff_eq.mpr c3
    have c3b2 : (l0.length == l1.length) = true := by first | simpa using c3 | (simp at c3 ⊢; omega)
    clear c3
    have H' := Aside0.mk H
    clear H
    go_enter Try.func18, Try.ntmps18
    go_wp2
    repeat (go_quiet (fail); try go_wp2)
    go_loopg [5] k (fun kq v5 w' => ∃ (x5_1 : Int), v5 = .int .i64 x5_1 ∧ Aside0 (laws_eqStringS.l0 kq l0 l1 x5_1 = some r) ∧ Aside0 (kq ≤ k) ∧ Drawn0 w w')
    case atStart => exact ⟨(0), FR, H', ⟨Nat.le_refl _⟩, by repeat (first | exact Drawn0.refl _ | apply Drawn0.step)⟩
    case round =>
      clear H'
      try clear c1
      try clear p2
      try clear c3
      try clear c3b0
      try clear c3b1
      try clear c3b2
      obtain ⟨x5_1, rfl, HA, HK1, ⟨m1, rfl⟩⟩ := hrel
      cases gk with
      | zero => exact absurd HA.out (by simp [laws_eqStringS.l0])
      | succ k1 =>
        have H := HA.out
        clear HA
        simp only [laws_eqStringS.l0] at H
        by_cases c4 : x5_1 < (l0.length : Int)
        · rw [if_pos c4] at H
          have c4b0 : decide (x5_1 < (l0.length : Int)) = true := decide_eq_true c4
          clear c4
          by_cases c5 : 0 ≤ x5_1
          · rw [if_pos c5] at H
            have c5b0 : decide (0 ≤ x5_1) = true := decide_eq_true c5
            clear c5
            by_cases c6 : x5_1 < (l1.length : Int)
            · rw [if_pos c6] at H
              have c6b0 : decide (x5_1 < (l1.length : Int)) = true := decide_eq_true c6
              clear c6
              by_cases c7 : (rdOf ByteArray.empty l0 x5_1).toList = (rdOf ByteArray.empty l1 x5_1).toList
              · rw [if_pos c7] at H
                have c7b0 : ((rdOf ByteArray.empty l0 x5_1).toList == (rdOf ByteArray.empty l1 x5_1).toList) = true := beq_iff_eq.mpr c7
                have c7b1 : ((rdOf ByteArray.empty l0 x5_1).toList != (rdOf ByteArray.empty l1 x5_1).toList) = false := bne_eq_false_iff_eq.mpr c7
                clear c7
                have H' := Aside0.mk H
                clear H
                have p227 : 0 ≤ (x5_1 : Int) := DT
                have q227 : x5_1 < (l0.length : Int) := DT
                obtain ⟨ad227, e227, hx227_0⟩ := Kd.at_string HR0.out x5_1 p227 q227
                cases e227
                replace p227 := eq_true p227
                replace q227 := eq_true q227
                have p228 : 0 ≤ (x5_1 : Int) := DT
                have q228 : x5_1 < (l1.length : Int) := DT
                obtain ⟨ad228, e228, hx228_0⟩ := Kd.at_string HR1.out x5_1 p228 q228
                cases e228
                replace p228 := eq_true p228
                replace q228 := eq_true q228
                go_wp2
                repeat (go_quiet (fail); try go_wp2)
                go_roundg k1
                case measure => have := HK1.out; omega
                case rel => exact ⟨(wrap64 (x5_1 + 1)), FR, H', ⟨by have := HK1.out; omega⟩, by repeat (first | exact Drawn0.refl _ | apply Drawn0.step)⟩
              · rw [if_neg c7] at H
                have c7b0 : ((rdOf ByteArray.empty l0 x5_1).toList == (rdOf ByteArray.empty l1 x5_1).toList) = false := beq_eq_false_iff_ne.mpr c7
                have c7b1 : ((rdOf ByteArray.empty l0 x5_1).toList != (rdOf ByteArray.empty l1 x5_1).toList) = true := bne_iff_ne.mpr c7
                exact absurd ((Option.some.inj H).trans hr_.out) (by decide)
            · rw [if_neg c6] at H
              exact absurd H (by simp)
          · rw [if_neg c5] at H
            exact absurd H (by simp)
        · rw [if_neg c4] at H
          have c4b0 : decide (x5_1 < (l0.length : Int)) = false := decide_eq_false c4
          clear c4
          obtain rfl := Option.some.inj H
          go_wp2
          repeat (go_quiet (fail); try go_wp2)
          go_ret
          exact ⟨FR, by repeat (first | exact Drawn0.refl _ | apply Drawn0.step)⟩
  · rw [if_neg c3] at H
    have c3b0 : ((l0.length : Int) == (l1.length : Int)) = false := beq_eq_false_iff_ne.mpr c3
    have c3b1 : ((l0.length : Int) != (l1.length : Int)) = true := bne_iff_ne.mpr c3
    have c3b2 : (l0.length == l1.length) = false := by first | simpa using c3 | (simp at c3 ⊢; omega)
    exact absurd ((Option.some.inj H).trans hr_.out) (by decide)

end Go.Proofs.Ytfgnaneajonapaa.Pr

/- Printed out of the translation by this session's pr.py over the kit's print. Lean checks it. -/
namespace Go.Proofs.Ytfgnaneajonapaa.Pr
open Go.RowKit Go.Proofs.YtfgnaneajonapaaW.PrintWords Go.Proofs.YtfgnaneajonapaaW.PrintLast Go.Proofs.YtfgnaneajonapaaW.PrintMore
attribute [local go_sem] max2_int min2_int max_two min_two max_three min_three max_four min_four
set_option linter.unusedVariables false
set_option linter.unusedSimpArgs false

/-! ### laws_szStringS: function 96 -/
def laws_szStringS.l0 : Nat → List ByteArray → Int → Int → Option (Int)
  | 0, _, _, _ => none
  | k + 1, x0, x1, x5 => if x5 < (x0.length : Int) then (if 0 ≤ x5 then (if (wrap64 (x1 - ((rdOf ByteArray.empty x0 x5).size : Int))) < 0 then (some (-1)) else (laws_szStringS.l0 k x0 (wrap64 (x1 - ((rdOf ByteArray.empty x0 x5).size : Int))) (wrap64 (x5 + 1)))) else (none)) else (some x1)
def laws_szStringS.f (k : Nat) (l0 : List ByteArray) (a1 : Int) : Option (Int) := if (wrap64 (a1 - (l0.length : Int))) < 0 then (some (-1)) else (laws_szStringS.l0 k l0 (wrap64 (a1 - (l0.length : Int))) 0)
set_option maxHeartbeats 8000000 in
set_option maxRecDepth 100000 in
theorem laws_szStringS.calls (k : Nat) (A0 : Option Addr) (c0 : Nat) (l0 : List ByteArray) (a1 : Int) (r : Int) (w : World) (hr0 : Kd.C Kd.string w A0 l0.length l0) (hc0 : l0.length ≤ c0) (h : laws_szStringS.f k l0 a1 = some r) :
    Calls Try.prog 96 #[.slice A0 l0.length c0, .int .i64 a1] w fun e w' => e = .returned (.int .i64 r) ∧ Drawn0 w w' := by
  have HR0 := Aside0.mk hr0
  have HC0 := Aside0.mk hc0
  clear hr0 hc0
  have H : (if (wrap64 (a1 - (l0.length : Int))) < 0 then (some (-1)) else (laws_szStringS.l0 k l0 (wrap64 (a1 - (l0.length : Int))) 0)) = some r := h
  clear h
  by_cases c3 : (wrap64 (a1 - (l0.length : Int))) < 0
  · rw [if_pos c3] at H
    have c3b0 : decide ((wrap64 (a1 - (l0.length : Int))) < 0) = true := decide_eq_true c3
    clear c3
    obtain rfl := Option.some.inj H
    go_enter Try.func96, Try.ntmps96
    go_wp2
    go_ret
    exact ⟨FR, by repeat (first | exact Drawn0.refl _ | apply Drawn0.step)⟩
  · rw [if_neg c3] at H
    have c3b0 : decide ((wrap64 (a1 - (l0.length : Int))) < 0) = false := decide_eq_false c3
    clear c3
    have H' := Aside0.mk H
    clear H
    go_enter Try.func96, Try.ntmps96
    go_wp2
    go_loopg [1, 5] k (fun kq v1 v5 w' => ∃ (x1_1 : Int) (x5_1 : Int), v1 = .int .i64 x1_1 ∧ v5 = .int .i64 x5_1 ∧ Aside0 (laws_szStringS.l0 kq l0 x1_1 x5_1 = some r) ∧ Aside0 (kq ≤ k) ∧ Drawn0 w w')
    case atStart => exact ⟨(wrap64 (a1 - (l0.length : Int))), (0), FR, FR, H', ⟨Nat.le_refl _⟩, by repeat (first | exact Drawn0.refl _ | apply Drawn0.step)⟩
    case round =>
      clear H'
      try clear p2
      try clear c3
      try clear c3b0
      obtain ⟨x1_1, x5_1, rfl, rfl, HA, HK1, ⟨m1, rfl⟩⟩ := hrel
      cases gk with
      | zero => exact absurd HA.out (by simp [laws_szStringS.l0])
      | succ k1 =>
        have H := HA.out
        clear HA
        simp only [laws_szStringS.l0] at H
        by_cases c4 : x5_1 < (l0.length : Int)
        · rw [if_pos c4] at H
          have c4b0 : decide (x5_1 < (l0.length : Int)) = true := decide_eq_true c4
          clear c4
          by_cases c5 : 0 ≤ x5_1
          · rw [if_pos c5] at H
            have c5b0 : decide (0 ≤ x5_1) = true := decide_eq_true c5
            clear c5
            by_cases c6 : (wrap64 (x1_1 - ((rdOf ByteArray.empty l0 x5_1).size : Int))) < 0
            · rw [if_pos c6] at H
              have c6b0 : decide ((wrap64 (x1_1 - ((rdOf ByteArray.empty l0 x5_1).size : Int))) < 0) = true := decide_eq_true c6
              clear c6
              obtain rfl := Option.some.inj H
              have p1051 : 0 ≤ (x5_1 : Int) := DT
              have q1051 : x5_1 < (l0.length : Int) := DT
              obtain ⟨ad1051, e1051, hx1051_0⟩ := Kd.at_string HR0.out x5_1 p1051 q1051
              cases e1051
              replace p1051 := eq_true p1051
              replace q1051 := eq_true q1051
              go_wp2
              go_ret
              exact ⟨FR, by repeat (first | exact Drawn0.refl _ | apply Drawn0.step)⟩
            · rw [if_neg c6] at H
              have c6b0 : decide ((wrap64 (x1_1 - ((rdOf ByteArray.empty l0 x5_1).size : Int))) < 0) = false := decide_eq_false c6
              clear c6
              have H' := Aside0.mk H
              clear H
              have p1051 : 0 ≤ (x5_1 : Int) := DT
              have q1051 : x5_1 < (l0.length : Int) := DT
              obtain ⟨ad1051, e1051, hx1051_0⟩ := Kd.at_string HR0.out x5_1 p1051 q1051
              cases e1051
              replace p1051 := eq_true p1051
              replace q1051 := eq_true q1051
              go_wp2
              go_roundg k1
              case measure => have := HK1.out; omega
              case rel => exact ⟨(wrap64 (x1_1 - ((rdOf ByteArray.empty l0 x5_1).size : Int))), (wrap64 (x5_1 + 1)), FR, FR, H', ⟨by have := HK1.out; omega⟩, by repeat (first | exact Drawn0.refl _ | apply Drawn0.step)⟩
          · rw [if_neg c5] at H
            exact absurd H (by simp)
        · rw [if_neg c4] at H
          have c4b0 : decide (x5_1 < (l0.length : Int)) = false := decide_eq_false c4
          clear c4
          obtain rfl := Option.some.inj H
          go_wp2
          go_ret
          exact ⟨FR, by repeat (first | exact Drawn0.refl _ | apply Drawn0.step)⟩

end Go.Proofs.Ytfgnaneajonapaa.Pr

/- Printed out of the translation by this session's pr.py over the kit's print. Lean checks it. -/
namespace Go.Proofs.Ytfgnaneajonapaa.Pr
open Go.RowKit Go.Proofs.YtfgnaneajonapaaW.PrintWords Go.Proofs.YtfgnaneajonapaaW.PrintLast Go.Proofs.YtfgnaneajonapaaW.PrintMore
attribute [local go_sem] max2_int min2_int max_two min_two max_three min_three max_four min_four
set_option linter.unusedVariables false
set_option linter.unusedSimpArgs false

/-! ### laws_toStringS: function 99 -/
def laws_toStringS.l0 : Nat → List ByteArray → List ByteArray → Int → Option (List ByteArray)
  | 0, _, _, _ => none
  | k + 1, x0, x3, x4 => if x4 < (x0.length : Int) then (if 0 ≤ x4 then (if x4 < (x3.length : Int) then (laws_toStringS.l0 k x0 (x3.set (x4 : Int).toNat (rdOf ByteArray.empty x0 x4)) (wrap64 (x4 + 1))) else (none)) else (none)) else (some x3)
def laws_toStringS.f (k : Nat) (l0 : List ByteArray) : Option (List ByteArray) := if 0 ≤ (l0.length : Int) then (if ((l0.length : Int) : Int).toNat ≤ 17592186044416 then (laws_toStringS.l0 k l0 (List.replicate ((l0.length : Int) : Int).toNat (⟨#[]⟩ : ByteArray)) 0) else (none)) else (none)
set_option maxHeartbeats 8000000 in
set_option maxRecDepth 100000 in
theorem laws_toStringS.calls (k : Nat) (A0 : Option Addr) (c0 : Nat) (l0 : List ByteArray) (r : List ByteArray) (w : World) (hr0 : Kd.C Kd.string w A0 l0.length l0) (hc0 : l0.length ≤ c0) (h : laws_toStringS.f k l0 = some r) :
    Calls Try.prog 99 #[.slice A0 l0.length c0] w fun e w' => ∃ v0_ : Value, e = .returned (v0_) ∧ Kd.R Kd.string 9 w' w.heap.size (fun _ => True) v0_ r ∧ Below w.heap.size w w' := by
  have HR0 := Aside0.mk hr0
  have HC0 := Aside0.mk hc0
  clear hr0 hc0
  have HB := Aside0.mk (Below.refl w.heap.size w)
  have H : (if 0 ≤ (l0.length : Int) then (if ((l0.length : Int) : Int).toNat ≤ 17592186044416 then (laws_toStringS.l0 k l0 (List.replicate ((l0.length : Int) : Int).toNat (⟨#[]⟩ : ByteArray)) 0) else (none)) else (none)) = some r := h
  clear h
  by_cases c2 : 0 ≤ (l0.length : Int)
  · rw [if_pos c2] at H
    have c2b0 := eq_true c2
    have c2b1 : decide (0 ≤ (l0.length : Int)) = true := decide_eq_true c2
    clear c2
    by_cases c3 : ((l0.length : Int) : Int).toNat ≤ 17592186044416
    · rw [if_pos c3] at H
      have c3b0 := eq_true c3
      have c3b1 : decide (((l0.length : Int) : Int).toNat ≤ 17592186044416) = true := decide_eq_true c3
      clear c3
      obtain ⟨y1077, hy1077⟩ : ∃ y_ : List ByteArray, y_ = (List.replicate ((l0.length : Int) : Int).toNat (⟨#[]⟩ : ByteArray)) := ⟨_, rfl⟩
      replace H : (laws_toStringS.l0 k l0 y1077 0) = some r := by first | (rw [hy1077]; with_reducible exact H) | (have H2_ := (Option.bind_some _ _).symm.trans H; rw [hy1077]; with_reducible exact H2_) | (have H2_ := (Option.bind_some _ _).symm.trans H; with_reducible exact H2_) | with_reducible exact H | (rw [hy1077]; exact H) | exact H
      have Ny1077 := Aside0.mk hy1077
      clear hy1077
      have H' := Aside0.mk H
      clear H
      go_enter Try.func99, Try.ntmps99
      go_wp2_with (first | ((with_reducible refine gate_dst (N := 7) rfl ?_); refine Kd.R_make Kd.string _ 9 rfl (N := 7) rfl 29 _ _ rfl (l0.length : Int) rfl rfl Try.underlying29 (.string ⟨#[]⟩) 16 info9 rfl (by decide) (by omega) (⟨#[]⟩ : ByteArray) (ok := fun _ => True) (okp := fun _ => True) rfl (fun _ hk => hk) trivial DT (Nat.le_trans (Nat.mul_le_mul_right _ (DT : (l0.length : Int).toNat ≤ 17592186044416)) (by omega)) (Below.refl _ _) (Nat.le_refl _) ?_; intro v1078 w4 ho5 hb hg_ hnew_; clear hg_ hnew_; (first | rw [← Ny1077.out] at ho5 | (simp only [Int.reduceToNat] at ho5; rw [← Ny1077.out] at ho5)); have HO1079 := Aside0.mk (Kd.R_lower ho5 (below_size (BB HB.out))); replace HB := Aside0.mk (below_step (BB HB.out) hb); clear hb ho5))
      go_loopg [4] k (fun kq v4 w' => ∃ (x3_1 : List ByteArray) (x4_1 : Int), v4 = .int .i64 x4_1 ∧ Aside0 (laws_toStringS.l0 kq l0 x3_1 x4_1 = some r) ∧ Aside0 (kq ≤ k) ∧ Aside0 (Kd.R Kd.string 9 w' w.heap.size (fun _ => True) v1078 x3_1) ∧ Aside0 (Below w.heap.size w w'))
      case atStart => exact ⟨(y1077), (0), FR, H', ⟨Nat.le_refl _⟩, ⟨(RR HO1079.out)⟩, ⟨(BB HB.out)⟩⟩
      case round =>
        clear H'
        try clear c2
        try clear c2b0
        try clear c2b1
        try clear p2
        try clear c3
        try clear c3b0
        try clear c3b1
        obtain ⟨x3_1, x4_1, rfl, HA, HK1, HO_3, HB⟩ := hrel
        cases gk with
        | zero => exact absurd HA.out (by simp [laws_toStringS.l0])
        | succ k1 =>
          have H := HA.out
          clear HA
          simp only [laws_toStringS.l0] at H
          by_cases c6 : x4_1 < (l0.length : Int)
          · rw [if_pos c6] at H
            have c6b0 : decide (x4_1 < (l0.length : Int)) = true := decide_eq_true c6
            clear c6
            by_cases c7 : 0 ≤ x4_1
            · rw [if_pos c7] at H
              have c7b0 : decide (0 ≤ x4_1) = true := decide_eq_true c7
              clear c7
              by_cases c8 : x4_1 < (x3_1.length : Int)
              · rw [if_pos c8] at H
                have c8b0 : decide (x4_1 < (x3_1.length : Int)) = true := decide_eq_true c8
                clear c8
                obtain ⟨y1081, hy1081⟩ : ∃ y_ : List ByteArray, y_ = (x3_1.set (x4_1 : Int).toNat (rdOf ByteArray.empty l0 x4_1)) := ⟨_, rfl⟩
                replace H : (laws_toStringS.l0 k1 l0 y1081 (wrap64 (x4_1 + 1))) = some r := by first | (rw [hy1081]; with_reducible exact H) | (have H2_ := (Option.bind_some _ _).symm.trans H; rw [hy1081]; with_reducible exact H2_) | (have H2_ := (Option.bind_some _ _).symm.trans H; with_reducible exact H2_) | with_reducible exact H | (rw [hy1081]; exact H) | exact H
                have Ny1081 := Aside0.mk hy1081
                clear hy1081
                have H' := Aside0.mk H
                clear H
                have p1080 : 0 ≤ (x4_1 : Int) := DT
                have q1080 : x4_1 < (l0.length : Int) := DT
                obtain ⟨ad1080, e1080, hx1080_0⟩ := Kd.at_string HR0.out x4_1 p1080 q1080
                cases e1080
                replace hx1080_0 := (HB.out.cell (World.block_lt_of_cell? w _ hx1080_0)).trans hx1080_0
                replace p1080 := eq_true p1080
                replace q1080 := eq_true q1080
                have p9 : 0 ≤ (x4_1 : Int) := DT
                have q9 : (x4_1 : Int) < ((x3_1.length : Int) : Int) := DT
                obtain ⟨go9, co9, eo9, gb9, gl9, cl9, HG9⟩ := Kd.R_form HO_3.out (by omega)
                (first | cases eo9 | (injection eo9 with ea_ en_ ec_; (first | subst ea_ | (injection ea_ with ea_; subst ea_)); subst ec_; clear en_))
                have GB9 := Aside0.mk gb9
                have GG9 := Aside0.mk HG9
                clear gb9 gl9 HG9
                obtain ⟨hx9_0, hf9_0⟩ := Kd.R_celln (⟨#[]⟩ : ByteArray) HO_3.out (x4_1 : Int) p9 q9
                replace p9 := eq_true p9
                replace q9 := eq_true q9
                have HP10 := Kd.R_putg HO_3.out (x4_1 : Int) (rdOf ByteArray.empty l0 x4_1)
                go_wp2_with (first | ((with_reducible refine gate_store (t := 9) (p := 20) rfl ?_); refine store_event (t := 9) (p := 20) (v := ?vo_w11) (w1 := (wr.setCell ⟨go9, (x4_1 : Int).toNat, none⟩ (.string (rdOf ByteArray.empty l0 x4_1)))) ?hg ?ho ?hn ?hr ?_; (case ho => rfl); (case hg => rfl); (case hn => rfl); (case hr => first | (go_simp; done) | (go_simp; rfl)); intro w11 hw; have hg : wr.grownBy w11 (some go9) := (by rw [hw]; exact HP10.2); have hp_ : Kd.R Kd.string 9 w11 w.heap.size (fun _ => True) (.slice (some ⟨go9, 0, none⟩) x3_1.length co9) y1081 := (by rw [hw, Ny1081.out]; exact HP10.1); clear HP10; have n0_ := Aside0.mk (hp_); have n1_ := Aside0.mk ((by rw [hw]; exact below_set (HB.out) GB9.out : Below w.heap.size w w11)); clear HO_3; clear HB; have HO_3 := n0_; have HB := n1_; clear n0_ n1_; clear hg hw hp_))
                go_roundg k1
                case measure => have := HK1.out; omega
                case rel => exact ⟨(y1081), (wrap64 (x4_1 + 1)), FR, H', ⟨by have := HK1.out; omega⟩, ⟨(RR HO_3.out)⟩, ⟨(BB HB.out)⟩⟩
              · rw [if_neg c8] at H
                exact absurd H (by simp)
            · rw [if_neg c7] at H
              exact absurd H (by simp)
          · rw [if_neg c6] at H
            have c6b0 : decide (x4_1 < (l0.length : Int)) = false := decide_eq_false c6
            clear c6
            obtain rfl := Option.some.inj H
            go_wp2
            go_ret
            exact ⟨_, ER, by (with_reducible repeat (first | apply Kd.R_alloc | apply Kd.R_drewN | apply Kd.R_drew)); exact HO_3.out, (BB HB.out)⟩
    · rw [if_neg c3] at H
      exact absurd H (by simp)
  · rw [if_neg c2] at H
    exact absurd H (by simp)

end Go.Proofs.Ytfgnaneajonapaa.Pr

/- Generated by plumb.py: the laws' helpers of a type, told as plain functions. -/
namespace Go.Proofs.Ytfgnaneajonapaa.Lw
open Go.RowKit Go.Proofs.YtfgnaneajonapaaW.PrintWords Go.Proofs.Ytfgnaneajonapaa.Pr Go.Proofs.Ytfgnaneajonapaa.Evs
set_option linter.unusedVariables false
theorem rdString (p s : List ByteArray) (x : ByteArray) : rdOf ByteArray.empty (p ++ x :: s) (p.length : Int) = x := by unfold rdOf; exact getD_mid' p s x _ _ rfl
def wtStringS : List ByteArray → Nat
  | [] => 0
  | x :: s => 1 + x.size + wtStringS s
theorem wtStringS_len (l : List ByteArray) : l.length ≤ wtStringS l := by
  induction l with
  | nil => simp
  | cons x s ih => simp [wtStringS]; omega
theorem bd_toStringS (l : List ByteArray) (h : wtStringS l ≤ 1048576) : l.length ≤ 1048576 ∧ ∀ y ∈ l, y.size ≤ 1048576 := by
  refine ⟨by have := wtStringS_len l; omega, ?_⟩
  induction l with
  | nil => intro y hy; cases hy
  | cons x s ih =>
    simp only [wtStringS] at h
    intro y hy
    rcases List.mem_cons.1 hy with rfl | hy
    · omega
    · exact ih (by omega) y hy
theorem szStringS_loop (s : List ByteArray) : ∀ (p : List ByteArray) (left : Int), 0 ≤ left → left + s.length ≤ 1048576 → p.length + s.length ≤ maxLen → (∀ x ∈ s, x.size ≤ maxLen) →
    SzEv (fun k => laws_szStringS.l0 k (p ++ s) left (p.length : Int)) (left + s.length) (wtStringS s) := by
  induction s with
  | nil =>
    intro p left h0 h1 hl ho
    exact sz_step (fun k => laws_szStringS.l0.eq_2 _ _ _ k) (sz_neg (by simp) (by simpa [wtStringS] using sz_done h0))
  | cons x s ih =>
    intro p left h0 h1 hl ho
    unfold maxLen at hl
    simp at h1 hl
    have hx := ho x (by simp)
    unfold maxLen at hx
    refine sz_step (fun k => laws_szStringS.l0.eq_2 _ _ _ k) (sz_pos (by simp; omega) (sz_pos (by omega) ?_))
    simp only [rdString, wrap_succ (show (0 : Int) ≤ (p.length : Int) by omega) (by omega), wrap_in (i := left - (x.size : Int)) (by omega) (by omega)]
    have h := sz_str (left := left) (n := (x.size : Int)) (G := fun k => laws_szStringS.l0 k (p ++ x :: s) (left - (x.size : Int)) ((p.length : Int) + 1)) (w2 := ((wtStringS s : Nat) : Int) - s.length) (fun hl0 => by
      obtain ⟨r, hE, hr⟩ := ih (p ++ [x]) (left - (x.size : Int)) (by omega) (by omega) (by simp; unfold maxLen; omega) (fun y hy => ho y (by simp [hy]))
      exact ⟨r, by simpa using hE, by omega⟩)
    obtain ⟨r, hE, hr⟩ := h
    refine ⟨r, hE, ?_⟩
    simp [wtStringS]
    omega
theorem szStringS_ev (l : List ByteArray) (hl : l.length ≤ maxLen) (ho : ∀ x ∈ l, x.size ≤ maxLen) (left : Int) (h0 : 0 ≤ left) (h1 : left ≤ 1048576) : SzEv (fun k => laws_szStringS.f k l left) left (wtStringS l) := by
  unfold laws_szStringS.f
  unfold maxLen at hl
  have e : wrap64 (left - (l.length : Int)) = left - l.length := wrap_in (by omega) (by omega)
  rw [e]
  refine sz_eq (sz_str (w2 := ((wtStringS l : Nat) : Int) - l.length) (fun g => ?_)) (by omega)
  obtain ⟨r, hE, hr⟩ := szStringS_loop l [] (left - l.length) g (by omega) (by simp; unfold maxLen; omega) ho
  exact ⟨r, by simpa using hE, by omega⟩
theorem toStringS_loop (s : List ByteArray) : ∀ (p : List ByteArray), p.length + s.length < 9223372036854775807 →
    Ev (fun k => laws_toStringS.l0 k (p ++ s) (p ++ List.replicate s.length (⟨#[]⟩ : ByteArray)) (p.length : Int)) (p ++ s) := by
  induction s with
  | nil => intro p hl; exact ev_step (fun k => laws_toStringS.l0.eq_2 _ _ _ k) (ev_neg (by simp) (ev_eq (ev_some _) (by simp)))
  | cons x s ih =>
    intro p hl
    simp at hl
    refine ev_step (fun k => laws_toStringS.l0.eq_2 _ _ _ k) (ev_pos (by simp; omega) (ev_pos (by omega) (ev_pos (by simp; omega) ?_)))
    rw [wrap_succ (by omega) (by omega)]
    have h := ih (p ++ [x]) (by simp; omega)
    have e : (p ++ List.replicate (x :: s).length (⟨#[]⟩ : ByteArray)).set ((p.length : Int)).toNat x = (p ++ [x]) ++ List.replicate s.length (⟨#[]⟩ : ByteArray) := by
      rw [List.length_cons, List.replicate_succ, set_mid _ _ _ _ _ rfl]
      simp
    simp only [rdString, e]
    simpa using h
theorem toStringS_ev (l : List ByteArray) (hl : wtStringS l ≤ 1048576) : Ev (fun k => laws_toStringS.f k l) l := by
  have hw := wtStringS_len l
  unfold laws_toStringS.f
  refine ev_pos (by omega) (ev_pos (by omega) ?_)
  have h := toStringS_loop l [] (by simp; omega)
  simpa using h
theorem eqStringS_loop (s : List ByteArray) : ∀ (p : List ByteArray), p.length + s.length < 9223372036854775807 → Ev (fun k => laws_eqStringS.l0 k (p ++ s) (p ++ s) (p.length : Int)) true := by
  induction s with
  | nil => intro p hl; exact ev_step (fun k => laws_eqStringS.l0.eq_2 _ _ _ k) (ev_neg (by simp) (ev_some _))
  | cons x s ih =>
    intro p hl
    simp at hl
    refine ev_step (fun k => laws_eqStringS.l0.eq_2 _ _ _ k) (ev_pos (by simp; omega) (ev_pos (by omega) (ev_pos (by simp; omega) ?_)))
    refine ev_pos (by first | rfl | simp) ?_
    rw [wrap_succ (by omega) (by omega)]
    simpa using ih (p ++ [x]) (by simp; omega)
theorem eqStringS_ev (l : List ByteArray) (hl : l.length < 9223372036854775807) : Ev (fun k => laws_eqStringS.f k l l) true := by
  unfold laws_eqStringS.f
  refine ev_pos rfl ?_
  simpa using eqStringS_loop l [] (by simp; omega)
end Go.Proofs.Ytfgnaneajonapaa.Lw

/- Printed out of the translation by this session's pr.py over the kit's print. Lean checks it. -/
namespace Go.Proofs.Ytfgnaneajonapaa.Pr
open Go.RowKit Go.Proofs.YtfgnaneajonapaaW.PrintWords Go.Proofs.YtfgnaneajonapaaW.PrintLast Go.Proofs.YtfgnaneajonapaaW.PrintMore
attribute [local go_sem] max2_int min2_int max_two min_two max_three min_three max_four min_four
set_option linter.unusedVariables false
set_option linter.unusedSimpArgs false

/-! ### laws_markText: function 60 -/
def laws_markText.l0 : Nat → Int → ByteArray → Option (ByteArray)
  | 0, _, _ => none
  | k + 1, x0, x3 => if x0 > 0 then ((some (([(wrap64 (48 + (Int.tmod x0 10))) % 256] : List Int) : List Int)).bind fun y231 => (if (strOfNums y231).size + x3.size ≤ 9223372036854775807 then (laws_markText.l0 k (wrap64 (Int.tdiv x0 10)) ((strOfNums y231) ++ x3)) else (none))) else (if 1 + x3.size ≤ 9223372036854775807 then (some ((⟨#[109]⟩ : ByteArray) ++ x3)) else (none))
def laws_markText.f (k : Nat) (a0 : Int) : Option (ByteArray) := if a0 ≤ 0 then (some (⟨#[109, 48]⟩ : ByteArray)) else (laws_markText.l0 k a0 (⟨#[]⟩ : ByteArray))
set_option maxHeartbeats 8000000 in
set_option maxRecDepth 100000 in
theorem laws_markText.calls (k : Nat) (a0 : Int) (r : ByteArray) (w : World) (h : laws_markText.f k a0 = some r) :
    Calls Try.prog 60 #[.int .i64 a0] w fun e w' => e = .returned (.string r) ∧ Below w.heap.size w w' := by
  have HB := Aside0.mk (Below.refl w.heap.size w)
  have H : (if a0 ≤ 0 then (some (⟨#[109, 48]⟩ : ByteArray)) else (laws_markText.l0 k a0 (⟨#[]⟩ : ByteArray))) = some r := h
  clear h
  by_cases c2 : a0 ≤ 0
  · rw [if_pos c2] at H
    have c2b0 : decide (a0 ≤ 0) = true := decide_eq_true c2
    clear c2
    obtain rfl := Option.some.inj H
    go_enter Try.func60, Try.ntmps60
    go_wp2
    go_ret
    exact ⟨ER, (BB HB.out)⟩
  · rw [if_neg c2] at H
    have c2b0 : decide (a0 ≤ 0) = false := decide_eq_false c2
    clear c2
    have H' := Aside0.mk H
    clear H
    go_enter Try.func60, Try.ntmps60
    go_wp2
    go_loopg [0, 3] k (fun kq v0 v3 w' => ∃ (x0_1 : Int) (x3_1 : ByteArray), v0 = .int .i64 x0_1 ∧ v3 = .string x3_1 ∧ Aside0 (laws_markText.l0 kq x0_1 x3_1 = some r) ∧ Aside0 (kq ≤ k) ∧ Aside0 (Below w.heap.size w w'))
    case atStart => exact ⟨(a0), ((⟨#[]⟩ : ByteArray)), FR, FR, H', ⟨Nat.le_refl _⟩, ⟨(BB HB.out)⟩⟩
    case round =>
      clear H'
      try clear c2
      try clear c2b0
      try clear p2
      obtain ⟨x0_1, x3_1, rfl, rfl, HA, HK1, HB⟩ := hrel
      cases gk with
      | zero => exact absurd HA.out (by simp [laws_markText.l0])
      | succ k1 =>
        have H := HA.out
        clear HA
        simp only [laws_markText.l0] at H
        by_cases c3 : x0_1 > 0
        · rw [if_pos c3] at H
          have c3b0 : decide (0 < x0_1) = true := decide_eq_true c3
          clear c3
          obtain ⟨y231, hy231⟩ : ∃ y_ : List Int, y_ = (([(wrap64 (48 + (Int.tmod x0_1 10))) % 256] : List Int)) := ⟨_, rfl⟩
          replace H : (if (strOfNums y231).size + x3_1.size ≤ 9223372036854775807 then (laws_markText.l0 k1 (wrap64 (Int.tdiv x0_1 10)) ((strOfNums y231) ++ x3_1)) else (none)) = some r := by first | (rw [hy231]; with_reducible exact H) | (have H2_ := (Option.bind_some _ _).symm.trans H; rw [hy231]; with_reducible exact H2_) | (have H2_ := (Option.bind_some _ _).symm.trans H; with_reducible exact H2_) | with_reducible exact H | (rw [hy231]; exact H) | exact H
          have Ny231 := Aside0.mk hy231
          clear hy231
          by_cases c4 : (strOfNums y231).size + x3_1.size ≤ 9223372036854775807
          · rw [if_pos c4] at H
            have c4b0 := eq_true c4
            have c4b1 : decide ((strOfNums y231).size + x3_1.size ≤ 9223372036854775807) = true := decide_eq_true c4
            try have c4b2 : (9223372036854775807 < (strOfNums y231).size + x3_1.size) = False := eq_false (Nat.not_lt.2 c4)
            have H' := Aside0.mk H
            clear H
            go_wp2_with (first | ((with_reducible refine gate_dst (N := 12) rfl ?_); refine Kd.R_lit (Kd.int .u8) _ 5 ?hg (N := 12) ?hd (xs := ([(wrap64 (48 + (Int.tmod x0_1 10))) % 256] : List Int)) (inner := [.int .u8 ((wrap64 (48 + (Int.tmod x0_1 10))) % 256)]) (ok := fun _ => True) (okp := fun _ => True) ?hr ?hp (fun _ hk => hk) trivial (Below.refl _ _) (Nat.le_refl _) (by simp) ?_; (case hd => rfl); (case hg => rfl); (case hr => first | (go_simp; done) | (go_simp; rfl)); (case hp => exact (Reps.one (show Kd.M (Kd.int .u8) _ _ _ ((wrap64 (48 + (Int.tmod x0_1 10))) % 256) [.int .u8 ((wrap64 (48 + (Int.tmod x0_1 10))) % 256)] from rfl) (Reps.none _ _))); intro v232 w5 ho6 hb hg_ hnew_; clear hg_ hnew_; (first | rw [← Ny231.out] at ho6 | (simp only [Int.reduceToNat] at ho6; rw [← Ny231.out] at ho6)); have HO233 := Aside0.mk (Kd.R_lower ho6 (below_size (BB HB.out))); replace HB := Aside0.mk (below_step (BB HB.out) hb); clear hb ho6; have hcv7 := own_string (P := Try.prog) Try.underlying148 Try.underlying5 Try.underlying9 (Kd.own_of_R HO233.out)))
            go_roundg k1
            case measure => have := HK1.out; omega
            case rel => exact ⟨(wrap64 (Int.tdiv x0_1 10)), ((strOfNums y231) ++ x3_1), FR, FR, H', ⟨by have := HK1.out; omega⟩, ⟨(BB HB.out)⟩⟩
          · rw [if_neg c4] at H
            exact absurd H (by simp)
        · rw [if_neg c3] at H
          have c3b0 : decide (0 < x0_1) = false := decide_eq_false c3
          clear c3
          by_cases c8 : 1 + x3_1.size ≤ 9223372036854775807
          · rw [if_pos c8] at H
            have c8b0 := eq_true c8
            have c8b1 : decide (1 + x3_1.size ≤ 9223372036854775807) = true := decide_eq_true c8
            try have c8b2 : (9223372036854775807 < 1 + x3_1.size) = False := eq_false (Nat.not_lt.2 c8)
            obtain rfl := Option.some.inj H
            go_wp2
            go_ret
            exact ⟨ER, (BB HB.out)⟩
          · rw [if_neg c8] at H
            exact absurd H (by simp)

end Go.Proofs.Ytfgnaneajonapaa.Pr

/- Generated by plumb.py: the laws' helpers of a type, told as plain functions. -/
namespace Go.Proofs.Ytfgnaneajonapaa.Lw
open Go.RowKit Go.Proofs.YtfgnaneajonapaaW.PrintWords Go.Proofs.Ytfgnaneajonapaa.Pr Go.Proofs.Ytfgnaneajonapaa.Evs
set_option linter.unusedVariables false
theorem strOfNums_one (a : Int) : (strOfNums [a]).size = 1 := rfl
theorem markText_loop (n : Nat) : ∀ (x : Int) (acc : ByteArray), x.toNat ≤ n → acc.size + x.toNat < 9223372036854775806 → ∃ t, Ev (fun k => laws_markText.l0 k x acc) t := by
  induction n with
  | zero =>
    intro x acc hx hs
    exact ⟨_, ev_step (fun k => laws_markText.l0.eq_2 _ _ k) (ev_neg (by omega) (ev_pos (by omega) (ev_some _)))⟩
  | succ n ih =>
    intro x acc hx hs
    by_cases c : x > 0
    · have e : Int.tdiv x 10 = x / 10 := Int.tdiv_eq_ediv_of_nonneg (by omega)
      have ew : wrap64 (Int.tdiv x 10) = x / 10 := by rw [e]; exact wrap_in (by omega) (by omega)
      have es : (strOfNums [(wrap64 (48 + (Int.tmod x 10))) % 256] ++ acc).size = 1 + acc.size := by rw [ByteArray.size_append, strOfNums_one]
      obtain ⟨t, ht⟩ := ih (x / 10) (strOfNums [(wrap64 (48 + (Int.tmod x 10))) % 256] ++ acc) (by omega) (by rw [es]; omega)
      refine ⟨t, ev_step (fun k => laws_markText.l0.eq_2 _ _ k) (ev_pos c (ev_call rfl (ev_pos ?_ (by rw [ew]; exact ht))))⟩
      rw [strOfNums_one]
      omega
    · exact ⟨_, ev_step (fun k => laws_markText.l0.eq_2 _ _ k) (ev_neg c (ev_pos (by omega) (ev_some _)))⟩
theorem markText_some (x : Int) (h0 : x < 9223372036854775800) : ∃ t, Ev (fun k => laws_markText.f k x) t := by
  unfold laws_markText.f
  by_cases c : x ≤ 0
  · exact ⟨_, ev_pos c (ev_some _)⟩
  · obtain ⟨t, ht⟩ := markText_loop x.toNat x ⟨#[]⟩ (Nat.le_refl _) (by simp [ByteArray.size]; omega)
    exact ⟨t, ev_neg c ht⟩
open Classical in
noncomputable def mt (x : Int) : ByteArray := if h : ∃ t, Ev (fun k => laws_markText.f k x) t then Classical.choose h else ⟨#[]⟩
theorem mt_ev (x : Int) (h0 : x < 9223372036854775800) : Ev (fun k => laws_markText.f k x) (mt x) := by
  unfold mt
  rw [dif_pos (markText_some x h0)]
  exact Classical.choose_spec (markText_some x h0)
end Go.Proofs.Ytfgnaneajonapaa.Lw

/- Printed out of the translation by this session's pr.py over the kit's print. Lean checks it. -/
namespace Go.Proofs.Ytfgnaneajonapaa.Pr
open Go.RowKit Go.Proofs.YtfgnaneajonapaaW.PrintWords Go.Proofs.YtfgnaneajonapaaW.PrintLast Go.Proofs.YtfgnaneajonapaaW.PrintMore
attribute [local go_sem] max2_int min2_int max_two min_two max_three min_three max_four min_four
set_option linter.unusedVariables false
set_option linter.unusedSimpArgs false

/-! ### laws_markStringS: function 21 -/
def laws_markStringS.l0 : Nat → List ByteArray → Int → Int → Option (Int × List ByteArray)
  | 0, _, _, _ => none
  | k + 1, x0, x1, x5 => if x5 < (x0.length : Int) then ((laws_markText.f k x1).bind fun t239 => (if 0 ≤ x5 then (laws_markStringS.l0 k (x0.set (x5 : Int).toNat t239) (wrap64 (x1 + 1)) (wrap64 (x5 + 1))) else (none))) else (some (x1, x0))
def laws_markStringS.f (k : Nat) (l0 : List ByteArray) (a1 : Int) : Option (Int × List ByteArray) := laws_markStringS.l0 k l0 a1 0
set_option maxHeartbeats 8000000 in
set_option maxRecDepth 100000 in
theorem laws_markStringS.calls (k : Nat) (P0_ : Nat → Prop) (u9000_ : Value) (l0 : List ByteArray) (a1 : Int) (r1 : Int) (r2 : List ByteArray) (w0 w : World) (hB : Below w0.heap.size w0 w) (ho0 : Kd.R Kd.string 9 w w0.heap.size P0_ u9000_ l0) (h : laws_markStringS.f k l0 a1 = some (r1, r2)) :
    Calls Try.prog 21 #[u9000_, .int .i64 a1] w fun e w' => e = .returned (.int .i64 r1) ∧ Kd.R Kd.string 9 w' w0.heap.size (fun k_ => (P0_ k_ ∨ w.heap.size ≤ k_)) u9000_ r2 ∧ Below w0.heap.size w0 w' ∧ Kept w w' (fun k_ => P0_ k_) := by
  have HO0 := Aside0.mk (show Kd.R Kd.string 9 w w0.heap.size (fun k_ => (P0_ k_ ∨ w.heap.size ≤ k_)) u9000_ l0 from Kd.R_mono ho0 (fun k_ hk => (.inl hk)))
  have HK := Aside0.mk (Kept.refl w (fun k_ => P0_ k_))
  have HW0 := Aside0.mk hB.size
  have HB := Aside0.mk hB
  clear hB
  have H : (laws_markStringS.l0 k l0 a1 0) = some (r1, r2) := h
  clear h
  have H' := Aside0.mk H
  clear H
  go_enter Try.func21, Try.ntmps21
  go_wp2
  go_loopg [1, 5] k (fun kq v1 v5 w' => ∃ (x0_1 : List ByteArray) (x1_1 : Int) (x5_1 : Int), v1 = .int .i64 x1_1 ∧ v5 = .int .i64 x5_1 ∧ Aside0 (laws_markStringS.l0 kq x0_1 x1_1 x5_1 = some (r1, r2)) ∧ Aside0 (kq ≤ k) ∧ Aside0 (Kd.R Kd.string 9 w' w0.heap.size (fun k_ => (P0_ k_ ∨ w.heap.size ≤ k_)) u9000_ x0_1) ∧ Aside0 (Kept w w' (fun k_ => P0_ k_)) ∧ Aside0 (Below w0.heap.size w0 w'))
  case atStart => exact ⟨(l0), (a1), (0), FR, FR, H', ⟨Nat.le_refl _⟩, ⟨(RR HO0.out)⟩, ⟨by repeat (first | (with_reducible first | exact HK.out | apply Kept.alloc | apply Kept.drewN | apply Kept.drew) | exact HK.out)⟩, ⟨(BB HB.out)⟩⟩
  case round =>
    clear H'
    try clear c2
    try clear p2
    obtain ⟨x0_1, x1_1, x5_1, rfl, rfl, HA, HK1, HO_0, HK, HB⟩ := hrel
    cases gk with
    | zero => exact absurd HA.out (by simp [laws_markStringS.l0])
    | succ k1 =>
      have H := HA.out
      clear HA
      simp only [laws_markStringS.l0] at H
      by_cases c3 : x5_1 < (x0_1.length : Int)
      · rw [if_pos c3] at H
        have c3b0 : decide (x5_1 < (x0_1.length : Int)) = true := decide_eq_true c3
        clear c3
        replace H := Option.bind_eq_some_iff.mp H
        obtain ⟨t239, A40, H⟩ := H
        replace H : (if 0 ≤ x5_1 then (laws_markStringS.l0 k1 (x0_1.set (x5_1 : Int).toNat t239) (wrap64 (x1_1 + 1)) (wrap64 (x5_1 + 1))) else (none)) = some (r1, r2) := H
        have A4 := Aside0.mk A40
        clear A40
        by_cases c5 : 0 ≤ x5_1
        · rw [if_pos c5] at H
          have c5b0 : decide (0 ≤ x5_1) = true := decide_eq_true c5
          clear c5
          obtain ⟨y240, hy240⟩ : ∃ y_ : List ByteArray, y_ = (x0_1.set (x5_1 : Int).toNat t239) := ⟨_, rfl⟩
          replace H : (laws_markStringS.l0 k1 y240 (wrap64 (x1_1 + 1)) (wrap64 (x5_1 + 1))) = some (r1, r2) := by first | (rw [hy240]; with_reducible exact H) | (have H2_ := (Option.bind_some _ _).symm.trans H; rw [hy240]; with_reducible exact H2_) | (have H2_ := (Option.bind_some _ _).symm.trans H; with_reducible exact H2_) | with_reducible exact H | (rw [hy240]; exact H) | exact H
          have Ny240 := Aside0.mk hy240
          clear hy240
          have H' := Aside0.mk H
          clear H
          obtain ⟨Ao7, co7, eo7⟩ := Kd.R_slice HO_0.out
          subst eo7
          go_wp2_with (first | ((with_reducible refine gate_callee (f := 60) rfl ?_); refine GL (some 15) rfl rfl Try.func60 #[.int .i64 x1_1] rfl ?_; (with_reducible refine (laws_markText.calls k1 x1_1 t239 _ A4.out).mono ?_); rintro e w8 ⟨rfl, hb⟩; refine ⟨_, rfl, ?_⟩; replace HO_0 := Aside0.mk (Kd.R_below (RR HO_0.out) hb); replace HK := Aside0.mk (Kept.below (S := (fun k_ => P0_ k_)) (by repeat (first | (with_reducible first | exact HK.out | apply Kept.alloc | apply Kept.drewN | apply Kept.drew) | exact HK.out)) hb); replace HB := Aside0.mk (below_step (BB HB.out) hb); (try clear hb); have p6 : 0 ≤ (x5_1 : Int) := DT; have q6 : (x5_1 : Int) < ((x0_1.length : Int) : Int) := DT; obtain ⟨go6, co6, eo6, gb6, gl6, cl6, HG6⟩ := Kd.R_form HO_0.out (by omega); (first | cases eo6 | (injection eo6 with ea_ en_ ec_; (first | subst ea_ | (injection ea_ with ea_; subst ea_)); subst ec_; clear en_)); have GB6 := Aside0.mk gb6; have GG6 := Aside0.mk HG6; clear gb6 gl6 HG6; have HMgo6 := Aside0.mk (show (P0_ go6 ∨ w.heap.size ≤ go6) from (HO_0.out.1 _ rfl)); obtain ⟨hx6_0, hf6_0⟩ := Kd.R_celln (⟨#[]⟩ : ByteArray) HO_0.out (x5_1 : Int) p6 q6; replace p6 := eq_true p6; replace q6 := eq_true q6; obtain ⟨hy9_, hz9_⟩ := Kd.R_celln (⟨#[]⟩ : ByteArray) HO_0.out (x5_1 : Int) DT DT; have HP9 := Kd.R_putg HO_0.out (x5_1 : Int) t239) | ((with_reducible refine gate_store (t := 9) (p := 16) rfl ?_); refine store_event (t := 9) (p := 16) (v := ?vo_w10) (w1 := (w8.setCell ⟨go6, (x5_1 : Int).toNat, none⟩ (.string t239))) ?hg ?ho ?hn ?hr ?_; (case ho => rfl); (case hg => rfl); (case hn => rfl); (case hr => first | (go_simp; done) | (go_simp; rfl)); intro w10 hw; have hg : w8.grownBy w10 (some go6) := (by rw [hw]; exact HP9.2); have hp_ : Kd.R Kd.string 9 w10 w0.heap.size (fun k_ => (P0_ k_ ∨ w.heap.size ≤ k_)) (.slice (some ⟨go6, 0, none⟩) x0_1.length co7) y240 := (by rw [hw, Ny240.out]; exact HP9.1); clear HP9; have n0_ := Aside0.mk (hp_); have n1_ := Aside0.mk ((by rw [hw]; exact below_set (HB.out) GB6.out : Below w0.heap.size w0 w10)); have n2_ := Aside0.mk (Kept.of_grown (S := (fun k_ => P0_ k_)) hg (by repeat (first | (with_reducible first | exact HK.out | apply Kept.alloc | apply Kept.drewN | apply Kept.drew) | exact HK.out)) (fun k_ e_ => (HO_0.out.1 k_ e_))); clear HO_0; clear HB; clear HK; have HO_0 := n0_; have HB := n1_; have HK := n2_; clear n0_ n1_ n2_; clear hg hw hp_))
          go_roundg k1
          case measure => have := HK1.out; omega
          case rel => exact ⟨(y240), (wrap64 (x1_1 + 1)), (wrap64 (x5_1 + 1)), FR, FR, H', ⟨by have := HK1.out; omega⟩, ⟨(RR HO_0.out)⟩, ⟨by repeat (first | (with_reducible first | exact HK.out | apply Kept.alloc | apply Kept.drewN | apply Kept.drew) | exact HK.out)⟩, ⟨(BB HB.out)⟩⟩
        · rw [if_neg c5] at H
          exact absurd H (by simp)
      · rw [if_neg c3] at H
        have c3b0 : decide (x5_1 < (x0_1.length : Int)) = false := decide_eq_false c3
        clear c3
        simp only [Option.some.injEq, Prod.mk.injEq] at H
        obtain ⟨rfl, rfl⟩ := H
        obtain ⟨Ao11, co11, eo11⟩ := Kd.R_slice HO_0.out
        subst eo11
        go_wp2
        go_ret
        exact ⟨ER, by (with_reducible repeat (first | apply Kd.R_alloc | apply Kd.R_drewN | apply Kd.R_drew)); exact HO_0.out, (BB HB.out), by repeat (first | (with_reducible first | exact HK.out | apply Kept.alloc | apply Kept.drewN | apply Kept.drew) | exact HK.out)⟩

end Go.Proofs.Ytfgnaneajonapaa.Pr

/- Printed out of the translation by this session's pr.py over the kit's print. Lean checks it. -/
namespace Go.Proofs.Ytfgnaneajonapaa.Pr
open Go.RowKit Go.Proofs.YtfgnaneajonapaaW.PrintWords Go.Proofs.YtfgnaneajonapaaW.PrintLast Go.Proofs.YtfgnaneajonapaaW.PrintMore
attribute [local go_sem] max2_int min2_int max_two min_two max_three min_three max_four min_four
set_option linter.unusedVariables false
set_option linter.unusedSimpArgs false

/-! ### laws_heldStringS: function 23 -/
def laws_heldStringS.l0 : Nat → List ByteArray → Int → Int → Option (Int)
  | 0, _, _, _ => none
  | k + 1, x0, x1, x5 => if x5 < (x0.length : Int) then (if 0 ≤ x5 then ((laws_markText.f k x1).bind fun t243 => (if (rdOf ByteArray.empty x0 x5).toList = t243.toList then (laws_heldStringS.l0 k x0 (wrap64 (x1 + 1)) (wrap64 (x5 + 1))) else (some (-1)))) else (none)) else (some x1)
def laws_heldStringS.f (k : Nat) (l0 : List ByteArray) (a1 : Int) : Option (Int) := laws_heldStringS.l0 k l0 a1 0
set_option maxHeartbeats 8000000 in
set_option maxRecDepth 100000 in
theorem laws_heldStringS.calls (k : Nat) (A0 : Option Addr) (c0 : Nat) (l0 : List ByteArray) (a1 : Int) (r : Int) (w : World) (hr0 : Kd.C Kd.string w A0 l0.length l0) (hc0 : l0.length ≤ c0) (h : laws_heldStringS.f k l0 a1 = some r) :
    Calls Try.prog 23 #[.slice A0 l0.length c0, .int .i64 a1] w fun e w' => e = .returned (.int .i64 r) ∧ Below w.heap.size w w' := by
  have HR0 := Aside0.mk hr0
  have HC0 := Aside0.mk hc0
  clear hr0 hc0
  have HB := Aside0.mk (Below.refl w.heap.size w)
  have H : (laws_heldStringS.l0 k l0 a1 0) = some r := h
  clear h
  have H' := Aside0.mk H
  clear H
  go_enter Try.func23, Try.ntmps23
  go_wp2
  go_loopg [1, 5] k (fun kq v1 v5 w' => ∃ (x1_1 : Int) (x5_1 : Int), v1 = .int .i64 x1_1 ∧ v5 = .int .i64 x5_1 ∧ Aside0 (laws_heldStringS.l0 kq l0 x1_1 x5_1 = some r) ∧ Aside0 (kq ≤ k) ∧ Aside0 (Below w.heap.size w w'))
  case atStart => exact ⟨(a1), (0), FR, FR, H', ⟨Nat.le_refl _⟩, ⟨(BB HB.out)⟩⟩
  case round =>
    clear H'
    try clear c2
    try clear p2
    obtain ⟨x1_1, x5_1, rfl, rfl, HA, HK1, HB⟩ := hrel
    cases gk with
    | zero => exact absurd HA.out (by simp [laws_heldStringS.l0])
    | succ k1 =>
      have H := HA.out
      clear HA
      simp only [laws_heldStringS.l0] at H
      by_cases c3 : x5_1 < (l0.length : Int)
      · rw [if_pos c3] at H
        have c3b0 : decide (x5_1 < (l0.length : Int)) = true := decide_eq_true c3
        clear c3
        by_cases c4 : 0 ≤ x5_1
        · rw [if_pos c4] at H
          have c4b0 : decide (0 ≤ x5_1) = true := decide_eq_true c4
          clear c4
          replace H := Option.bind_eq_some_iff.mp H
          obtain ⟨t243, A50, H⟩ := H
          replace H : (if (rdOf ByteArray.empty l0 x5_1).toList = t243.toList then (laws_heldStringS.l0 k1 l0 (wrap64 (x1_1 + 1)) (wrap64 (x5_1 + 1))) else (some (-1))) = some r := H
          have A5 := Aside0.mk A50
          clear A50
          by_cases c6 : (rdOf ByteArray.empty l0 x5_1).toList = t243.toList
          · rw [if_pos c6] at H
            have c6b0 : ((rdOf ByteArray.empty l0 x5_1).toList == t243.toList) = true := beq_iff_eq.mpr c6
            have c6b1 : ((rdOf ByteArray.empty l0 x5_1).toList != t243.toList) = false := bne_eq_false_iff_eq.mpr c6
            clear c6
            have H' := Aside0.mk H
            clear H
            try go_wp2
            have n0_ := Aside0.mk (below_drew1 HB.out)
            clear HB
            have HB := n0_
            clear n0_
            have p242 : 0 ≤ (x5_1 : Int) := DT
            have q242 : x5_1 < (l0.length : Int) := DT
            obtain ⟨ad242, e242, hx242_0⟩ := Kd.at_string HR0.out x5_1 p242 q242
            have hw242_0 := hx242_0
            cases e242
            replace hx242_0 := (HB.out.cell (World.block_lt_of_cell? w _ hx242_0)).trans hx242_0
            replace p242 := eq_true p242
            replace q242 := eq_true q242
            refine start_ (n := 7) (S := fun w' => w'.cell? (ad242.add (x5_1).toNat) = some (.string (rdOf ByteArray.empty l0 x5_1))) (ds := []) #[false, false, false, false, false, false, false] (by kernel_rfl) rfl rfl (((HB.out.cell (World.block_lt_of_cell? w _ hw242_0)).trans hw242_0)) (fun hHeld => ?_)
            generalize wr.drew = w7 at HB hx242_0 hHeld ⊢
            refine pure_ (i := 0) (N := some 12) (v := ?_) (a' := ?_) #[true, false, false, false, false, false, false] rfl rfl (by kernel_rfl) (fun _ _ _ h => h) (Or.inl ⟨by rfl, ?_⟩) ?_ ?_
            rotate_left
            · intro w'
              go_simp
              with_reducible rfl
            rotate_left
            · simp only [Act.put, List.setIfInBounds_toArray, List.set_cons_zero, List.set_cons_succ, i64_w, i32_w]
              rfl
            refine pure_ (i := 1) (N := some 13) (v := ?_) (a' := ?_) #[true, true, false, false, false, false, false] rfl rfl (by kernel_rfl) (fun _ _ _ h => h) (Or.inl ⟨by rfl, ?_⟩) ?_ ?_
            rotate_left
            · intro w'
              go_simp
              with_reducible rfl
            rotate_left
            · simp only [Act.put, List.setIfInBounds_toArray, List.set_cons_zero, List.set_cons_succ, i64_w, i32_w]
              rfl
            refine pure_ (i := 2) (N := some 14) (v := ?_) (a' := ?_) #[true, true, true, false, false, false, false] rfl rfl (by kernel_rfl) (fun _ _ _ h => h) (Or.inl ⟨by rfl, ?_⟩) ?_ ?_
            rotate_left
            · intro w'
              go_simp
              with_reducible rfl
            rotate_left
            · simp only [Act.put, List.setIfInBounds_toArray, List.set_cons_zero, List.set_cons_succ, i64_w, i32_w]
              rfl
            refine pure_ (i := 4) (N := some 16) (v := ?_) (a' := ?_) #[true, true, true, false, true, false, false] rfl rfl (by kernel_rfl) (fun _ _ _ h => h) (Or.inl ⟨by rfl, ?_⟩) ?_ ?_
            rotate_left
            · intro w'
              go_simp
              with_reducible rfl
            rotate_left
            · simp only [Act.put, List.setIfInBounds_toArray, List.set_cons_zero, List.set_cons_succ, i64_w, i32_w]
              rfl
            refine take_ (i := 3) (N := some 15) (v := ?_) (a' := ?_) #[true, true, true, true, true, false, false] rfl rfl (by kernel_rfl) (fun _ _ _ h => h) (Or.inl ⟨by rfl, ?_⟩) hHeld ?_ ?_
            rotate_left
            · intro w' s0
              go_simp
              with_reducible rfl
            rotate_left
            · simp only [Act.put, List.setIfInBounds_toArray, List.set_cons_zero, List.set_cons_succ, i64_w, i32_w]
              rfl
            refine one_ (i := 5) (N := some 17) #[true, true, true, true, true, true, false] rfl rfl (by kernel_rfl) (by decide) (fun K hK => ?_)
            refine goes_ Try.func60 (by kernel_rfl) rfl #[.int .i64 x1_1] (by rfl) rfl rfl (by (try simp only [List.map_toArray, List.map_cons, List.map_nil]); first | done | rfl | (simp only [List.length_drop, List.length_take]; rfl)) ?_
            with_reducible refine (laws_markText.calls k1 x1_1 t243 _ A5.out).mono ?_
            rintro e w8 ⟨rfl, hb⟩
            refine ⟨_, rfl, ?_⟩
            have n0_ := Aside0.mk (below_step (BB HB.out) hb)
            clear HB
            have HB := n0_
            clear n0_
            (try clear hb)
            (try clear hb2)
            (try clear hk)
            (try clear hi)
            refine hK.out _ _ (((HB.out.cell (World.block_lt_of_cell? w _ hw242_0)).trans hw242_0)) (fun hHeld => ?_)
            clear hK K
            refine norm_ (a' := ?_) ?_ ?_
            rotate_left
            · show Act.put _ (some 17) _ = _
              simp only [Act.put, List.setIfInBounds_toArray, List.set_cons_zero, List.set_cons_succ, i64_w, i32_w]
              rfl
            refine pure_ (i := 6) (N := some 18) (v := ?_) (a' := ?_) #[true, true, true, true, true, true, true] rfl rfl (by kernel_rfl) (fun _ _ _ h => h) (Or.inl ⟨by rfl, ?_⟩) ?_ ?_
            rotate_left
            · intro w'
              go_simp
              with_reducible rfl
            rotate_left
            · simp only [Act.put, List.setIfInBounds_toArray, List.set_cons_zero, List.set_cons_succ, i64_w, i32_w]
              rfl
            refine done_ (by kernel_rfl) ?_
            try go_wp2
            go_roundg k1
            case measure => have := HK1.out; omega
            case rel => exact ⟨(wrap64 (x1_1 + 1)), (wrap64 (x5_1 + 1)), FR, FR, H', ⟨by have := HK1.out; omega⟩, ⟨(BB HB.out)⟩⟩
          · rw [if_neg c6] at H
            have c6b0 : ((rdOf ByteArray.empty l0 x5_1).toList == t243.toList) = false := beq_eq_false_iff_ne.mpr c6
            have c6b1 : ((rdOf ByteArray.empty l0 x5_1).toList != t243.toList) = true := bne_iff_ne.mpr c6
            obtain rfl := Option.some.inj H
            try go_wp2
            have n0_ := Aside0.mk (below_drew1 HB.out)
            clear HB
            have HB := n0_
            clear n0_
            have p242 : 0 ≤ (x5_1 : Int) := DT
            have q242 : x5_1 < (l0.length : Int) := DT
            obtain ⟨ad242, e242, hx242_0⟩ := Kd.at_string HR0.out x5_1 p242 q242
            have hw242_0 := hx242_0
            cases e242
            replace hx242_0 := (HB.out.cell (World.block_lt_of_cell? w _ hx242_0)).trans hx242_0
            replace p242 := eq_true p242
            replace q242 := eq_true q242
            refine start_ (n := 7) (S := fun w' => w'.cell? (ad242.add (x5_1).toNat) = some (.string (rdOf ByteArray.empty l0 x5_1))) (ds := []) #[false, false, false, false, false, false, false] (by kernel_rfl) rfl rfl (((HB.out.cell (World.block_lt_of_cell? w _ hw242_0)).trans hw242_0)) (fun hHeld => ?_)
            generalize wr.drew = w9 at HB hx242_0 hHeld ⊢
            refine pure_ (i := 0) (N := some 12) (v := ?_) (a' := ?_) #[true, false, false, false, false, false, false] rfl rfl (by kernel_rfl) (fun _ _ _ h => h) (Or.inl ⟨by rfl, ?_⟩) ?_ ?_
            rotate_left
            · intro w'
              go_simp
              with_reducible rfl
            rotate_left
            · simp only [Act.put, List.setIfInBounds_toArray, List.set_cons_zero, List.set_cons_succ, i64_w, i32_w]
              rfl
            refine pure_ (i := 1) (N := some 13) (v := ?_) (a' := ?_) #[true, true, false, false, false, false, false] rfl rfl (by kernel_rfl) (fun _ _ _ h => h) (Or.inl ⟨by rfl, ?_⟩) ?_ ?_
            rotate_left
            · intro w'
              go_simp
              with_reducible rfl
            rotate_left
            · simp only [Act.put, List.setIfInBounds_toArray, List.set_cons_zero, List.set_cons_succ, i64_w, i32_w]
              rfl
            refine pure_ (i := 2) (N := some 14) (v := ?_) (a' := ?_) #[true, true, true, false, false, false, false] rfl rfl (by kernel_rfl) (fun _ _ _ h => h) (Or.inl ⟨by rfl, ?_⟩) ?_ ?_
            rotate_left
            · intro w'
              go_simp
              with_reducible rfl
            rotate_left
            · simp only [Act.put, List.setIfInBounds_toArray, List.set_cons_zero, List.set_cons_succ, i64_w, i32_w]
              rfl
            refine pure_ (i := 4) (N := some 16) (v := ?_) (a' := ?_) #[true, true, true, false, true, false, false] rfl rfl (by kernel_rfl) (fun _ _ _ h => h) (Or.inl ⟨by rfl, ?_⟩) ?_ ?_
            rotate_left
            · intro w'
              go_simp
              with_reducible rfl
            rotate_left
            · simp only [Act.put, List.setIfInBounds_toArray, List.set_cons_zero, List.set_cons_succ, i64_w, i32_w]
              rfl
            refine take_ (i := 3) (N := some 15) (v := ?_) (a' := ?_) #[true, true, true, true, true, false, false] rfl rfl (by kernel_rfl) (fun _ _ _ h => h) (Or.inl ⟨by rfl, ?_⟩) hHeld ?_ ?_
            rotate_left
            · intro w' s0
              go_simp
              with_reducible rfl
            rotate_left
            · simp only [Act.put, List.setIfInBounds_toArray, List.set_cons_zero, List.set_cons_succ, i64_w, i32_w]
              rfl
            refine one_ (i := 5) (N := some 17) #[true, true, true, true, true, true, false] rfl rfl (by kernel_rfl) (by decide) (fun K hK => ?_)
            refine goes_ Try.func60 (by kernel_rfl) rfl #[.int .i64 x1_1] (by rfl) rfl rfl (by (try simp only [List.map_toArray, List.map_cons, List.map_nil]); first | done | rfl | (simp only [List.length_drop, List.length_take]; rfl)) ?_
            with_reducible refine (laws_markText.calls k1 x1_1 t243 _ A5.out).mono ?_
            rintro e w10 ⟨rfl, hb⟩
            refine ⟨_, rfl, ?_⟩
            have n0_ := Aside0.mk (below_step (BB HB.out) hb)
            clear HB
            have HB := n0_
            clear n0_
            (try clear hb)
            (try clear hb2)
            (try clear hk)
            (try clear hi)
            refine hK.out _ _ (((HB.out.cell (World.block_lt_of_cell? w _ hw242_0)).trans hw242_0)) (fun hHeld => ?_)
            clear hK K
            refine norm_ (a' := ?_) ?_ ?_
            rotate_left
            · show Act.put _ (some 17) _ = _
              simp only [Act.put, List.setIfInBounds_toArray, List.set_cons_zero, List.set_cons_succ, i64_w, i32_w]
              rfl
            refine pure_ (i := 6) (N := some 18) (v := ?_) (a' := ?_) #[true, true, true, true, true, true, true] rfl rfl (by kernel_rfl) (fun _ _ _ h => h) (Or.inl ⟨by rfl, ?_⟩) ?_ ?_
            rotate_left
            · intro w'
              go_simp
              with_reducible rfl
            rotate_left
            · simp only [Act.put, List.setIfInBounds_toArray, List.set_cons_zero, List.set_cons_succ, i64_w, i32_w]
              rfl
            refine done_ (by kernel_rfl) ?_
            try go_wp2
            go_ret
            exact ⟨ER, (BB HB.out)⟩
        · rw [if_neg c4] at H
          exact absurd H (by simp)
      · rw [if_neg c3] at H
        have c3b0 : decide (x5_1 < (l0.length : Int)) = false := decide_eq_false c3
        clear c3
        obtain rfl := Option.some.inj H
        go_wp2
        go_ret
        exact ⟨ER, (BB HB.out)⟩

end Go.Proofs.Ytfgnaneajonapaa.Pr

/- Generated by plumb.py: the laws' helpers of a type, told as plain functions. -/
namespace Go.Proofs.Ytfgnaneajonapaa.Lw
open Go.RowKit Go.Proofs.YtfgnaneajonapaaW.PrintWords Go.Proofs.Ytfgnaneajonapaa.Pr Go.Proofs.Ytfgnaneajonapaa.Evs
set_option linter.unusedVariables false
noncomputable def mkStringS : List ByteArray → Int → List ByteArray
  | [], _ => []
  | _ :: s, n => mt n :: mkStringS s (n + 1)
theorem markStringS_loop (s : List ByteArray) : ∀ (q : List ByteArray) (n : Int), 0 ≤ n → n + s.length < 9223372036854775000 → q.length + s.length < 9223372036854775807 →
    Ev (fun k => laws_markStringS.l0 k (q ++ s) n (q.length : Int)) (n + s.length, q ++ mkStringS s n) := by
  induction s with
  | nil => intro q n h0 h1 hl; exact ev_step (fun k => laws_markStringS.l0.eq_2 _ _ _ k) (ev_neg (by simp) (ev_eq (ev_some _) (by simp [mkStringS])))
  | cons x s ih =>
    intro q n h0 h1 hl
    simp at h1 hl
    have e1 : wrap64 (n + 1) = n + 1 := wrap_in (by omega) (by omega)
    have e0 : wrap64 ((q.length : Int) + 1) = (q.length : Int) + 1 := wrap_in (by omega) (by omega)
    have hr : (n + ((x :: s).length : Int), q ++ mkStringS (x :: s) n) = (n + 1 + (s.length : Int), (q ++ [mt n]) ++ mkStringS s (n + 1)) := by
      simp [mkStringS]
      omega
    rw [hr]
    have h := ih (q ++ [mt n]) (n + 1) (by omega) (by omega) (by simp; omega)
    refine ev_step (fun k => laws_markStringS.l0.eq_2 _ _ _ k) ?_
    simp only [e0, e1]
    repeat (first | with_reducible refine ev_pos (by first | omega | (simp; omega)) ?_ | with_reducible refine ev_bind (mt_ev _ (by omega)) ?_ | with_reducible refine ev_call rfl ?_)
    simp only [set_mid _ _ _ _ _ rfl]
    simpa using h
theorem markStringS_ev (l : List ByteArray) (n : Int) (h0 : 0 ≤ n) (h1 : n + l.length < 9223372036854775000) : Ev (fun k => laws_markStringS.f k l n) (n + l.length, mkStringS l n) := by
  unfold laws_markStringS.f
  simpa using markStringS_loop l [] n h0 h1 (by simp; omega)
theorem heldStringS_loop (s : List ByteArray) : ∀ (q : List ByteArray) (n : Int), 0 ≤ n → n + s.length < 9223372036854775000 → q.length + s.length < 9223372036854775807 →
    Ev (fun k => laws_heldStringS.l0 k (q ++ mkStringS s n) n (q.length : Int)) (n + s.length) := by
  induction s with
  | nil => intro q n h0 h1 hl; exact ev_step (fun k => laws_heldStringS.l0.eq_2 _ _ _ k) (ev_neg (by simp [mkStringS]) (ev_eq (ev_some _) (by simp)))
  | cons x s ih =>
    intro q n h0 h1 hl
    simp at h1 hl
    have e1 : wrap64 (n + 1) = n + 1 := wrap_in (by omega) (by omega)
    have e0 : wrap64 ((q.length : Int) + 1) = (q.length : Int) + 1 := wrap_in (by omega) (by omega)
    simp only [mkStringS]
    refine ev_step (fun k => laws_heldStringS.l0.eq_2 _ _ _ k) ?_
    simp only [rdString, e0, e1]
    repeat (first | with_reducible refine ev_pos (by first | omega | (simp; done) | (simp; omega)) ?_ | with_reducible refine ev_neg (by simp; done) ?_ | with_reducible refine ev_bind (mt_ev _ (by omega)) ?_)
    have h := ih (q ++ [mt n]) (n + 1) (by omega) (by omega) (by simp; omega)
    have hr : n + ((x :: s).length : Int) = n + 1 + (s.length : Int) := by simp; omega
    rw [hr]
    simpa using h
theorem heldStringS_ev (l : List ByteArray) (n : Int) (h0 : 0 ≤ n) (h1 : n + l.length < 9223372036854775000) : Ev (fun k => laws_heldStringS.f k (mkStringS l n) n) (n + l.length) := by
  unfold laws_heldStringS.f
  simpa using heldStringS_loop l [] n h0 h1 (by simp; omega)
end Go.Proofs.Ytfgnaneajonapaa.Lw

/- Printed out of the translation by this session's pr.py over the kit's print. Lean checks it. -/
namespace Go.Proofs.Ytfgnaneajonapaa.Pr
open Go.RowKit Go.Proofs.YtfgnaneajonapaaW.PrintWords Go.Proofs.YtfgnaneajonapaaW.PrintLast Go.Proofs.YtfgnaneajonapaaW.PrintMore
attribute [local go_sem] max2_int min2_int max_two min_two max_three min_three max_four min_four
set_option linter.unusedVariables false
set_option linter.unusedSimpArgs false

/-! ### laws_eqBoolS: function 19 -/
def laws_eqBoolS.l0 : Nat → List Bool → List Bool → Int → Option (Bool)
  | 0, _, _, _ => none
  | k + 1, x0, x1, x5 => if x5 < (x0.length : Int) then (if 0 ≤ x5 then (if x5 < (x1.length : Int) then (if ((rdOf false x0 x5) != (rdOf false x1 x5)) = true then (some false) else (laws_eqBoolS.l0 k x0 x1 (wrap64 (x5 + 1)))) else (none)) else (none)) else (some true)
def laws_eqBoolS.f (k : Nat) (l0 : List Bool) (l1 : List Bool) : Option (Bool) := if (l0.length : Int) = (l1.length : Int) then (laws_eqBoolS.l0 k l0 l1 0) else (some false)
set_option maxHeartbeats 8000000 in
set_option maxRecDepth 100000 in
theorem laws_eqBoolS.calls (k : Nat) (A0 : Option Addr) (c0 : Nat) (l0 : List Bool) (A1 : Option Addr) (c1 : Nat) (l1 : List Bool) (r : Bool) (w : World) (hr0 : Kd.C Kd.bool w A0 l0.length l0) (hc0 : l0.length ≤ c0) (hr1 : Kd.C Kd.bool w A1 l1.length l1) (hc1 : l1.length ≤ c1) (h : laws_eqBoolS.f k l0 l1 = some r) (hr_ : Aside0 (r = true) := by exact ⟨rfl⟩) :
    Calls Try.prog 19 #[.slice A0 l0.length c0, .slice A1 l1.length c1] w fun e w' => e = .returned (.bool r) ∧ Drawn0 w w' := by
  have HR0 := Aside0.mk hr0
  have HC0 := Aside0.mk hc0
  clear hr0 hc0
  have HR1 := Aside0.mk hr1
  have HC1 := Aside0.mk hc1
  clear hr1 hc1
  have H : (if (l0.length : Int) = (l1.length : Int) then (laws_eqBoolS.l0 k l0 l1 0) else (some false)) = some r := h
  clear h
  by_cases c3 : (l0.length : Int) = (l1.length : Int)
  · rw [if_pos c3] at H
    have c3b0 : ((l0.length : Int) == (l1.length : Int)) = true := beq_iff_eq.mpr c3
    have c3b1 : ((l0.length : Int) != (l1.length : Int)) = false := bne_eq_false_iff_eq.mpr c3
    have c3b2 : (l0.length == l1.length) = true := by first | simpa using c3 | (simp at c3 ⊢; omega)
    clear c3
    have H' := Aside0.mk H
    clear H
    go_enter Try.func19, Try.ntmps19
    go_wp2
    repeat (go_quiet (fail); try go_wp2)
    go_loopg [5] k (fun kq v5 w' => ∃ (x5_1 : Int), v5 = .int .i64 x5_1 ∧ Aside0 (laws_eqBoolS.l0 kq l0 l1 x5_1 = some r) ∧ Aside0 (kq ≤ k) ∧ Drawn0 w w')
    case atStart => exact ⟨(0), FR, H', ⟨Nat.le_refl _⟩, by repeat (first | exact Drawn0.refl _ | apply Drawn0.step)⟩
    case round =>
      clear H'
      try clear c1
      try clear p2
      try clear c3
      try clear c3b0
      try clear c3b1
      try clear c3b2
      obtain ⟨x5_1, rfl, HA, HK1, ⟨m1, rfl⟩⟩ := hrel
      cases gk with
      | zero => exact absurd HA.out (by simp [laws_eqBoolS.l0])
      | succ k1 =>
        have H := HA.out
        clear HA
        simp only [laws_eqBoolS.l0] at H
        by_cases c4 : x5_1 < (l0.length : Int)
        · rw [if_pos c4] at H
          have c4b0 : decide (x5_1 < (l0.length : Int)) = true := decide_eq_true c4
          clear c4
          by_cases c5 : 0 ≤ x5_1
          · rw [if_pos c5] at H
            have c5b0 : decide (0 ≤ x5_1) = true := decide_eq_true c5
            clear c5
            by_cases c6 : x5_1 < (l1.length : Int)
            · rw [if_pos c6] at H
              have c6b0 : decide (x5_1 < (l1.length : Int)) = true := decide_eq_true c6
              clear c6
              by_cases c7 : ((rdOf false l0 x5_1) != (rdOf false l1 x5_1)) = true
              · rw [if_pos c7] at H
                have c7b0 : ((rdOf false l0 x5_1) != (rdOf false l1 x5_1)) = true := c7
                (try (have c7b1 : decide ((rdOf false l0 x5_1) = (rdOf false l1 x5_1)) = false := by simpa using c7))
                (try (have c7b2 : ((rdOf false l0 x5_1) == (rdOf false l1 x5_1)) = false := by simpa using c7))
                (try (have c7b3 : ¬ ((rdOf false l0 x5_1) = (rdOf false l1 x5_1)) := by simpa using c7))
                clear c7
                exact absurd ((Option.some.inj H).trans hr_.out) (by decide)
              · rw [if_neg c7] at H
                have c7b0 : ((rdOf false l0 x5_1) != (rdOf false l1 x5_1)) = false := by simpa using c7
                (try (have c7b1 : decide ((rdOf false l0 x5_1) = (rdOf false l1 x5_1)) = true := by simpa using c7))
                (try (have c7b2 : ((rdOf false l0 x5_1) == (rdOf false l1 x5_1)) = true := by simpa using c7))
                clear c7
                have H' := Aside0.mk H
                clear H
                have p229 : 0 ≤ (x5_1 : Int) := DT
                have q229 : x5_1 < (l0.length : Int) := DT
                obtain ⟨ad229, e229, hx229_0⟩ := Kd.at_bool HR0.out x5_1 p229 q229
                cases e229
                replace p229 := eq_true p229
                replace q229 := eq_true q229
                have p230 : 0 ≤ (x5_1 : Int) := DT
                have q230 : x5_1 < (l1.length : Int) := DT
                obtain ⟨ad230, e230, hx230_0⟩ := Kd.at_bool HR1.out x5_1 p230 q230
                cases e230
                replace p230 := eq_true p230
                replace q230 := eq_true q230
                go_wp2
                repeat (go_quiet (fail); try go_wp2)
                go_roundg k1
                case measure => have := HK1.out; omega
                case rel => exact ⟨(wrap64 (x5_1 + 1)), FR, H', ⟨by have := HK1.out; omega⟩, by repeat (first | exact Drawn0.refl _ | apply Drawn0.step)⟩
            · rw [if_neg c6] at H
              exact absurd H (by simp)
          · rw [if_neg c5] at H
            exact absurd H (by simp)
        · rw [if_neg c4] at H
          have c4b0 : decide (x5_1 < (l0.length : Int)) = false := decide_eq_false c4
          clear c4
          obtain rfl := Option.some.inj H
          go_wp2
          repeat (go_quiet (fail); try go_wp2)
          go_ret
          exact ⟨FR, by repeat (first | exact Drawn0.refl _ | apply Drawn0.step)⟩
  · rw [if_neg c3] at H
    have c3b0 : ((l0.length : Int) == (l1.length : Int)) = false := beq_eq_false_iff_ne.mpr c3
    have c3b1 : ((l0.length : Int) != (l1.length : Int)) = true := bne_iff_ne.mpr c3
    have c3b2 : (l0.length == l1.length) = false := by first | simpa using c3 | (simp at c3 ⊢; omega)
    exact absurd ((Option.some.inj H).trans hr_.out) (by decide)

end Go.Proofs.Ytfgnaneajonapaa.Pr

/- Generated by plumb.py: the laws' helpers of a type, told as plain functions. -/
namespace Go.Proofs.Ytfgnaneajonapaa.Lw
open Go.RowKit Go.Proofs.YtfgnaneajonapaaW.PrintWords Go.Proofs.Ytfgnaneajonapaa.Pr Go.Proofs.Ytfgnaneajonapaa.Evs
set_option linter.unusedVariables false
theorem rdBool (p s : List Bool) (x : Bool) : rdOf false (p ++ x :: s) (p.length : Int) = x := by unfold rdOf; exact getD_mid' p s x _ _ rfl
def wtBoolS (l : List Bool) : Nat := l.length
theorem wtBoolS_len (l : List Bool) : l.length ≤ wtBoolS l := Nat.le_refl _
theorem eqBoolS_loop (s : List Bool) : ∀ (p : List Bool), p.length + s.length < 9223372036854775807 → Ev (fun k => laws_eqBoolS.l0 k (p ++ s) (p ++ s) (p.length : Int)) true := by
  induction s with
  | nil => intro p hl; exact ev_step (fun k => laws_eqBoolS.l0.eq_2 _ _ _ k) (ev_neg (by simp) (ev_some _))
  | cons x s ih =>
    intro p hl
    simp at hl
    refine ev_step (fun k => laws_eqBoolS.l0.eq_2 _ _ _ k) (ev_pos (by simp; omega) (ev_pos (by omega) (ev_pos (by simp; omega) ?_)))
    refine ev_neg (by simp) ?_
    rw [wrap_succ (by omega) (by omega)]
    simpa using ih (p ++ [x]) (by simp; omega)
theorem eqBoolS_ev (l : List Bool) (hl : l.length < 9223372036854775807) : Ev (fun k => laws_eqBoolS.f k l l) true := by
  unfold laws_eqBoolS.f
  refine ev_pos rfl ?_
  simpa using eqBoolS_loop l [] (by simp; omega)
end Go.Proofs.Ytfgnaneajonapaa.Lw

/- Printed out of the translation by this session's pr.py over the kit's print. Lean checks it. -/
namespace Go.Proofs.Ytfgnaneajonapaa.Pr
open Go.RowKit Go.Proofs.YtfgnaneajonapaaW.PrintWords Go.Proofs.YtfgnaneajonapaaW.PrintLast Go.Proofs.YtfgnaneajonapaaW.PrintMore
attribute [local go_sem] max2_int min2_int max_two min_two max_three min_three max_four min_four
set_option linter.unusedVariables false
set_option linter.unusedSimpArgs false

/-! ### laws_markBoolS: function 22 -/
def laws_markBoolS.l0 : Nat → List Bool → Int → Int → Option (Int × List Bool)
  | 0, _, _, _ => none
  | k + 1, x0, x1, x5 => if x5 < (x0.length : Int) then (if 0 ≤ x5 then (laws_markBoolS.l0 k (x0.set (x5 : Int).toNat ((Int.tmod x1 3) == 0)) (wrap64 (x1 + 1)) (wrap64 (x5 + 1))) else (none)) else (some (x1, x0))
def laws_markBoolS.f (k : Nat) (l0 : List Bool) (a1 : Int) : Option (Int × List Bool) := laws_markBoolS.l0 k l0 a1 0
set_option maxHeartbeats 8000000 in
set_option maxRecDepth 100000 in
theorem laws_markBoolS.calls (k : Nat) (P0_ : Nat → Prop) (u9000_ : Value) (l0 : List Bool) (a1 : Int) (r1 : Int) (r2 : List Bool) (w0 w : World) (hB : Below w0.heap.size w0 w) (ho0 : Kd.R Kd.bool 4 w w0.heap.size P0_ u9000_ l0) (h : laws_markBoolS.f k l0 a1 = some (r1, r2)) :
    Calls Try.prog 22 #[u9000_, .int .i64 a1] w fun e w' => e = .returned (.int .i64 r1) ∧ Kd.R Kd.bool 4 w' w0.heap.size (fun k_ => (P0_ k_ ∨ w.heap.size ≤ k_)) u9000_ r2 ∧ Below w0.heap.size w0 w' ∧ Kept w w' (fun k_ => P0_ k_) := by
  have HO0 := Aside0.mk (show Kd.R Kd.bool 4 w w0.heap.size (fun k_ => (P0_ k_ ∨ w.heap.size ≤ k_)) u9000_ l0 from Kd.R_mono ho0 (fun k_ hk => (.inl hk)))
  have HK := Aside0.mk (Kept.refl w (fun k_ => P0_ k_))
  have HW0 := Aside0.mk hB.size
  have HB := Aside0.mk hB
  clear hB
  have H : (laws_markBoolS.l0 k l0 a1 0) = some (r1, r2) := h
  clear h
  have H' := Aside0.mk H
  clear H
  go_enter Try.func22, Try.ntmps22
  go_wp2
  go_loopg [1, 5] k (fun kq v1 v5 w' => ∃ (x0_1 : List Bool) (x1_1 : Int) (x5_1 : Int), v1 = .int .i64 x1_1 ∧ v5 = .int .i64 x5_1 ∧ Aside0 (laws_markBoolS.l0 kq x0_1 x1_1 x5_1 = some (r1, r2)) ∧ Aside0 (kq ≤ k) ∧ Aside0 (Kd.R Kd.bool 4 w' w0.heap.size (fun k_ => (P0_ k_ ∨ w.heap.size ≤ k_)) u9000_ x0_1) ∧ Aside0 (Kept w w' (fun k_ => P0_ k_)) ∧ Aside0 (Below w0.heap.size w0 w'))
  case atStart => exact ⟨(l0), (a1), (0), FR, FR, H', ⟨Nat.le_refl _⟩, ⟨(RR HO0.out)⟩, ⟨by repeat (first | (with_reducible first | exact HK.out | apply Kept.alloc | apply Kept.drewN | apply Kept.drew) | exact HK.out)⟩, ⟨(BB HB.out)⟩⟩
  case round =>
    clear H'
    try clear c2
    try clear p2
    obtain ⟨x0_1, x1_1, x5_1, rfl, rfl, HA, HK1, HO_0, HK, HB⟩ := hrel
    cases gk with
    | zero => exact absurd HA.out (by simp [laws_markBoolS.l0])
    | succ k1 =>
      have H := HA.out
      clear HA
      simp only [laws_markBoolS.l0] at H
      by_cases c3 : x5_1 < (x0_1.length : Int)
      · rw [if_pos c3] at H
        have c3b0 : decide (x5_1 < (x0_1.length : Int)) = true := decide_eq_true c3
        clear c3
        by_cases c4 : 0 ≤ x5_1
        · rw [if_pos c4] at H
          have c4b0 : decide (0 ≤ x5_1) = true := decide_eq_true c4
          clear c4
          obtain ⟨y241, hy241⟩ : ∃ y_ : List Bool, y_ = (x0_1.set (x5_1 : Int).toNat ((Int.tmod x1_1 3) == 0)) := ⟨_, rfl⟩
          replace H : (laws_markBoolS.l0 k1 y241 (wrap64 (x1_1 + 1)) (wrap64 (x5_1 + 1))) = some (r1, r2) := by first | (rw [hy241]; with_reducible exact H) | (have H2_ := (Option.bind_some _ _).symm.trans H; rw [hy241]; with_reducible exact H2_) | (have H2_ := (Option.bind_some _ _).symm.trans H; with_reducible exact H2_) | with_reducible exact H | (rw [hy241]; exact H) | exact H
          have Ny241 := Aside0.mk hy241
          clear hy241
          have H' := Aside0.mk H
          clear H
          obtain ⟨Ao6, co6, eo6⟩ := Kd.R_slice HO_0.out
          subst eo6
          have p5 : 0 ≤ (x5_1 : Int) := DT
          have q5 : (x5_1 : Int) < ((x0_1.length : Int) : Int) := DT
          obtain ⟨go5, co5, eo5, gb5, gl5, cl5, HG5⟩ := Kd.R_form HO_0.out (by omega)
          (first | cases eo5 | (injection eo5 with ea_ en_ ec_; (first | subst ea_ | (injection ea_ with ea_; subst ea_)); subst ec_; clear en_))
          have GB5 := Aside0.mk gb5
          have GG5 := Aside0.mk HG5
          clear gb5 gl5 HG5
          have HMgo5 := Aside0.mk (show (P0_ go5 ∨ w.heap.size ≤ go5) from (HO_0.out.1 _ rfl))
          obtain ⟨hx5_0, hf5_0⟩ := Kd.R_celln false HO_0.out (x5_1 : Int) p5 q5
          replace p5 := eq_true p5
          replace q5 := eq_true q5
          have HP7 := Kd.R_putg HO_0.out (x5_1 : Int) ((Int.tmod x1_1 3) == 0)
          go_wp2_with (first | ((with_reducible refine gate_store (t := 4) (p := 17) rfl ?_); refine store_event (t := 4) (p := 17) (v := ?vo_w8) (w1 := (wr.setCell ⟨go5, (x5_1 : Int).toNat, none⟩ (.bool ((Int.tmod x1_1 3) == 0)))) ?hg ?ho ?hn ?hr ?_; (case ho => rfl); (case hg => rfl); (case hn => rfl); (case hr => first | (go_simp; done) | (go_simp; rfl)); intro w8 hw; have hg : wr.grownBy w8 (some go5) := (by rw [hw]; exact HP7.2); have hp_ : Kd.R Kd.bool 4 w8 w0.heap.size (fun k_ => (P0_ k_ ∨ w.heap.size ≤ k_)) (.slice (some ⟨go5, 0, none⟩) x0_1.length co6) y241 := (by rw [hw, Ny241.out]; exact HP7.1); clear HP7; have n0_ := Aside0.mk (hp_); have n1_ := Aside0.mk ((by rw [hw]; exact below_set (HB.out) GB5.out : Below w0.heap.size w0 w8)); have n2_ := Aside0.mk (Kept.of_grown (S := (fun k_ => P0_ k_)) hg (by repeat (first | (with_reducible first | exact HK.out | apply Kept.alloc | apply Kept.drewN | apply Kept.drew) | exact HK.out)) (fun k_ e_ => (HO_0.out.1 k_ e_))); clear HO_0; clear HB; clear HK; have HO_0 := n0_; have HB := n1_; have HK := n2_; clear n0_ n1_ n2_; clear hg hw hp_))
          go_roundg k1
          case measure => have := HK1.out; omega
          case rel => exact ⟨(y241), (wrap64 (x1_1 + 1)), (wrap64 (x5_1 + 1)), FR, FR, H', ⟨by have := HK1.out; omega⟩, ⟨(RR HO_0.out)⟩, ⟨by repeat (first | (with_reducible first | exact HK.out | apply Kept.alloc | apply Kept.drewN | apply Kept.drew) | exact HK.out)⟩, ⟨(BB HB.out)⟩⟩
        · rw [if_neg c4] at H
          exact absurd H (by simp)
      · rw [if_neg c3] at H
        have c3b0 : decide (x5_1 < (x0_1.length : Int)) = false := decide_eq_false c3
        clear c3
        simp only [Option.some.injEq, Prod.mk.injEq] at H
        obtain ⟨rfl, rfl⟩ := H
        obtain ⟨Ao9, co9, eo9⟩ := Kd.R_slice HO_0.out
        subst eo9
        go_wp2
        go_ret
        exact ⟨ER, by (with_reducible repeat (first | apply Kd.R_alloc | apply Kd.R_drewN | apply Kd.R_drew)); exact HO_0.out, (BB HB.out), by repeat (first | (with_reducible first | exact HK.out | apply Kept.alloc | apply Kept.drewN | apply Kept.drew) | exact HK.out)⟩

end Go.Proofs.Ytfgnaneajonapaa.Pr

/- Printed out of the translation by this session's pr.py over the kit's print. Lean checks it. -/
namespace Go.Proofs.Ytfgnaneajonapaa.Pr
open Go.RowKit Go.Proofs.YtfgnaneajonapaaW.PrintWords Go.Proofs.YtfgnaneajonapaaW.PrintLast Go.Proofs.YtfgnaneajonapaaW.PrintMore
attribute [local go_sem] max2_int min2_int max_two min_two max_three min_three max_four min_four
set_option linter.unusedVariables false
set_option linter.unusedSimpArgs false

/-! ### laws_heldBoolS: function 24 -/
def laws_heldBoolS.l0 : Nat → List Bool → Int → Int → Option (Int)
  | 0, _, _, _ => none
  | k + 1, x0, x1, x5 => if x5 < (x0.length : Int) then (if 0 ≤ x5 then (if ((rdOf false x0 x5) != ((Int.tmod x1 3) == 0)) = true then (some (-1)) else (laws_heldBoolS.l0 k x0 (wrap64 (x1 + 1)) (wrap64 (x5 + 1)))) else (none)) else (some x1)
def laws_heldBoolS.f (k : Nat) (l0 : List Bool) (a1 : Int) : Option (Int) := laws_heldBoolS.l0 k l0 a1 0
set_option maxHeartbeats 8000000 in
set_option maxRecDepth 100000 in
theorem laws_heldBoolS.calls (k : Nat) (A0 : Option Addr) (c0 : Nat) (l0 : List Bool) (a1 : Int) (r : Int) (w : World) (hr0 : Kd.C Kd.bool w A0 l0.length l0) (hc0 : l0.length ≤ c0) (h : laws_heldBoolS.f k l0 a1 = some r) :
    Calls Try.prog 24 #[.slice A0 l0.length c0, .int .i64 a1] w fun e w' => e = .returned (.int .i64 r) ∧ Drawn0 w w' := by
  have HR0 := Aside0.mk hr0
  have HC0 := Aside0.mk hc0
  clear hr0 hc0
  have H : (laws_heldBoolS.l0 k l0 a1 0) = some r := h
  clear h
  have H' := Aside0.mk H
  clear H
  go_enter Try.func24, Try.ntmps24
  go_wp2
  go_loopg [1, 5] k (fun kq v1 v5 w' => ∃ (x1_1 : Int) (x5_1 : Int), v1 = .int .i64 x1_1 ∧ v5 = .int .i64 x5_1 ∧ Aside0 (laws_heldBoolS.l0 kq l0 x1_1 x5_1 = some r) ∧ Aside0 (kq ≤ k) ∧ Drawn0 w w')
  case atStart => exact ⟨(a1), (0), FR, FR, H', ⟨Nat.le_refl _⟩, by repeat (first | exact Drawn0.refl _ | apply Drawn0.step)⟩
  case round =>
    clear H'
    try clear c2
    try clear p2
    obtain ⟨x1_1, x5_1, rfl, rfl, HA, HK1, ⟨m1, rfl⟩⟩ := hrel
    cases gk with
    | zero => exact absurd HA.out (by simp [laws_heldBoolS.l0])
    | succ k1 =>
      have H := HA.out
      clear HA
      simp only [laws_heldBoolS.l0] at H
      by_cases c3 : x5_1 < (l0.length : Int)
      · rw [if_pos c3] at H
        have c3b0 : decide (x5_1 < (l0.length : Int)) = true := decide_eq_true c3
        clear c3
        by_cases c4 : 0 ≤ x5_1
        · rw [if_pos c4] at H
          have c4b0 : decide (0 ≤ x5_1) = true := decide_eq_true c4
          clear c4
          by_cases c5 : ((rdOf false l0 x5_1) != ((Int.tmod x1_1 3) == 0)) = true
          · rw [if_pos c5] at H
            have c5b0 : ((rdOf false l0 x5_1) != ((Int.tmod x1_1 3) == 0)) = true := c5
            (try (have c5b1 : decide ((rdOf false l0 x5_1) = ((Int.tmod x1_1 3) == 0)) = false := by simpa using c5))
            (try (have c5b2 : ((rdOf false l0 x5_1) == ((Int.tmod x1_1 3) == 0)) = false := by simpa using c5))
            (try (have c5b3 : ¬ ((rdOf false l0 x5_1) = ((Int.tmod x1_1 3) == 0)) := by simpa using c5))
            clear c5
            obtain rfl := Option.some.inj H
            have p244 : 0 ≤ (x5_1 : Int) := DT
            have q244 : x5_1 < (l0.length : Int) := DT
            obtain ⟨ad244, e244, hx244_0⟩ := Kd.at_bool HR0.out x5_1 p244 q244
            cases e244
            replace p244 := eq_true p244
            replace q244 := eq_true q244
            go_wp2
            go_ret
            exact ⟨FR, by repeat (first | exact Drawn0.refl _ | apply Drawn0.step)⟩
          · rw [if_neg c5] at H
            have c5b0 : ((rdOf false l0 x5_1) != ((Int.tmod x1_1 3) == 0)) = false := by simpa using c5
            (try (have c5b1 : decide ((rdOf false l0 x5_1) = ((Int.tmod x1_1 3) == 0)) = true := by simpa using c5))
            (try (have c5b2 : ((rdOf false l0 x5_1) == ((Int.tmod x1_1 3) == 0)) = true := by simpa using c5))
            clear c5
            have H' := Aside0.mk H
            clear H
            have p244 : 0 ≤ (x5_1 : Int) := DT
            have q244 : x5_1 < (l0.length : Int) := DT
            obtain ⟨ad244, e244, hx244_0⟩ := Kd.at_bool HR0.out x5_1 p244 q244
            cases e244
            replace p244 := eq_true p244
            replace q244 := eq_true q244
            go_wp2
            go_roundg k1
            case measure => have := HK1.out; omega
            case rel => exact ⟨(wrap64 (x1_1 + 1)), (wrap64 (x5_1 + 1)), FR, FR, H', ⟨by have := HK1.out; omega⟩, by repeat (first | exact Drawn0.refl _ | apply Drawn0.step)⟩
        · rw [if_neg c4] at H
          exact absurd H (by simp)
      · rw [if_neg c3] at H
        have c3b0 : decide (x5_1 < (l0.length : Int)) = false := decide_eq_false c3
        clear c3
        obtain rfl := Option.some.inj H
        go_wp2
        go_ret
        exact ⟨FR, by repeat (first | exact Drawn0.refl _ | apply Drawn0.step)⟩

end Go.Proofs.Ytfgnaneajonapaa.Pr

/- Generated by plumb.py: the laws' helpers of a type, told as plain functions. -/
namespace Go.Proofs.Ytfgnaneajonapaa.Lw
open Go.RowKit Go.Proofs.YtfgnaneajonapaaW.PrintWords Go.Proofs.Ytfgnaneajonapaa.Pr Go.Proofs.Ytfgnaneajonapaa.Evs
set_option linter.unusedVariables false
noncomputable def mkBoolS : List Bool → Int → List Bool
  | [], _ => []
  | _ :: s, n => (Int.tmod n 3 == 0) :: mkBoolS s (n + 1)
theorem markBoolS_loop (s : List Bool) : ∀ (q : List Bool) (n : Int), 0 ≤ n → n + s.length < 9223372036854775000 → q.length + s.length < 9223372036854775807 →
    Ev (fun k => laws_markBoolS.l0 k (q ++ s) n (q.length : Int)) (n + s.length, q ++ mkBoolS s n) := by
  induction s with
  | nil => intro q n h0 h1 hl; exact ev_step (fun k => laws_markBoolS.l0.eq_2 _ _ _ k) (ev_neg (by simp) (ev_eq (ev_some _) (by simp [mkBoolS])))
  | cons x s ih =>
    intro q n h0 h1 hl
    simp at h1 hl
    have e1 : wrap64 (n + 1) = n + 1 := wrap_in (by omega) (by omega)
    have e0 : wrap64 ((q.length : Int) + 1) = (q.length : Int) + 1 := wrap_in (by omega) (by omega)
    have hr : (n + ((x :: s).length : Int), q ++ mkBoolS (x :: s) n) = (n + 1 + (s.length : Int), (q ++ [(Int.tmod n 3 == 0)]) ++ mkBoolS s (n + 1)) := by
      simp [mkBoolS]
      omega
    rw [hr]
    have h := ih (q ++ [(Int.tmod n 3 == 0)]) (n + 1) (by omega) (by omega) (by simp; omega)
    refine ev_step (fun k => laws_markBoolS.l0.eq_2 _ _ _ k) ?_
    simp only [e0, e1]
    repeat (first | with_reducible refine ev_pos (by first | omega | (simp; omega)) ?_ | with_reducible refine ev_bind (mt_ev _ (by omega)) ?_ | with_reducible refine ev_call rfl ?_)
    simp only [set_mid _ _ _ _ _ rfl]
    simpa using h
theorem markBoolS_ev (l : List Bool) (n : Int) (h0 : 0 ≤ n) (h1 : n + l.length < 9223372036854775000) : Ev (fun k => laws_markBoolS.f k l n) (n + l.length, mkBoolS l n) := by
  unfold laws_markBoolS.f
  simpa using markBoolS_loop l [] n h0 h1 (by simp; omega)
theorem heldBoolS_loop (s : List Bool) : ∀ (q : List Bool) (n : Int), 0 ≤ n → n + s.length < 9223372036854775000 → q.length + s.length < 9223372036854775807 →
    Ev (fun k => laws_heldBoolS.l0 k (q ++ mkBoolS s n) n (q.length : Int)) (n + s.length) := by
  induction s with
  | nil => intro q n h0 h1 hl; exact ev_step (fun k => laws_heldBoolS.l0.eq_2 _ _ _ k) (ev_neg (by simp [mkBoolS]) (ev_eq (ev_some _) (by simp)))
  | cons x s ih =>
    intro q n h0 h1 hl
    simp at h1 hl
    have e1 : wrap64 (n + 1) = n + 1 := wrap_in (by omega) (by omega)
    have e0 : wrap64 ((q.length : Int) + 1) = (q.length : Int) + 1 := wrap_in (by omega) (by omega)
    simp only [mkBoolS]
    refine ev_step (fun k => laws_heldBoolS.l0.eq_2 _ _ _ k) ?_
    simp only [rdBool, e0, e1]
    repeat (first | with_reducible refine ev_pos (by first | omega | (simp; done) | (simp; omega)) ?_ | with_reducible refine ev_neg (by simp; done) ?_ | with_reducible refine ev_bind (mt_ev _ (by omega)) ?_)
    have h := ih (q ++ [(Int.tmod n 3 == 0)]) (n + 1) (by omega) (by omega) (by simp; omega)
    have hr : n + ((x :: s).length : Int) = n + 1 + (s.length : Int) := by simp; omega
    rw [hr]
    simpa using h
theorem heldBoolS_ev (l : List Bool) (n : Int) (h0 : 0 ≤ n) (h1 : n + l.length < 9223372036854775000) : Ev (fun k => laws_heldBoolS.f k (mkBoolS l n) n) (n + l.length) := by
  unfold laws_heldBoolS.f
  simpa using heldBoolS_loop l [] n h0 h1 (by simp; omega)
end Go.Proofs.Ytfgnaneajonapaa.Lw

/- A contract of my own: DelC. -/
namespace Go.Proofs.Ytfgnaneajonapaa.Pr
open Go.RowKit Go.Proofs.YtfgnaneajonapaaW.PrintWords Go.Proofs.YtfgnaneajonapaaW.PrintLast Go.Proofs.YtfgnaneajonapaaW.PrintMore
set_option linter.unusedVariables false
set_option linter.unusedSimpArgs false
/-- Runs of stores. -/
theorem setCells_app (g : Nat) : ∀ (a b : List Value) (o : Nat) (w : World), w.setCells g o (a ++ b) = (w.setCells g o a).setCells g (o + a.length) b
  | [], _, _, _ => rfl
  | v :: r, b, o, w => by
    rw [List.cons_append, World.setCells, World.setCells, setCells_app g r b]
    congr 1
    simp
    omega
theorem below_cells {B g : Nat} (hg : B ≤ g) : ∀ (vs : List Value) (o : Nat) (a w : World), Below B a w → Below B a (w.setCells g o vs)
  | [], _, _, _, h => h
  | v :: r, o, a, w, h => below_cells hg r (o + 1) a _ (h.setCell hg v)
end Go.Proofs.Ytfgnaneajonapaa.Pr

/- A contract of my own: MkH. -/
namespace Go.Proofs.Ytfgnaneajonapaa.Pr
open Go.RowKit Go.Proofs.YtfgnaneajonapaaW.PrintWords Go.Proofs.YtfgnaneajonapaaW.PrintLast Go.Proofs.YtfgnaneajonapaaW.PrintMore
set_option linter.unusedVariables false
set_option linter.unusedSimpArgs false
theorem H_open {α : Type} {d : Kd α} {e g cap n : Nat} {W : World} {base : Nat} {ok oki : Nat → Prop} {xs : List α} {i : Int} {c : List Value} (h : Kd.H d e W base ok (.slice (some ⟨g, 0, none⟩) n cap) xs i oki c) (h0 : 0 ≤ i) (h1 : i < n) :
    c.length = d.sz ∧ (∀ j u, c[j]? = some u → W.cell? ⟨g, i.toNat * d.sz + j, none⟩ = some u) ∧ ∀ j, W.frozen? ⟨g, i.toNat * d.sz + j, none⟩ = false := by
  obtain ⟨rows, hl, hraw, hcl, _, hcc, _⟩ := Kd.H_raw h h0 h1
  obtain ⟨_, _, _, _, hfr⟩ := Kd.R_elem hraw [] i h0 h1
  exact ⟨hcl, hcc, hfr⟩
theorem R_reok {α : Type} {d : Kd α} {e : Nat} {W : World} {base : Nat} {ok ok' : Nat → Prop} {v : Value} {xs : List α} (h : d.R e W base ok v xs) (hv : ∀ k, v.ownBlock = some k → ok' k) (hM : ∀ okA okB x cs, d.M W base okA x cs → d.M W base okB x cs) : d.R e W base ok' v xs :=
  ⟨hv, h.2.imp_ (fun _ _ hp => hM _ _ _ _ hp)⟩
end Go.Proofs.Ytfgnaneajonapaa.Pr

/- Printed out of the translation by this session's pr.py over the kit's print. Lean checks it. -/
namespace Go.Proofs.Ytfgnaneajonapaa.Pr
open Go.RowKit Go.Proofs.YtfgnaneajonapaaW.PrintWords Go.Proofs.YtfgnaneajonapaaW.PrintLast Go.Proofs.YtfgnaneajonapaaW.PrintMore
attribute [local go_sem] max2_int min2_int max_two min_two max_three min_three max_four min_four
set_option linter.unusedVariables false
set_option linter.unusedSimpArgs false

/-! ### laws_heldUnitS: function 130 -/
def laws_heldUnitS.l0 : Nat → List (S146) → Int → Int → Option (Int)
  | 0, _, _, _ => none
  | k + 1, x0, x1, x5 => if x5 < (x0.length : Int) then (if 0 ≤ x5 then (if ((rd_T146 x0 x5).f0) = x1 then (if ((rd_T146 x0 x5).f1) = (wrap64 (x1 + 1)) then ((laws_markText.f k (wrap64 ((wrap64 (x1 + 1)) + 1))).bind fun t672 => (if ((rd_T146 x0 x5).f2).toList = t672.toList then (if ((rd_T146 x0 x5).f3) = (wrap64 ((wrap64 ((wrap64 (x1 + 1)) + 1)) + 1)) then (laws_heldUnitS.l0 k x0 (wrap64 ((wrap64 ((wrap64 ((wrap64 (x1 + 1)) + 1)) + 1)) + 1)) (wrap64 (x5 + 1))) else (some (-1))) else (some (-1)))) else (some (-1))) else (some (-1))) else (none)) else (some x1)
def laws_heldUnitS.f (k : Nat) (l0 : List (S146)) (a1 : Int) : Option (Int) := laws_heldUnitS.l0 k l0 a1 0
def laws_heldUnitS.T10 : Bool × List (List Nat × List Nat) := (true, [([], []), ([], []), ([0, 1], [0, 1]), ([2], [2]), ([3], [3]), ([], []), ([5], [5]), ([4, 6], [4, 6])])
def laws_heldUnitS.B10 : List Nat := [0, 0, 3, 7, 15, 0, 32, 127]
theorem laws_heldUnitS.tab10 : rtab .any (opsOf Try.f130 10) = laws_heldUnitS.T10 := by kernel_rfl
theorem laws_heldUnitS.bits10 : waitsOk laws_heldUnitS.T10.2 laws_heldUnitS.B10 = true := by kernel_rfl
set_option maxHeartbeats 8000000 in
set_option maxRecDepth 100000 in
theorem laws_heldUnitS.calls (k : Nat) (A0 : Option Addr) (c0 : Nat) (l0 : List (S146)) (a1 : Int) (r : Int) (w : World) (hr0 : Kd.C k146 w A0 l0.length l0) (hc0 : l0.length ≤ c0) (h : laws_heldUnitS.f k l0 a1 = some r) :
    Calls Try.prog 130 #[.slice A0 l0.length c0, .int .i64 a1] w fun e w' => e = .returned (.int .i64 r) ∧ Below w.heap.size w w' := by
  have HR0 := Aside0.mk hr0
  have HC0 := Aside0.mk hc0
  clear hr0 hc0
  have HB := Aside0.mk (Below.refl w.heap.size w)
  have H : (laws_heldUnitS.l0 k l0 a1 0) = some r := h
  clear h
  have H' := Aside0.mk H
  clear H
  go_enter Try.func130, Try.ntmps130
  go_wp2
  go_loopg [1, 5] k (fun kq v1 v5 w' => ∃ (x1_1 : Int) (x5_1 : Int), v1 = .int .i64 x1_1 ∧ v5 = .int .i64 x5_1 ∧ Aside0 (laws_heldUnitS.l0 kq l0 x1_1 x5_1 = some r) ∧ Aside0 (kq ≤ k) ∧ Aside0 (Below w.heap.size w w'))
  case atStart => exact ⟨(a1), (0), FR, FR, H', ⟨Nat.le_refl _⟩, ⟨(BB HB.out)⟩⟩
  case round =>
    clear H'
    try clear c1
    try clear p2
    obtain ⟨x1_1, x5_1, rfl, rfl, HA, HK1, HB⟩ := hrel
    cases gk with
    | zero => exact absurd HA.out (by simp [laws_heldUnitS.l0])
    | succ k1 =>
      have H := HA.out
      clear HA
      simp only [laws_heldUnitS.l0] at H
      by_cases c3 : x5_1 < (l0.length : Int)
      · rw [if_pos c3] at H
        have c3b0 : decide (x5_1 < (l0.length : Int)) = true := decide_eq_true c3
        clear c3
        by_cases c4 : 0 ≤ x5_1
        · rw [if_pos c4] at H
          have c4b0 : decide (0 ≤ x5_1) = true := decide_eq_true c4
          clear c4
          by_cases c5 : ((rd_T146 l0 x5_1).f0) = x1_1
          · rw [if_pos c5] at H
            have c5b0 : (((rd_T146 l0 x5_1).f0) == x1_1) = true := beq_iff_eq.mpr c5
            have c5b1 : (((rd_T146 l0 x5_1).f0) != x1_1) = false := bne_eq_false_iff_eq.mpr c5
            clear c5
            by_cases c6 : ((rd_T146 l0 x5_1).f1) = (wrap64 (x1_1 + 1))
            · rw [if_pos c6] at H
              have c6b0 : (((rd_T146 l0 x5_1).f1) == (wrap64 (x1_1 + 1))) = true := beq_iff_eq.mpr c6
              have c6b1 : (((rd_T146 l0 x5_1).f1) != (wrap64 (x1_1 + 1))) = false := bne_eq_false_iff_eq.mpr c6
              clear c6
              replace H := Option.bind_eq_some_iff.mp H
              obtain ⟨t672, A70, H⟩ := H
              replace H : (if ((rd_T146 l0 x5_1).f2).toList = t672.toList then (if ((rd_T146 l0 x5_1).f3) = (wrap64 ((wrap64 ((wrap64 (x1_1 + 1)) + 1)) + 1)) then (laws_heldUnitS.l0 k1 l0 (wrap64 ((wrap64 ((wrap64 ((wrap64 (x1_1 + 1)) + 1)) + 1)) + 1)) (wrap64 (x5_1 + 1))) else (some (-1))) else (some (-1))) = some r := H
              have A7 := Aside0.mk A70
              clear A70
              by_cases c8 : ((rd_T146 l0 x5_1).f2).toList = t672.toList
              · rw [if_pos c8] at H
                have c8b0 : (((rd_T146 l0 x5_1).f2).toList == t672.toList) = true := beq_iff_eq.mpr c8
                have c8b1 : (((rd_T146 l0 x5_1).f2).toList != t672.toList) = false := bne_eq_false_iff_eq.mpr c8
                clear c8
                by_cases c9 : ((rd_T146 l0 x5_1).f3) = (wrap64 ((wrap64 ((wrap64 (x1_1 + 1)) + 1)) + 1))
                · rw [if_pos c9] at H
                  have c9b0 : (((rd_T146 l0 x5_1).f3) == (wrap64 ((wrap64 ((wrap64 (x1_1 + 1)) + 1)) + 1))) = true := beq_iff_eq.mpr c9
                  have c9b1 : (((rd_T146 l0 x5_1).f3) != (wrap64 ((wrap64 ((wrap64 (x1_1 + 1)) + 1)) + 1))) = false := bne_eq_false_iff_eq.mpr c9
                  clear c9
                  have H' := Aside0.mk H
                  clear H
                  have p669 : 0 ≤ (x5_1 : Int) := DT
                  have q669 : x5_1 < (l0.length : Int) := DT
                  obtain ⟨ad669, e669, hx669_0, hx669_1, hx669_2, hx669_3⟩ := at_T146 HR0.out x5_1 p669 q669
                  cases e669
                  replace hx669_0 := (HB.out.cell (World.block_lt_of_cell? w _ hx669_0)).trans hx669_0
                  replace hx669_1 := (HB.out.cell (World.block_lt_of_cell? w _ hx669_1)).trans hx669_1
                  replace hx669_2 := (HB.out.cell (World.block_lt_of_cell? w _ hx669_2)).trans hx669_2
                  replace hx669_3 := (HB.out.cell (World.block_lt_of_cell? w _ hx669_3)).trans hx669_3
                  replace p669 := eq_true p669
                  replace q669 := eq_true q669
                  have p670 : 0 ≤ (x5_1 : Int) := DT
                  have q670 : x5_1 < (l0.length : Int) := DT
                  obtain ⟨ad670, e670, hx670_0, hx670_1, hx670_2, hx670_3⟩ := at_T146 HR0.out x5_1 p670 q670
                  obtain rfl : ad669 = ad670 := (by injection e670)
                  replace hx670_0 := (HB.out.cell (World.block_lt_of_cell? w _ hx670_0)).trans hx670_0
                  replace hx670_1 := (HB.out.cell (World.block_lt_of_cell? w _ hx670_1)).trans hx670_1
                  replace hx670_2 := (HB.out.cell (World.block_lt_of_cell? w _ hx670_2)).trans hx670_2
                  replace hx670_3 := (HB.out.cell (World.block_lt_of_cell? w _ hx670_3)).trans hx670_3
                  replace p670 := eq_true p670
                  replace q670 := eq_true q670
                  try go_wp2
                  have n0_ := Aside0.mk (below_drew1 HB.out)
                  clear HB
                  have HB := n0_
                  clear n0_
                  have p671 : 0 ≤ (x5_1 : Int) := DT
                  have q671 : x5_1 < (l0.length : Int) := DT
                  obtain ⟨ad671, e671, hx671_0, hx671_1, hx671_2, hx671_3⟩ := at_T146 HR0.out x5_1 p671 q671
                  have hw671_3 := hx671_3
                  have hw671_2 := hx671_2
                  have hw671_1 := hx671_1
                  have hw671_0 := hx671_0
                  obtain rfl : ad669 = ad671 := (by injection e671)
                  replace hx671_0 := (HB.out.cell (World.block_lt_of_cell? w _ hx671_0)).trans hx671_0
                  replace hx671_1 := (HB.out.cell (World.block_lt_of_cell? w _ hx671_1)).trans hx671_1
                  replace hx671_2 := (HB.out.cell (World.block_lt_of_cell? w _ hx671_2)).trans hx671_2
                  replace hx671_3 := (HB.out.cell (World.block_lt_of_cell? w _ hx671_3)).trans hx671_3
                  replace p671 := eq_true p671
                  replace q671 := eq_true q671
                  refine start_ (n := 8) (S := fun w' => w'.cell? (ad669.add ((x5_1).toNat * 4)) = some (.int .i64 ((rd_T146 l0 x5_1).f0)) ∧ w'.cell? ⟨(ad669.add ((x5_1).toNat * 4)).block, (ad669.add ((x5_1).toNat * 4)).off + 1, none⟩ = some (.int .i64 ((rd_T146 l0 x5_1).f1)) ∧ w'.cell? ⟨(ad669.add ((x5_1).toNat * 4)).block, (ad669.add ((x5_1).toNat * 4)).off + 2, none⟩ = some (.string ((rd_T146 l0 x5_1).f2)) ∧ w'.cell? ⟨(ad669.add ((x5_1).toNat * 4)).block, (ad669.add ((x5_1).toNat * 4)).off + 3, none⟩ = some (.int .i64 ((rd_T146 l0 x5_1).f3))) (ds := []) #[false, false, false, false, false, false, false, false] (by kernel_rfl) rfl rfl ⟨((HB.out.cell (World.block_lt_of_cell? w _ hw671_0)).trans hw671_0), ((HB.out.cell (World.block_lt_of_cell? w _ hw671_1)).trans hw671_1), ((HB.out.cell (World.block_lt_of_cell? w _ hw671_2)).trans hw671_2), ((HB.out.cell (World.block_lt_of_cell? w _ hw671_3)).trans hw671_3)⟩ (fun hHeld => ?_); refine with_tabW laws_heldUnitS.tab10 laws_heldUnitS.bits10 (fun HT_ HW_ => ?_)
                  generalize wr.drew = w10 at HB hx671_0 hx671_1 hx671_2 hx671_3 hHeld ⊢
                  refine pure_ (i := 0) (N := some 30) (v := ?_) (a' := ?_) #[true, false, false, false, false, false, false, false] rfl rfl (any_of HT_.out (by kernel_rfl)) (fun _ _ _ h => h) (Or.inl ⟨by rfl, ?_⟩) ?_ ?_
                  rotate_left
                  · intro w'
                    go_simp
                    with_reducible rfl
                  rotate_left
                  · simp only [Act.put, List.setIfInBounds_toArray, List.set_cons_zero, List.set_cons_succ, i64_w, i32_w]
                    rfl
                  refine pure_ (i := 1) (N := some 31) (v := ?_) (a' := ?_) #[true, true, false, false, false, false, false, false] rfl rfl (any_of HT_.out (by kernel_rfl)) (fun _ _ _ h => h) (Or.inl ⟨by rfl, ?_⟩) ?_ ?_
                  rotate_left
                  · intro w'
                    go_simp
                    with_reducible rfl
                  rotate_left
                  · simp only [Act.put, List.setIfInBounds_toArray, List.set_cons_zero, List.set_cons_succ, i64_w, i32_w]
                    rfl
                  refine pure_ (i := 2) (N := some 32) (v := ?_) (a' := ?_) #[true, true, true, false, false, false, false, false] rfl rfl (any_of HT_.out (by kernel_rfl)) (fun _ _ _ h => h) (Or.inl ⟨by rfl, ?_⟩) ?_ ?_
                  rotate_left
                  · intro w'
                    go_simp
                    with_reducible rfl
                  rotate_left
                  · simp only [Act.put, List.setIfInBounds_toArray, List.set_cons_zero, List.set_cons_succ, i64_w, i32_w]
                    rfl
                  refine pure_ (i := 3) (N := some 33) (v := ?_) (a' := ?_) #[true, true, true, true, false, false, false, false] rfl rfl (any_of HT_.out (by kernel_rfl)) (fun _ _ _ h => h) (Or.inl ⟨by rfl, ?_⟩) ?_ ?_
                  rotate_left
                  · intro w'
                    go_simp
                    with_reducible rfl
                  rotate_left
                  · simp only [Act.put, List.setIfInBounds_toArray, List.set_cons_zero, List.set_cons_succ, i64_w, i32_w]
                    rfl
                  refine pure_ (i := 5) (N := some 35) (v := ?_) (a' := ?_) #[true, true, true, true, false, true, false, false] rfl rfl (any_of HT_.out (by kernel_rfl)) (fun _ _ _ h => h) (Or.inl ⟨by rfl, ?_⟩) ?_ ?_
                  rotate_left
                  · intro w'
                    go_simp
                    with_reducible rfl
                  rotate_left
                  · simp only [Act.put, List.setIfInBounds_toArray, List.set_cons_zero, List.set_cons_succ, i64_w, i32_w]
                    rfl
                  refine take_ (i := 4) (N := some 34) (v := ?_) (a' := ?_) #[true, true, true, true, true, true, false, false] rfl rfl (take_ofW HT_.out HW_.out (by kernel_rfl)) (fun _ _ _ h => h) (Or.inl ⟨by rfl, ?_⟩) hHeld ?_ ?_
                  rotate_left
                  · rintro w' ⟨s0, s1, s2, s3⟩
                    go_simp
                    with_reducible rfl
                  rotate_left
                  · simp only [Act.put, List.setIfInBounds_toArray, List.set_cons_zero, List.set_cons_succ, i64_w, i32_w]
                    rfl
                  refine one_ (i := 6) (N := some 36) #[true, true, true, true, true, true, true, false] rfl rfl (one_of HT_.out (by kernel_rfl)) (by decide) (fun K hK => ?_)
                  refine goes_ Try.func60 (by kernel_rfl) rfl #[.int .i64 (wrap64 ((wrap64 (x1_1 + 1)) + 1))] (by rfl) rfl rfl (by (try simp only [List.map_toArray, List.map_cons, List.map_nil]); first | done | rfl | (simp only [List.length_drop, List.length_take]; rfl)) ?_
                  with_reducible refine (laws_markText.calls k1 (wrap64 ((wrap64 (x1_1 + 1)) + 1)) t672 _ A7.out).mono ?_
                  rintro e w11 ⟨rfl, hb⟩
                  refine ⟨_, rfl, ?_⟩
                  have n0_ := Aside0.mk (below_step (BB HB.out) hb)
                  clear HB
                  have HB := n0_
                  clear n0_
                  (try clear hb)
                  (try clear hb2)
                  (try clear hk)
                  (try clear hi)
                  refine hK.out _ _ ⟨((HB.out.cell (World.block_lt_of_cell? w _ hw671_0)).trans hw671_0), ((HB.out.cell (World.block_lt_of_cell? w _ hw671_1)).trans hw671_1), ((HB.out.cell (World.block_lt_of_cell? w _ hw671_2)).trans hw671_2), ((HB.out.cell (World.block_lt_of_cell? w _ hw671_3)).trans hw671_3)⟩ (fun hHeld => ?_)
                  clear hK K
                  refine norm_ (a' := ?_) ?_ ?_
                  rotate_left
                  · show Act.put _ (some 36) _ = _
                    simp only [Act.put, List.setIfInBounds_toArray, List.set_cons_zero, List.set_cons_succ, i64_w, i32_w]
                    rfl
                  refine pure_ (i := 7) (N := some 37) (v := ?_) (a' := ?_) #[true, true, true, true, true, true, true, true] rfl rfl (any_of HT_.out (by kernel_rfl)) (fun _ _ _ h => h) (Or.inl ⟨by rfl, ?_⟩) ?_ ?_
                  rotate_left
                  · intro w'
                    go_simp
                    with_reducible rfl
                  rotate_left
                  · simp only [Act.put, List.setIfInBounds_toArray, List.set_cons_zero, List.set_cons_succ, i64_w, i32_w]
                    rfl
                  refine done_ (done_of HT_.out (by kernel_rfl)) ?_
                  have p673 : 0 ≤ (x5_1 : Int) := DT
                  have q673 : x5_1 < (l0.length : Int) := DT
                  obtain ⟨ad673, e673, hx673_0, hx673_1, hx673_2, hx673_3⟩ := at_T146 HR0.out x5_1 p673 q673
                  obtain rfl : ad669 = ad673 := (by injection e673)
                  replace hx673_0 := (HB.out.cell (World.block_lt_of_cell? w _ hx673_0)).trans hx673_0
                  replace hx673_1 := (HB.out.cell (World.block_lt_of_cell? w _ hx673_1)).trans hx673_1
                  replace hx673_2 := (HB.out.cell (World.block_lt_of_cell? w _ hx673_2)).trans hx673_2
                  replace hx673_3 := (HB.out.cell (World.block_lt_of_cell? w _ hx673_3)).trans hx673_3
                  replace p673 := eq_true p673
                  replace q673 := eq_true q673
                  try go_wp2
                  go_roundg k1
                  case measure => have := HK1.out; omega
                  case rel => exact ⟨(wrap64 ((wrap64 ((wrap64 ((wrap64 (x1_1 + 1)) + 1)) + 1)) + 1)), (wrap64 (x5_1 + 1)), FR, FR, H', ⟨by have := HK1.out; omega⟩, ⟨(BB HB.out)⟩⟩
                · rw [if_neg c9] at H
                  have c9b0 : (((rd_T146 l0 x5_1).f3) == (wrap64 ((wrap64 ((wrap64 (x1_1 + 1)) + 1)) + 1))) = false := beq_eq_false_iff_ne.mpr c9
                  have c9b1 : (((rd_T146 l0 x5_1).f3) != (wrap64 ((wrap64 ((wrap64 (x1_1 + 1)) + 1)) + 1))) = true := bne_iff_ne.mpr c9
                  obtain rfl := Option.some.inj H
                  have p669 : 0 ≤ (x5_1 : Int) := DT
                  have q669 : x5_1 < (l0.length : Int) := DT
                  obtain ⟨ad669, e669, hx669_0, hx669_1, hx669_2, hx669_3⟩ := at_T146 HR0.out x5_1 p669 q669
                  cases e669
                  replace hx669_0 := (HB.out.cell (World.block_lt_of_cell? w _ hx669_0)).trans hx669_0
                  replace hx669_1 := (HB.out.cell (World.block_lt_of_cell? w _ hx669_1)).trans hx669_1
                  replace hx669_2 := (HB.out.cell (World.block_lt_of_cell? w _ hx669_2)).trans hx669_2
                  replace hx669_3 := (HB.out.cell (World.block_lt_of_cell? w _ hx669_3)).trans hx669_3
                  replace p669 := eq_true p669
                  replace q669 := eq_true q669
                  have p670 : 0 ≤ (x5_1 : Int) := DT
                  have q670 : x5_1 < (l0.length : Int) := DT
                  obtain ⟨ad670, e670, hx670_0, hx670_1, hx670_2, hx670_3⟩ := at_T146 HR0.out x5_1 p670 q670
                  obtain rfl : ad669 = ad670 := (by injection e670)
                  replace hx670_0 := (HB.out.cell (World.block_lt_of_cell? w _ hx670_0)).trans hx670_0
                  replace hx670_1 := (HB.out.cell (World.block_lt_of_cell? w _ hx670_1)).trans hx670_1
                  replace hx670_2 := (HB.out.cell (World.block_lt_of_cell? w _ hx670_2)).trans hx670_2
                  replace hx670_3 := (HB.out.cell (World.block_lt_of_cell? w _ hx670_3)).trans hx670_3
                  replace p670 := eq_true p670
                  replace q670 := eq_true q670
                  try go_wp2
                  have n0_ := Aside0.mk (below_drew1 HB.out)
                  clear HB
                  have HB := n0_
                  clear n0_
                  have p671 : 0 ≤ (x5_1 : Int) := DT
                  have q671 : x5_1 < (l0.length : Int) := DT
                  obtain ⟨ad671, e671, hx671_0, hx671_1, hx671_2, hx671_3⟩ := at_T146 HR0.out x5_1 p671 q671
                  have hw671_3 := hx671_3
                  have hw671_2 := hx671_2
                  have hw671_1 := hx671_1
                  have hw671_0 := hx671_0
                  obtain rfl : ad669 = ad671 := (by injection e671)
                  replace hx671_0 := (HB.out.cell (World.block_lt_of_cell? w _ hx671_0)).trans hx671_0
                  replace hx671_1 := (HB.out.cell (World.block_lt_of_cell? w _ hx671_1)).trans hx671_1
                  replace hx671_2 := (HB.out.cell (World.block_lt_of_cell? w _ hx671_2)).trans hx671_2
                  replace hx671_3 := (HB.out.cell (World.block_lt_of_cell? w _ hx671_3)).trans hx671_3
                  replace p671 := eq_true p671
                  replace q671 := eq_true q671
                  refine start_ (n := 8) (S := fun w' => w'.cell? (ad669.add ((x5_1).toNat * 4)) = some (.int .i64 ((rd_T146 l0 x5_1).f0)) ∧ w'.cell? ⟨(ad669.add ((x5_1).toNat * 4)).block, (ad669.add ((x5_1).toNat * 4)).off + 1, none⟩ = some (.int .i64 ((rd_T146 l0 x5_1).f1)) ∧ w'.cell? ⟨(ad669.add ((x5_1).toNat * 4)).block, (ad669.add ((x5_1).toNat * 4)).off + 2, none⟩ = some (.string ((rd_T146 l0 x5_1).f2)) ∧ w'.cell? ⟨(ad669.add ((x5_1).toNat * 4)).block, (ad669.add ((x5_1).toNat * 4)).off + 3, none⟩ = some (.int .i64 ((rd_T146 l0 x5_1).f3))) (ds := []) #[false, false, false, false, false, false, false, false] (by kernel_rfl) rfl rfl ⟨((HB.out.cell (World.block_lt_of_cell? w _ hw671_0)).trans hw671_0), ((HB.out.cell (World.block_lt_of_cell? w _ hw671_1)).trans hw671_1), ((HB.out.cell (World.block_lt_of_cell? w _ hw671_2)).trans hw671_2), ((HB.out.cell (World.block_lt_of_cell? w _ hw671_3)).trans hw671_3)⟩ (fun hHeld => ?_); refine with_tabW laws_heldUnitS.tab10 laws_heldUnitS.bits10 (fun HT_ HW_ => ?_)
                  generalize wr.drew = w12 at HB hx671_0 hx671_1 hx671_2 hx671_3 hHeld ⊢
                  refine pure_ (i := 0) (N := some 30) (v := ?_) (a' := ?_) #[true, false, false, false, false, false, false, false] rfl rfl (any_of HT_.out (by kernel_rfl)) (fun _ _ _ h => h) (Or.inl ⟨by rfl, ?_⟩) ?_ ?_
                  rotate_left
                  · intro w'
                    go_simp
                    with_reducible rfl
                  rotate_left
                  · simp only [Act.put, List.setIfInBounds_toArray, List.set_cons_zero, List.set_cons_succ, i64_w, i32_w]
                    rfl
                  refine pure_ (i := 1) (N := some 31) (v := ?_) (a' := ?_) #[true, true, false, false, false, false, false, false] rfl rfl (any_of HT_.out (by kernel_rfl)) (fun _ _ _ h => h) (Or.inl ⟨by rfl, ?_⟩) ?_ ?_
                  rotate_left
                  · intro w'
                    go_simp
                    with_reducible rfl
                  rotate_left
                  · simp only [Act.put, List.setIfInBounds_toArray, List.set_cons_zero, List.set_cons_succ, i64_w, i32_w]
                    rfl
                  refine pure_ (i := 2) (N := some 32) (v := ?_) (a' := ?_) #[true, true, true, false, false, false, false, false] rfl rfl (any_of HT_.out (by kernel_rfl)) (fun _ _ _ h => h) (Or.inl ⟨by rfl, ?_⟩) ?_ ?_
                  rotate_left
                  · intro w'
                    go_simp
                    with_reducible rfl
                  rotate_left
                  · simp only [Act.put, List.setIfInBounds_toArray, List.set_cons_zero, List.set_cons_succ, i64_w, i32_w]
                    rfl
                  refine pure_ (i := 3) (N := some 33) (v := ?_) (a' := ?_) #[true, true, true, true, false, false, false, false] rfl rfl (any_of HT_.out (by kernel_rfl)) (fun _ _ _ h => h) (Or.inl ⟨by rfl, ?_⟩) ?_ ?_
                  rotate_left
                  · intro w'
                    go_simp
                    with_reducible rfl
                  rotate_left
                  · simp only [Act.put, List.setIfInBounds_toArray, List.set_cons_zero, List.set_cons_succ, i64_w, i32_w]
                    rfl
                  refine pure_ (i := 5) (N := some 35) (v := ?_) (a' := ?_) #[true, true, true, true, false, true, false, false] rfl rfl (any_of HT_.out (by kernel_rfl)) (fun _ _ _ h => h) (Or.inl ⟨by rfl, ?_⟩) ?_ ?_
                  rotate_left
                  · intro w'
                    go_simp
                    with_reducible rfl
                  rotate_left
                  · simp only [Act.put, List.setIfInBounds_toArray, List.set_cons_zero, List.set_cons_succ, i64_w, i32_w]
                    rfl
                  refine take_ (i := 4) (N := some 34) (v := ?_) (a' := ?_) #[true, true, true, true, true, true, false, false] rfl rfl (take_ofW HT_.out HW_.out (by kernel_rfl)) (fun _ _ _ h => h) (Or.inl ⟨by rfl, ?_⟩) hHeld ?_ ?_
                  rotate_left
                  · rintro w' ⟨s0, s1, s2, s3⟩
                    go_simp
                    with_reducible rfl
                  rotate_left
                  · simp only [Act.put, List.setIfInBounds_toArray, List.set_cons_zero, List.set_cons_succ, i64_w, i32_w]
                    rfl
                  refine one_ (i := 6) (N := some 36) #[true, true, true, true, true, true, true, false] rfl rfl (one_of HT_.out (by kernel_rfl)) (by decide) (fun K hK => ?_)
                  refine goes_ Try.func60 (by kernel_rfl) rfl #[.int .i64 (wrap64 ((wrap64 (x1_1 + 1)) + 1))] (by rfl) rfl rfl (by (try simp only [List.map_toArray, List.map_cons, List.map_nil]); first | done | rfl | (simp only [List.length_drop, List.length_take]; rfl)) ?_
                  with_reducible refine (laws_markText.calls k1 (wrap64 ((wrap64 (x1_1 + 1)) + 1)) t672 _ A7.out).mono ?_
                  rintro e w13 ⟨rfl, hb⟩
                  refine ⟨_, rfl, ?_⟩
                  have n0_ := Aside0.mk (below_step (BB HB.out) hb)
                  clear HB
                  have HB := n0_
                  clear n0_
                  (try clear hb)
                  (try clear hb2)
                  (try clear hk)
                  (try clear hi)
                  refine hK.out _ _ ⟨((HB.out.cell (World.block_lt_of_cell? w _ hw671_0)).trans hw671_0), ((HB.out.cell (World.block_lt_of_cell? w _ hw671_1)).trans hw671_1), ((HB.out.cell (World.block_lt_of_cell? w _ hw671_2)).trans hw671_2), ((HB.out.cell (World.block_lt_of_cell? w _ hw671_3)).trans hw671_3)⟩ (fun hHeld => ?_)
                  clear hK K
                  refine norm_ (a' := ?_) ?_ ?_
                  rotate_left
                  · show Act.put _ (some 36) _ = _
                    simp only [Act.put, List.setIfInBounds_toArray, List.set_cons_zero, List.set_cons_succ, i64_w, i32_w]
                    rfl
                  refine pure_ (i := 7) (N := some 37) (v := ?_) (a' := ?_) #[true, true, true, true, true, true, true, true] rfl rfl (any_of HT_.out (by kernel_rfl)) (fun _ _ _ h => h) (Or.inl ⟨by rfl, ?_⟩) ?_ ?_
                  rotate_left
                  · intro w'
                    go_simp
                    with_reducible rfl
                  rotate_left
                  · simp only [Act.put, List.setIfInBounds_toArray, List.set_cons_zero, List.set_cons_succ, i64_w, i32_w]
                    rfl
                  refine done_ (done_of HT_.out (by kernel_rfl)) ?_
                  have p673 : 0 ≤ (x5_1 : Int) := DT
                  have q673 : x5_1 < (l0.length : Int) := DT
                  obtain ⟨ad673, e673, hx673_0, hx673_1, hx673_2, hx673_3⟩ := at_T146 HR0.out x5_1 p673 q673
                  obtain rfl : ad669 = ad673 := (by injection e673)
                  replace hx673_0 := (HB.out.cell (World.block_lt_of_cell? w _ hx673_0)).trans hx673_0
                  replace hx673_1 := (HB.out.cell (World.block_lt_of_cell? w _ hx673_1)).trans hx673_1
                  replace hx673_2 := (HB.out.cell (World.block_lt_of_cell? w _ hx673_2)).trans hx673_2
                  replace hx673_3 := (HB.out.cell (World.block_lt_of_cell? w _ hx673_3)).trans hx673_3
                  replace p673 := eq_true p673
                  replace q673 := eq_true q673
                  try go_wp2
                  go_ret
                  exact ⟨ER, (BB HB.out)⟩
              · rw [if_neg c8] at H
                have c8b0 : (((rd_T146 l0 x5_1).f2).toList == t672.toList) = false := beq_eq_false_iff_ne.mpr c8
                have c8b1 : (((rd_T146 l0 x5_1).f2).toList != t672.toList) = true := bne_iff_ne.mpr c8
                obtain rfl := Option.some.inj H
                have p669 : 0 ≤ (x5_1 : Int) := DT
                have q669 : x5_1 < (l0.length : Int) := DT
                obtain ⟨ad669, e669, hx669_0, hx669_1, hx669_2, hx669_3⟩ := at_T146 HR0.out x5_1 p669 q669
                cases e669
                replace hx669_0 := (HB.out.cell (World.block_lt_of_cell? w _ hx669_0)).trans hx669_0
                replace hx669_1 := (HB.out.cell (World.block_lt_of_cell? w _ hx669_1)).trans hx669_1
                replace hx669_2 := (HB.out.cell (World.block_lt_of_cell? w _ hx669_2)).trans hx669_2
                replace hx669_3 := (HB.out.cell (World.block_lt_of_cell? w _ hx669_3)).trans hx669_3
                replace p669 := eq_true p669
                replace q669 := eq_true q669
                have p670 : 0 ≤ (x5_1 : Int) := DT
                have q670 : x5_1 < (l0.length : Int) := DT
                obtain ⟨ad670, e670, hx670_0, hx670_1, hx670_2, hx670_3⟩ := at_T146 HR0.out x5_1 p670 q670
                obtain rfl : ad669 = ad670 := (by injection e670)
                replace hx670_0 := (HB.out.cell (World.block_lt_of_cell? w _ hx670_0)).trans hx670_0
                replace hx670_1 := (HB.out.cell (World.block_lt_of_cell? w _ hx670_1)).trans hx670_1
                replace hx670_2 := (HB.out.cell (World.block_lt_of_cell? w _ hx670_2)).trans hx670_2
                replace hx670_3 := (HB.out.cell (World.block_lt_of_cell? w _ hx670_3)).trans hx670_3
                replace p670 := eq_true p670
                replace q670 := eq_true q670
                try go_wp2
                have n0_ := Aside0.mk (below_drew1 HB.out)
                clear HB
                have HB := n0_
                clear n0_
                have p671 : 0 ≤ (x5_1 : Int) := DT
                have q671 : x5_1 < (l0.length : Int) := DT
                obtain ⟨ad671, e671, hx671_0, hx671_1, hx671_2, hx671_3⟩ := at_T146 HR0.out x5_1 p671 q671
                have hw671_3 := hx671_3
                have hw671_2 := hx671_2
                have hw671_1 := hx671_1
                have hw671_0 := hx671_0
                obtain rfl : ad669 = ad671 := (by injection e671)
                replace hx671_0 := (HB.out.cell (World.block_lt_of_cell? w _ hx671_0)).trans hx671_0
                replace hx671_1 := (HB.out.cell (World.block_lt_of_cell? w _ hx671_1)).trans hx671_1
                replace hx671_2 := (HB.out.cell (World.block_lt_of_cell? w _ hx671_2)).trans hx671_2
                replace hx671_3 := (HB.out.cell (World.block_lt_of_cell? w _ hx671_3)).trans hx671_3
                replace p671 := eq_true p671
                replace q671 := eq_true q671
                refine start_ (n := 8) (S := fun w' => w'.cell? (ad669.add ((x5_1).toNat * 4)) = some (.int .i64 ((rd_T146 l0 x5_1).f0)) ∧ w'.cell? ⟨(ad669.add ((x5_1).toNat * 4)).block, (ad669.add ((x5_1).toNat * 4)).off + 1, none⟩ = some (.int .i64 ((rd_T146 l0 x5_1).f1)) ∧ w'.cell? ⟨(ad669.add ((x5_1).toNat * 4)).block, (ad669.add ((x5_1).toNat * 4)).off + 2, none⟩ = some (.string ((rd_T146 l0 x5_1).f2)) ∧ w'.cell? ⟨(ad669.add ((x5_1).toNat * 4)).block, (ad669.add ((x5_1).toNat * 4)).off + 3, none⟩ = some (.int .i64 ((rd_T146 l0 x5_1).f3))) (ds := []) #[false, false, false, false, false, false, false, false] (by kernel_rfl) rfl rfl ⟨((HB.out.cell (World.block_lt_of_cell? w _ hw671_0)).trans hw671_0), ((HB.out.cell (World.block_lt_of_cell? w _ hw671_1)).trans hw671_1), ((HB.out.cell (World.block_lt_of_cell? w _ hw671_2)).trans hw671_2), ((HB.out.cell (World.block_lt_of_cell? w _ hw671_3)).trans hw671_3)⟩ (fun hHeld => ?_); refine with_tabW laws_heldUnitS.tab10 laws_heldUnitS.bits10 (fun HT_ HW_ => ?_)
                generalize wr.drew = w14 at HB hx671_0 hx671_1 hx671_2 hx671_3 hHeld ⊢
                refine pure_ (i := 0) (N := some 30) (v := ?_) (a' := ?_) #[true, false, false, false, false, false, false, false] rfl rfl (any_of HT_.out (by kernel_rfl)) (fun _ _ _ h => h) (Or.inl ⟨by rfl, ?_⟩) ?_ ?_
                rotate_left
                · intro w'
                  go_simp
                  with_reducible rfl
                rotate_left
                · simp only [Act.put, List.setIfInBounds_toArray, List.set_cons_zero, List.set_cons_succ, i64_w, i32_w]
                  rfl
                refine pure_ (i := 1) (N := some 31) (v := ?_) (a' := ?_) #[true, true, false, false, false, false, false, false] rfl rfl (any_of HT_.out (by kernel_rfl)) (fun _ _ _ h => h) (Or.inl ⟨by rfl, ?_⟩) ?_ ?_
                rotate_left
                · intro w'
                  go_simp
                  with_reducible rfl
                rotate_left
                · simp only [Act.put, List.setIfInBounds_toArray, List.set_cons_zero, List.set_cons_succ, i64_w, i32_w]
                  rfl
                refine pure_ (i := 2) (N := some 32) (v := ?_) (a' := ?_) #[true, true, true, false, false, false, false, false] rfl rfl (any_of HT_.out (by kernel_rfl)) (fun _ _ _ h => h) (Or.inl ⟨by rfl, ?_⟩) ?_ ?_
                rotate_left
                · intro w'
                  go_simp
                  with_reducible rfl
                rotate_left
                · simp only [Act.put, List.setIfInBounds_toArray, List.set_cons_zero, List.set_cons_succ, i64_w, i32_w]
                  rfl
                refine pure_ (i := 3) (N := some 33) (v := ?_) (a' := ?_) #[true, true, true, true, false, false, false, false] rfl rfl (any_of HT_.out (by kernel_rfl)) (fun _ _ _ h => h) (Or.inl ⟨by rfl, ?_⟩) ?_ ?_
                rotate_left
                · intro w'
                  go_simp
                  with_reducible rfl
                rotate_left
                · simp only [Act.put, List.setIfInBounds_toArray, List.set_cons_zero, List.set_cons_succ, i64_w, i32_w]
                  rfl
                refine pure_ (i := 5) (N := some 35) (v := ?_) (a' := ?_) #[true, true, true, true, false, true, false, false] rfl rfl (any_of HT_.out (by kernel_rfl)) (fun _ _ _ h => h) (Or.inl ⟨by rfl, ?_⟩) ?_ ?_
                rotate_left
                · intro w'
                  go_simp
                  with_reducible rfl
                rotate_left
                · simp only [Act.put, List.setIfInBounds_toArray, List.set_cons_zero, List.set_cons_succ, i64_w, i32_w]
                  rfl
                refine take_ (i := 4) (N := some 34) (v := ?_) (a' := ?_) #[true, true, true, true, true, true, false, false] rfl rfl (take_ofW HT_.out HW_.out (by kernel_rfl)) (fun _ _ _ h => h) (Or.inl ⟨by rfl, ?_⟩) hHeld ?_ ?_
                rotate_left
                · rintro w' ⟨s0, s1, s2, s3⟩
                  go_simp
                  with_reducible rfl
                rotate_left
                · simp only [Act.put, List.setIfInBounds_toArray, List.set_cons_zero, List.set_cons_succ, i64_w, i32_w]
                  rfl
                refine one_ (i := 6) (N := some 36) #[true, true, true, true, true, true, true, false] rfl rfl (one_of HT_.out (by kernel_rfl)) (by decide) (fun K hK => ?_)
                refine goes_ Try.func60 (by kernel_rfl) rfl #[.int .i64 (wrap64 ((wrap64 (x1_1 + 1)) + 1))] (by rfl) rfl rfl (by (try simp only [List.map_toArray, List.map_cons, List.map_nil]); first | done | rfl | (simp only [List.length_drop, List.length_take]; rfl)) ?_
                with_reducible refine (laws_markText.calls k1 (wrap64 ((wrap64 (x1_1 + 1)) + 1)) t672 _ A7.out).mono ?_
                rintro e w15 ⟨rfl, hb⟩
                refine ⟨_, rfl, ?_⟩
                have n0_ := Aside0.mk (below_step (BB HB.out) hb)
                clear HB
                have HB := n0_
                clear n0_
                (try clear hb)
                (try clear hb2)
                (try clear hk)
                (try clear hi)
                refine hK.out _ _ ⟨((HB.out.cell (World.block_lt_of_cell? w _ hw671_0)).trans hw671_0), ((HB.out.cell (World.block_lt_of_cell? w _ hw671_1)).trans hw671_1), ((HB.out.cell (World.block_lt_of_cell? w _ hw671_2)).trans hw671_2), ((HB.out.cell (World.block_lt_of_cell? w _ hw671_3)).trans hw671_3)⟩ (fun hHeld => ?_)
                clear hK K
                refine norm_ (a' := ?_) ?_ ?_
                rotate_left
                · show Act.put _ (some 36) _ = _
                  simp only [Act.put, List.setIfInBounds_toArray, List.set_cons_zero, List.set_cons_succ, i64_w, i32_w]
                  rfl
                refine pure_ (i := 7) (N := some 37) (v := ?_) (a' := ?_) #[true, true, true, true, true, true, true, true] rfl rfl (any_of HT_.out (by kernel_rfl)) (fun _ _ _ h => h) (Or.inl ⟨by rfl, ?_⟩) ?_ ?_
                rotate_left
                · intro w'
                  go_simp
                  with_reducible rfl
                rotate_left
                · simp only [Act.put, List.setIfInBounds_toArray, List.set_cons_zero, List.set_cons_succ, i64_w, i32_w]
                  rfl
                refine done_ (done_of HT_.out (by kernel_rfl)) ?_
                try go_wp2
                go_ret
                exact ⟨ER, (BB HB.out)⟩
            · rw [if_neg c6] at H
              have c6b0 : (((rd_T146 l0 x5_1).f1) == (wrap64 (x1_1 + 1))) = false := beq_eq_false_iff_ne.mpr c6
              have c6b1 : (((rd_T146 l0 x5_1).f1) != (wrap64 (x1_1 + 1))) = true := bne_iff_ne.mpr c6
              obtain rfl := Option.some.inj H
              have p669 : 0 ≤ (x5_1 : Int) := DT
              have q669 : x5_1 < (l0.length : Int) := DT
              obtain ⟨ad669, e669, hx669_0, hx669_1, hx669_2, hx669_3⟩ := at_T146 HR0.out x5_1 p669 q669
              cases e669
              replace hx669_0 := (HB.out.cell (World.block_lt_of_cell? w _ hx669_0)).trans hx669_0
              replace hx669_1 := (HB.out.cell (World.block_lt_of_cell? w _ hx669_1)).trans hx669_1
              replace hx669_2 := (HB.out.cell (World.block_lt_of_cell? w _ hx669_2)).trans hx669_2
              replace hx669_3 := (HB.out.cell (World.block_lt_of_cell? w _ hx669_3)).trans hx669_3
              replace p669 := eq_true p669
              replace q669 := eq_true q669
              have p670 : 0 ≤ (x5_1 : Int) := DT
              have q670 : x5_1 < (l0.length : Int) := DT
              obtain ⟨ad670, e670, hx670_0, hx670_1, hx670_2, hx670_3⟩ := at_T146 HR0.out x5_1 p670 q670
              obtain rfl : ad669 = ad670 := (by injection e670)
              replace hx670_0 := (HB.out.cell (World.block_lt_of_cell? w _ hx670_0)).trans hx670_0
              replace hx670_1 := (HB.out.cell (World.block_lt_of_cell? w _ hx670_1)).trans hx670_1
              replace hx670_2 := (HB.out.cell (World.block_lt_of_cell? w _ hx670_2)).trans hx670_2
              replace hx670_3 := (HB.out.cell (World.block_lt_of_cell? w _ hx670_3)).trans hx670_3
              replace p670 := eq_true p670
              replace q670 := eq_true q670
              go_wp2
              go_ret
              exact ⟨ER, (BB HB.out)⟩
          · rw [if_neg c5] at H
            have c5b0 : (((rd_T146 l0 x5_1).f0) == x1_1) = false := beq_eq_false_iff_ne.mpr c5
            have c5b1 : (((rd_T146 l0 x5_1).f0) != x1_1) = true := bne_iff_ne.mpr c5
            obtain rfl := Option.some.inj H
            have p669 : 0 ≤ (x5_1 : Int) := DT
            have q669 : x5_1 < (l0.length : Int) := DT
            obtain ⟨ad669, e669, hx669_0, hx669_1, hx669_2, hx669_3⟩ := at_T146 HR0.out x5_1 p669 q669
            cases e669
            replace hx669_0 := (HB.out.cell (World.block_lt_of_cell? w _ hx669_0)).trans hx669_0
            replace hx669_1 := (HB.out.cell (World.block_lt_of_cell? w _ hx669_1)).trans hx669_1
            replace hx669_2 := (HB.out.cell (World.block_lt_of_cell? w _ hx669_2)).trans hx669_2
            replace hx669_3 := (HB.out.cell (World.block_lt_of_cell? w _ hx669_3)).trans hx669_3
            replace p669 := eq_true p669
            replace q669 := eq_true q669
            go_wp2
            go_ret
            exact ⟨ER, (BB HB.out)⟩
        · rw [if_neg c4] at H
          exact absurd H (by simp)
      · rw [if_neg c3] at H
        have c3b0 : decide (x5_1 < (l0.length : Int)) = false := decide_eq_false c3
        clear c3
        obtain rfl := Option.some.inj H
        go_wp2
        go_ret
        exact ⟨ER, (BB HB.out)⟩

end Go.Proofs.Ytfgnaneajonapaa.Pr

/- Printed out of the translation by this session's pr.py over the kit's print. Lean checks it. -/
namespace Go.Proofs.Ytfgnaneajonapaa.Pr
open Go.RowKit Go.Proofs.YtfgnaneajonapaaW.PrintWords Go.Proofs.YtfgnaneajonapaaW.PrintLast Go.Proofs.YtfgnaneajonapaaW.PrintMore
attribute [local go_sem] max2_int min2_int max_two min_two max_three min_three max_four min_four
set_option linter.unusedVariables false
set_option linter.unusedSimpArgs false

/-! ### laws_markUnitS: function 59 -/
def laws_markUnitS.l0 : Nat → List (S146) → Int → Int → Option (Int × (List (S146)))
  | 0, _, _, _ => none
  | k + 1, x0, x1, x5 => if x5 < (x0.length : Int) then (if 0 ≤ x5 then ((some (x0.set (x5 : Int).toNat (⟨x1, (rd_T146 x0 x5).f1, (rd_T146 x0 x5).f2, (rd_T146 x0 x5).f3⟩ : S146) : List (S146))).bind fun y234 => ((some (y234.set (x5 : Int).toNat (⟨(rd_T146 y234 x5).f0, wrap64 (x1 + 1), (rd_T146 y234 x5).f2, (rd_T146 y234 x5).f3⟩ : S146) : List (S146))).bind fun y235 => ((laws_markText.f k (wrap64 ((wrap64 (x1 + 1)) + 1))).bind fun t236 => ((some (y235.set (x5 : Int).toNat (⟨(rd_T146 y235 x5).f0, (rd_T146 y235 x5).f1, t236, (rd_T146 y235 x5).f3⟩ : S146) : List (S146))).bind fun y237 => (laws_markUnitS.l0 k (y237.set (x5 : Int).toNat (⟨(rd_T146 y237 x5).f0, (rd_T146 y237 x5).f1, (rd_T146 y237 x5).f2, wrap64 ((wrap64 ((wrap64 (x1 + 1)) + 1)) + 1)⟩ : S146)) (wrap64 ((wrap64 ((wrap64 ((wrap64 (x1 + 1)) + 1)) + 1)) + 1)) (wrap64 (x5 + 1))))))) else (none)) else (some (x1, x0))
def laws_markUnitS.f (k : Nat) (l0 : List (S146)) (a1 : Int) : Option (Int × (List (S146))) := laws_markUnitS.l0 k l0 a1 0
set_option maxHeartbeats 8000000 in
set_option maxRecDepth 100000 in
theorem laws_markUnitS.calls (k : Nat) (P0_ : Nat → Prop) (u9000_ : Value) (l0 : List (S146)) (a1 : Int) (r1 : Int) (r2 : List (S146)) (w0 w : World) (hB : Below w0.heap.size w0 w) (ho0 : Kd.R k146 146 w w0.heap.size P0_ u9000_ l0) (h : laws_markUnitS.f k l0 a1 = some (r1, r2)) :
    Calls Try.prog 59 #[u9000_, .int .i64 a1] w fun e w' => e = .returned (.int .i64 r1) ∧ Kd.R k146 146 w' w0.heap.size (fun k_ => (P0_ k_ ∨ w.heap.size ≤ k_)) u9000_ r2 ∧ Below w0.heap.size w0 w' ∧ Kept w w' (fun k_ => P0_ k_) := by
  have HO0 := Aside0.mk (show Kd.R k146 146 w w0.heap.size (fun k_ => (P0_ k_ ∨ w.heap.size ≤ k_)) u9000_ l0 from Kd.R_mono ho0 (fun k_ hk => (.inl hk)))
  have HK := Aside0.mk (Kept.refl w (fun k_ => P0_ k_))
  have HW0 := Aside0.mk hB.size
  have HB := Aside0.mk hB
  clear hB
  have H : (laws_markUnitS.l0 k l0 a1 0) = some (r1, r2) := h
  clear h
  have H' := Aside0.mk H
  clear H
  go_enter Try.func59, Try.ntmps59
  go_wp2
  go_loopg [1, 5] k (fun kq v1 v5 w' => ∃ (x0_1 : List (S146)) (x1_1 : Int) (x5_1 : Int), v1 = .int .i64 x1_1 ∧ v5 = .int .i64 x5_1 ∧ Aside0 (laws_markUnitS.l0 kq x0_1 x1_1 x5_1 = some (r1, r2)) ∧ Aside0 (kq ≤ k) ∧ Aside0 (Kd.R k146 146 w' w0.heap.size (fun k_ => (P0_ k_ ∨ w.heap.size ≤ k_)) u9000_ x0_1) ∧ Aside0 (Kept w w' (fun k_ => P0_ k_)) ∧ Aside0 (Below w0.heap.size w0 w'))
  case atStart => exact ⟨(l0), (a1), (0), FR, FR, H', ⟨Nat.le_refl _⟩, ⟨(RR HO0.out)⟩, ⟨by repeat (first | (with_reducible first | exact HK.out | apply Kept.alloc | apply Kept.drewN | apply Kept.drew) | exact HK.out)⟩, ⟨(BB HB.out)⟩⟩
  case round =>
    clear H'
    try clear p2
    obtain ⟨x0_1, x1_1, x5_1, rfl, rfl, HA, HK1, HO_0, HK, HB⟩ := hrel
    cases gk with
    | zero => exact absurd HA.out (by simp [laws_markUnitS.l0])
    | succ k1 =>
      have H := HA.out
      clear HA
      simp only [laws_markUnitS.l0] at H
      by_cases c3 : x5_1 < (x0_1.length : Int)
      · rw [if_pos c3] at H
        have c3b0 : decide (x5_1 < (x0_1.length : Int)) = true := decide_eq_true c3
        clear c3
        by_cases c4 : 0 ≤ x5_1
        · rw [if_pos c4] at H
          have c4b0 : decide (0 ≤ x5_1) = true := decide_eq_true c4
          clear c4
          obtain ⟨y234, hy234⟩ : ∃ y_ : List (S146), y_ = (x0_1.set (x5_1 : Int).toNat (⟨x1_1, (rd_T146 x0_1 x5_1).f1, (rd_T146 x0_1 x5_1).f2, (rd_T146 x0_1 x5_1).f3⟩ : S146)) := ⟨_, rfl⟩
          replace H : ((some (y234.set (x5_1 : Int).toNat (⟨(rd_T146 y234 x5_1).f0, wrap64 (x1_1 + 1), (rd_T146 y234 x5_1).f2, (rd_T146 y234 x5_1).f3⟩ : S146) : List (S146))).bind fun y235 => ((laws_markText.f k1 (wrap64 ((wrap64 (x1_1 + 1)) + 1))).bind fun t236 => ((some (y235.set (x5_1 : Int).toNat (⟨(rd_T146 y235 x5_1).f0, (rd_T146 y235 x5_1).f1, t236, (rd_T146 y235 x5_1).f3⟩ : S146) : List (S146))).bind fun y237 => (laws_markUnitS.l0 k1 (y237.set (x5_1 : Int).toNat (⟨(rd_T146 y237 x5_1).f0, (rd_T146 y237 x5_1).f1, (rd_T146 y237 x5_1).f2, wrap64 ((wrap64 ((wrap64 (x1_1 + 1)) + 1)) + 1)⟩ : S146)) (wrap64 ((wrap64 ((wrap64 ((wrap64 (x1_1 + 1)) + 1)) + 1)) + 1)) (wrap64 (x5_1 + 1)))))) = some (r1, r2) := by first | (rw [hy234]; with_reducible exact H) | (have H2_ := (Option.bind_some _ _).symm.trans H; rw [hy234]; with_reducible exact H2_) | (have H2_ := (Option.bind_some _ _).symm.trans H; with_reducible exact H2_) | with_reducible exact H | (rw [hy234]; exact H) | exact H
          have Ny234 := Aside0.mk hy234
          clear hy234
          obtain ⟨y235, hy235⟩ : ∃ y_ : List (S146), y_ = (y234.set (x5_1 : Int).toNat (⟨(rd_T146 y234 x5_1).f0, wrap64 (x1_1 + 1), (rd_T146 y234 x5_1).f2, (rd_T146 y234 x5_1).f3⟩ : S146)) := ⟨_, rfl⟩
          replace H : ((laws_markText.f k1 (wrap64 ((wrap64 (x1_1 + 1)) + 1))).bind fun t236 => ((some (y235.set (x5_1 : Int).toNat (⟨(rd_T146 y235 x5_1).f0, (rd_T146 y235 x5_1).f1, t236, (rd_T146 y235 x5_1).f3⟩ : S146) : List (S146))).bind fun y237 => (laws_markUnitS.l0 k1 (y237.set (x5_1 : Int).toNat (⟨(rd_T146 y237 x5_1).f0, (rd_T146 y237 x5_1).f1, (rd_T146 y237 x5_1).f2, wrap64 ((wrap64 ((wrap64 (x1_1 + 1)) + 1)) + 1)⟩ : S146)) (wrap64 ((wrap64 ((wrap64 ((wrap64 (x1_1 + 1)) + 1)) + 1)) + 1)) (wrap64 (x5_1 + 1))))) = some (r1, r2) := by first | (rw [hy235]; with_reducible exact H) | (have H2_ := (Option.bind_some _ _).symm.trans H; rw [hy235]; with_reducible exact H2_) | (have H2_ := (Option.bind_some _ _).symm.trans H; with_reducible exact H2_) | with_reducible exact H | (rw [hy235]; exact H) | exact H
          have Ny235 := Aside0.mk hy235
          clear hy235
          replace H := Option.bind_eq_some_iff.mp H
          obtain ⟨t236, A70, H⟩ := H
          replace H : ((some (y235.set (x5_1 : Int).toNat (⟨(rd_T146 y235 x5_1).f0, (rd_T146 y235 x5_1).f1, t236, (rd_T146 y235 x5_1).f3⟩ : S146) : List (S146))).bind fun y237 => (laws_markUnitS.l0 k1 (y237.set (x5_1 : Int).toNat (⟨(rd_T146 y237 x5_1).f0, (rd_T146 y237 x5_1).f1, (rd_T146 y237 x5_1).f2, wrap64 ((wrap64 ((wrap64 (x1_1 + 1)) + 1)) + 1)⟩ : S146)) (wrap64 ((wrap64 ((wrap64 ((wrap64 (x1_1 + 1)) + 1)) + 1)) + 1)) (wrap64 (x5_1 + 1)))) = some (r1, r2) := H
          have A7 := Aside0.mk A70
          clear A70
          obtain ⟨y237, hy237⟩ : ∃ y_ : List (S146), y_ = (y235.set (x5_1 : Int).toNat (⟨(rd_T146 y235 x5_1).f0, (rd_T146 y235 x5_1).f1, t236, (rd_T146 y235 x5_1).f3⟩ : S146)) := ⟨_, rfl⟩
          replace H : (laws_markUnitS.l0 k1 (y237.set (x5_1 : Int).toNat (⟨(rd_T146 y237 x5_1).f0, (rd_T146 y237 x5_1).f1, (rd_T146 y237 x5_1).f2, wrap64 ((wrap64 ((wrap64 (x1_1 + 1)) + 1)) + 1)⟩ : S146)) (wrap64 ((wrap64 ((wrap64 ((wrap64 (x1_1 + 1)) + 1)) + 1)) + 1)) (wrap64 (x5_1 + 1))) = some (r1, r2) := by first | (rw [hy237]; with_reducible exact H) | (have H2_ := (Option.bind_some _ _).symm.trans H; rw [hy237]; with_reducible exact H2_) | (have H2_ := (Option.bind_some _ _).symm.trans H; with_reducible exact H2_) | with_reducible exact H | (rw [hy237]; exact H) | exact H
          have Ny237 := Aside0.mk hy237
          clear hy237
          obtain ⟨y238, hy238⟩ : ∃ y_ : List (S146), y_ = (y237.set (x5_1 : Int).toNat (⟨(rd_T146 y237 x5_1).f0, (rd_T146 y237 x5_1).f1, (rd_T146 y237 x5_1).f2, wrap64 ((wrap64 ((wrap64 (x1_1 + 1)) + 1)) + 1)⟩ : S146)) := ⟨_, rfl⟩
          replace H : (laws_markUnitS.l0 k1 y238 (wrap64 ((wrap64 ((wrap64 ((wrap64 (x1_1 + 1)) + 1)) + 1)) + 1)) (wrap64 (x5_1 + 1))) = some (r1, r2) := by first | (rw [hy238]; with_reducible exact H) | (have H2_ := (Option.bind_some _ _).symm.trans H; rw [hy238]; with_reducible exact H2_) | (have H2_ := (Option.bind_some _ _).symm.trans H; with_reducible exact H2_) | with_reducible exact H | (rw [hy238]; exact H) | exact H
          have Ny238 := Aside0.mk hy238
          clear hy238
          have H' := Aside0.mk H
          clear H
          obtain ⟨Ao10, co10, eo10⟩ := Kd.R_slice HO_0.out
          subst eo10
          have p5 : 0 ≤ (x5_1 : Int) := DT
          have q5 : (x5_1 : Int) < ((x0_1.length : Int) : Int) := DT
          obtain ⟨go5, co5, eo5, gb5, gl5, cl5, HG5⟩ := Kd.R_form HO_0.out (by omega)
          (first | cases eo5 | (injection eo5 with ea_ en_ ec_; (first | subst ea_ | (injection ea_ with ea_; subst ea_)); subst ec_; clear en_))
          have GB5 := Aside0.mk gb5
          have GG5 := Aside0.mk HG5
          clear gb5 gl5 HG5
          have HMgo5 := Aside0.mk (show (P0_ go5 ∨ w.heap.size ≤ go5) from (HO_0.out.1 _ rfl))
          obtain ⟨ce5, hcl5, hM5, hcc5, hfr5⟩ := Kd.R_elem HO_0.out z146 (x5_1 : Int) p5 q5
          obtain rfl := k146_openM hM5
          have hx5_0 : wr.cell? ⟨go5, (x5_1 : Int).toNat * 4, none⟩ = some (.int .i64 ((rd_T146 x0_1 x5_1).f0)) := hcc5 0 _ rfl
          have hx5_1 : wr.cell? ⟨go5, (x5_1 : Int).toNat * 4 + 1, none⟩ = some (.int .i64 ((rd_T146 x0_1 x5_1).f1)) := hcc5 1 _ rfl
          have hx5_2 : wr.cell? ⟨go5, (x5_1 : Int).toNat * 4 + 2, none⟩ = some (.string ((rd_T146 x0_1 x5_1).f2)) := hcc5 2 _ rfl
          have hx5_3 : wr.cell? ⟨go5, (x5_1 : Int).toNat * 4 + 3, none⟩ = some (.int .i64 ((rd_T146 x0_1 x5_1).f3)) := hcc5 3 _ rfl
          have hf5_0 : wr.frozen? ⟨go5, (x5_1 : Int).toNat * 4, none⟩ = false := hfr5 0
          have hf5_1 : wr.frozen? ⟨go5, (x5_1 : Int).toNat * 4 + 1, none⟩ = false := hfr5 1
          have hf5_2 : wr.frozen? ⟨go5, (x5_1 : Int).toNat * 4 + 2, none⟩ = false := hfr5 2
          have hf5_3 : wr.frozen? ⟨go5, (x5_1 : Int).toNat * 4 + 3, none⟩ = false := hfr5 3
          clear hcl5 hcc5 hfr5 hM5
          replace p5 := eq_true p5
          replace q5 := eq_true q5
          have HX11 := Aside0.mk (show Kd.R k146 146 wr w0.heap.size (fun k_ => (P0_ k_ ∨ w.heap.size ≤ k_)) (.slice (some ⟨go5, 0, none⟩) x0_1.length co10) x0_1 from (RR HO_0.out))
          obtain ⟨ce11, hcl11, hM11, hcc11, hfr11⟩ := Kd.R_elem HX11.out z146 (x5_1 : Int) DT (by have h_ : (x5_1 : Int) < ((x0_1.length : Int) : Int) := DT; first | exact h_ | (have e_ := (Kd.R_reads' HO_0.out).1; omega) | simpa using h_)
          obtain rfl := k146_openM hM11
          have HP11 := Kd.R_seg HX11.out (x5_1 : Int) DT (by have h_ : (x5_1 : Int) < ((x0_1.length : Int) : Int) := DT; first | exact h_ | (have e_ := (Kd.R_reads' HO_0.out).1; omega) | simpa using h_) (seg := [.int .i64 x1_1]) (j := 0) hcl11 hcc11 (show 1 ≤ 4 from by decide) (x' := (⟨x1_1, (rd_T146 x0_1 x5_1).f1, (rd_T146 x0_1 x5_1).f2, (rd_T146 x0_1 x5_1).f3⟩ : S146)) (k146_mkM _ _ _ (⟨x1_1, (rd_T146 x0_1 x5_1).f1, (rd_T146 x0_1 x5_1).f2, (rd_T146 x0_1 x5_1).f3⟩ : S146) ) (fun _ hk => hk)
          have hx11_0 := hcc11 0 _ rfl
          (try simp only [show (k146).sz = 4 from rfl, Nat.mul_one, Nat.add_zero] at hx11_0)
          have hf11_0 := hfr11 0
          (try simp only [show (k146).sz = 4 from rfl, Nat.mul_one, Nat.add_zero] at hf11_0)
          clear hcl11 hcc11 hfr11 hM11
          go_wp2_with (first | ((with_reducible refine gate_store (t := 3) (p := 16) rfl ?_); refine store_event (t := 3) (p := 16) (v := ?vo_w12) (w1 := (wr.setCell ⟨go5, (x5_1 : Int).toNat * 4, none⟩ (.int .i64 x1_1))) ?hg ?ho ?hn ?hr ?_; (case ho => rfl); (case hg => rfl); (case hn => rfl); (case hr => first | (go_simp; done) | (go_simp; rfl)); intro w12 hw; have hg : wr.grownBy w12 (some go5) := (by rw [hw]; exact HP11.2); have hp_ : Kd.R k146 146 w12 w0.heap.size (fun k_ => (P0_ k_ ∨ w.heap.size ≤ k_)) (.slice (some ⟨go5, 0, none⟩) x0_1.length co10) y234 := (by rw [hw, Ny234.out]; exact HP11.1); clear HP11; have n0_ := Aside0.mk (hp_); have n1_ := Aside0.mk ((by rw [hw]; exact below_set (HB.out) GB5.out : Below w0.heap.size w0 w12)); have n2_ := Aside0.mk (Kept.of_grown (S := (fun k_ => P0_ k_)) hg (by repeat (first | (with_reducible first | exact HK.out | apply Kept.alloc | apply Kept.drewN | apply Kept.drew) | exact HK.out)) (fun k_ e_ => (HO_0.out.1 k_ e_))); clear HO_0; clear HB; clear HK; have HO_0 := n0_; have HB := n1_; have HK := n2_; clear n0_ n1_ n2_; clear hg hw hp_; have p6 : 0 ≤ (x5_1 : Int) := DT; have q6 : (x5_1 : Int) < ((x0_1.length : Int) : Int) := DT; obtain ⟨ce6, hcl6, hM6, hcc6, hfr6⟩ := Kd.R_elem HO_0.out z146 (x5_1 : Int) p6 q6; obtain rfl := k146_openM hM6; have hx6_0 : w12.cell? ⟨go5, (x5_1 : Int).toNat * 4, none⟩ = some (.int .i64 ((rd_T146 y234 x5_1).f0)) := hcc6 0 _ rfl; have hx6_1 : w12.cell? ⟨go5, (x5_1 : Int).toNat * 4 + 1, none⟩ = some (.int .i64 ((rd_T146 y234 x5_1).f1)) := hcc6 1 _ rfl; have hx6_2 : w12.cell? ⟨go5, (x5_1 : Int).toNat * 4 + 2, none⟩ = some (.string ((rd_T146 y234 x5_1).f2)) := hcc6 2 _ rfl; have hx6_3 : w12.cell? ⟨go5, (x5_1 : Int).toNat * 4 + 3, none⟩ = some (.int .i64 ((rd_T146 y234 x5_1).f3)) := hcc6 3 _ rfl; have hf6_0 : w12.frozen? ⟨go5, (x5_1 : Int).toNat * 4, none⟩ = false := hfr6 0; have hf6_1 : w12.frozen? ⟨go5, (x5_1 : Int).toNat * 4 + 1, none⟩ = false := hfr6 1; have hf6_2 : w12.frozen? ⟨go5, (x5_1 : Int).toNat * 4 + 2, none⟩ = false := hfr6 2; have hf6_3 : w12.frozen? ⟨go5, (x5_1 : Int).toNat * 4 + 3, none⟩ = false := hfr6 3; clear hcl6 hcc6 hfr6 hM6; replace p6 := eq_true p6; replace q6 := eq_true q6; have HX13 := Aside0.mk (show Kd.R k146 146 w12 w0.heap.size (fun k_ => (P0_ k_ ∨ w.heap.size ≤ k_)) (.slice (some ⟨go5, 0, none⟩) x0_1.length co10) y234 from (RR HO_0.out)); obtain ⟨ce13, hcl13, hM13, hcc13, hfr13⟩ := Kd.R_elem HX13.out z146 (x5_1 : Int) DT (by have h_ : (x5_1 : Int) < ((x0_1.length : Int) : Int) := DT; first | exact h_ | (have e_ := (Kd.R_reads' HO_0.out).1; omega) | simpa using h_); obtain rfl := k146_openM hM13; have HP13 := Kd.R_seg HX13.out (x5_1 : Int) DT (by have h_ : (x5_1 : Int) < ((x0_1.length : Int) : Int) := DT; first | exact h_ | (have e_ := (Kd.R_reads' HO_0.out).1; omega) | simpa using h_) (seg := [.int .i64 (wrap64 (x1_1 + 1))]) (j := 1) hcl13 hcc13 (show 2 ≤ 4 from by decide) (x' := (⟨(rd_T146 y234 x5_1).f0, wrap64 (x1_1 + 1), (rd_T146 y234 x5_1).f2, (rd_T146 y234 x5_1).f3⟩ : S146)) (k146_mkM _ _ _ (⟨(rd_T146 y234 x5_1).f0, wrap64 (x1_1 + 1), (rd_T146 y234 x5_1).f2, (rd_T146 y234 x5_1).f3⟩ : S146) ) (fun _ hk => hk); have hx13_1 := hcc13 1 _ rfl; (try simp only [show (k146).sz = 4 from rfl, Nat.mul_one, Nat.add_zero] at hx13_1); have hf13_1 := hfr13 1; (try simp only [show (k146).sz = 4 from rfl, Nat.mul_one, Nat.add_zero] at hf13_1); clear hcl13 hcc13 hfr13 hM13) | ((with_reducible refine gate_store (t := 3) (p := 23) rfl ?_); refine store_event (t := 3) (p := 23) (v := ?vo_w14) (w1 := (w12.setCell ⟨go5, (x5_1 : Int).toNat * 4 + 1, none⟩ (.int .i64 (wrap64 (x1_1 + 1))))) ?hg ?ho ?hn ?hr ?_; (case ho => rfl); (case hg => rfl); (case hn => rfl); (case hr => first | (go_simp; done) | (go_simp; rfl)); intro w14 hw; have hg : w12.grownBy w14 (some go5) := (by rw [hw]; exact HP13.2); have hp_ : Kd.R k146 146 w14 w0.heap.size (fun k_ => (P0_ k_ ∨ w.heap.size ≤ k_)) (.slice (some ⟨go5, 0, none⟩) x0_1.length co10) y235 := (by rw [hw, Ny235.out]; exact HP13.1); clear HP13; have n0_ := Aside0.mk (hp_); have n1_ := Aside0.mk ((by rw [hw]; exact below_set (HB.out) GB5.out : Below w0.heap.size w0 w14)); have n2_ := Aside0.mk (Kept.of_grown (S := (fun k_ => P0_ k_)) hg (by repeat (first | (with_reducible first | exact HK.out | apply Kept.alloc | apply Kept.drewN | apply Kept.drew) | exact HK.out)) (fun k_ e_ => (HO_0.out.1 k_ e_))); clear HO_0; clear HB; clear HK; have HO_0 := n0_; have HB := n1_; have HK := n2_; clear n0_ n1_ n2_; clear hg hw hp_) | ((with_reducible refine gate_callee (f := 60) rfl ?_); refine GL (some 29) rfl rfl Try.func60 #[.int .i64 (wrap64 ((wrap64 (x1_1 + 1)) + 1))] rfl ?_; (with_reducible refine (laws_markText.calls k1 (wrap64 ((wrap64 (x1_1 + 1)) + 1)) t236 _ A7.out).mono ?_); rintro e w15 ⟨rfl, hb⟩; refine ⟨_, rfl, ?_⟩; replace HO_0 := Aside0.mk (Kd.R_below (RR HO_0.out) hb); replace HK := Aside0.mk (Kept.below (S := (fun k_ => P0_ k_)) (by repeat (first | (with_reducible first | exact HK.out | apply Kept.alloc | apply Kept.drewN | apply Kept.drew) | exact HK.out)) hb); replace HB := Aside0.mk (below_step (BB HB.out) hb); (try clear hb); have p8 : 0 ≤ (x5_1 : Int) := DT; have q8 : (x5_1 : Int) < ((x0_1.length : Int) : Int) := DT; obtain ⟨ce8, hcl8, hM8, hcc8, hfr8⟩ := Kd.R_elem HO_0.out z146 (x5_1 : Int) p8 q8; obtain rfl := k146_openM hM8; have hx8_0 : w15.cell? ⟨go5, (x5_1 : Int).toNat * 4, none⟩ = some (.int .i64 ((rd_T146 y235 x5_1).f0)) := hcc8 0 _ rfl; have hx8_1 : w15.cell? ⟨go5, (x5_1 : Int).toNat * 4 + 1, none⟩ = some (.int .i64 ((rd_T146 y235 x5_1).f1)) := hcc8 1 _ rfl; have hx8_2 : w15.cell? ⟨go5, (x5_1 : Int).toNat * 4 + 2, none⟩ = some (.string ((rd_T146 y235 x5_1).f2)) := hcc8 2 _ rfl; have hx8_3 : w15.cell? ⟨go5, (x5_1 : Int).toNat * 4 + 3, none⟩ = some (.int .i64 ((rd_T146 y235 x5_1).f3)) := hcc8 3 _ rfl; have hf8_0 : w15.frozen? ⟨go5, (x5_1 : Int).toNat * 4, none⟩ = false := hfr8 0; have hf8_1 : w15.frozen? ⟨go5, (x5_1 : Int).toNat * 4 + 1, none⟩ = false := hfr8 1; have hf8_2 : w15.frozen? ⟨go5, (x5_1 : Int).toNat * 4 + 2, none⟩ = false := hfr8 2; have hf8_3 : w15.frozen? ⟨go5, (x5_1 : Int).toNat * 4 + 3, none⟩ = false := hfr8 3; clear hcl8 hcc8 hfr8 hM8; replace p8 := eq_true p8; replace q8 := eq_true q8; have HX16 := Aside0.mk (show Kd.R k146 146 w15 w0.heap.size (fun k_ => (P0_ k_ ∨ w.heap.size ≤ k_)) (.slice (some ⟨go5, 0, none⟩) x0_1.length co10) y235 from (RR HO_0.out)); obtain ⟨ce16, hcl16, hM16, hcc16, hfr16⟩ := Kd.R_elem HX16.out z146 (x5_1 : Int) DT (by have h_ : (x5_1 : Int) < ((x0_1.length : Int) : Int) := DT; first | exact h_ | (have e_ := (Kd.R_reads' HO_0.out).1; omega) | simpa using h_); obtain rfl := k146_openM hM16; have HP16 := Kd.R_seg HX16.out (x5_1 : Int) DT (by have h_ : (x5_1 : Int) < ((x0_1.length : Int) : Int) := DT; first | exact h_ | (have e_ := (Kd.R_reads' HO_0.out).1; omega) | simpa using h_) (seg := [.string t236]) (j := 2) hcl16 hcc16 (show 3 ≤ 4 from by decide) (x' := (⟨(rd_T146 y235 x5_1).f0, (rd_T146 y235 x5_1).f1, t236, (rd_T146 y235 x5_1).f3⟩ : S146)) (k146_mkM _ _ _ (⟨(rd_T146 y235 x5_1).f0, (rd_T146 y235 x5_1).f1, t236, (rd_T146 y235 x5_1).f3⟩ : S146) ) (fun _ hk => hk); have hx16_2 := hcc16 2 _ rfl; (try simp only [show (k146).sz = 4 from rfl, Nat.mul_one, Nat.add_zero] at hx16_2); have hf16_2 := hfr16 2; (try simp only [show (k146).sz = 4 from rfl, Nat.mul_one, Nat.add_zero] at hf16_2); clear hcl16 hcc16 hfr16 hM16) | ((with_reducible refine gate_store (t := 9) (p := 31) rfl ?_); refine store_event (t := 9) (p := 31) (v := ?vo_w17) (w1 := (w15.setCell ⟨go5, (x5_1 : Int).toNat * 4 + 2, none⟩ (.string t236))) ?hg ?ho ?hn ?hr ?_; (case ho => rfl); (case hg => rfl); (case hn => rfl); (case hr => first | (go_simp; done) | (go_simp; rfl)); intro w17 hw; have hg : w15.grownBy w17 (some go5) := (by rw [hw]; exact HP16.2); have hp_ : Kd.R k146 146 w17 w0.heap.size (fun k_ => (P0_ k_ ∨ w.heap.size ≤ k_)) (.slice (some ⟨go5, 0, none⟩) x0_1.length co10) y237 := (by rw [hw, Ny237.out]; exact HP16.1); clear HP16; have n0_ := Aside0.mk (hp_); have n1_ := Aside0.mk ((by rw [hw]; exact below_set (HB.out) GB5.out : Below w0.heap.size w0 w17)); have n2_ := Aside0.mk (Kept.of_grown (S := (fun k_ => P0_ k_)) hg (by repeat (first | (with_reducible first | exact HK.out | apply Kept.alloc | apply Kept.drewN | apply Kept.drew) | exact HK.out)) (fun k_ e_ => (HO_0.out.1 k_ e_))); clear HO_0; clear HB; clear HK; have HO_0 := n0_; have HB := n1_; have HK := n2_; clear n0_ n1_ n2_; clear hg hw hp_; have p9 : 0 ≤ (x5_1 : Int) := DT; have q9 : (x5_1 : Int) < ((x0_1.length : Int) : Int) := DT; obtain ⟨ce9, hcl9, hM9, hcc9, hfr9⟩ := Kd.R_elem HO_0.out z146 (x5_1 : Int) p9 q9; obtain rfl := k146_openM hM9; have hx9_0 : w17.cell? ⟨go5, (x5_1 : Int).toNat * 4, none⟩ = some (.int .i64 ((rd_T146 y237 x5_1).f0)) := hcc9 0 _ rfl; have hx9_1 : w17.cell? ⟨go5, (x5_1 : Int).toNat * 4 + 1, none⟩ = some (.int .i64 ((rd_T146 y237 x5_1).f1)) := hcc9 1 _ rfl; have hx9_2 : w17.cell? ⟨go5, (x5_1 : Int).toNat * 4 + 2, none⟩ = some (.string ((rd_T146 y237 x5_1).f2)) := hcc9 2 _ rfl; have hx9_3 : w17.cell? ⟨go5, (x5_1 : Int).toNat * 4 + 3, none⟩ = some (.int .i64 ((rd_T146 y237 x5_1).f3)) := hcc9 3 _ rfl; have hf9_0 : w17.frozen? ⟨go5, (x5_1 : Int).toNat * 4, none⟩ = false := hfr9 0; have hf9_1 : w17.frozen? ⟨go5, (x5_1 : Int).toNat * 4 + 1, none⟩ = false := hfr9 1; have hf9_2 : w17.frozen? ⟨go5, (x5_1 : Int).toNat * 4 + 2, none⟩ = false := hfr9 2; have hf9_3 : w17.frozen? ⟨go5, (x5_1 : Int).toNat * 4 + 3, none⟩ = false := hfr9 3; clear hcl9 hcc9 hfr9 hM9; replace p9 := eq_true p9; replace q9 := eq_true q9; have HX18 := Aside0.mk (show Kd.R k146 146 w17 w0.heap.size (fun k_ => (P0_ k_ ∨ w.heap.size ≤ k_)) (.slice (some ⟨go5, 0, none⟩) x0_1.length co10) y237 from (RR HO_0.out)); obtain ⟨ce18, hcl18, hM18, hcc18, hfr18⟩ := Kd.R_elem HX18.out z146 (x5_1 : Int) DT (by have h_ : (x5_1 : Int) < ((x0_1.length : Int) : Int) := DT; first | exact h_ | (have e_ := (Kd.R_reads' HO_0.out).1; omega) | simpa using h_); obtain rfl := k146_openM hM18; have HP18 := Kd.R_seg HX18.out (x5_1 : Int) DT (by have h_ : (x5_1 : Int) < ((x0_1.length : Int) : Int) := DT; first | exact h_ | (have e_ := (Kd.R_reads' HO_0.out).1; omega) | simpa using h_) (seg := [.int .i64 (wrap64 ((wrap64 ((wrap64 (x1_1 + 1)) + 1)) + 1))]) (j := 3) hcl18 hcc18 (show 4 ≤ 4 from by decide) (x' := (⟨(rd_T146 y237 x5_1).f0, (rd_T146 y237 x5_1).f1, (rd_T146 y237 x5_1).f2, wrap64 ((wrap64 ((wrap64 (x1_1 + 1)) + 1)) + 1)⟩ : S146)) (k146_mkM _ _ _ (⟨(rd_T146 y237 x5_1).f0, (rd_T146 y237 x5_1).f1, (rd_T146 y237 x5_1).f2, wrap64 ((wrap64 ((wrap64 (x1_1 + 1)) + 1)) + 1)⟩ : S146) ) (fun _ hk => hk); have hx18_3 := hcc18 3 _ rfl; (try simp only [show (k146).sz = 4 from rfl, Nat.mul_one, Nat.add_zero] at hx18_3); have hf18_3 := hfr18 3; (try simp only [show (k146).sz = 4 from rfl, Nat.mul_one, Nat.add_zero] at hf18_3); clear hcl18 hcc18 hfr18 hM18) | ((with_reducible refine gate_store (t := 3) (p := 38) rfl ?_); refine store_event (t := 3) (p := 38) (v := ?vo_w19) (w1 := (w17.setCell ⟨go5, (x5_1 : Int).toNat * 4 + 3, none⟩ (.int .i64 (wrap64 ((wrap64 ((wrap64 (x1_1 + 1)) + 1)) + 1))))) ?hg ?ho ?hn ?hr ?_; (case ho => rfl); (case hg => rfl); (case hn => rfl); (case hr => first | (go_simp; done) | (go_simp; rfl)); intro w19 hw; have hg : w17.grownBy w19 (some go5) := (by rw [hw]; exact HP18.2); have hp_ : Kd.R k146 146 w19 w0.heap.size (fun k_ => (P0_ k_ ∨ w.heap.size ≤ k_)) (.slice (some ⟨go5, 0, none⟩) x0_1.length co10) y238 := (by rw [hw, Ny238.out]; exact HP18.1); clear HP18; have n0_ := Aside0.mk (hp_); have n1_ := Aside0.mk ((by rw [hw]; exact below_set (HB.out) GB5.out : Below w0.heap.size w0 w19)); have n2_ := Aside0.mk (Kept.of_grown (S := (fun k_ => P0_ k_)) hg (by repeat (first | (with_reducible first | exact HK.out | apply Kept.alloc | apply Kept.drewN | apply Kept.drew) | exact HK.out)) (fun k_ e_ => (HO_0.out.1 k_ e_))); clear HO_0; clear HB; clear HK; have HO_0 := n0_; have HB := n1_; have HK := n2_; clear n0_ n1_ n2_; clear hg hw hp_))
          go_roundg k1
          case measure => have := HK1.out; omega
          case rel => exact ⟨(y238), (wrap64 ((wrap64 ((wrap64 ((wrap64 (x1_1 + 1)) + 1)) + 1)) + 1)), (wrap64 (x5_1 + 1)), FR, FR, H', ⟨by have := HK1.out; omega⟩, ⟨(RR HO_0.out)⟩, ⟨by repeat (first | (with_reducible first | exact HK.out | apply Kept.alloc | apply Kept.drewN | apply Kept.drew) | exact HK.out)⟩, ⟨(BB HB.out)⟩⟩
        · rw [if_neg c4] at H
          exact absurd H (by simp)
      · rw [if_neg c3] at H
        have c3b0 : decide (x5_1 < (x0_1.length : Int)) = false := decide_eq_false c3
        clear c3
        simp only [Option.some.injEq, Prod.mk.injEq] at H
        obtain ⟨rfl, rfl⟩ := H
        obtain ⟨Ao20, co20, eo20⟩ := Kd.R_slice HO_0.out
        subst eo20
        go_wp2
        go_ret
        exact ⟨ER, by (with_reducible repeat (first | apply Kd.R_alloc | apply Kd.R_drewN | apply Kd.R_drew)); exact HO_0.out, (BB HB.out), by repeat (first | (with_reducible first | exact HK.out | apply Kept.alloc | apply Kept.drewN | apply Kept.drew) | exact HK.out)⟩

end Go.Proofs.Ytfgnaneajonapaa.Pr

/- Generated by plumb.py: the laws' helpers of a type, told as plain functions. -/
namespace Go.Proofs.Ytfgnaneajonapaa.Lw
open Go.RowKit Go.Proofs.YtfgnaneajonapaaW.PrintWords Go.Proofs.Ytfgnaneajonapaa.Pr Go.Proofs.Ytfgnaneajonapaa.Evs
set_option linter.unusedVariables false
noncomputable def mkUnit (x : ImUnit) (n : Int) : ImUnit := ⟨n, n + 1, mt (n + 1 + 1), n + 1 + 1 + 1⟩
noncomputable def mkUnitS : List ImUnit → Int → List ImUnit
  | [], _ => []
  | x :: s, n => mkUnit x n :: mkUnitS s (n + 4)
theorem markUnitS_loop (s : List ImUnit) : ∀ (q : List ImUnit) (n : Int), 0 ≤ n → n + 4 * s.length < 9223372036854775000 → q.length + s.length < 9223372036854775807 →
    Ev (fun k => laws_markUnitS.l0 k (q ++ s) n (q.length : Int)) (n + 4 * s.length, q ++ mkUnitS s n) := by
  induction s with
  | nil => intro q n h0 h1 hl; exact ev_step (fun k => laws_markUnitS.l0.eq_2 _ _ _ k) (ev_neg (by simp) (ev_eq (ev_some _) (by simp [mkUnitS])))
  | cons x s ih =>
    intro q n h0 h1 hl
    simp at h1 hl
    have e1 : wrap64 (n + 1) = n + 1 := wrap_in (by omega) (by omega)
    have e2 : wrap64 (n + 1 + 1) = n + 1 + 1 := wrap_in (by omega) (by omega)
    have e3 : wrap64 (n + 1 + 1 + 1) = n + 1 + 1 + 1 := wrap_in (by omega) (by omega)
    have e4 : wrap64 (n + 1 + 1 + 1 + 1) = n + 1 + 1 + 1 + 1 := wrap_in (by omega) (by omega)
    have e0 : wrap64 ((q.length : Int) + 1) = (q.length : Int) + 1 := wrap_in (by omega) (by omega)
    have hr : (n + 4 * ((x :: s).length : Int), q ++ mkUnitS (x :: s) n) = (n + 1 + 1 + 1 + 1 + 4 * (s.length : Int), (q ++ [mkUnit x n]) ++ mkUnitS s (n + 1 + 1 + 1 + 1)) := by
      have : n + 1 + 1 + 1 + 1 = n + 4 := by omega
      simp [mkUnitS, this]
      omega
    rw [hr]
    have h := ih (q ++ [mkUnit x n]) (n + 1 + 1 + 1 + 1) (by omega) (by omega) (by simp; omega)
    refine ev_step (fun k => laws_markUnitS.l0.eq_2 _ _ _ k) ?_
    simp only [e0, e1, e2, e3, e4]
    repeat (first | with_reducible refine ev_pos (by first | omega | (simp; omega)) ?_ | with_reducible refine ev_bind (mt_ev _ (by omega)) ?_ | with_reducible refine ev_call rfl ?_)
    simp only [rd146, set_mid _ _ _ _ _ rfl]
    simpa [mkUnit] using h
theorem markUnitS_ev (l : List ImUnit) (n : Int) (h0 : 0 ≤ n) (h1 : n + 4 * l.length < 9223372036854775000) : Ev (fun k => laws_markUnitS.f k l n) (n + 4 * l.length, mkUnitS l n) := by
  unfold laws_markUnitS.f
  simpa using markUnitS_loop l [] n h0 h1 (by simp; omega)
theorem heldUnitS_loop (s : List ImUnit) : ∀ (q : List ImUnit) (n : Int), 0 ≤ n → n + 4 * s.length < 9223372036854775000 → q.length + s.length < 9223372036854775807 →
    Ev (fun k => laws_heldUnitS.l0 k (q ++ mkUnitS s n) n (q.length : Int)) (n + 4 * s.length) := by
  induction s with
  | nil => intro q n h0 h1 hl; exact ev_step (fun k => laws_heldUnitS.l0.eq_2 _ _ _ k) (ev_neg (by simp [mkUnitS]) (ev_eq (ev_some _) (by simp)))
  | cons x s ih =>
    intro q n h0 h1 hl
    simp at h1 hl
    have e1 : wrap64 (n + 1) = n + 1 := wrap_in (by omega) (by omega)
    have e2 : wrap64 (n + 1 + 1) = n + 1 + 1 := wrap_in (by omega) (by omega)
    have e3 : wrap64 (n + 1 + 1 + 1) = n + 1 + 1 + 1 := wrap_in (by omega) (by omega)
    have e4 : wrap64 (n + 1 + 1 + 1 + 1) = n + 1 + 1 + 1 + 1 := wrap_in (by omega) (by omega)
    have e0 : wrap64 ((q.length : Int) + 1) = (q.length : Int) + 1 := wrap_in (by omega) (by omega)
    simp only [mkUnitS]
    refine ev_step (fun k => laws_heldUnitS.l0.eq_2 _ _ _ k) ?_
    simp only [rd146, e0, e1, e2, e3, e4]
    repeat (first | with_reducible refine ev_pos (by first | omega | (simp [mkUnit]; done) | (simp; omega)) ?_ | with_reducible refine ev_bind (mt_ev _ (by omega)) ?_)
    have h := ih (q ++ [mkUnit x n]) (n + 1 + 1 + 1 + 1) (by omega) (by omega) (by simp; omega)
    have hr : n + 4 * ((x :: s).length : Int) = n + 1 + 1 + 1 + 1 + 4 * (s.length : Int) := by simp; omega
    have e : n + 4 = n + 1 + 1 + 1 + 1 := by omega
    rw [hr, e]
    simpa using h
theorem heldUnitS_ev (l : List ImUnit) (n : Int) (h0 : 0 ≤ n) (h1 : n + 4 * l.length < 9223372036854775000) : Ev (fun k => laws_heldUnitS.f k (mkUnitS l n) n) (n + 4 * l.length) := by
  unfold laws_heldUnitS.f
  simpa using heldUnitS_loop l [] n h0 h1 (by simp; omega)
end Go.Proofs.Ytfgnaneajonapaa.Lw

/- A contract of my own: MkHost. -/
namespace Go.Proofs.Ytfgnaneajonapaa.Pr
open Go.RowKit Go.Proofs.YtfgnaneajonapaaW.PrintWords Go.Proofs.YtfgnaneajonapaaW.PrintLast Go.Proofs.YtfgnaneajonapaaW.PrintMore
set_option linter.unusedVariables false
set_option linter.unusedSimpArgs false
open Go.Proofs.Ytfgnaneajonapaa.Evs
noncomputable def mkHost (x : S97) (n : Int) : S97 := ⟨n, ((n + 1) % 3 == 0), Lw.mkUnitS x.f2 (n + 1 + 1)⟩
def cntHost (x : S97) : Int := 2 + 4 * (x.f2.length : Int)
noncomputable def mkHostS : List S97 → Int → List S97
  | [], _ => []
  | x :: s, n => mkHost x n :: mkHostS s (n + cntHost x)
def cntHostS : List S97 → Int
  | [] => 0
  | x :: s => cntHost x + cntHostS s
theorem cntHostS_pos : ∀ l : List S97, 0 ≤ cntHostS l
  | [] => Int.le_refl _
  | x :: s => by have := cntHostS_pos s; simp only [cntHostS, cntHost]; omega
set_option maxHeartbeats 8000000 in
set_option maxRecDepth 100000 in
theorem laws_markHostS.calls (P0 : Nat → Prop) (u : Value) (l0 : List S97) (a1 : Int) (w0 w : World) (hB : Below w0.heap.size w0 w) (ho0 : Kd.S k97 97 w w0.heap.size P0 u l0) (ha : 0 ≤ a1) (hb : a1 + cntHostS l0 < 9223372036854775000) :
    Calls Try.prog 20 #[u, .int .i64 a1] w fun e w' => e = .returned (.int .i64 (a1 + cntHostS l0)) ∧ Kd.S k97 97 w' w0.heap.size P0 u (mkHostS l0 a1) ∧ Below w0.heap.size w0 w' ∧ Kept w w' P0 := by
  have hu97 := Try.underlying97
  obtain ⟨Au, cap, rfl⟩ := Kd.S_slice ho0
  have hlen : l0.length ≤ 9223372036854775807 := (Kd.S_reads' ho0).2.2.2.1
  have hcap : l0.length ≤ cap := (Kd.S_reads' ho0).2.1
  obtain ⟨fin, hfin⟩ : ∃ fin, fin = a1 + cntHostS l0 := ⟨_, rfl⟩
  obtain ⟨res, hres⟩ : ∃ res, res = mkHostS l0 a1 := ⟨_, rfl⟩
  rw [← hfin, ← hres]
  have HS0 := Aside0.mk ho0
  have HB00 := Aside0.mk hB
  have HR0 := Aside0.mk (show l0.take 0 ++ mkHostS (l0.drop 0) a1 = res from hres.symm)
  have hcn0 : a1 + cntHostS (l0.drop 0) = fin := hfin.symm
  rw [← hfin] at hb
  clear ho0 hB hfin hres
  go_enter Try.func20, Try.ntmps20
  go_wp2
  go_loopg [1, 5] l0.length (fun gg s1 s5 wr => ∃ (ii : Nat) (kk : Int) (ys : List S97), s1 = .int .i64 kk ∧ s5 = .int .i64 ii ∧ ii ≤ l0.length ∧ l0.length - ii ≤ gg ∧ 0 ≤ kk ∧ kk + cntHostS (ys.drop ii) = fin ∧ Aside0 (ys.take ii ++ mkHostS (ys.drop ii) kk = res) ∧ Aside0 (ys.length = l0.length) ∧ Aside0 (Kd.S k97 97 wr w0.heap.size P0 (.slice Au l0.length cap) ys) ∧ Aside0 (Below w0.heap.size w0 wr) ∧ Aside0 (Kept w wr P0))
  case atStart => exact ⟨0, a1, l0, rfl, rfl, Nat.zero_le _, by omega, ha, hcn0, HR0, ⟨rfl⟩, HS0, HB00, ⟨Kept.refl _ _⟩⟩
  case round =>
    obtain ⟨ii, kk, ys, rfl, rfl, hii, hgg, hk0, hcn, HR, HYL, HS, HB0, HK0⟩ := hrel
    have hyl := HYL.out
    by_cases hlt : ii < l0.length
    · have hltz : (ii : Int) < (l0.length : Int) := by omega
      have HDr := Aside0.mk (List.drop_eq_getElem_cons (show ii < ys.length by omega))
      obtain ⟨g0, cap', ev, hg1, -, -⟩ := Kd.S_form HS.out (by omega)
      injection ev with ea len_ ec
      subst ea; subst ec
      clear len_
      have HG : Aside0 (P0 g0) := ⟨(Kd.S_R HS.out).1 g0 rfl⟩
      obtain ⟨oki, c, hcl, hM, hcc, hfr, hoki, hH⟩ := Kd.S_elem HS.out z97 (ii : Int) (by omega) hltz
      have ey : ys.getD ((ii : Int)).toNat z97 = ys[ii]'(by omega) := by simp [List.getD, List.getElem?_eq_getElem (show ii < ys.length by omega)]
      rw [ey] at hM
      have hcn2 := hcn
      rw [HDr.out, cntHostS, cntHost] at hcn2
      have hpos := cntHostS_pos (ys.drop (ii + 1))
      generalize ys[ii]'(by omega) = y at hM HDr hcn2
      clear ey hcc hfr hcl
      obtain ⟨v_, rfl, hI⟩ := k97_openM hM
      obtain ⟨Av, cv, rfl⟩ := Kd.R_slice hI
      have HI0 := Aside0.mk hI
      have HH0 := Aside0.mk hH
      have hoki := Aside0.mk hoki
      clear hI hH hM hyl
      obtain ⟨-, hcc, hfr⟩ := H_open HH0.out (by omega) (by omega)
      have hc0_0 : wr.cell? ⟨g0, ii * 3, none⟩ = some (.int .i64 y.f0) := hcc 0 _ rfl
      have hf0_0 : wr.frozen? ⟨g0, ii * 3, none⟩ = false := hfr 0
      have hc0_1 : wr.cell? ⟨g0, ii * 3 + 1, none⟩ = some (.bool y.f1) := hcc 1 _ rfl
      have hf0_1 : wr.frozen? ⟨g0, ii * 3 + 1, none⟩ = false := hfr 1
      have hc0_2 : wr.cell? ⟨g0, ii * 3 + 2, none⟩ = some (.slice Av y.f2.length cv) := hcc 2 _ rfl
      have hf0_2 : wr.frozen? ⟨g0, ii * 3 + 2, none⟩ = false := hfr 2
      clear hcc hfr
      have hgs0 : g0 < wr.heap.size := World.block_lt_of_cell? wr _ hc0_0
      have GG1 := Aside0.mk (Kd.H_seg HH0.out (by omega) (by omega) (seg := [.int .i64 (kk), .bool ((kk + 1) % 3 == 0)]) (j := 0) (show 0 + 2 ≤ 3 by decide) (by intro q hq; simp only [List.mem_cons, List.not_mem_nil, or_false] at hq; rcases hq with rfl | rfl <;> rfl))
      have HH1 : Aside0 (Kd.H k97 97 (((wr).setCell ⟨g0, ii * 3, none⟩ (.int .i64 (kk))).setCell ⟨g0, ii * 3 + 1, none⟩ (.bool ((kk + 1) % 3 == 0))) w0.heap.size P0 (.slice (some ⟨g0, 0, none⟩) l0.length cap) ys (ii : Int) oki [.int .i64 (kk), .bool ((kk + 1) % 3 == 0), .slice Av y.f2.length cv]) := Aside0.mk GG1.out.1
      have HI1 : Aside0 (Kd.R k146 146 (((wr).setCell ⟨g0, ii * 3, none⟩ (.int .i64 (kk))).setCell ⟨g0, ii * 3 + 1, none⟩ (.bool ((kk + 1) % 3 == 0))) w0.heap.size oki (.slice Av y.f2.length cv) y.f2) := Aside0.mk (Kd.R_step HI0.out (fun k ho hlt => GG1.out.2.block k hlt (fun he => (hoki.out k ho).2 (by injection he))))
      have HB1 : Aside0 (Below w0.heap.size w0 (((wr).setCell ⟨g0, ii * 3, none⟩ (.int .i64 (kk))).setCell ⟨g0, ii * 3 + 1, none⟩ (.bool ((kk + 1) % 3 == 0)))) := Aside0.mk (below_cells hg1 [.int .i64 (kk), .bool ((kk + 1) % 3 == 0)] _ _ _ HB0.out)
      have HK1 : Aside0 (Kept w (((wr).setCell ⟨g0, ii * 3, none⟩ (.int .i64 (kk))).setCell ⟨g0, ii * 3 + 1, none⟩ (.bool ((kk + 1) % 3 == 0))) P0) := Aside0.mk (Kept.of_grown GG1.out.2 HK0.out (fun k hk => by injection hk with hk; subst hk; exact .inl HG.out))
      obtain ⟨q2, hq2⟩ := (Lw.markUnitS_ev y.f2 (kk + 1 + 1) (by omega) (by omega)).rounds
      go_wp2_with fail
      refine (laws_markUnitS.calls q2 oki (.slice Av y.f2.length cv) y.f2 (kk + 1 + 1) _ _ w0 _ HB1.out HI1.out hq2).mono ?_
      rintro e w3 ⟨rfl, hr, hb, hk⟩
      have HH2 := Aside0.mk (Kd.H_step HH1.out (fun k _ hn hlt => hk.2 k hlt hn))
      have HI2 : Aside0 (Kd.R k146 146 w3 w0.heap.size oki (.slice Av y.f2.length cv) (Lw.mkUnitS y.f2 (kk + 1 + 1))) := Aside0.mk (R_reok hr (fun k hk => HI1.out.1 k hk) (fun _ _ x cs hM => by obtain rfl := k146_openM hM; exact k146_mkM _ _ _ x))
      have HB2 := Aside0.mk hb
      have HK2 := Aside0.mk (HK1.out.then_ hk (fun k ho => .inl (hoki.out k ho).1))
      clear hb hk hr
      obtain ⟨-, hcc, hfr⟩ := H_open HH2.out (by omega) (by omega)
      have hc1_0 : w3.cell? ⟨g0, ii * 3, none⟩ = some (.int .i64 (kk)) := hcc 0 _ rfl
      have hf1_0 : w3.frozen? ⟨g0, ii * 3, none⟩ = false := hfr 0
      have hc1_1 : w3.cell? ⟨g0, ii * 3 + 1, none⟩ = some (.bool ((kk + 1) % 3 == 0)) := hcc 1 _ rfl
      have hf1_1 : w3.frozen? ⟨g0, ii * 3 + 1, none⟩ = false := hfr 1
      have hc1_2 : w3.cell? ⟨g0, ii * 3 + 2, none⟩ = some (.slice Av y.f2.length cv) := hcc 2 _ rfl
      have hf1_2 : w3.frozen? ⟨g0, ii * 3 + 2, none⟩ = false := hfr 2
      clear hcc hfr
      have hgs1 : g0 < w3.heap.size := World.block_lt_of_cell? w3 _ hc1_0
      go_wp2
      go_roundg (l0.length - (ii + 1))
      case measure => omega
      case rel =>
        have hyl := HYL.out
        refine ⟨ii + 1, kk + 1 + 1 + 4 * (y.f2.length : Int), ys.set ii (mkHost y kk), rfl, by go_num, by omega, Nat.le_refl _, by omega, ?_, ?_, ⟨by rw [List.length_set]; exact hyl⟩, ?_, HB2, HK2⟩
        · rw [← hcn, HDr.out, cntHostS, cntHost, List.drop_set_of_lt (by omega)]; omega
        · refine ⟨?_⟩
          rw [← HR.out, HDr.out, mkHostS]
          rw [show kk + cntHost y = kk + 1 + 1 + 4 * (y.f2.length : Int) from by unfold cntHost; omega, List.drop_set_of_lt (by omega), ← List.take_append_getElem (by rw [List.length_set]; omega), List.take_set, List.set_eq_of_length_le (by simp; omega), List.getElem_set_self, List.append_assoc, List.singleton_append]
        · exact ⟨Kd.H_back HH2.out (k97_mkM _ _ _ (mkHost y kk) HI2.out) (fun _ hk => hk)⟩
    · have hltz : ¬ (ii : Int) < (l0.length : Int) := by omega
      have hd1 : decide ((ii : Int) < (l0.length : Int)) = false := decide_eq_false hltz
      have hd2 : decide (ii < l0.length) = false := decide_eq_false hlt
      have hnil : ys.drop ii = [] := List.drop_eq_nil_of_le (by omega)
      have htk : ys.take ii = ys := List.take_of_length_le (by omega)
      have HF : Aside0 (ys = res) := ⟨by rw [← HR.out, hnil, htk]; simp [mkHostS]⟩
      have hfk : fin = kk := by rw [← hcn, hnil]; simp [cntHostS]
      subst hfk
      clear hcn hnil htk hyl
      go_wp2
      go_ret
      exact ⟨rfl, by rw [← HF.out]; exact HS.out, HB0.out, HK0.out⟩
end Go.Proofs.Ytfgnaneajonapaa.Pr

/- The law FnExactUnitsOf: a walk of its function, call behind call. -/
namespace Go.Proofs.Ytfgnaneajonapaa.Pure
open Go.RowKit Go.Proofs.YtfgnaneajonapaaW.PrintWords Go.Proofs.YtfgnaneajonapaaW.PrintLast Go.Proofs.YtfgnaneajonapaaW.PrintMore Go.Proofs.Ytfgnaneajonapaa.Pr Go.Proofs.Ytfgnaneajonapaa.Evs Go.Proofs.Ytfgnaneajonapaa.Lw Go.Proofs.Ytfgnaneajonapaa.SFnExactUnitsOf Go.Proofs.Ytfgnaneajonapaa.Pu
set_option linter.unusedVariables false
set_option linter.unusedSimpArgs false
theorem unitsOf_len (hs : List ImHost) (s g : Int) : (unitsOf hs s g).1.length ≤ 6 ∧ (unitsOf hs s g).2.length ≤ 6 := by
  have h := many_le s
  simp [unitsOf, fromU_length, h]
theorem cntHostS_le (M : Nat) : ∀ l : List ImHost, (∀ x ∈ l, x.f2.length ≤ M) → cntHostS l ≤ l.length * (2 + 4 * (M : Int))
  | [], _ => by simp [cntHostS]
  | x :: s, h => by
    have h1 := cntHostS_le M s (fun y hy => h y (List.mem_cons_of_mem _ hy))
    have h2 := h x (List.mem_cons_self ..)
    simp only [cntHostS, cntHost, List.length_cons, Int.natCast_add, Int.add_mul]
    have : ((1 : Nat) : Int) * (2 + 4 * (M : Int)) = 2 + 4 * (M : Int) := by simp
    rw [this]
    omega
set_option maxHeartbeats 8000000 in
set_option maxRecDepth 100000 in
theorem FnExactUnitsOf : SFnExactUnitsOf.Direct := by
  intro l s g A0 c0 w hr0 hc0 hl hs hg
  have ho : ∀ x ∈ l, okHost x := fun x hx => ok_wfHost (hl.2 x hx)
  have hl1 := hl.1
  obtain ⟨r, hE, hR⟩ := szHostS_ev l hl1 ho 1048576 (by omega) (by omega)
  obtain ⟨q0, h0⟩ := ev_rounds hE
  have HC0 := Aside0.mk hr0
  have HN0 := Aside0.mk hc0
  clear hr0 hc0 hs hg
  by_cases c : r < 0
  · clear hl ho hE hR hl1
    go_enter Try.func4, Try.ntmps4
    have HB := Aside0.mk (Below.refl w.heap.size w)
    have hcall := laws_szHostS.calls q0 A0 c0 l 1048576 r w (Kd.C_below HC0.out HB.out) HN0.out h0
    go_wp2_with fail
    refine hcall.mono ?_
    clear hcall
    rintro e w1 ⟨rfl, hb⟩
    have HZw1 := Aside0.mk hb.size
    replace HB := Aside0.mk (HB.out.trans (hb.mono HB.out.size))
    clear hb
    have hd : decide (r < 0) = true := decide_eq_true c
    go_wp2
    go_ret
    exact ⟨rfl, HB.out⟩
  · have hd : decide (r < 0) = false := decide_eq_false c
    have hw : wtHostS l ≤ 1048576 := by omega
    have hT := toHostS_ev l hw
    have hb := bd_toHostS l hw
    have hsh : shortH (l.map toHost) := short_to l hw
    have hS := spec_UnitsOf_ev _ hsh s g
    have hI := impl_UnitsOf_ev _ hsh s g
    have hq3 := eqHostS_ev _ (by have := hb.1; omega) (fun x hx => ln_bdHost (hb.2 x hx))
    have hcnt : 1 + cntHostS (l.map toHost) < 9223372036854775000 := by
      have h1 := cntHostS_le 1048576 (l.map toHost) (fun x hx => (hb.2 x hx).1)
      have h2 := hb.1
      have h3 : ((l.map toHost).length : Int) * (2 + 4 * ((1048576 : Nat) : Int)) ≤ 1048576 * (2 + 4 * 1048576) := Int.mul_le_mul_of_nonneg_right (by omega) (by omega)
      omega
    have hpos := cntHostS_pos (l.map toHost)
    have hu := unitsOf_len (l.map toHost) s g
    generalize unitsOf (l.map toHost) s g = uv at hS hI hu
    obtain ⟨u, v⟩ := uv
    simp only at hu
    have hq1 := eqStringS_ev u (by omega)
    have hq2 := eqBoolS_ev v (by omega)
    have hm1 := markStringS_ev u 1 (by omega) (by omega)
    have hh1 := heldStringS_ev u 1 (by omega) (by omega)
    obtain ⟨m1, em1⟩ : ∃ m1 : Int, m1 = 1 + u.length := ⟨_, rfl⟩
    rw [← em1] at hm1 hh1
    have hm2 := markBoolS_ev v m1 (by omega) (by omega)
    have hh2 := heldBoolS_ev v m1 (by omega) (by omega)
    obtain ⟨m2, em2⟩ : ∃ m2 : Int, m2 = m1 + v.length := ⟨_, rfl⟩
    rw [← em2] at hm2 hh2
    have hd1 : decide (m1 < 0) = false := decide_eq_false (by omega)
    have hd2 : decide (m2 < 0) = false := decide_eq_false (by omega)
    have hd3 : decide (1 + cntHostS (l.map toHost) < 0) = false := decide_eq_false (by omega)
    generalize mkStringS u 1 = u' at hm1 hh1
    generalize mkBoolS v m1 = v' at hm2 hh2
    clear hl ho hE hR hl1 hw hb hsh hpos hu em1 em2
    generalize l.map toHost = z at *
    go_enter Try.func4, Try.ntmps4
    have HB := Aside0.mk (Below.refl w.heap.size w)
    have hcall := laws_szHostS.calls q0 A0 c0 l 1048576 r w (Kd.C_below HC0.out HB.out) HN0.out h0
    go_wp2_with fail
    refine hcall.mono ?_
    clear hcall
    rintro e w1 ⟨rfl, hb⟩
    have HZw1 := Aside0.mk hb.size
    replace HB := Aside0.mk (HB.out.trans (hb.mono HB.out.size))
    clear hb
    obtain ⟨fu2, hfu2⟩ := ev_rounds (hT)
    have hcall := laws_toHostS.calls fu2 A0 c0 l z w1 (Kd.C_below HC0.out HB.out) HN0.out hfu2
    go_wp2_with fail
    refine hcall.mono ?_
    clear hcall
    rintro e w2 ⟨vy, rfl, oy, hb⟩
    obtain ⟨Ay, cy, rfl⟩ := Kd.S_slice oy
    have Hy := Aside0.mk (Kd.S_lower (Kd.S_mono (Kd.S_bound oy) (ok' := fun k_ => w1.heap.size ≤ k_ ∧ k_ < w2.heap.size) (fun k hk => ⟨hk.2.1, hk.2.2.1⟩)) HB.out.size)
    have HZw2 := Aside0.mk hb.size
    replace HB := Aside0.mk (HB.out.trans (hb.mono HB.out.size))
    clear hb oy
    obtain ⟨fu3, hfu3⟩ := ev_rounds (hS)
    have hcall := spec_UnitsOf.calls fu3 Ay cy z s g u v w2 (Kd.S_reads' Hy.out).2.2 ((Kd.S_reads' Hy.out).1 ▸ (Kd.S_reads' Hy.out).2.1) hfu3
    go_wp2_with fail
    refine hcall.mono ?_
    clear hcall
    rintro e w3 ⟨va, vb, rfl, oa, ob, hb⟩
    obtain ⟨Aa, ca, rfl⟩ := Kd.R_slice oa
    obtain ⟨Ab, cb, rfl⟩ := Kd.R_slice ob
    have Ha := Aside0.mk (R_reok (Kd.R_lower oa HB.out.size) (ok' := fun k_ => (w2.heap.size ≤ k_ ∧ k_ < w3.heap.size) ∧ some k_ = (Value.slice Aa u.length ca).ownBlock) (fun k hk => ⟨⟨((Kd.R_bound oa).1 k hk).2.1, ((Kd.R_bound oa).1 k hk).2.2.1⟩, hk.symm⟩) (fun _ _ x cs hM => hM))
    have Hb := Aside0.mk (R_reok (Kd.R_lower ob HB.out.size) (ok' := fun k_ => (w2.heap.size ≤ k_ ∧ k_ < w3.heap.size) ∧ some k_ = (Value.slice Ab v.length cb).ownBlock) (fun k hk => ⟨⟨((Kd.R_bound ob).1 k hk).2.1, ((Kd.R_bound ob).1 k hk).2.2.1⟩, hk.symm⟩) (fun _ _ x cs hM => hM))
    replace Hy := Aside0.mk (Kd.S_below Hy.out hb)
    have HZw3 := Aside0.mk hb.size
    replace HB := Aside0.mk (HB.out.trans (hb.mono HB.out.size))
    clear hb oa ob
    clear Hy
    obtain ⟨fu4, hfu4⟩ := ev_rounds (hT)
    have hcall := laws_toHostS.calls fu4 A0 c0 l z w3 (Kd.C_below HC0.out HB.out) HN0.out hfu4
    go_wp2_with fail
    refine hcall.mono ?_
    clear hcall
    rintro e w4 ⟨vx, rfl, ox, hb⟩
    obtain ⟨Ax, cx, rfl⟩ := Kd.S_slice ox
    have Hx := Aside0.mk (Kd.S_lower (Kd.S_mono (Kd.S_bound ox) (ok' := fun k_ => w3.heap.size ≤ k_ ∧ k_ < w4.heap.size) (fun k hk => ⟨hk.2.1, hk.2.2.1⟩)) HB.out.size)
    replace Ha := Aside0.mk (Kd.R_below Ha.out hb)
    replace Hb := Aside0.mk (Kd.R_below Hb.out hb)
    have HZw4 := Aside0.mk hb.size
    replace HB := Aside0.mk (HB.out.trans (hb.mono HB.out.size))
    clear hb ox
    obtain ⟨fu5, hfu5⟩ := ev_rounds (hI)
    have hcall := impl_UnitsOf.calls fu5 Ax cx z s g u v w4 (Kd.S_reads' Hx.out).2.2 ((Kd.S_reads' Hx.out).1 ▸ (Kd.S_reads' Hx.out).2.1) hfu5
    go_wp2_with fail
    refine hcall.mono ?_
    clear hcall
    rintro e w5 ⟨vc, vd, rfl, oc, od, hb⟩
    obtain ⟨Ac, cc, rfl⟩ := Kd.R_slice oc
    obtain ⟨Ad, cd, rfl⟩ := Kd.R_slice od
    have Hc := Aside0.mk (R_reok (Kd.R_lower oc HB.out.size) (ok' := fun k_ => (w4.heap.size ≤ k_ ∧ k_ < w5.heap.size) ∧ some k_ = (Value.slice Ac u.length cc).ownBlock) (fun k hk => ⟨⟨((Kd.R_bound oc).1 k hk).2.1, ((Kd.R_bound oc).1 k hk).2.2.1⟩, hk.symm⟩) (fun _ _ x cs hM => hM))
    have Hd := Aside0.mk (R_reok (Kd.R_lower od HB.out.size) (ok' := fun k_ => (w4.heap.size ≤ k_ ∧ k_ < w5.heap.size) ∧ some k_ = (Value.slice Ad v.length cd).ownBlock) (fun k hk => ⟨⟨((Kd.R_bound od).1 k hk).2.1, ((Kd.R_bound od).1 k hk).2.2.1⟩, hk.symm⟩) (fun _ _ x cs hM => hM))
    replace Ha := Aside0.mk (Kd.R_below Ha.out hb)
    replace Hb := Aside0.mk (Kd.R_below Hb.out hb)
    replace Hx := Aside0.mk (Kd.S_below Hx.out hb)
    have HZw5 := Aside0.mk hb.size
    replace HB := Aside0.mk (HB.out.trans (hb.mono HB.out.size))
    clear hb oc od
    obtain ⟨fu6, hfu6⟩ := ev_rounds (hq1)
    have hcall := laws_eqStringS.calls fu6 Ac cc u Aa ca u true w5 (Kd.R_reads' Hc.out).2.2 ((Kd.R_reads' Hc.out).1 ▸ (Kd.R_reads' Hc.out).2.1) (Kd.R_reads' Ha.out).2.2 ((Kd.R_reads' Ha.out).1 ▸ (Kd.R_reads' Ha.out).2.1) hfu6
    go_wp2_with fail
    refine hcall.mono ?_
    clear hcall
    rintro e w6 ⟨rfl, hd⟩
    have hb := hd.below
    clear hd
    replace Ha := Aside0.mk (Kd.R_below Ha.out hb)
    replace Hb := Aside0.mk (Kd.R_below Hb.out hb)
    replace Hx := Aside0.mk (Kd.S_below Hx.out hb)
    replace Hc := Aside0.mk (Kd.R_below Hc.out hb)
    replace Hd := Aside0.mk (Kd.R_below Hd.out hb)
    have HZw6 := Aside0.mk hb.size
    replace HB := Aside0.mk (HB.out.trans (hb.mono HB.out.size))
    clear hb
    obtain ⟨fu7, hfu7⟩ := ev_rounds (hq2)
    have hcall := laws_eqBoolS.calls fu7 Ad cd v Ab cb v true w6 (Kd.R_reads' Hd.out).2.2 ((Kd.R_reads' Hd.out).1 ▸ (Kd.R_reads' Hd.out).2.1) (Kd.R_reads' Hb.out).2.2 ((Kd.R_reads' Hb.out).1 ▸ (Kd.R_reads' Hb.out).2.1) hfu7
    go_wp2_with fail
    refine hcall.mono ?_
    clear hcall
    rintro e w7 ⟨rfl, hd⟩
    have hb := hd.below
    clear hd
    replace Ha := Aside0.mk (Kd.R_below Ha.out hb)
    replace Hb := Aside0.mk (Kd.R_below Hb.out hb)
    replace Hx := Aside0.mk (Kd.S_below Hx.out hb)
    replace Hc := Aside0.mk (Kd.R_below Hc.out hb)
    replace Hd := Aside0.mk (Kd.R_below Hd.out hb)
    have HZw7 := Aside0.mk hb.size
    replace HB := Aside0.mk (HB.out.trans (hb.mono HB.out.size))
    clear hb
    obtain ⟨fu8, hfu8⟩ := ev_rounds (hT)
    have hcall := laws_toHostS.calls fu8 A0 c0 l z w7 (Kd.C_below HC0.out HB.out) HN0.out hfu8
    go_wp2_with fail
    refine hcall.mono ?_
    clear hcall
    rintro e w8 ⟨vy, rfl, oy, hb⟩
    obtain ⟨Ay, cy, rfl⟩ := Kd.S_slice oy
    have Hy := Aside0.mk (Kd.S_lower (Kd.S_mono (Kd.S_bound oy) (ok' := fun k_ => w7.heap.size ≤ k_ ∧ k_ < w8.heap.size) (fun k hk => ⟨hk.2.1, hk.2.2.1⟩)) HB.out.size)
    replace Ha := Aside0.mk (Kd.R_below Ha.out hb)
    replace Hb := Aside0.mk (Kd.R_below Hb.out hb)
    replace Hx := Aside0.mk (Kd.S_below Hx.out hb)
    replace Hc := Aside0.mk (Kd.R_below Hc.out hb)
    replace Hd := Aside0.mk (Kd.R_below Hd.out hb)
    have HZw8 := Aside0.mk hb.size
    replace HB := Aside0.mk (HB.out.trans (hb.mono HB.out.size))
    clear hb oy
    obtain ⟨fu9, hfu9⟩ := ev_rounds (hq3)
    have hcall := laws_eqHostS.calls fu9 Ax cx z Ay cy z true w8 (Kd.S_reads' Hx.out).2.2 ((Kd.S_reads' Hx.out).1 ▸ (Kd.S_reads' Hx.out).2.1) (Kd.S_reads' Hy.out).2.2 ((Kd.S_reads' Hy.out).1 ▸ (Kd.S_reads' Hy.out).2.1) hfu9
    go_wp2_with fail
    refine hcall.mono ?_
    clear hcall
    rintro e w9 ⟨rfl, hb⟩
    replace Ha := Aside0.mk (Kd.R_below Ha.out hb)
    replace Hb := Aside0.mk (Kd.R_below Hb.out hb)
    replace Hx := Aside0.mk (Kd.S_below Hx.out hb)
    replace Hc := Aside0.mk (Kd.R_below Hc.out hb)
    replace Hd := Aside0.mk (Kd.R_below Hd.out hb)
    replace Hy := Aside0.mk (Kd.S_below Hy.out hb)
    have HZw9 := Aside0.mk hb.size
    replace HB := Aside0.mk (HB.out.trans (hb.mono HB.out.size))
    clear hb
    clear Hy
    have hcall := laws_markHostS.calls (fun k_ => w3.heap.size ≤ k_ ∧ k_ < w4.heap.size) (.slice Ax z.length cx) z 1 w w9 HB.out Hx.out (by decide) hcnt
    go_wp2_with fail
    refine hcall.mono ?_
    clear hcall
    rintro e w10 ⟨rfl, hr, hb, hk⟩
    replace Ha := Aside0.mk (Kd.R_step Ha.out (fun k ho hlt => hk.2 k hlt (fun hm => by have h1 := ho.1.1; have h2 := ho.1.2; have h3 := hm.1; have h4 := hm.2; have := HZw1.out; have := HZw2.out; have := HZw3.out; have := HZw4.out; have := HZw5.out; have := HZw6.out; have := HZw7.out; have := HZw8.out; have := HZw9.out; omega)))
    replace Hb := Aside0.mk (Kd.R_step Hb.out (fun k ho hlt => hk.2 k hlt (fun hm => by have h1 := ho.1.1; have h2 := ho.1.2; have h3 := hm.1; have h4 := hm.2; have := HZw1.out; have := HZw2.out; have := HZw3.out; have := HZw4.out; have := HZw5.out; have := HZw6.out; have := HZw7.out; have := HZw8.out; have := HZw9.out; omega)))
    replace Hc := Aside0.mk (Kd.R_step Hc.out (fun k ho hlt => hk.2 k hlt (fun hm => by have h1 := ho.1.1; have h2 := ho.1.2; have h3 := hm.1; have h4 := hm.2; have := HZw1.out; have := HZw2.out; have := HZw3.out; have := HZw4.out; have := HZw5.out; have := HZw6.out; have := HZw7.out; have := HZw8.out; have := HZw9.out; omega)))
    replace Hd := Aside0.mk (Kd.R_step Hd.out (fun k ho hlt => hk.2 k hlt (fun hm => by have h1 := ho.1.1; have h2 := ho.1.2; have h3 := hm.1; have h4 := hm.2; have := HZw1.out; have := HZw2.out; have := HZw3.out; have := HZw4.out; have := HZw5.out; have := HZw6.out; have := HZw7.out; have := HZw8.out; have := HZw9.out; omega)))
    replace Hx := Aside0.mk hr
    have HZw10 := Aside0.mk hk.1
    replace HB := Aside0.mk hb
    clear hb hk hr
    clear Hx
    obtain ⟨fu11, hfu11⟩ := ev_rounds (hq1)
    have hcall := laws_eqStringS.calls fu11 Ac cc u Aa ca u true w10 (Kd.R_reads' Hc.out).2.2 ((Kd.R_reads' Hc.out).1 ▸ (Kd.R_reads' Hc.out).2.1) (Kd.R_reads' Ha.out).2.2 ((Kd.R_reads' Ha.out).1 ▸ (Kd.R_reads' Ha.out).2.1) hfu11
    go_wp2_with fail
    refine hcall.mono ?_
    clear hcall
    rintro e w11 ⟨rfl, hd⟩
    have hb := hd.below
    clear hd
    replace Ha := Aside0.mk (Kd.R_below Ha.out hb)
    replace Hb := Aside0.mk (Kd.R_below Hb.out hb)
    replace Hc := Aside0.mk (Kd.R_below Hc.out hb)
    replace Hd := Aside0.mk (Kd.R_below Hd.out hb)
    have HZw11 := Aside0.mk hb.size
    replace HB := Aside0.mk (HB.out.trans (hb.mono HB.out.size))
    clear hb
    obtain ⟨fu12, hfu12⟩ := ev_rounds (hq2)
    have hcall := laws_eqBoolS.calls fu12 Ad cd v Ab cb v true w11 (Kd.R_reads' Hd.out).2.2 ((Kd.R_reads' Hd.out).1 ▸ (Kd.R_reads' Hd.out).2.1) (Kd.R_reads' Hb.out).2.2 ((Kd.R_reads' Hb.out).1 ▸ (Kd.R_reads' Hb.out).2.1) hfu12
    go_wp2_with fail
    refine hcall.mono ?_
    clear hcall
    rintro e w12 ⟨rfl, hd⟩
    have hb := hd.below
    clear hd
    replace Ha := Aside0.mk (Kd.R_below Ha.out hb)
    replace Hb := Aside0.mk (Kd.R_below Hb.out hb)
    replace Hc := Aside0.mk (Kd.R_below Hc.out hb)
    replace Hd := Aside0.mk (Kd.R_below Hd.out hb)
    have HZw12 := Aside0.mk hb.size
    replace HB := Aside0.mk (HB.out.trans (hb.mono HB.out.size))
    clear hb
    obtain ⟨fu13, hfu13⟩ := ev_rounds (hm1)
    have hcall := laws_markStringS.calls fu13 (fun k_ => (w4.heap.size ≤ k_ ∧ k_ < w5.heap.size) ∧ some k_ = (Value.slice Ac u.length cc).ownBlock) (.slice Ac u.length cc) u 1 m1 u' w w12 HB.out Hc.out hfu13
    go_wp2_with fail
    refine hcall.mono ?_
    clear hcall
    rintro e w13 ⟨rfl, hr, hb, hk⟩
    replace Ha := Aside0.mk (Kd.R_step Ha.out (fun k ho hlt => hk.2 k hlt (fun hm => by have h1 := ho.1.1; have h2 := ho.1.2; have h3 := hm.1.1; have h4 := hm.1.2; have := HZw1.out; have := HZw2.out; have := HZw3.out; have := HZw4.out; have := HZw5.out; have := HZw6.out; have := HZw7.out; have := HZw8.out; have := HZw9.out; have := HZw10.out; have := HZw11.out; have := HZw12.out; omega)))
    replace Hb := Aside0.mk (Kd.R_step Hb.out (fun k ho hlt => hk.2 k hlt (fun hm => by have h1 := ho.1.1; have h2 := ho.1.2; have h3 := hm.1.1; have h4 := hm.1.2; have := HZw1.out; have := HZw2.out; have := HZw3.out; have := HZw4.out; have := HZw5.out; have := HZw6.out; have := HZw7.out; have := HZw8.out; have := HZw9.out; have := HZw10.out; have := HZw11.out; have := HZw12.out; omega)))
    replace Hd := Aside0.mk (Kd.R_step Hd.out (fun k ho hlt => hk.2 k hlt (fun hm => by obtain ⟨c1, e1⟩ := Kd.R_typed Hd.out k ho.2.symm; obtain ⟨c2, e2⟩ := Kd.R_typed Hc.out k hm.2.symm; rw [e1] at e2; simp at e2)))
    replace Hc := Aside0.mk (R_reok hr (fun k hk => Hc.out.1 k hk) (fun _ _ x cs hM => hM))
    have HZw13 := Aside0.mk hk.1
    replace HB := Aside0.mk hb
    clear hb hk hr
    obtain ⟨fu14, hfu14⟩ := ev_rounds (hm2)
    have hcall := laws_markBoolS.calls fu14 (fun k_ => (w4.heap.size ≤ k_ ∧ k_ < w5.heap.size) ∧ some k_ = (Value.slice Ad v.length cd).ownBlock) (.slice Ad v.length cd) v m1 m2 v' w w13 HB.out Hd.out hfu14
    go_wp2_with fail
    refine hcall.mono ?_
    clear hcall
    rintro e w14 ⟨rfl, hr, hb, hk⟩
    replace Ha := Aside0.mk (Kd.R_step Ha.out (fun k ho hlt => hk.2 k hlt (fun hm => by have h1 := ho.1.1; have h2 := ho.1.2; have h3 := hm.1.1; have h4 := hm.1.2; have := HZw1.out; have := HZw2.out; have := HZw3.out; have := HZw4.out; have := HZw5.out; have := HZw6.out; have := HZw7.out; have := HZw8.out; have := HZw9.out; have := HZw10.out; have := HZw11.out; have := HZw12.out; have := HZw13.out; omega)))
    replace Hb := Aside0.mk (Kd.R_step Hb.out (fun k ho hlt => hk.2 k hlt (fun hm => by have h1 := ho.1.1; have h2 := ho.1.2; have h3 := hm.1.1; have h4 := hm.1.2; have := HZw1.out; have := HZw2.out; have := HZw3.out; have := HZw4.out; have := HZw5.out; have := HZw6.out; have := HZw7.out; have := HZw8.out; have := HZw9.out; have := HZw10.out; have := HZw11.out; have := HZw12.out; have := HZw13.out; omega)))
    replace Hc := Aside0.mk (Kd.R_step Hc.out (fun k ho hlt => hk.2 k hlt (fun hm => by obtain ⟨c1, e1⟩ := Kd.R_typed Hc.out k ho.2.symm; obtain ⟨c2, e2⟩ := Kd.R_typed Hd.out k hm.2.symm; rw [e1] at e2; simp at e2)))
    replace Hd := Aside0.mk (R_reok hr (fun k hk => Hd.out.1 k hk) (fun _ _ x cs hM => hM))
    have HZw14 := Aside0.mk hk.1
    replace HB := Aside0.mk hb
    clear hb hk hr
    obtain ⟨fu15, hfu15⟩ := ev_rounds (hh1)
    have hcall := laws_heldStringS.calls fu15 Ac cc u' 1 m1 w14 (Kd.R_reads' Hc.out).2.2 ((Kd.R_reads' Hc.out).1 ▸ (Kd.R_reads' Hc.out).2.1) hfu15
    rw [← (Kd.R_reads' Hc.out).1] at hcall
    go_wp2_with fail
    refine hcall.mono ?_
    clear hcall
    rintro e w15 ⟨rfl, hb⟩
    replace Ha := Aside0.mk (Kd.R_below Ha.out hb)
    replace Hb := Aside0.mk (Kd.R_below Hb.out hb)
    replace Hc := Aside0.mk (Kd.R_below Hc.out hb)
    replace Hd := Aside0.mk (Kd.R_below Hd.out hb)
    have HZw15 := Aside0.mk hb.size
    replace HB := Aside0.mk (HB.out.trans (hb.mono HB.out.size))
    clear hb
    obtain ⟨fu16, hfu16⟩ := ev_rounds (hh2)
    have hcall := laws_heldBoolS.calls fu16 Ad cd v' m1 m2 w15 (Kd.R_reads' Hd.out).2.2 ((Kd.R_reads' Hd.out).1 ▸ (Kd.R_reads' Hd.out).2.1) hfu16
    rw [← (Kd.R_reads' Hd.out).1] at hcall
    go_wp2_with fail
    refine hcall.mono ?_
    clear hcall
    rintro e w16 ⟨rfl, hd⟩
    have hb := hd.below
    clear hd
    replace Ha := Aside0.mk (Kd.R_below Ha.out hb)
    replace Hb := Aside0.mk (Kd.R_below Hb.out hb)
    replace Hc := Aside0.mk (Kd.R_below Hc.out hb)
    replace Hd := Aside0.mk (Kd.R_below Hd.out hb)
    have HZw16 := Aside0.mk hb.size
    replace HB := Aside0.mk (HB.out.trans (hb.mono HB.out.size))
    clear hb
    obtain ⟨fu17, hfu17⟩ := ev_rounds (hT)
    have hcall := laws_toHostS.calls fu17 A0 c0 l z w16 (Kd.C_below HC0.out HB.out) HN0.out hfu17
    go_wp2_with fail
    refine hcall.mono ?_
    clear hcall
    rintro e w17 ⟨vy, rfl, oy, hb⟩
    obtain ⟨Ay, cy, rfl⟩ := Kd.S_slice oy
    have Hy := Aside0.mk (Kd.S_lower (Kd.S_mono (Kd.S_bound oy) (ok' := fun k_ => w16.heap.size ≤ k_ ∧ k_ < w17.heap.size) (fun k hk => ⟨hk.2.1, hk.2.2.1⟩)) HB.out.size)
    replace Ha := Aside0.mk (Kd.R_below Ha.out hb)
    replace Hb := Aside0.mk (Kd.R_below Hb.out hb)
    replace Hc := Aside0.mk (Kd.R_below Hc.out hb)
    replace Hd := Aside0.mk (Kd.R_below Hd.out hb)
    have HZw17 := Aside0.mk hb.size
    replace HB := Aside0.mk (HB.out.trans (hb.mono HB.out.size))
    clear hb oy
    obtain ⟨fu18, hfu18⟩ := ev_rounds (hI)
    have hcall := impl_UnitsOf.calls fu18 Ay cy z s g u v w17 (Kd.S_reads' Hy.out).2.2 ((Kd.S_reads' Hy.out).1 ▸ (Kd.S_reads' Hy.out).2.1) hfu18
    go_wp2_with fail
    refine hcall.mono ?_
    clear hcall
    rintro e w18 ⟨vp, vq, rfl, op, oq, hb⟩
    obtain ⟨Ap, cp, rfl⟩ := Kd.R_slice op
    obtain ⟨Aq, cq, rfl⟩ := Kd.R_slice oq
    have Hp := Aside0.mk (R_reok (Kd.R_lower op HB.out.size) (ok' := fun k_ => (w17.heap.size ≤ k_ ∧ k_ < w18.heap.size) ∧ some k_ = (Value.slice Ap u.length cp).ownBlock) (fun k hk => ⟨⟨((Kd.R_bound op).1 k hk).2.1, ((Kd.R_bound op).1 k hk).2.2.1⟩, hk.symm⟩) (fun _ _ x cs hM => hM))
    have Hq := Aside0.mk (R_reok (Kd.R_lower oq HB.out.size) (ok' := fun k_ => (w17.heap.size ≤ k_ ∧ k_ < w18.heap.size) ∧ some k_ = (Value.slice Aq v.length cq).ownBlock) (fun k hk => ⟨⟨((Kd.R_bound oq).1 k hk).2.1, ((Kd.R_bound oq).1 k hk).2.2.1⟩, hk.symm⟩) (fun _ _ x cs hM => hM))
    replace Ha := Aside0.mk (Kd.R_below Ha.out hb)
    replace Hb := Aside0.mk (Kd.R_below Hb.out hb)
    replace Hc := Aside0.mk (Kd.R_below Hc.out hb)
    replace Hd := Aside0.mk (Kd.R_below Hd.out hb)
    replace Hy := Aside0.mk (Kd.S_below Hy.out hb)
    have HZw18 := Aside0.mk hb.size
    replace HB := Aside0.mk (HB.out.trans (hb.mono HB.out.size))
    clear hb op oq
    clear Hy
    obtain ⟨fu19, hfu19⟩ := ev_rounds (hq1)
    have hcall := laws_eqStringS.calls fu19 Ap cp u Aa ca u true w18 (Kd.R_reads' Hp.out).2.2 ((Kd.R_reads' Hp.out).1 ▸ (Kd.R_reads' Hp.out).2.1) (Kd.R_reads' Ha.out).2.2 ((Kd.R_reads' Ha.out).1 ▸ (Kd.R_reads' Ha.out).2.1) hfu19
    go_wp2_with fail
    refine hcall.mono ?_
    clear hcall
    rintro e w19 ⟨rfl, hd⟩
    have hb := hd.below
    clear hd
    replace Ha := Aside0.mk (Kd.R_below Ha.out hb)
    replace Hb := Aside0.mk (Kd.R_below Hb.out hb)
    replace Hc := Aside0.mk (Kd.R_below Hc.out hb)
    replace Hd := Aside0.mk (Kd.R_below Hd.out hb)
    replace Hp := Aside0.mk (Kd.R_below Hp.out hb)
    replace Hq := Aside0.mk (Kd.R_below Hq.out hb)
    have HZw19 := Aside0.mk hb.size
    replace HB := Aside0.mk (HB.out.trans (hb.mono HB.out.size))
    clear hb
    obtain ⟨fu20, hfu20⟩ := ev_rounds (hq2)
    have hcall := laws_eqBoolS.calls fu20 Aq cq v Ab cb v true w19 (Kd.R_reads' Hq.out).2.2 ((Kd.R_reads' Hq.out).1 ▸ (Kd.R_reads' Hq.out).2.1) (Kd.R_reads' Hb.out).2.2 ((Kd.R_reads' Hb.out).1 ▸ (Kd.R_reads' Hb.out).2.1) hfu20
    go_wp2_with fail
    refine hcall.mono ?_
    clear hcall
    rintro e w20 ⟨rfl, hd⟩
    have hb := hd.below
    clear hd
    replace Ha := Aside0.mk (Kd.R_below Ha.out hb)
    replace Hb := Aside0.mk (Kd.R_below Hb.out hb)
    replace Hc := Aside0.mk (Kd.R_below Hc.out hb)
    replace Hd := Aside0.mk (Kd.R_below Hd.out hb)
    replace Hp := Aside0.mk (Kd.R_below Hp.out hb)
    replace Hq := Aside0.mk (Kd.R_below Hq.out hb)
    have HZw20 := Aside0.mk hb.size
    replace HB := Aside0.mk (HB.out.trans (hb.mono HB.out.size))
    clear hb
    obtain ⟨fu21, hfu21⟩ := ev_rounds (hh1)
    have hcall := laws_heldStringS.calls fu21 Ac cc u' 1 m1 w20 (Kd.R_reads' Hc.out).2.2 ((Kd.R_reads' Hc.out).1 ▸ (Kd.R_reads' Hc.out).2.1) hfu21
    rw [← (Kd.R_reads' Hc.out).1] at hcall
    go_wp2_with fail
    refine hcall.mono ?_
    clear hcall
    rintro e w21 ⟨rfl, hb⟩
    replace Ha := Aside0.mk (Kd.R_below Ha.out hb)
    replace Hb := Aside0.mk (Kd.R_below Hb.out hb)
    replace Hc := Aside0.mk (Kd.R_below Hc.out hb)
    replace Hd := Aside0.mk (Kd.R_below Hd.out hb)
    replace Hp := Aside0.mk (Kd.R_below Hp.out hb)
    replace Hq := Aside0.mk (Kd.R_below Hq.out hb)
    have HZw21 := Aside0.mk hb.size
    replace HB := Aside0.mk (HB.out.trans (hb.mono HB.out.size))
    clear hb
    obtain ⟨fu22, hfu22⟩ := ev_rounds (hh2)
    have hcall := laws_heldBoolS.calls fu22 Ad cd v' m1 m2 w21 (Kd.R_reads' Hd.out).2.2 ((Kd.R_reads' Hd.out).1 ▸ (Kd.R_reads' Hd.out).2.1) hfu22
    rw [← (Kd.R_reads' Hd.out).1] at hcall
    go_wp2_with fail
    refine hcall.mono ?_
    clear hcall
    rintro e w22 ⟨rfl, hd⟩
    have hb := hd.below
    clear hd
    replace Ha := Aside0.mk (Kd.R_below Ha.out hb)
    replace Hb := Aside0.mk (Kd.R_below Hb.out hb)
    replace Hc := Aside0.mk (Kd.R_below Hc.out hb)
    replace Hd := Aside0.mk (Kd.R_below Hd.out hb)
    replace Hp := Aside0.mk (Kd.R_below Hp.out hb)
    replace Hq := Aside0.mk (Kd.R_below Hq.out hb)
    have HZw22 := Aside0.mk hb.size
    replace HB := Aside0.mk (HB.out.trans (hb.mono HB.out.size))
    clear hb
    go_wp2
    go_ret
    exact ⟨rfl, HB.out⟩
end Go.Proofs.Ytfgnaneajonapaa.Pure
