/- A part of the proof of the law FnExactEnoughLeft: its texts, one behind the other. -/
import Derived.ChangeArms
import Derived.Deep.Slices
import Derived.WideShapes
import Derived.Test.YtfgnaneajonapaaBFnExactEnoughLeft1
import Derived.Test.YtfgnaneajonapaaBFnExactEnoughLeft2
import Derived.Test.YtfgnaneajonapaaBFnExactEnoughLeft3
import Derived.Test.YtfgnaneajonapaaBFnExactEnoughLeft4
import Derived.Test.YtfgnaneajonapaaBFnExactEnoughLeft5
/- Printed out of the translation by this session's pr.py over the kit's print. Lean checks it. -/
namespace Go.Proofs.Ytfgnaneajonapaa.Pr
open Go.RowKit Go.Proofs.YtfgnaneajonapaaW.PrintWords Go.Proofs.YtfgnaneajonapaaW.PrintLast Go.Proofs.YtfgnaneajonapaaW.PrintMore
attribute [local go_sem] max2_int min2_int max_two min_two max_three min_three max_four min_four
set_option linter.unusedVariables false
set_option linter.unusedSimpArgs false

/-! ### laws_FnExactEnoughLeft: function 10 -/
def laws_FnExactEnoughLeft.f (k : Nat) (a0_0 : Bool) (l0_1 : List (S199)) (a0_2 : Int) (a0_3 : Int) (l0_4 : List (S201)) (l0_5 : List (S161)) (a0_6 : Int) (l0_7 : List (S94)) (l0_8 : List Int) (l0_9 : List ByteArray) (l0_10 : List (S179)) : Option (Bool) := (laws_szWorld.f k a0_0 l0_1 a0_2 a0_3 l0_4 l0_5 a0_6 l0_7 l0_8 l0_9 l0_10 1048576).bind fun t1118 => (if t1118 < 0 then (some true) else ((laws_toWorld.f k a0_0 l0_1 a0_2 a0_3 l0_4 l0_5 a0_6 l0_7 l0_8 l0_9 l0_10).bind fun bt1119 => ((spec_EnoughLeft.f k bt1119.1 bt1119.2.1 bt1119.2.2.1 bt1119.2.2.2.1 bt1119.2.2.2.2.1 bt1119.2.2.2.2.2.1 bt1119.2.2.2.2.2.2.1 bt1119.2.2.2.2.2.2.2.1 bt1119.2.2.2.2.2.2.2.2.1 bt1119.2.2.2.2.2.2.2.2.2.1 bt1119.2.2.2.2.2.2.2.2.2.2).bind fun t1144 => ((laws_toWorld.f k a0_0 l0_1 a0_2 a0_3 l0_4 l0_5 a0_6 l0_7 l0_8 l0_9 l0_10).bind fun bt1145 => ((impl_EnoughLeft.f k bt1145.1 bt1145.2.1 bt1145.2.2.1 bt1145.2.2.2.1 bt1145.2.2.2.2.1 bt1145.2.2.2.2.2.1 bt1145.2.2.2.2.2.2.1 bt1145.2.2.2.2.2.2.2.1 bt1145.2.2.2.2.2.2.2.2.1 bt1145.2.2.2.2.2.2.2.2.2.1 bt1145.2.2.2.2.2.2.2.2.2.2).bind fun t1171 => (if (t1171 != t1144) = true then (some false) else ((laws_toWorld.f k a0_0 l0_1 a0_2 a0_3 l0_4 l0_5 a0_6 l0_7 l0_8 l0_9 l0_10).bind fun bt1172 => ((laws_eqWorld.f k bt1145.1 bt1145.2.1 bt1145.2.2.1 bt1145.2.2.2.1 bt1145.2.2.2.2.1 bt1145.2.2.2.2.2.1 bt1145.2.2.2.2.2.2.1 bt1145.2.2.2.2.2.2.2.1 bt1145.2.2.2.2.2.2.2.2.1 bt1145.2.2.2.2.2.2.2.2.2.1 bt1145.2.2.2.2.2.2.2.2.2.2 bt1172.1 bt1172.2.1 bt1172.2.2.1 bt1172.2.2.2.1 bt1172.2.2.2.2.1 bt1172.2.2.2.2.2.1 bt1172.2.2.2.2.2.2.1 bt1172.2.2.2.2.2.2.2.1 bt1172.2.2.2.2.2.2.2.2.1 bt1172.2.2.2.2.2.2.2.2.2.1 bt1172.2.2.2.2.2.2.2.2.2.2).bind fun t1197 => (if t1197 = true then (some true) else (some false))))))))))
set_option maxHeartbeats 8000000 in
set_option maxRecDepth 100000 in
theorem laws_FnExactEnoughLeft.calls (k : Nat) (a0_0 : Bool) (A0_1 : Option Addr) (c0_1 : Nat) (l0_1 : List (S199)) (a0_2 : Int) (a0_3 : Int) (A0_4 : Option Addr) (c0_4 : Nat) (l0_4 : List (S201)) (A0_5 : Option Addr) (c0_5 : Nat) (l0_5 : List (S161)) (a0_6 : Int) (A0_7 : Option Addr) (c0_7 : Nat) (l0_7 : List (S94)) (A0_8 : Option Addr) (c0_8 : Nat) (l0_8 : List Int) (A0_9 : Option Addr) (c0_9 : Nat) (l0_9 : List ByteArray) (A0_10 : Option Addr) (c0_10 : Nat) (l0_10 : List (S179)) (r : Bool) (w : World) (hr0_1 : Kd.C k199 w A0_1 l0_1.length l0_1) (hc0_1 : l0_1.length ≤ c0_1) (hr0_4 : Kd.C k201 w A0_4 l0_4.length l0_4) (hc0_4 : l0_4.length ≤ c0_4) (hr0_5 : Kd.C k161 w A0_5 l0_5.length l0_5) (hc0_5 : l0_5.length ≤ c0_5) (hr0_7 : Kd.C k94 w A0_7 l0_7.length l0_7) (hc0_7 : l0_7.length ≤ c0_7) (hr0_8 : Kd.C (Kd.int .i64) w A0_8 l0_8.length l0_8) (hc0_8 : l0_8.length ≤ c0_8) (hr0_9 : Kd.C Kd.string w A0_9 l0_9.length l0_9) (hc0_9 : l0_9.length ≤ c0_9) (hr0_10 : Kd.C k179 w A0_10 l0_10.length l0_10) (hc0_10 : l0_10.length ≤ c0_10) (h : laws_FnExactEnoughLeft.f k a0_0 l0_1 a0_2 a0_3 l0_4 l0_5 a0_6 l0_7 l0_8 l0_9 l0_10 = some r) (hr_ : Aside0 (r = true) := by exact ⟨rfl⟩) :
    Calls Try.prog 10 #[.agg #[.bool a0_0, .slice A0_1 l0_1.length c0_1, .int .i64 a0_2, .int .i64 a0_3, .slice A0_4 l0_4.length c0_4, .slice A0_5 l0_5.length c0_5, .int .i64 a0_6, .slice A0_7 l0_7.length c0_7, .slice A0_8 l0_8.length c0_8, .slice A0_9 l0_9.length c0_9, .slice A0_10 l0_10.length c0_10]] w fun e w' => e = .returned (.bool r) ∧ Below w.heap.size w w' := by
  have hu86 := Try.underlying86
  have hu77 := Try.underlying77
  have HR0_1 := Aside0.mk hr0_1
  have HC0_1 := Aside0.mk hc0_1
  clear hr0_1 hc0_1
  have HR0_4 := Aside0.mk hr0_4
  have HC0_4 := Aside0.mk hc0_4
  clear hr0_4 hc0_4
  have HR0_5 := Aside0.mk hr0_5
  have HC0_5 := Aside0.mk hc0_5
  clear hr0_5 hc0_5
  have HR0_7 := Aside0.mk hr0_7
  have HC0_7 := Aside0.mk hc0_7
  clear hr0_7 hc0_7
  have HR0_8 := Aside0.mk hr0_8
  have HC0_8 := Aside0.mk hc0_8
  clear hr0_8 hc0_8
  have HR0_9 := Aside0.mk hr0_9
  have HC0_9 := Aside0.mk hc0_9
  clear hr0_9 hc0_9
  have HR0_10 := Aside0.mk hr0_10
  have HC0_10 := Aside0.mk hc0_10
  clear hr0_10 hc0_10
  have HB := Aside0.mk (Below.refl w.heap.size w)
  have H : ((laws_szWorld.f k a0_0 l0_1 a0_2 a0_3 l0_4 l0_5 a0_6 l0_7 l0_8 l0_9 l0_10 1048576).bind fun t1118 => (if t1118 < 0 then (some true) else ((laws_toWorld.f k a0_0 l0_1 a0_2 a0_3 l0_4 l0_5 a0_6 l0_7 l0_8 l0_9 l0_10).bind fun bt1119 => ((spec_EnoughLeft.f k bt1119.1 bt1119.2.1 bt1119.2.2.1 bt1119.2.2.2.1 bt1119.2.2.2.2.1 bt1119.2.2.2.2.2.1 bt1119.2.2.2.2.2.2.1 bt1119.2.2.2.2.2.2.2.1 bt1119.2.2.2.2.2.2.2.2.1 bt1119.2.2.2.2.2.2.2.2.2.1 bt1119.2.2.2.2.2.2.2.2.2.2).bind fun t1144 => ((laws_toWorld.f k a0_0 l0_1 a0_2 a0_3 l0_4 l0_5 a0_6 l0_7 l0_8 l0_9 l0_10).bind fun bt1145 => ((impl_EnoughLeft.f k bt1145.1 bt1145.2.1 bt1145.2.2.1 bt1145.2.2.2.1 bt1145.2.2.2.2.1 bt1145.2.2.2.2.2.1 bt1145.2.2.2.2.2.2.1 bt1145.2.2.2.2.2.2.2.1 bt1145.2.2.2.2.2.2.2.2.1 bt1145.2.2.2.2.2.2.2.2.2.1 bt1145.2.2.2.2.2.2.2.2.2.2).bind fun t1171 => (if (t1171 != t1144) = true then (some false) else ((laws_toWorld.f k a0_0 l0_1 a0_2 a0_3 l0_4 l0_5 a0_6 l0_7 l0_8 l0_9 l0_10).bind fun bt1172 => ((laws_eqWorld.f k bt1145.1 bt1145.2.1 bt1145.2.2.1 bt1145.2.2.2.1 bt1145.2.2.2.2.1 bt1145.2.2.2.2.2.1 bt1145.2.2.2.2.2.2.1 bt1145.2.2.2.2.2.2.2.1 bt1145.2.2.2.2.2.2.2.2.1 bt1145.2.2.2.2.2.2.2.2.2.1 bt1145.2.2.2.2.2.2.2.2.2.2 bt1172.1 bt1172.2.1 bt1172.2.2.1 bt1172.2.2.2.1 bt1172.2.2.2.2.1 bt1172.2.2.2.2.2.1 bt1172.2.2.2.2.2.2.1 bt1172.2.2.2.2.2.2.2.1 bt1172.2.2.2.2.2.2.2.2.1 bt1172.2.2.2.2.2.2.2.2.2.1 bt1172.2.2.2.2.2.2.2.2.2.2).bind fun t1197 => (if t1197 = true then (some true) else (some false))))))))))) = some r := h
  clear h
  replace H := Option.bind_eq_some_iff.mp H
  obtain ⟨t1118, A20, H⟩ := H
  replace H : (if t1118 < 0 then (some true) else ((laws_toWorld.f k a0_0 l0_1 a0_2 a0_3 l0_4 l0_5 a0_6 l0_7 l0_8 l0_9 l0_10).bind fun bt1119 => ((spec_EnoughLeft.f k bt1119.1 bt1119.2.1 bt1119.2.2.1 bt1119.2.2.2.1 bt1119.2.2.2.2.1 bt1119.2.2.2.2.2.1 bt1119.2.2.2.2.2.2.1 bt1119.2.2.2.2.2.2.2.1 bt1119.2.2.2.2.2.2.2.2.1 bt1119.2.2.2.2.2.2.2.2.2.1 bt1119.2.2.2.2.2.2.2.2.2.2).bind fun t1144 => ((laws_toWorld.f k a0_0 l0_1 a0_2 a0_3 l0_4 l0_5 a0_6 l0_7 l0_8 l0_9 l0_10).bind fun bt1145 => ((impl_EnoughLeft.f k bt1145.1 bt1145.2.1 bt1145.2.2.1 bt1145.2.2.2.1 bt1145.2.2.2.2.1 bt1145.2.2.2.2.2.1 bt1145.2.2.2.2.2.2.1 bt1145.2.2.2.2.2.2.2.1 bt1145.2.2.2.2.2.2.2.2.1 bt1145.2.2.2.2.2.2.2.2.2.1 bt1145.2.2.2.2.2.2.2.2.2.2).bind fun t1171 => (if (t1171 != t1144) = true then (some false) else ((laws_toWorld.f k a0_0 l0_1 a0_2 a0_3 l0_4 l0_5 a0_6 l0_7 l0_8 l0_9 l0_10).bind fun bt1172 => ((laws_eqWorld.f k bt1145.1 bt1145.2.1 bt1145.2.2.1 bt1145.2.2.2.1 bt1145.2.2.2.2.1 bt1145.2.2.2.2.2.1 bt1145.2.2.2.2.2.2.1 bt1145.2.2.2.2.2.2.2.1 bt1145.2.2.2.2.2.2.2.2.1 bt1145.2.2.2.2.2.2.2.2.2.1 bt1145.2.2.2.2.2.2.2.2.2.2 bt1172.1 bt1172.2.1 bt1172.2.2.1 bt1172.2.2.2.1 bt1172.2.2.2.2.1 bt1172.2.2.2.2.2.1 bt1172.2.2.2.2.2.2.1 bt1172.2.2.2.2.2.2.2.1 bt1172.2.2.2.2.2.2.2.2.1 bt1172.2.2.2.2.2.2.2.2.2.1 bt1172.2.2.2.2.2.2.2.2.2.2).bind fun t1197 => (if t1197 = true then (some true) else (some false)))))))))) = some r := H
  have A2 := Aside0.mk A20
  clear A20
  by_cases c3 : t1118 < 0
  · rw [if_pos c3] at H
    have c3b0 : decide (t1118 < 0) = true := decide_eq_true c3
    clear c3
    obtain rfl := Option.some.inj H
    go_enter Try.func10, Try.ntmps10
    go_wp2_with (first | ((with_reducible refine gate_dst (N := 1) rfl ?_); refine BX 1 #[.bool a0_0, .slice A0_1 l0_1.length c0_1, .int .i64 a0_2, .int .i64 a0_3, .slice A0_4 l0_4.length c0_4, .slice A0_5 l0_5.length c0_5, .int .i64 a0_6, .slice A0_7 l0_7.length c0_7, .slice A0_8 l0_8.length c0_8, .slice A0_9 l0_9.length c0_9, .slice A0_10 l0_10.length c0_10] 86 ?_; intro gb1117 hg w4 hbox hb; have BK1117 := Aside0.mk (hbox); have GW1117 : Aside0 (w.heap.size ≤ gb1117) := WG hg (BB HB.out); have GE1117 := GW1117; replace HB := Aside0.mk (below_step (BB HB.out) hb); clear hb hbox hg; have hcz5 := blk_cell BK1117.out; have hfz5 := blk_frozen BK1117.out) | ((with_reducible refine gate_callee (f := 48) rfl ?_); refine GL (some 9) rfl rfl Try.func48 #[.agg #[.bool a0_0, .slice A0_1 l0_1.length c0_1, .int .i64 a0_2, .int .i64 a0_3, .slice A0_4 l0_4.length c0_4, .slice A0_5 l0_5.length c0_5, .int .i64 a0_6, .slice A0_7 l0_7.length c0_7, .slice A0_8 l0_8.length c0_8, .slice A0_9 l0_9.length c0_9, .slice A0_10 l0_10.length c0_10], .int .i64 1048576] rfl ?_; (with_reducible refine (laws_szWorld.calls k a0_0 _ _ l0_1 a0_2 a0_3 _ _ l0_4 _ _ l0_5 a0_6 _ _ l0_7 _ _ l0_8 _ _ l0_9 _ _ l0_10 1048576 t1118 _ ?side1 ?side2 ?side3 ?side4 ?side5 ?side6 ?side7 ?side8 ?side9 ?side10 ?side11 ?side12 ?side13 ?side14 A2.out).mono ?_); (case side1 => exact CC (Kd.C_below HR0_1.out HB.out)); (case side2 => exact HC0_1.out); (case side3 => exact CC (Kd.C_below HR0_4.out HB.out)); (case side4 => exact HC0_4.out); (case side5 => exact CC (Kd.C_below HR0_5.out HB.out)); (case side6 => exact HC0_5.out); (case side7 => exact CC (Kd.C_below HR0_7.out HB.out)); (case side8 => exact HC0_7.out); (case side9 => exact CC (Kd.C_below HR0_8.out HB.out)); (case side10 => exact HC0_8.out); (case side11 => exact CC (Kd.C_below HR0_9.out HB.out)); (case side12 => exact HC0_9.out); (case side13 => exact CC (Kd.C_below HR0_10.out HB.out)); (case side14 => exact HC0_10.out); rintro e w6 ⟨rfl, hb⟩; refine ⟨_, rfl, ?_⟩; replace BK1117 := Aside0.mk (KB BK1117.out hb); replace HB := Aside0.mk (below_step (BB1 HB.out GE1117.out) hb); (try clear hb)))
    go_ret
    exact ⟨ER, (BB1 HB.out GE1117.out)⟩
  · rw [if_neg c3] at H
    have c3b0 : decide (t1118 < 0) = false := decide_eq_false c3
    clear c3
    replace H := Option.bind_eq_some_iff.mp H
    obtain ⟨⟨t1119, t1120, t1123, t1124, t1125, t1128, t1131, t1132, t1135, t1138, t1141⟩, A70, H⟩ := H
    replace H : ((spec_EnoughLeft.f k t1119 t1120 t1123 t1124 t1125 t1128 t1131 t1132 t1135 t1138 t1141).bind fun t1144 => ((laws_toWorld.f k a0_0 l0_1 a0_2 a0_3 l0_4 l0_5 a0_6 l0_7 l0_8 l0_9 l0_10).bind fun bt1145 => ((impl_EnoughLeft.f k bt1145.1 bt1145.2.1 bt1145.2.2.1 bt1145.2.2.2.1 bt1145.2.2.2.2.1 bt1145.2.2.2.2.2.1 bt1145.2.2.2.2.2.2.1 bt1145.2.2.2.2.2.2.2.1 bt1145.2.2.2.2.2.2.2.2.1 bt1145.2.2.2.2.2.2.2.2.2.1 bt1145.2.2.2.2.2.2.2.2.2.2).bind fun t1171 => (if (t1171 != t1144) = true then (some false) else ((laws_toWorld.f k a0_0 l0_1 a0_2 a0_3 l0_4 l0_5 a0_6 l0_7 l0_8 l0_9 l0_10).bind fun bt1172 => ((laws_eqWorld.f k bt1145.1 bt1145.2.1 bt1145.2.2.1 bt1145.2.2.2.1 bt1145.2.2.2.2.1 bt1145.2.2.2.2.2.1 bt1145.2.2.2.2.2.2.1 bt1145.2.2.2.2.2.2.2.1 bt1145.2.2.2.2.2.2.2.2.1 bt1145.2.2.2.2.2.2.2.2.2.1 bt1145.2.2.2.2.2.2.2.2.2.2 bt1172.1 bt1172.2.1 bt1172.2.2.1 bt1172.2.2.2.1 bt1172.2.2.2.2.1 bt1172.2.2.2.2.2.1 bt1172.2.2.2.2.2.2.1 bt1172.2.2.2.2.2.2.2.1 bt1172.2.2.2.2.2.2.2.2.1 bt1172.2.2.2.2.2.2.2.2.2.1 bt1172.2.2.2.2.2.2.2.2.2.2).bind fun t1197 => (if t1197 = true then (some true) else (some false)))))))) = some r := H
    have A7 := Aside0.mk A70
    clear A70
    replace H := Option.bind_eq_some_iff.mp H
    obtain ⟨t1144, A80, H⟩ := H
    replace H : ((laws_toWorld.f k a0_0 l0_1 a0_2 a0_3 l0_4 l0_5 a0_6 l0_7 l0_8 l0_9 l0_10).bind fun bt1145 => ((impl_EnoughLeft.f k bt1145.1 bt1145.2.1 bt1145.2.2.1 bt1145.2.2.2.1 bt1145.2.2.2.2.1 bt1145.2.2.2.2.2.1 bt1145.2.2.2.2.2.2.1 bt1145.2.2.2.2.2.2.2.1 bt1145.2.2.2.2.2.2.2.2.1 bt1145.2.2.2.2.2.2.2.2.2.1 bt1145.2.2.2.2.2.2.2.2.2.2).bind fun t1171 => (if (t1171 != t1144) = true then (some false) else ((laws_toWorld.f k a0_0 l0_1 a0_2 a0_3 l0_4 l0_5 a0_6 l0_7 l0_8 l0_9 l0_10).bind fun bt1172 => ((laws_eqWorld.f k bt1145.1 bt1145.2.1 bt1145.2.2.1 bt1145.2.2.2.1 bt1145.2.2.2.2.1 bt1145.2.2.2.2.2.1 bt1145.2.2.2.2.2.2.1 bt1145.2.2.2.2.2.2.2.1 bt1145.2.2.2.2.2.2.2.2.1 bt1145.2.2.2.2.2.2.2.2.2.1 bt1145.2.2.2.2.2.2.2.2.2.2 bt1172.1 bt1172.2.1 bt1172.2.2.1 bt1172.2.2.2.1 bt1172.2.2.2.2.1 bt1172.2.2.2.2.2.1 bt1172.2.2.2.2.2.2.1 bt1172.2.2.2.2.2.2.2.1 bt1172.2.2.2.2.2.2.2.2.1 bt1172.2.2.2.2.2.2.2.2.2.1 bt1172.2.2.2.2.2.2.2.2.2.2).bind fun t1197 => (if t1197 = true then (some true) else (some false))))))) = some r := H
    have A8 := Aside0.mk A80
    clear A80
    replace H := Option.bind_eq_some_iff.mp H
    obtain ⟨⟨t1145, t1146, t1149, t1150, t1151, t1154, t1157, t1158, t1161, t1164, t1167⟩, A90, H⟩ := H
    replace H : ((impl_EnoughLeft.f k t1145 t1146 t1149 t1150 t1151 t1154 t1157 t1158 t1161 t1164 t1167).bind fun t1171 => (if (t1171 != t1144) = true then (some false) else ((laws_toWorld.f k a0_0 l0_1 a0_2 a0_3 l0_4 l0_5 a0_6 l0_7 l0_8 l0_9 l0_10).bind fun bt1172 => ((laws_eqWorld.f k t1145 t1146 t1149 t1150 t1151 t1154 t1157 t1158 t1161 t1164 t1167 bt1172.1 bt1172.2.1 bt1172.2.2.1 bt1172.2.2.2.1 bt1172.2.2.2.2.1 bt1172.2.2.2.2.2.1 bt1172.2.2.2.2.2.2.1 bt1172.2.2.2.2.2.2.2.1 bt1172.2.2.2.2.2.2.2.2.1 bt1172.2.2.2.2.2.2.2.2.2.1 bt1172.2.2.2.2.2.2.2.2.2.2).bind fun t1197 => (if t1197 = true then (some true) else (some false)))))) = some r := H
    have A9 := Aside0.mk A90
    clear A90
    replace H := Option.bind_eq_some_iff.mp H
    obtain ⟨t1171, A100, H⟩ := H
    replace H : (if (t1171 != t1144) = true then (some false) else ((laws_toWorld.f k a0_0 l0_1 a0_2 a0_3 l0_4 l0_5 a0_6 l0_7 l0_8 l0_9 l0_10).bind fun bt1172 => ((laws_eqWorld.f k t1145 t1146 t1149 t1150 t1151 t1154 t1157 t1158 t1161 t1164 t1167 bt1172.1 bt1172.2.1 bt1172.2.2.1 bt1172.2.2.2.1 bt1172.2.2.2.2.1 bt1172.2.2.2.2.2.1 bt1172.2.2.2.2.2.2.1 bt1172.2.2.2.2.2.2.2.1 bt1172.2.2.2.2.2.2.2.2.1 bt1172.2.2.2.2.2.2.2.2.2.1 bt1172.2.2.2.2.2.2.2.2.2.2).bind fun t1197 => (if t1197 = true then (some true) else (some false))))) = some r := H
    have A10 := Aside0.mk A100
    clear A100
    by_cases c11 : (t1171 != t1144) = true
    · rw [if_pos c11] at H
      have c11b0 : (t1171 != t1144) = true := c11
      (try (have c11b1 : decide (t1171 = t1144) = false := by simpa using c11))
      (try (have c11b2 : (t1171 == t1144) = false := by simpa using c11))
      (try (have c11b3 : ¬ (t1171 = t1144) := by simpa using c11))
      clear c11
      exact absurd ((Option.some.inj H).trans hr_.out) (by decide)
    · rw [if_neg c11] at H
      have c11b0 : (t1171 != t1144) = false := by simpa using c11
      (try (have c11b1 : decide (t1171 = t1144) = true := by simpa using c11))
      (try (have c11b2 : (t1171 == t1144) = true := by simpa using c11))
      clear c11
      replace H := Option.bind_eq_some_iff.mp H
      obtain ⟨⟨t1172, t1173, t1176, t1177, t1178, t1181, t1184, t1185, t1188, t1191, t1194⟩, A120, H⟩ := H
      replace H : ((laws_eqWorld.f k t1145 t1146 t1149 t1150 t1151 t1154 t1157 t1158 t1161 t1164 t1167 t1172 t1173 t1176 t1177 t1178 t1181 t1184 t1185 t1188 t1191 t1194).bind fun t1197 => (if t1197 = true then (some true) else (some false))) = some r := H
      have A12 := Aside0.mk A120
      clear A120
      replace H := Option.bind_eq_some_iff.mp H
      obtain ⟨t1197, A130, H⟩ := H
      replace H : (if t1197 = true then (some true) else (some false)) = some r := H
      have A13 := Aside0.mk A130
      clear A130
      by_cases c14 : t1197 = true
      · subst c14
        have H1 : (some true) = some r := by rw [if_pos rfl] at H; exact H
        clear H
        have H := H1
        clear H1
        obtain rfl := Option.some.inj H
        go_enter Try.func10, Try.ntmps10
        try go_wp2_with (first | ((with_reducible refine gate_dst (N := 1) rfl ?_); refine BX 1 #[.bool a0_0, .slice A0_1 l0_1.length c0_1, .int .i64 a0_2, .int .i64 a0_3, .slice A0_4 l0_4.length c0_4, .slice A0_5 l0_5.length c0_5, .int .i64 a0_6, .slice A0_7 l0_7.length c0_7, .slice A0_8 l0_8.length c0_8, .slice A0_9 l0_9.length c0_9, .slice A0_10 l0_10.length c0_10] 86 ?_; intro gb1117 hg w15 hbox hb; have BK1117 := Aside0.mk (hbox); have GW1117 : Aside0 (w.heap.size ≤ gb1117) := WG hg (BB HB.out); have GE1117 := GW1117; replace HB := Aside0.mk (below_step (BB HB.out) hb); clear hb hbox hg; have hcz16 := blk_cell BK1117.out; have hfz16 := blk_frozen BK1117.out) | ((with_reducible refine gate_callee (f := 48) rfl ?_); refine GL (some 9) rfl rfl Try.func48 #[.agg #[.bool a0_0, .slice A0_1 l0_1.length c0_1, .int .i64 a0_2, .int .i64 a0_3, .slice A0_4 l0_4.length c0_4, .slice A0_5 l0_5.length c0_5, .int .i64 a0_6, .slice A0_7 l0_7.length c0_7, .slice A0_8 l0_8.length c0_8, .slice A0_9 l0_9.length c0_9, .slice A0_10 l0_10.length c0_10], .int .i64 1048576] rfl ?_; (with_reducible refine (laws_szWorld.calls k a0_0 _ _ l0_1 a0_2 a0_3 _ _ l0_4 _ _ l0_5 a0_6 _ _ l0_7 _ _ l0_8 _ _ l0_9 _ _ l0_10 1048576 t1118 _ ?side1 ?side2 ?side3 ?side4 ?side5 ?side6 ?side7 ?side8 ?side9 ?side10 ?side11 ?side12 ?side13 ?side14 A2.out).mono ?_); (case side1 => exact CC (Kd.C_below HR0_1.out HB.out)); (case side2 => exact HC0_1.out); (case side3 => exact CC (Kd.C_below HR0_4.out HB.out)); (case side4 => exact HC0_4.out); (case side5 => exact CC (Kd.C_below HR0_5.out HB.out)); (case side6 => exact HC0_5.out); (case side7 => exact CC (Kd.C_below HR0_7.out HB.out)); (case side8 => exact HC0_7.out); (case side9 => exact CC (Kd.C_below HR0_8.out HB.out)); (case side10 => exact HC0_8.out); (case side11 => exact CC (Kd.C_below HR0_9.out HB.out)); (case side12 => exact HC0_9.out); (case side13 => exact CC (Kd.C_below HR0_10.out HB.out)); (case side14 => exact HC0_10.out); rintro e w17 ⟨rfl, hb⟩; refine ⟨_, rfl, ?_⟩; replace BK1117 := Aside0.mk (KB BK1117.out hb); replace HB := Aside0.mk (below_step (BB1 HB.out GE1117.out) hb); (try clear hb); have hcz18 := blk_cell BK1117.out; have hfz18 := blk_frozen BK1117.out) | ((with_reducible refine gate_callee (f := 50) rfl ?_); refine GL (some 13) rfl rfl Try.func50 #[.agg #[.bool a0_0, .slice A0_1 l0_1.length c0_1, .int .i64 a0_2, .int .i64 a0_3, .slice A0_4 l0_4.length c0_4, .slice A0_5 l0_5.length c0_5, .int .i64 a0_6, .slice A0_7 l0_7.length c0_7, .slice A0_8 l0_8.length c0_8, .slice A0_9 l0_9.length c0_9, .slice A0_10 l0_10.length c0_10]] rfl ?_; (with_reducible refine (laws_toWorld.calls k a0_0 _ _ l0_1 a0_2 a0_3 _ _ l0_4 _ _ l0_5 a0_6 _ _ l0_7 _ _ l0_8 _ _ l0_9 _ _ l0_10 t1119 t1120 t1123 t1124 t1125 t1128 t1131 t1132 t1135 t1138 t1141 _ ?side1 ?side2 ?side3 ?side4 ?side5 ?side6 ?side7 ?side8 ?side9 ?side10 ?side11 ?side12 ?side13 ?side14 A7.out).mono ?_); (case side1 => exact CC (Kd.C_below HR0_1.out HB.out)); (case side2 => exact HC0_1.out); (case side3 => exact CC (Kd.C_below HR0_4.out HB.out)); (case side4 => exact HC0_4.out); (case side5 => exact CC (Kd.C_below HR0_5.out HB.out)); (case side6 => exact HC0_5.out); (case side7 => exact CC (Kd.C_below HR0_7.out HB.out)); (case side8 => exact HC0_7.out); (case side9 => exact CC (Kd.C_below HR0_8.out HB.out)); (case side10 => exact HC0_8.out); (case side11 => exact CC (Kd.C_below HR0_9.out HB.out)); (case side12 => exact HC0_9.out); (case side13 => exact CC (Kd.C_below HR0_10.out HB.out)); (case side14 => exact HC0_10.out); rintro e w19 ⟨v1121, v1126, v1129, v1133, v1136, v1139, v1142, rfl, ho0, ho1, ho2, ho3, ho4, ho5, ho6, hb⟩; refine ⟨_, rfl, ?_⟩; have HO1122 := Aside0.mk (Kd.S_lower ho0 (below_size (BB1 HB.out GE1117.out))); have HO1127 := Aside0.mk (Kd.R_lower ho1 (below_size (BB1 HB.out GE1117.out))); have HO1130 := Aside0.mk (Kd.R_lower ho2 (below_size (BB1 HB.out GE1117.out))); have HO1134 := Aside0.mk (Kd.S_lower ho3 (below_size (BB1 HB.out GE1117.out))); have HO1137 := Aside0.mk (Kd.R_lower ho4 (below_size (BB1 HB.out GE1117.out))); have HO1140 := Aside0.mk (Kd.R_lower ho5 (below_size (BB1 HB.out GE1117.out))); have HO1143 := Aside0.mk (Kd.R_lower ho6 (below_size (BB1 HB.out GE1117.out))); replace BK1117 := Aside0.mk (KB BK1117.out hb); replace HB := Aside0.mk (below_step (BB1 HB.out GE1117.out) hb); (try clear hb); (try clear ho0); (try clear ho1); (try clear ho2); (try clear ho3); (try clear ho4); (try clear ho5); (try clear ho6); obtain ⟨Ao20, co20, eo20⟩ := Kd.S_slice HO1122.out; subst eo20; obtain ⟨Ao21, co21, eo21⟩ := Kd.R_slice HO1127.out; subst eo21; obtain ⟨Ao22, co22, eo22⟩ := Kd.R_slice HO1130.out; subst eo22; obtain ⟨Ao23, co23, eo23⟩ := Kd.S_slice HO1134.out; subst eo23; obtain ⟨Ao24, co24, eo24⟩ := Kd.R_slice HO1137.out; subst eo24; obtain ⟨Ao25, co25, eo25⟩ := Kd.R_slice HO1140.out; subst eo25; obtain ⟨Ao26, co26, eo26⟩ := Kd.R_slice HO1143.out; subst eo26) | ((with_reducible refine gate_callee (f := 49) rfl ?_); refine GL (some 14) rfl rfl Try.func49 #[.agg #[.bool t1119, .slice Ao20 t1120.length co20, .int .i64 t1123, .int .i64 t1124, .slice Ao21 t1125.length co21, .slice Ao22 t1128.length co22, .int .i64 t1131, .slice Ao23 t1132.length co23, .slice Ao24 t1135.length co24, .slice Ao25 t1138.length co25, .slice Ao26 t1141.length co26]] rfl ?_; (with_reducible refine (spec_EnoughLeft.calls k t1119 _ _ t1120 t1123 t1124 _ _ t1125 _ _ t1128 t1131 _ _ t1132 _ _ t1135 _ _ t1138 _ _ t1141 t1144 _ ?side1 ?side2 ?side3 ?side4 ?side5 ?side6 ?side7 ?side8 ?side9 ?side10 ?side11 ?side12 ?side13 ?side14 A8.out).mono ?_); (case side1 => exact CC (Kd.S_reads' HO1122.out).2.2); (case side2 => exact (Kd.S_reads' HO1122.out).2.1); (case side3 => exact CC (Kd.R_reads' HO1127.out).2.2); (case side4 => exact (Kd.R_reads' HO1127.out).2.1); (case side5 => exact CC (Kd.R_reads' HO1130.out).2.2); (case side6 => exact (Kd.R_reads' HO1130.out).2.1); (case side7 => exact CC (Kd.S_reads' HO1134.out).2.2); (case side8 => exact (Kd.S_reads' HO1134.out).2.1); (case side9 => exact CC (Kd.R_reads' HO1137.out).2.2); (case side10 => exact (Kd.R_reads' HO1137.out).2.1); (case side11 => exact CC (Kd.R_reads' HO1140.out).2.2); (case side12 => exact (Kd.R_reads' HO1140.out).2.1); (case side13 => exact CC (Kd.R_reads' HO1143.out).2.2); (case side14 => exact (Kd.R_reads' HO1143.out).2.1); rintro e w27 ⟨rfl, hb⟩; refine ⟨_, rfl, ?_⟩; replace HO1122 := Aside0.mk (Kd.S_below (SS HO1122.out) hb); replace HO1127 := Aside0.mk (Kd.R_below (RR HO1127.out) hb); replace HO1130 := Aside0.mk (Kd.R_below (RR HO1130.out) hb); replace HO1134 := Aside0.mk (Kd.S_below (SS HO1134.out) hb); replace HO1137 := Aside0.mk (Kd.R_below (RR HO1137.out) hb); replace HO1140 := Aside0.mk (Kd.R_below (RR HO1140.out) hb); replace HO1143 := Aside0.mk (Kd.R_below (RR HO1143.out) hb); replace BK1117 := Aside0.mk (KB BK1117.out hb); replace HB := Aside0.mk (below_step (BB1 HB.out GE1117.out) hb); (try clear hb); have hcz28 := blk_cell BK1117.out; have hfz28 := blk_frozen BK1117.out) | ((with_reducible refine gate_callee (f := 50) rfl ?_); refine GL (some 16) rfl rfl Try.func50 #[.agg #[.bool a0_0, .slice A0_1 l0_1.length c0_1, .int .i64 a0_2, .int .i64 a0_3, .slice A0_4 l0_4.length c0_4, .slice A0_5 l0_5.length c0_5, .int .i64 a0_6, .slice A0_7 l0_7.length c0_7, .slice A0_8 l0_8.length c0_8, .slice A0_9 l0_9.length c0_9, .slice A0_10 l0_10.length c0_10]] rfl ?_; (with_reducible refine (laws_toWorld.calls k a0_0 _ _ l0_1 a0_2 a0_3 _ _ l0_4 _ _ l0_5 a0_6 _ _ l0_7 _ _ l0_8 _ _ l0_9 _ _ l0_10 t1145 t1146 t1149 t1150 t1151 t1154 t1157 t1158 t1161 t1164 t1167 _ ?side1 ?side2 ?side3 ?side4 ?side5 ?side6 ?side7 ?side8 ?side9 ?side10 ?side11 ?side12 ?side13 ?side14 A9.out).mono ?_); (case side1 => exact CC (Kd.C_below HR0_1.out HB.out)); (case side2 => exact HC0_1.out); (case side3 => exact CC (Kd.C_below HR0_4.out HB.out)); (case side4 => exact HC0_4.out); (case side5 => exact CC (Kd.C_below HR0_5.out HB.out)); (case side6 => exact HC0_5.out); (case side7 => exact CC (Kd.C_below HR0_7.out HB.out)); (case side8 => exact HC0_7.out); (case side9 => exact CC (Kd.C_below HR0_8.out HB.out)); (case side10 => exact HC0_8.out); (case side11 => exact CC (Kd.C_below HR0_9.out HB.out)); (case side12 => exact HC0_9.out); (case side13 => exact CC (Kd.C_below HR0_10.out HB.out)); (case side14 => exact HC0_10.out); rintro e w29 ⟨v1147, v1152, v1155, v1159, v1162, v1165, v1168, rfl, ho0, ho1, ho2, ho3, ho4, ho5, ho6, hb⟩; refine ⟨_, rfl, ?_⟩; have HO1148 := Aside0.mk (Kd.S_lower (Kd.S_new' ho0 (Kd.S_lt (SS HO1122.out))) (below_size (BB1 HB.out GE1117.out))); have HO1153 := Aside0.mk (Kd.R_lower (Kd.R_new' ho1 (Kd.R_lt (RR HO1127.out))) (below_size (BB1 HB.out GE1117.out))); have HO1156 := Aside0.mk (Kd.R_lower (Kd.R_new' ho2 (Kd.R_lt (RR HO1130.out))) (below_size (BB1 HB.out GE1117.out))); have HO1160 := Aside0.mk (Kd.S_lower (Kd.S_new' ho3 (Kd.S_lt (SS HO1134.out))) (below_size (BB1 HB.out GE1117.out))); have HO1163 := Aside0.mk (Kd.R_lower (Kd.R_new' ho4 (Kd.R_lt (RR HO1137.out))) (below_size (BB1 HB.out GE1117.out))); have HO1166 := Aside0.mk (Kd.R_lower (Kd.R_new' ho5 (Kd.R_lt (RR HO1140.out))) (below_size (BB1 HB.out GE1117.out))); have HO1169 := Aside0.mk (Kd.R_lower (Kd.R_new' ho6 (Kd.R_lt (RR HO1143.out))) (below_size (BB1 HB.out GE1117.out))); replace HO1122 := Aside0.mk (Kd.S_elder' (SS HO1122.out) (Kd.S_base ho0) hb); replace HO1127 := Aside0.mk (Kd.R_elder' (RR HO1127.out) (Kd.R_base ho1) hb); replace HO1130 := Aside0.mk (Kd.R_elder' (RR HO1130.out) (Kd.R_base ho2) hb); replace HO1134 := Aside0.mk (Kd.S_elder' (SS HO1134.out) (Kd.S_base ho3) hb); replace HO1137 := Aside0.mk (Kd.R_elder' (RR HO1137.out) (Kd.R_base ho4) hb); replace HO1140 := Aside0.mk (Kd.R_elder' (RR HO1140.out) (Kd.R_base ho5) hb); replace HO1143 := Aside0.mk (Kd.R_elder' (RR HO1143.out) (Kd.R_base ho6) hb); replace BK1117 := Aside0.mk (KB BK1117.out hb); replace HB := Aside0.mk (below_step (BB1 HB.out GE1117.out) hb); (try clear hb); (try clear ho0); (try clear ho1); (try clear ho2); (try clear ho3); (try clear ho4); (try clear ho5); (try clear ho6)) | ((with_reducible refine gate_dst (N := 5) rfl ?_); refine BX 5 #[.bool false, .slice none 0 0, .int .i64 0, .int .i64 0, .slice none 0 0, .slice none 0 0, .int .i64 0, .slice none 0 0, .slice none 0 0, .slice none 0 0, .slice none 0 0] 77 ?_; intro gb1170 hg w30 hbox hb; have BK1170 := Aside0.mk (hbox); have GW1170 : Aside0 (w.heap.size ≤ gb1170) := WG hg (BB1 HB.out GE1117.out); have GE1170 := GW1170; have NB1117_1170 := NL BK1117.out hg; have NB1170_1117 := NG BK1117.out hg; replace HO1122 := Aside0.mk (Kd.S_below (SS HO1122.out) hb); replace HO1127 := Aside0.mk (Kd.R_below (RR HO1127.out) hb); replace HO1130 := Aside0.mk (Kd.R_below (RR HO1130.out) hb); replace HO1134 := Aside0.mk (Kd.S_below (SS HO1134.out) hb); replace HO1137 := Aside0.mk (Kd.R_below (RR HO1137.out) hb); replace HO1140 := Aside0.mk (Kd.R_below (RR HO1140.out) hb); replace HO1143 := Aside0.mk (Kd.R_below (RR HO1143.out) hb); replace HO1148 := Aside0.mk (Kd.S_below (SS HO1148.out) hb); replace HO1153 := Aside0.mk (Kd.R_below (RR HO1153.out) hb); replace HO1156 := Aside0.mk (Kd.R_below (RR HO1156.out) hb); replace HO1160 := Aside0.mk (Kd.S_below (SS HO1160.out) hb); replace HO1163 := Aside0.mk (Kd.R_below (RR HO1163.out) hb); replace HO1166 := Aside0.mk (Kd.R_below (RR HO1166.out) hb); replace HO1169 := Aside0.mk (Kd.R_below (RR HO1169.out) hb); replace BK1117 := Aside0.mk (KB BK1117.out hb); replace HB := Aside0.mk (below_step (BB1 HB.out GE1117.out) hb); clear hb hbox hg; have hnb31 := NB1170_1117.out; have hnc31 := NB1117_1170.out; have hcz32 := blk_cell BK1170.out; have hfz32 := blk_frozen BK1170.out; obtain ⟨Ao33, co33, eo33⟩ := Kd.S_slice HO1148.out; subst eo33; obtain ⟨Ao34, co34, eo34⟩ := Kd.R_slice HO1153.out; subst eo34; obtain ⟨Ao35, co35, eo35⟩ := Kd.R_slice HO1156.out; subst eo35; obtain ⟨Ao36, co36, eo36⟩ := Kd.S_slice HO1160.out; subst eo36; obtain ⟨Ao37, co37, eo37⟩ := Kd.R_slice HO1163.out; subst eo37; obtain ⟨Ao38, co38, eo38⟩ := Kd.R_slice HO1166.out; subst eo38; obtain ⟨Ao39, co39, eo39⟩ := Kd.R_slice HO1169.out; subst eo39) | ((with_reducible refine gate_callee (f := 51) rfl ?_); refine GL (some 18) rfl rfl Try.func51 #[.agg #[.bool t1145, .slice Ao33 t1146.length co33, .int .i64 t1149, .int .i64 t1150, .slice Ao34 t1151.length co34, .slice Ao35 t1154.length co35, .int .i64 t1157, .slice Ao36 t1158.length co36, .slice Ao37 t1161.length co37, .slice Ao38 t1164.length co38, .slice Ao39 t1167.length co39]] rfl ?_; (with_reducible refine (impl_EnoughLeft.calls k t1145 _ _ t1146 t1149 t1150 _ _ t1151 _ _ t1154 t1157 _ _ t1158 _ _ t1161 _ _ t1164 _ _ t1167 t1171 _ ?side1 ?side2 ?side3 ?side4 ?side5 ?side6 ?side7 ?side8 ?side9 ?side10 ?side11 ?side12 ?side13 ?side14 A10.out).mono ?_); (case side1 => refine (Kd.S_reads' (e := 135) (base := w.heap.size) (ok := fun k_ => (True ∧ some k_ ≠ (.slice Ao20 t1120.length co20 : Value).ownBlock)) (n := t1146.length) (c := co33) ?_).2.2; exact (by (with_reducible repeat (first | apply Kd.S_alloc | apply Kd.S_drewN | apply Kd.S_drew)); exact (Kd.S_mono (Kd.S_far (p := ⟨gb1170, 10, none⟩) (Kd.S_far (p := ⟨gb1170, 9, none⟩) (Kd.S_far (p := ⟨gb1170, 8, none⟩) (Kd.S_far (p := ⟨gb1170, 7, none⟩) (Kd.S_far (p := ⟨gb1170, 6, none⟩) (Kd.S_far (p := ⟨gb1170, 5, none⟩) (Kd.S_far (p := ⟨gb1170, 4, none⟩) (Kd.S_far (p := ⟨gb1170, 3, none⟩) (Kd.S_far (p := ⟨gb1170, 2, none⟩) (Kd.S_far (p := ⟨gb1170, 1, none⟩) (Kd.S_far (p := ⟨gb1170, 0, none⟩) (Kd.S_types HO1148.out BK1170.out (by decide)) (fun _ hk => hk.2) (.bool t1145)) (fun _ hk => hk.2) (.slice Ao33 t1146.length co33)) (fun _ hk => hk.2) (.int .i64 t1149)) (fun _ hk => hk.2) (.int .i64 t1150)) (fun _ hk => hk.2) (.slice Ao34 t1151.length co34)) (fun _ hk => hk.2) (.slice Ao35 t1154.length co35)) (fun _ hk => hk.2) (.int .i64 t1157)) (fun _ hk => hk.2) (.slice Ao36 t1158.length co36)) (fun _ hk => hk.2) (.slice Ao37 t1161.length co37)) (fun _ hk => hk.2) (.slice Ao38 t1164.length co38)) (fun _ hk => hk.2) (.slice Ao39 t1167.length co39)) (fun _ h_ => h_.1)))); (case side2 => exact (Kd.S_reads' HO1148.out).2.1); (case side3 => refine (Kd.R_reads' (e := 192) (base := w.heap.size) (ok := fun k_ => (True ∧ some k_ ≠ (.slice Ao21 t1125.length co21 : Value).ownBlock)) (n := t1151.length) (c := co34) ?_).2.2; exact (by (with_reducible repeat (first | apply Kd.R_alloc | apply Kd.R_drewN | apply Kd.R_drew)); exact (Kd.R_mono (Kd.R_far (p := ⟨gb1170, 10, none⟩) (Kd.R_far (p := ⟨gb1170, 9, none⟩) (Kd.R_far (p := ⟨gb1170, 8, none⟩) (Kd.R_far (p := ⟨gb1170, 7, none⟩) (Kd.R_far (p := ⟨gb1170, 6, none⟩) (Kd.R_far (p := ⟨gb1170, 5, none⟩) (Kd.R_far (p := ⟨gb1170, 4, none⟩) (Kd.R_far (p := ⟨gb1170, 3, none⟩) (Kd.R_far (p := ⟨gb1170, 2, none⟩) (Kd.R_far (p := ⟨gb1170, 1, none⟩) (Kd.R_far (p := ⟨gb1170, 0, none⟩) (Kd.R_types HO1153.out BK1170.out (by decide)) (fun _ hk => hk.2) (.bool t1145)) (fun _ hk => hk.2) (.slice Ao33 t1146.length co33)) (fun _ hk => hk.2) (.int .i64 t1149)) (fun _ hk => hk.2) (.int .i64 t1150)) (fun _ hk => hk.2) (.slice Ao34 t1151.length co34)) (fun _ hk => hk.2) (.slice Ao35 t1154.length co35)) (fun _ hk => hk.2) (.int .i64 t1157)) (fun _ hk => hk.2) (.slice Ao36 t1158.length co36)) (fun _ hk => hk.2) (.slice Ao37 t1161.length co37)) (fun _ hk => hk.2) (.slice Ao38 t1164.length co38)) (fun _ hk => hk.2) (.slice Ao39 t1167.length co39)) (fun _ h_ => h_.1)))); (case side4 => exact (Kd.R_reads' HO1153.out).2.1); (case side5 => refine (Kd.R_reads' (e := 120) (base := w.heap.size) (ok := fun k_ => (True ∧ some k_ ≠ (.slice Ao22 t1128.length co22 : Value).ownBlock)) (n := t1154.length) (c := co35) ?_).2.2; exact (by (with_reducible repeat (first | apply Kd.R_alloc | apply Kd.R_drewN | apply Kd.R_drew)); exact (Kd.R_mono (Kd.R_far (p := ⟨gb1170, 10, none⟩) (Kd.R_far (p := ⟨gb1170, 9, none⟩) (Kd.R_far (p := ⟨gb1170, 8, none⟩) (Kd.R_far (p := ⟨gb1170, 7, none⟩) (Kd.R_far (p := ⟨gb1170, 6, none⟩) (Kd.R_far (p := ⟨gb1170, 5, none⟩) (Kd.R_far (p := ⟨gb1170, 4, none⟩) (Kd.R_far (p := ⟨gb1170, 3, none⟩) (Kd.R_far (p := ⟨gb1170, 2, none⟩) (Kd.R_far (p := ⟨gb1170, 1, none⟩) (Kd.R_far (p := ⟨gb1170, 0, none⟩) (Kd.R_types HO1156.out BK1170.out (by decide)) (fun _ hk => hk.2) (.bool t1145)) (fun _ hk => hk.2) (.slice Ao33 t1146.length co33)) (fun _ hk => hk.2) (.int .i64 t1149)) (fun _ hk => hk.2) (.int .i64 t1150)) (fun _ hk => hk.2) (.slice Ao34 t1151.length co34)) (fun _ hk => hk.2) (.slice Ao35 t1154.length co35)) (fun _ hk => hk.2) (.int .i64 t1157)) (fun _ hk => hk.2) (.slice Ao36 t1158.length co36)) (fun _ hk => hk.2) (.slice Ao37 t1161.length co37)) (fun _ hk => hk.2) (.slice Ao38 t1164.length co38)) (fun _ hk => hk.2) (.slice Ao39 t1167.length co39)) (fun _ h_ => h_.1)))); (case side6 => exact (Kd.R_reads' HO1156.out).2.1); (case side7 => refine (Kd.S_reads' (e := 97) (base := w.heap.size) (ok := fun k_ => (True ∧ some k_ ≠ (.slice Ao23 t1132.length co23 : Value).ownBlock)) (n := t1158.length) (c := co36) ?_).2.2; exact (by (with_reducible repeat (first | apply Kd.S_alloc | apply Kd.S_drewN | apply Kd.S_drew)); exact (Kd.S_mono (Kd.S_far (p := ⟨gb1170, 10, none⟩) (Kd.S_far (p := ⟨gb1170, 9, none⟩) (Kd.S_far (p := ⟨gb1170, 8, none⟩) (Kd.S_far (p := ⟨gb1170, 7, none⟩) (Kd.S_far (p := ⟨gb1170, 6, none⟩) (Kd.S_far (p := ⟨gb1170, 5, none⟩) (Kd.S_far (p := ⟨gb1170, 4, none⟩) (Kd.S_far (p := ⟨gb1170, 3, none⟩) (Kd.S_far (p := ⟨gb1170, 2, none⟩) (Kd.S_far (p := ⟨gb1170, 1, none⟩) (Kd.S_far (p := ⟨gb1170, 0, none⟩) (Kd.S_types HO1160.out BK1170.out (by decide)) (fun _ hk => hk.2) (.bool t1145)) (fun _ hk => hk.2) (.slice Ao33 t1146.length co33)) (fun _ hk => hk.2) (.int .i64 t1149)) (fun _ hk => hk.2) (.int .i64 t1150)) (fun _ hk => hk.2) (.slice Ao34 t1151.length co34)) (fun _ hk => hk.2) (.slice Ao35 t1154.length co35)) (fun _ hk => hk.2) (.int .i64 t1157)) (fun _ hk => hk.2) (.slice Ao36 t1158.length co36)) (fun _ hk => hk.2) (.slice Ao37 t1161.length co37)) (fun _ hk => hk.2) (.slice Ao38 t1164.length co38)) (fun _ hk => hk.2) (.slice Ao39 t1167.length co39)) (fun _ h_ => h_.1)))); (case side8 => exact (Kd.S_reads' HO1160.out).2.1); (case side9 => refine (Kd.R_reads' (e := 3) (base := w.heap.size) (ok := fun k_ => (True ∧ some k_ ≠ (.slice Ao24 t1135.length co24 : Value).ownBlock)) (n := t1161.length) (c := co37) ?_).2.2; exact (by (with_reducible repeat (first | apply Kd.R_alloc | apply Kd.R_drewN | apply Kd.R_drew)); exact (Kd.R_mono (Kd.R_far (p := ⟨gb1170, 10, none⟩) (Kd.R_far (p := ⟨gb1170, 9, none⟩) (Kd.R_far (p := ⟨gb1170, 8, none⟩) (Kd.R_far (p := ⟨gb1170, 7, none⟩) (Kd.R_far (p := ⟨gb1170, 6, none⟩) (Kd.R_far (p := ⟨gb1170, 5, none⟩) (Kd.R_far (p := ⟨gb1170, 4, none⟩) (Kd.R_far (p := ⟨gb1170, 3, none⟩) (Kd.R_far (p := ⟨gb1170, 2, none⟩) (Kd.R_far (p := ⟨gb1170, 1, none⟩) (Kd.R_far (p := ⟨gb1170, 0, none⟩) (Kd.R_types HO1163.out BK1170.out (by decide)) (fun _ hk => hk.2) (.bool t1145)) (fun _ hk => hk.2) (.slice Ao33 t1146.length co33)) (fun _ hk => hk.2) (.int .i64 t1149)) (fun _ hk => hk.2) (.int .i64 t1150)) (fun _ hk => hk.2) (.slice Ao34 t1151.length co34)) (fun _ hk => hk.2) (.slice Ao35 t1154.length co35)) (fun _ hk => hk.2) (.int .i64 t1157)) (fun _ hk => hk.2) (.slice Ao36 t1158.length co36)) (fun _ hk => hk.2) (.slice Ao37 t1161.length co37)) (fun _ hk => hk.2) (.slice Ao38 t1164.length co38)) (fun _ hk => hk.2) (.slice Ao39 t1167.length co39)) (fun _ h_ => h_.1)))); (case side10 => exact (Kd.R_reads' HO1163.out).2.1); (case side11 => refine (Kd.R_reads' (e := 9) (base := w.heap.size) (ok := fun k_ => (True ∧ some k_ ≠ (.slice Ao25 t1138.length co25 : Value).ownBlock)) (n := t1164.length) (c := co38) ?_).2.2; exact (by (with_reducible repeat (first | apply Kd.R_alloc | apply Kd.R_drewN | apply Kd.R_drew)); exact (Kd.R_mono (Kd.R_far (p := ⟨gb1170, 10, none⟩) (Kd.R_far (p := ⟨gb1170, 9, none⟩) (Kd.R_far (p := ⟨gb1170, 8, none⟩) (Kd.R_far (p := ⟨gb1170, 7, none⟩) (Kd.R_far (p := ⟨gb1170, 6, none⟩) (Kd.R_far (p := ⟨gb1170, 5, none⟩) (Kd.R_far (p := ⟨gb1170, 4, none⟩) (Kd.R_far (p := ⟨gb1170, 3, none⟩) (Kd.R_far (p := ⟨gb1170, 2, none⟩) (Kd.R_far (p := ⟨gb1170, 1, none⟩) (Kd.R_far (p := ⟨gb1170, 0, none⟩) (Kd.R_types HO1166.out BK1170.out (by decide)) (fun _ hk => hk.2) (.bool t1145)) (fun _ hk => hk.2) (.slice Ao33 t1146.length co33)) (fun _ hk => hk.2) (.int .i64 t1149)) (fun _ hk => hk.2) (.int .i64 t1150)) (fun _ hk => hk.2) (.slice Ao34 t1151.length co34)) (fun _ hk => hk.2) (.slice Ao35 t1154.length co35)) (fun _ hk => hk.2) (.int .i64 t1157)) (fun _ hk => hk.2) (.slice Ao36 t1158.length co36)) (fun _ hk => hk.2) (.slice Ao37 t1161.length co37)) (fun _ hk => hk.2) (.slice Ao38 t1164.length co38)) (fun _ hk => hk.2) (.slice Ao39 t1167.length co39)) (fun _ h_ => h_.1)))); (case side12 => exact (Kd.R_reads' HO1166.out).2.1); (case side13 => refine (Kd.R_reads' (e := 168) (base := w.heap.size) (ok := fun k_ => (True ∧ some k_ ≠ (.slice Ao26 t1141.length co26 : Value).ownBlock)) (n := t1167.length) (c := co39) ?_).2.2; exact (by (with_reducible repeat (first | apply Kd.R_alloc | apply Kd.R_drewN | apply Kd.R_drew)); exact (Kd.R_mono (Kd.R_far (p := ⟨gb1170, 10, none⟩) (Kd.R_far (p := ⟨gb1170, 9, none⟩) (Kd.R_far (p := ⟨gb1170, 8, none⟩) (Kd.R_far (p := ⟨gb1170, 7, none⟩) (Kd.R_far (p := ⟨gb1170, 6, none⟩) (Kd.R_far (p := ⟨gb1170, 5, none⟩) (Kd.R_far (p := ⟨gb1170, 4, none⟩) (Kd.R_far (p := ⟨gb1170, 3, none⟩) (Kd.R_far (p := ⟨gb1170, 2, none⟩) (Kd.R_far (p := ⟨gb1170, 1, none⟩) (Kd.R_far (p := ⟨gb1170, 0, none⟩) (Kd.R_types HO1169.out BK1170.out (by decide)) (fun _ hk => hk.2) (.bool t1145)) (fun _ hk => hk.2) (.slice Ao33 t1146.length co33)) (fun _ hk => hk.2) (.int .i64 t1149)) (fun _ hk => hk.2) (.int .i64 t1150)) (fun _ hk => hk.2) (.slice Ao34 t1151.length co34)) (fun _ hk => hk.2) (.slice Ao35 t1154.length co35)) (fun _ hk => hk.2) (.int .i64 t1157)) (fun _ hk => hk.2) (.slice Ao36 t1158.length co36)) (fun _ hk => hk.2) (.slice Ao37 t1161.length co37)) (fun _ hk => hk.2) (.slice Ao38 t1164.length co38)) (fun _ hk => hk.2) (.slice Ao39 t1167.length co39)) (fun _ h_ => h_.1)))); (case side14 => exact (Kd.R_reads' HO1169.out).2.1); rintro e w40 ⟨rfl, hb⟩; refine ⟨_, rfl, ?_⟩; have n0_ := Aside0.mk (Kd.S_below (by (with_reducible repeat (first | apply Kd.S_alloc | apply Kd.S_drewN | apply Kd.S_drew)); exact (Kd.S_mono (Kd.S_far (p := ⟨gb1170, 10, none⟩) (Kd.S_far (p := ⟨gb1170, 9, none⟩) (Kd.S_far (p := ⟨gb1170, 8, none⟩) (Kd.S_far (p := ⟨gb1170, 7, none⟩) (Kd.S_far (p := ⟨gb1170, 6, none⟩) (Kd.S_far (p := ⟨gb1170, 5, none⟩) (Kd.S_far (p := ⟨gb1170, 4, none⟩) (Kd.S_far (p := ⟨gb1170, 3, none⟩) (Kd.S_far (p := ⟨gb1170, 2, none⟩) (Kd.S_far (p := ⟨gb1170, 1, none⟩) (Kd.S_far (p := ⟨gb1170, 0, none⟩) (Kd.S_types HO1122.out BK1170.out (by decide)) (fun _ hk => hk.2) (.bool t1145)) (fun _ hk => hk.2) (.slice Ao33 t1146.length co33)) (fun _ hk => hk.2) (.int .i64 t1149)) (fun _ hk => hk.2) (.int .i64 t1150)) (fun _ hk => hk.2) (.slice Ao34 t1151.length co34)) (fun _ hk => hk.2) (.slice Ao35 t1154.length co35)) (fun _ hk => hk.2) (.int .i64 t1157)) (fun _ hk => hk.2) (.slice Ao36 t1158.length co36)) (fun _ hk => hk.2) (.slice Ao37 t1161.length co37)) (fun _ hk => hk.2) (.slice Ao38 t1164.length co38)) (fun _ hk => hk.2) (.slice Ao39 t1167.length co39)) (fun _ h_ => h_.1))) hb); have n1_ := Aside0.mk (Kd.R_below (by (with_reducible repeat (first | apply Kd.R_alloc | apply Kd.R_drewN | apply Kd.R_drew)); exact (Kd.R_mono (Kd.R_far (p := ⟨gb1170, 10, none⟩) (Kd.R_far (p := ⟨gb1170, 9, none⟩) (Kd.R_far (p := ⟨gb1170, 8, none⟩) (Kd.R_far (p := ⟨gb1170, 7, none⟩) (Kd.R_far (p := ⟨gb1170, 6, none⟩) (Kd.R_far (p := ⟨gb1170, 5, none⟩) (Kd.R_far (p := ⟨gb1170, 4, none⟩) (Kd.R_far (p := ⟨gb1170, 3, none⟩) (Kd.R_far (p := ⟨gb1170, 2, none⟩) (Kd.R_far (p := ⟨gb1170, 1, none⟩) (Kd.R_far (p := ⟨gb1170, 0, none⟩) (Kd.R_types HO1127.out BK1170.out (by decide)) (fun _ hk => hk.2) (.bool t1145)) (fun _ hk => hk.2) (.slice Ao33 t1146.length co33)) (fun _ hk => hk.2) (.int .i64 t1149)) (fun _ hk => hk.2) (.int .i64 t1150)) (fun _ hk => hk.2) (.slice Ao34 t1151.length co34)) (fun _ hk => hk.2) (.slice Ao35 t1154.length co35)) (fun _ hk => hk.2) (.int .i64 t1157)) (fun _ hk => hk.2) (.slice Ao36 t1158.length co36)) (fun _ hk => hk.2) (.slice Ao37 t1161.length co37)) (fun _ hk => hk.2) (.slice Ao38 t1164.length co38)) (fun _ hk => hk.2) (.slice Ao39 t1167.length co39)) (fun _ h_ => h_.1))) hb); have n2_ := Aside0.mk (Kd.R_below (by (with_reducible repeat (first | apply Kd.R_alloc | apply Kd.R_drewN | apply Kd.R_drew)); exact (Kd.R_mono (Kd.R_far (p := ⟨gb1170, 10, none⟩) (Kd.R_far (p := ⟨gb1170, 9, none⟩) (Kd.R_far (p := ⟨gb1170, 8, none⟩) (Kd.R_far (p := ⟨gb1170, 7, none⟩) (Kd.R_far (p := ⟨gb1170, 6, none⟩) (Kd.R_far (p := ⟨gb1170, 5, none⟩) (Kd.R_far (p := ⟨gb1170, 4, none⟩) (Kd.R_far (p := ⟨gb1170, 3, none⟩) (Kd.R_far (p := ⟨gb1170, 2, none⟩) (Kd.R_far (p := ⟨gb1170, 1, none⟩) (Kd.R_far (p := ⟨gb1170, 0, none⟩) (Kd.R_types HO1130.out BK1170.out (by decide)) (fun _ hk => hk.2) (.bool t1145)) (fun _ hk => hk.2) (.slice Ao33 t1146.length co33)) (fun _ hk => hk.2) (.int .i64 t1149)) (fun _ hk => hk.2) (.int .i64 t1150)) (fun _ hk => hk.2) (.slice Ao34 t1151.length co34)) (fun _ hk => hk.2) (.slice Ao35 t1154.length co35)) (fun _ hk => hk.2) (.int .i64 t1157)) (fun _ hk => hk.2) (.slice Ao36 t1158.length co36)) (fun _ hk => hk.2) (.slice Ao37 t1161.length co37)) (fun _ hk => hk.2) (.slice Ao38 t1164.length co38)) (fun _ hk => hk.2) (.slice Ao39 t1167.length co39)) (fun _ h_ => h_.1))) hb); have n3_ := Aside0.mk (Kd.S_below (by (with_reducible repeat (first | apply Kd.S_alloc | apply Kd.S_drewN | apply Kd.S_drew)); exact (Kd.S_mono (Kd.S_far (p := ⟨gb1170, 10, none⟩) (Kd.S_far (p := ⟨gb1170, 9, none⟩) (Kd.S_far (p := ⟨gb1170, 8, none⟩) (Kd.S_far (p := ⟨gb1170, 7, none⟩) (Kd.S_far (p := ⟨gb1170, 6, none⟩) (Kd.S_far (p := ⟨gb1170, 5, none⟩) (Kd.S_far (p := ⟨gb1170, 4, none⟩) (Kd.S_far (p := ⟨gb1170, 3, none⟩) (Kd.S_far (p := ⟨gb1170, 2, none⟩) (Kd.S_far (p := ⟨gb1170, 1, none⟩) (Kd.S_far (p := ⟨gb1170, 0, none⟩) (Kd.S_types HO1134.out BK1170.out (by decide)) (fun _ hk => hk.2) (.bool t1145)) (fun _ hk => hk.2) (.slice Ao33 t1146.length co33)) (fun _ hk => hk.2) (.int .i64 t1149)) (fun _ hk => hk.2) (.int .i64 t1150)) (fun _ hk => hk.2) (.slice Ao34 t1151.length co34)) (fun _ hk => hk.2) (.slice Ao35 t1154.length co35)) (fun _ hk => hk.2) (.int .i64 t1157)) (fun _ hk => hk.2) (.slice Ao36 t1158.length co36)) (fun _ hk => hk.2) (.slice Ao37 t1161.length co37)) (fun _ hk => hk.2) (.slice Ao38 t1164.length co38)) (fun _ hk => hk.2) (.slice Ao39 t1167.length co39)) (fun _ h_ => h_.1))) hb); have n4_ := Aside0.mk (Kd.R_below (by (with_reducible repeat (first | apply Kd.R_alloc | apply Kd.R_drewN | apply Kd.R_drew)); exact (Kd.R_mono (Kd.R_far (p := ⟨gb1170, 10, none⟩) (Kd.R_far (p := ⟨gb1170, 9, none⟩) (Kd.R_far (p := ⟨gb1170, 8, none⟩) (Kd.R_far (p := ⟨gb1170, 7, none⟩) (Kd.R_far (p := ⟨gb1170, 6, none⟩) (Kd.R_far (p := ⟨gb1170, 5, none⟩) (Kd.R_far (p := ⟨gb1170, 4, none⟩) (Kd.R_far (p := ⟨gb1170, 3, none⟩) (Kd.R_far (p := ⟨gb1170, 2, none⟩) (Kd.R_far (p := ⟨gb1170, 1, none⟩) (Kd.R_far (p := ⟨gb1170, 0, none⟩) (Kd.R_types HO1137.out BK1170.out (by decide)) (fun _ hk => hk.2) (.bool t1145)) (fun _ hk => hk.2) (.slice Ao33 t1146.length co33)) (fun _ hk => hk.2) (.int .i64 t1149)) (fun _ hk => hk.2) (.int .i64 t1150)) (fun _ hk => hk.2) (.slice Ao34 t1151.length co34)) (fun _ hk => hk.2) (.slice Ao35 t1154.length co35)) (fun _ hk => hk.2) (.int .i64 t1157)) (fun _ hk => hk.2) (.slice Ao36 t1158.length co36)) (fun _ hk => hk.2) (.slice Ao37 t1161.length co37)) (fun _ hk => hk.2) (.slice Ao38 t1164.length co38)) (fun _ hk => hk.2) (.slice Ao39 t1167.length co39)) (fun _ h_ => h_.1))) hb); have n5_ := Aside0.mk (Kd.R_below (by (with_reducible repeat (first | apply Kd.R_alloc | apply Kd.R_drewN | apply Kd.R_drew)); exact (Kd.R_mono (Kd.R_far (p := ⟨gb1170, 10, none⟩) (Kd.R_far (p := ⟨gb1170, 9, none⟩) (Kd.R_far (p := ⟨gb1170, 8, none⟩) (Kd.R_far (p := ⟨gb1170, 7, none⟩) (Kd.R_far (p := ⟨gb1170, 6, none⟩) (Kd.R_far (p := ⟨gb1170, 5, none⟩) (Kd.R_far (p := ⟨gb1170, 4, none⟩) (Kd.R_far (p := ⟨gb1170, 3, none⟩) (Kd.R_far (p := ⟨gb1170, 2, none⟩) (Kd.R_far (p := ⟨gb1170, 1, none⟩) (Kd.R_far (p := ⟨gb1170, 0, none⟩) (Kd.R_types HO1140.out BK1170.out (by decide)) (fun _ hk => hk.2) (.bool t1145)) (fun _ hk => hk.2) (.slice Ao33 t1146.length co33)) (fun _ hk => hk.2) (.int .i64 t1149)) (fun _ hk => hk.2) (.int .i64 t1150)) (fun _ hk => hk.2) (.slice Ao34 t1151.length co34)) (fun _ hk => hk.2) (.slice Ao35 t1154.length co35)) (fun _ hk => hk.2) (.int .i64 t1157)) (fun _ hk => hk.2) (.slice Ao36 t1158.length co36)) (fun _ hk => hk.2) (.slice Ao37 t1161.length co37)) (fun _ hk => hk.2) (.slice Ao38 t1164.length co38)) (fun _ hk => hk.2) (.slice Ao39 t1167.length co39)) (fun _ h_ => h_.1))) hb); have n6_ := Aside0.mk (Kd.R_below (by (with_reducible repeat (first | apply Kd.R_alloc | apply Kd.R_drewN | apply Kd.R_drew)); exact (Kd.R_mono (Kd.R_far (p := ⟨gb1170, 10, none⟩) (Kd.R_far (p := ⟨gb1170, 9, none⟩) (Kd.R_far (p := ⟨gb1170, 8, none⟩) (Kd.R_far (p := ⟨gb1170, 7, none⟩) (Kd.R_far (p := ⟨gb1170, 6, none⟩) (Kd.R_far (p := ⟨gb1170, 5, none⟩) (Kd.R_far (p := ⟨gb1170, 4, none⟩) (Kd.R_far (p := ⟨gb1170, 3, none⟩) (Kd.R_far (p := ⟨gb1170, 2, none⟩) (Kd.R_far (p := ⟨gb1170, 1, none⟩) (Kd.R_far (p := ⟨gb1170, 0, none⟩) (Kd.R_types HO1143.out BK1170.out (by decide)) (fun _ hk => hk.2) (.bool t1145)) (fun _ hk => hk.2) (.slice Ao33 t1146.length co33)) (fun _ hk => hk.2) (.int .i64 t1149)) (fun _ hk => hk.2) (.int .i64 t1150)) (fun _ hk => hk.2) (.slice Ao34 t1151.length co34)) (fun _ hk => hk.2) (.slice Ao35 t1154.length co35)) (fun _ hk => hk.2) (.int .i64 t1157)) (fun _ hk => hk.2) (.slice Ao36 t1158.length co36)) (fun _ hk => hk.2) (.slice Ao37 t1161.length co37)) (fun _ hk => hk.2) (.slice Ao38 t1164.length co38)) (fun _ hk => hk.2) (.slice Ao39 t1167.length co39)) (fun _ h_ => h_.1))) hb); have n7_ := Aside0.mk (Kd.S_below (by (with_reducible repeat (first | apply Kd.S_alloc | apply Kd.S_drewN | apply Kd.S_drew)); exact (Kd.S_mono (Kd.S_far (p := ⟨gb1170, 10, none⟩) (Kd.S_far (p := ⟨gb1170, 9, none⟩) (Kd.S_far (p := ⟨gb1170, 8, none⟩) (Kd.S_far (p := ⟨gb1170, 7, none⟩) (Kd.S_far (p := ⟨gb1170, 6, none⟩) (Kd.S_far (p := ⟨gb1170, 5, none⟩) (Kd.S_far (p := ⟨gb1170, 4, none⟩) (Kd.S_far (p := ⟨gb1170, 3, none⟩) (Kd.S_far (p := ⟨gb1170, 2, none⟩) (Kd.S_far (p := ⟨gb1170, 1, none⟩) (Kd.S_far (p := ⟨gb1170, 0, none⟩) (Kd.S_types HO1148.out BK1170.out (by decide)) (fun _ hk => hk.2) (.bool t1145)) (fun _ hk => hk.2) (.slice Ao33 t1146.length co33)) (fun _ hk => hk.2) (.int .i64 t1149)) (fun _ hk => hk.2) (.int .i64 t1150)) (fun _ hk => hk.2) (.slice Ao34 t1151.length co34)) (fun _ hk => hk.2) (.slice Ao35 t1154.length co35)) (fun _ hk => hk.2) (.int .i64 t1157)) (fun _ hk => hk.2) (.slice Ao36 t1158.length co36)) (fun _ hk => hk.2) (.slice Ao37 t1161.length co37)) (fun _ hk => hk.2) (.slice Ao38 t1164.length co38)) (fun _ hk => hk.2) (.slice Ao39 t1167.length co39)) (fun _ h_ => h_.1))) hb); have n8_ := Aside0.mk (Kd.R_below (by (with_reducible repeat (first | apply Kd.R_alloc | apply Kd.R_drewN | apply Kd.R_drew)); exact (Kd.R_mono (Kd.R_far (p := ⟨gb1170, 10, none⟩) (Kd.R_far (p := ⟨gb1170, 9, none⟩) (Kd.R_far (p := ⟨gb1170, 8, none⟩) (Kd.R_far (p := ⟨gb1170, 7, none⟩) (Kd.R_far (p := ⟨gb1170, 6, none⟩) (Kd.R_far (p := ⟨gb1170, 5, none⟩) (Kd.R_far (p := ⟨gb1170, 4, none⟩) (Kd.R_far (p := ⟨gb1170, 3, none⟩) (Kd.R_far (p := ⟨gb1170, 2, none⟩) (Kd.R_far (p := ⟨gb1170, 1, none⟩) (Kd.R_far (p := ⟨gb1170, 0, none⟩) (Kd.R_types HO1153.out BK1170.out (by decide)) (fun _ hk => hk.2) (.bool t1145)) (fun _ hk => hk.2) (.slice Ao33 t1146.length co33)) (fun _ hk => hk.2) (.int .i64 t1149)) (fun _ hk => hk.2) (.int .i64 t1150)) (fun _ hk => hk.2) (.slice Ao34 t1151.length co34)) (fun _ hk => hk.2) (.slice Ao35 t1154.length co35)) (fun _ hk => hk.2) (.int .i64 t1157)) (fun _ hk => hk.2) (.slice Ao36 t1158.length co36)) (fun _ hk => hk.2) (.slice Ao37 t1161.length co37)) (fun _ hk => hk.2) (.slice Ao38 t1164.length co38)) (fun _ hk => hk.2) (.slice Ao39 t1167.length co39)) (fun _ h_ => h_.1))) hb); have n9_ := Aside0.mk (Kd.R_below (by (with_reducible repeat (first | apply Kd.R_alloc | apply Kd.R_drewN | apply Kd.R_drew)); exact (Kd.R_mono (Kd.R_far (p := ⟨gb1170, 10, none⟩) (Kd.R_far (p := ⟨gb1170, 9, none⟩) (Kd.R_far (p := ⟨gb1170, 8, none⟩) (Kd.R_far (p := ⟨gb1170, 7, none⟩) (Kd.R_far (p := ⟨gb1170, 6, none⟩) (Kd.R_far (p := ⟨gb1170, 5, none⟩) (Kd.R_far (p := ⟨gb1170, 4, none⟩) (Kd.R_far (p := ⟨gb1170, 3, none⟩) (Kd.R_far (p := ⟨gb1170, 2, none⟩) (Kd.R_far (p := ⟨gb1170, 1, none⟩) (Kd.R_far (p := ⟨gb1170, 0, none⟩) (Kd.R_types HO1156.out BK1170.out (by decide)) (fun _ hk => hk.2) (.bool t1145)) (fun _ hk => hk.2) (.slice Ao33 t1146.length co33)) (fun _ hk => hk.2) (.int .i64 t1149)) (fun _ hk => hk.2) (.int .i64 t1150)) (fun _ hk => hk.2) (.slice Ao34 t1151.length co34)) (fun _ hk => hk.2) (.slice Ao35 t1154.length co35)) (fun _ hk => hk.2) (.int .i64 t1157)) (fun _ hk => hk.2) (.slice Ao36 t1158.length co36)) (fun _ hk => hk.2) (.slice Ao37 t1161.length co37)) (fun _ hk => hk.2) (.slice Ao38 t1164.length co38)) (fun _ hk => hk.2) (.slice Ao39 t1167.length co39)) (fun _ h_ => h_.1))) hb); have n10_ := Aside0.mk (Kd.S_below (by (with_reducible repeat (first | apply Kd.S_alloc | apply Kd.S_drewN | apply Kd.S_drew)); exact (Kd.S_mono (Kd.S_far (p := ⟨gb1170, 10, none⟩) (Kd.S_far (p := ⟨gb1170, 9, none⟩) (Kd.S_far (p := ⟨gb1170, 8, none⟩) (Kd.S_far (p := ⟨gb1170, 7, none⟩) (Kd.S_far (p := ⟨gb1170, 6, none⟩) (Kd.S_far (p := ⟨gb1170, 5, none⟩) (Kd.S_far (p := ⟨gb1170, 4, none⟩) (Kd.S_far (p := ⟨gb1170, 3, none⟩) (Kd.S_far (p := ⟨gb1170, 2, none⟩) (Kd.S_far (p := ⟨gb1170, 1, none⟩) (Kd.S_far (p := ⟨gb1170, 0, none⟩) (Kd.S_types HO1160.out BK1170.out (by decide)) (fun _ hk => hk.2) (.bool t1145)) (fun _ hk => hk.2) (.slice Ao33 t1146.length co33)) (fun _ hk => hk.2) (.int .i64 t1149)) (fun _ hk => hk.2) (.int .i64 t1150)) (fun _ hk => hk.2) (.slice Ao34 t1151.length co34)) (fun _ hk => hk.2) (.slice Ao35 t1154.length co35)) (fun _ hk => hk.2) (.int .i64 t1157)) (fun _ hk => hk.2) (.slice Ao36 t1158.length co36)) (fun _ hk => hk.2) (.slice Ao37 t1161.length co37)) (fun _ hk => hk.2) (.slice Ao38 t1164.length co38)) (fun _ hk => hk.2) (.slice Ao39 t1167.length co39)) (fun _ h_ => h_.1))) hb); have n11_ := Aside0.mk (Kd.R_below (by (with_reducible repeat (first | apply Kd.R_alloc | apply Kd.R_drewN | apply Kd.R_drew)); exact (Kd.R_mono (Kd.R_far (p := ⟨gb1170, 10, none⟩) (Kd.R_far (p := ⟨gb1170, 9, none⟩) (Kd.R_far (p := ⟨gb1170, 8, none⟩) (Kd.R_far (p := ⟨gb1170, 7, none⟩) (Kd.R_far (p := ⟨gb1170, 6, none⟩) (Kd.R_far (p := ⟨gb1170, 5, none⟩) (Kd.R_far (p := ⟨gb1170, 4, none⟩) (Kd.R_far (p := ⟨gb1170, 3, none⟩) (Kd.R_far (p := ⟨gb1170, 2, none⟩) (Kd.R_far (p := ⟨gb1170, 1, none⟩) (Kd.R_far (p := ⟨gb1170, 0, none⟩) (Kd.R_types HO1163.out BK1170.out (by decide)) (fun _ hk => hk.2) (.bool t1145)) (fun _ hk => hk.2) (.slice Ao33 t1146.length co33)) (fun _ hk => hk.2) (.int .i64 t1149)) (fun _ hk => hk.2) (.int .i64 t1150)) (fun _ hk => hk.2) (.slice Ao34 t1151.length co34)) (fun _ hk => hk.2) (.slice Ao35 t1154.length co35)) (fun _ hk => hk.2) (.int .i64 t1157)) (fun _ hk => hk.2) (.slice Ao36 t1158.length co36)) (fun _ hk => hk.2) (.slice Ao37 t1161.length co37)) (fun _ hk => hk.2) (.slice Ao38 t1164.length co38)) (fun _ hk => hk.2) (.slice Ao39 t1167.length co39)) (fun _ h_ => h_.1))) hb); have n12_ := Aside0.mk (Kd.R_below (by (with_reducible repeat (first | apply Kd.R_alloc | apply Kd.R_drewN | apply Kd.R_drew)); exact (Kd.R_mono (Kd.R_far (p := ⟨gb1170, 10, none⟩) (Kd.R_far (p := ⟨gb1170, 9, none⟩) (Kd.R_far (p := ⟨gb1170, 8, none⟩) (Kd.R_far (p := ⟨gb1170, 7, none⟩) (Kd.R_far (p := ⟨gb1170, 6, none⟩) (Kd.R_far (p := ⟨gb1170, 5, none⟩) (Kd.R_far (p := ⟨gb1170, 4, none⟩) (Kd.R_far (p := ⟨gb1170, 3, none⟩) (Kd.R_far (p := ⟨gb1170, 2, none⟩) (Kd.R_far (p := ⟨gb1170, 1, none⟩) (Kd.R_far (p := ⟨gb1170, 0, none⟩) (Kd.R_types HO1166.out BK1170.out (by decide)) (fun _ hk => hk.2) (.bool t1145)) (fun _ hk => hk.2) (.slice Ao33 t1146.length co33)) (fun _ hk => hk.2) (.int .i64 t1149)) (fun _ hk => hk.2) (.int .i64 t1150)) (fun _ hk => hk.2) (.slice Ao34 t1151.length co34)) (fun _ hk => hk.2) (.slice Ao35 t1154.length co35)) (fun _ hk => hk.2) (.int .i64 t1157)) (fun _ hk => hk.2) (.slice Ao36 t1158.length co36)) (fun _ hk => hk.2) (.slice Ao37 t1161.length co37)) (fun _ hk => hk.2) (.slice Ao38 t1164.length co38)) (fun _ hk => hk.2) (.slice Ao39 t1167.length co39)) (fun _ h_ => h_.1))) hb); have n13_ := Aside0.mk (Kd.R_below (by (with_reducible repeat (first | apply Kd.R_alloc | apply Kd.R_drewN | apply Kd.R_drew)); exact (Kd.R_mono (Kd.R_far (p := ⟨gb1170, 10, none⟩) (Kd.R_far (p := ⟨gb1170, 9, none⟩) (Kd.R_far (p := ⟨gb1170, 8, none⟩) (Kd.R_far (p := ⟨gb1170, 7, none⟩) (Kd.R_far (p := ⟨gb1170, 6, none⟩) (Kd.R_far (p := ⟨gb1170, 5, none⟩) (Kd.R_far (p := ⟨gb1170, 4, none⟩) (Kd.R_far (p := ⟨gb1170, 3, none⟩) (Kd.R_far (p := ⟨gb1170, 2, none⟩) (Kd.R_far (p := ⟨gb1170, 1, none⟩) (Kd.R_far (p := ⟨gb1170, 0, none⟩) (Kd.R_types HO1169.out BK1170.out (by decide)) (fun _ hk => hk.2) (.bool t1145)) (fun _ hk => hk.2) (.slice Ao33 t1146.length co33)) (fun _ hk => hk.2) (.int .i64 t1149)) (fun _ hk => hk.2) (.int .i64 t1150)) (fun _ hk => hk.2) (.slice Ao34 t1151.length co34)) (fun _ hk => hk.2) (.slice Ao35 t1154.length co35)) (fun _ hk => hk.2) (.int .i64 t1157)) (fun _ hk => hk.2) (.slice Ao36 t1158.length co36)) (fun _ hk => hk.2) (.slice Ao37 t1161.length co37)) (fun _ hk => hk.2) (.slice Ao38 t1164.length co38)) (fun _ hk => hk.2) (.slice Ao39 t1167.length co39)) (fun _ h_ => h_.1))) hb); have n14_ := Aside0.mk (blk_below (g := gb1117) (o := .cells #[.bool a0_0, .slice A0_1 l0_1.length c0_1, .int .i64 a0_2, .int .i64 a0_3, .slice A0_4 l0_4.length c0_4, .slice A0_5 l0_5.length c0_5, .int .i64 a0_6, .slice A0_7 l0_7.length c0_7, .slice A0_8 l0_8.length c0_8, .slice A0_9 l0_9.length c0_9, .slice A0_10 l0_10.length c0_10] 86 (0, 0)) (by (with_reducible repeat (first | refine blk_drewN ?_ _ | refine blk_drew ?_ | refine blk_alloc ?_ _)); refine blk_far ?_ NB1117_1170.out _; (with_reducible repeat (first | refine blk_drewN ?_ _ | refine blk_drew ?_ | refine blk_alloc ?_ _)); refine blk_far ?_ NB1117_1170.out _; (with_reducible repeat (first | refine blk_drewN ?_ _ | refine blk_drew ?_ | refine blk_alloc ?_ _)); refine blk_far ?_ NB1117_1170.out _; (with_reducible repeat (first | refine blk_drewN ?_ _ | refine blk_drew ?_ | refine blk_alloc ?_ _)); refine blk_far ?_ NB1117_1170.out _; (with_reducible repeat (first | refine blk_drewN ?_ _ | refine blk_drew ?_ | refine blk_alloc ?_ _)); refine blk_far ?_ NB1117_1170.out _; (with_reducible repeat (first | refine blk_drewN ?_ _ | refine blk_drew ?_ | refine blk_alloc ?_ _)); refine blk_far ?_ NB1117_1170.out _; (with_reducible repeat (first | refine blk_drewN ?_ _ | refine blk_drew ?_ | refine blk_alloc ?_ _)); refine blk_far ?_ NB1117_1170.out _; (with_reducible repeat (first | refine blk_drewN ?_ _ | refine blk_drew ?_ | refine blk_alloc ?_ _)); refine blk_far ?_ NB1117_1170.out _; (with_reducible repeat (first | refine blk_drewN ?_ _ | refine blk_drew ?_ | refine blk_alloc ?_ _)); refine blk_far ?_ NB1117_1170.out _; (with_reducible repeat (first | refine blk_drewN ?_ _ | refine blk_drew ?_ | refine blk_alloc ?_ _)); refine blk_far ?_ NB1117_1170.out _; (with_reducible repeat (first | refine blk_drewN ?_ _ | refine blk_drew ?_ | refine blk_alloc ?_ _)); refine blk_far ?_ NB1117_1170.out _; (with_reducible repeat (first | refine blk_drewN ?_ _ | refine blk_drew ?_ | refine blk_alloc ?_ _)); exact BK1117.out) hb); have n15_ := Aside0.mk (blk_below (g := gb1170) (o := .cells #[.bool t1145, .slice Ao33 t1146.length co33, .int .i64 t1149, .int .i64 t1150, .slice Ao34 t1151.length co34, .slice Ao35 t1154.length co35, .int .i64 t1157, .slice Ao36 t1158.length co36, .slice Ao37 t1161.length co37, .slice Ao38 t1164.length co38, .slice Ao39 t1167.length co39] 77 (0, 0)) (by (with_reducible repeat (first | refine blk_drewN ?_ _ | refine blk_drew ?_ | refine blk_alloc ?_ _)); refine blk_put (cs := #[.bool t1145, .slice Ao33 t1146.length co33, .int .i64 t1149, .int .i64 t1150, .slice Ao34 t1151.length co34, .slice Ao35 t1154.length co35, .int .i64 t1157, .slice Ao36 t1158.length co36, .slice Ao37 t1161.length co37, .slice Ao38 t1164.length co38, .slice none 0 0]) ?_ 10 _ rfl; (with_reducible repeat (first | refine blk_drewN ?_ _ | refine blk_drew ?_ | refine blk_alloc ?_ _)); refine blk_put (cs := #[.bool t1145, .slice Ao33 t1146.length co33, .int .i64 t1149, .int .i64 t1150, .slice Ao34 t1151.length co34, .slice Ao35 t1154.length co35, .int .i64 t1157, .slice Ao36 t1158.length co36, .slice Ao37 t1161.length co37, .slice none 0 0, .slice none 0 0]) ?_ 9 _ rfl; (with_reducible repeat (first | refine blk_drewN ?_ _ | refine blk_drew ?_ | refine blk_alloc ?_ _)); refine blk_put (cs := #[.bool t1145, .slice Ao33 t1146.length co33, .int .i64 t1149, .int .i64 t1150, .slice Ao34 t1151.length co34, .slice Ao35 t1154.length co35, .int .i64 t1157, .slice Ao36 t1158.length co36, .slice none 0 0, .slice none 0 0, .slice none 0 0]) ?_ 8 _ rfl; (with_reducible repeat (first | refine blk_drewN ?_ _ | refine blk_drew ?_ | refine blk_alloc ?_ _)); refine blk_put (cs := #[.bool t1145, .slice Ao33 t1146.length co33, .int .i64 t1149, .int .i64 t1150, .slice Ao34 t1151.length co34, .slice Ao35 t1154.length co35, .int .i64 t1157, .slice none 0 0, .slice none 0 0, .slice none 0 0, .slice none 0 0]) ?_ 7 _ rfl; (with_reducible repeat (first | refine blk_drewN ?_ _ | refine blk_drew ?_ | refine blk_alloc ?_ _)); refine blk_put (cs := #[.bool t1145, .slice Ao33 t1146.length co33, .int .i64 t1149, .int .i64 t1150, .slice Ao34 t1151.length co34, .slice Ao35 t1154.length co35, .int .i64 0, .slice none 0 0, .slice none 0 0, .slice none 0 0, .slice none 0 0]) ?_ 6 _ rfl; (with_reducible repeat (first | refine blk_drewN ?_ _ | refine blk_drew ?_ | refine blk_alloc ?_ _)); refine blk_put (cs := #[.bool t1145, .slice Ao33 t1146.length co33, .int .i64 t1149, .int .i64 t1150, .slice Ao34 t1151.length co34, .slice none 0 0, .int .i64 0, .slice none 0 0, .slice none 0 0, .slice none 0 0, .slice none 0 0]) ?_ 5 _ rfl; (with_reducible repeat (first | refine blk_drewN ?_ _ | refine blk_drew ?_ | refine blk_alloc ?_ _)); refine blk_put (cs := #[.bool t1145, .slice Ao33 t1146.length co33, .int .i64 t1149, .int .i64 t1150, .slice none 0 0, .slice none 0 0, .int .i64 0, .slice none 0 0, .slice none 0 0, .slice none 0 0, .slice none 0 0]) ?_ 4 _ rfl; (with_reducible repeat (first | refine blk_drewN ?_ _ | refine blk_drew ?_ | refine blk_alloc ?_ _)); refine blk_put (cs := #[.bool t1145, .slice Ao33 t1146.length co33, .int .i64 t1149, .int .i64 0, .slice none 0 0, .slice none 0 0, .int .i64 0, .slice none 0 0, .slice none 0 0, .slice none 0 0, .slice none 0 0]) ?_ 3 _ rfl; (with_reducible repeat (first | refine blk_drewN ?_ _ | refine blk_drew ?_ | refine blk_alloc ?_ _)); refine blk_put (cs := #[.bool t1145, .slice Ao33 t1146.length co33, .int .i64 0, .int .i64 0, .slice none 0 0, .slice none 0 0, .int .i64 0, .slice none 0 0, .slice none 0 0, .slice none 0 0, .slice none 0 0]) ?_ 2 _ rfl; (with_reducible repeat (first | refine blk_drewN ?_ _ | refine blk_drew ?_ | refine blk_alloc ?_ _)); refine blk_put (cs := #[.bool t1145, .slice none 0 0, .int .i64 0, .int .i64 0, .slice none 0 0, .slice none 0 0, .int .i64 0, .slice none 0 0, .slice none 0 0, .slice none 0 0, .slice none 0 0]) ?_ 1 _ rfl; (with_reducible repeat (first | refine blk_drewN ?_ _ | refine blk_drew ?_ | refine blk_alloc ?_ _)); refine blk_put (cs := #[.bool false, .slice none 0 0, .int .i64 0, .int .i64 0, .slice none 0 0, .slice none 0 0, .int .i64 0, .slice none 0 0, .slice none 0 0, .slice none 0 0, .slice none 0 0]) ?_ 0 _ rfl; (with_reducible repeat (first | refine blk_drewN ?_ _ | refine blk_drew ?_ | refine blk_alloc ?_ _)); exact BK1170.out) hb); have n16_ := Aside0.mk (below_step (BB2 HB.out GE1117.out GE1170.out) hb); clear HO1122; clear HO1127; clear HO1130; clear HO1134; clear HO1137; clear HO1140; clear HO1143; clear HO1148; clear HO1153; clear HO1156; clear HO1160; clear HO1163; clear HO1166; clear HO1169; clear BK1117; clear BK1170; clear HB; have HO1122 := n0_; have HO1127 := n1_; have HO1130 := n2_; have HO1134 := n3_; have HO1137 := n4_; have HO1140 := n5_; have HO1143 := n6_; have HO1148 := n7_; have HO1153 := n8_; have HO1156 := n9_; have HO1160 := n10_; have HO1163 := n11_; have HO1166 := n12_; have HO1169 := n13_; have BK1117 := n14_; have BK1170 := n15_; have HB := n16_; clear n0_ n1_ n2_ n3_ n4_ n5_ n6_ n7_ n8_ n9_ n10_ n11_ n12_ n13_ n14_ n15_ n16_; (try clear hb)))
        have n0_ := Aside0.mk (Kd.S_drew HO1122.out)
        have n1_ := Aside0.mk (Kd.R_drew HO1127.out)
        have n2_ := Aside0.mk (Kd.R_drew HO1130.out)
        have n3_ := Aside0.mk (Kd.S_drew HO1134.out)
        have n4_ := Aside0.mk (Kd.R_drew HO1137.out)
        have n5_ := Aside0.mk (Kd.R_drew HO1140.out)
        have n6_ := Aside0.mk (Kd.R_drew HO1143.out)
        have n7_ := Aside0.mk (Kd.S_drew HO1148.out)
        have n8_ := Aside0.mk (Kd.R_drew HO1153.out)
        have n9_ := Aside0.mk (Kd.R_drew HO1156.out)
        have n10_ := Aside0.mk (Kd.S_drew HO1160.out)
        have n11_ := Aside0.mk (Kd.R_drew HO1163.out)
        have n12_ := Aside0.mk (Kd.R_drew HO1166.out)
        have n13_ := Aside0.mk (Kd.R_drew HO1169.out)
        have n14_ := Aside0.mk (blk_drew BK1117.out)
        have n15_ := Aside0.mk (blk_drew BK1170.out)
        have n16_ := Aside0.mk (below_drew1 HB.out)
        clear HO1122
        clear HO1127
        clear HO1130
        clear HO1134
        clear HO1137
        clear HO1140
        clear HO1143
        clear HO1148
        clear HO1153
        clear HO1156
        clear HO1160
        clear HO1163
        clear HO1166
        clear HO1169
        clear BK1117
        clear BK1170
        clear HB
        have HO1122 := n0_
        have HO1127 := n1_
        have HO1130 := n2_
        have HO1134 := n3_
        have HO1137 := n4_
        have HO1140 := n5_
        have HO1143 := n6_
        have HO1148 := n7_
        have HO1153 := n8_
        have HO1156 := n9_
        have HO1160 := n10_
        have HO1163 := n11_
        have HO1166 := n12_
        have HO1169 := n13_
        have BK1117 := n14_
        have BK1170 := n15_
        have HB := n16_
        clear n0_ n1_ n2_ n3_ n4_ n5_ n6_ n7_ n8_ n9_ n10_ n11_ n12_ n13_ n14_ n15_ n16_
        refine start_ (n := 5) (S := fun w' => w'.cell? ⟨gb1170, 0, none⟩ = some (.bool t1145) ∧ w'.cell? ⟨gb1170, 1, none⟩ = some (.slice Ao33 t1146.length co33) ∧ w'.cell? ⟨gb1170, 2, none⟩ = some (.int .i64 t1149) ∧ w'.cell? ⟨gb1170, 3, none⟩ = some (.int .i64 t1150) ∧ w'.cell? ⟨gb1170, 4, none⟩ = some (.slice Ao34 t1151.length co34) ∧ w'.cell? ⟨gb1170, 5, none⟩ = some (.slice Ao35 t1154.length co35) ∧ w'.cell? ⟨gb1170, 6, none⟩ = some (.int .i64 t1157) ∧ w'.cell? ⟨gb1170, 7, none⟩ = some (.slice Ao36 t1158.length co36) ∧ w'.cell? ⟨gb1170, 8, none⟩ = some (.slice Ao37 t1161.length co37) ∧ w'.cell? ⟨gb1170, 9, none⟩ = some (.slice Ao38 t1164.length co38) ∧ w'.cell? ⟨gb1170, 10, none⟩ = some (.slice Ao39 t1167.length co39) ∧ w'.cell? ⟨gb1117, 0, none⟩ = some (.bool a0_0) ∧ w'.cell? ⟨gb1117, 1, none⟩ = some (.slice A0_1 l0_1.length c0_1) ∧ w'.cell? ⟨gb1117, 2, none⟩ = some (.int .i64 a0_2) ∧ w'.cell? ⟨gb1117, 3, none⟩ = some (.int .i64 a0_3) ∧ w'.cell? ⟨gb1117, 4, none⟩ = some (.slice A0_4 l0_4.length c0_4) ∧ w'.cell? ⟨gb1117, 5, none⟩ = some (.slice A0_5 l0_5.length c0_5) ∧ w'.cell? ⟨gb1117, 6, none⟩ = some (.int .i64 a0_6) ∧ w'.cell? ⟨gb1117, 7, none⟩ = some (.slice A0_7 l0_7.length c0_7) ∧ w'.cell? ⟨gb1117, 8, none⟩ = some (.slice A0_8 l0_8.length c0_8) ∧ w'.cell? ⟨gb1117, 9, none⟩ = some (.slice A0_9 l0_9.length c0_9) ∧ w'.cell? ⟨gb1117, 10, none⟩ = some (.slice A0_10 l0_10.length c0_10)) (ds := []) #[false, false, false, false, false] (by kernel_rfl) rfl rfl ⟨(blk_cell BK1170.out 0).trans rfl, (blk_cell BK1170.out 1).trans rfl, (blk_cell BK1170.out 2).trans rfl, (blk_cell BK1170.out 3).trans rfl, (blk_cell BK1170.out 4).trans rfl, (blk_cell BK1170.out 5).trans rfl, (blk_cell BK1170.out 6).trans rfl, (blk_cell BK1170.out 7).trans rfl, (blk_cell BK1170.out 8).trans rfl, (blk_cell BK1170.out 9).trans rfl, (blk_cell BK1170.out 10).trans rfl, (blk_cell BK1117.out 0).trans rfl, (blk_cell BK1117.out 1).trans rfl, (blk_cell BK1117.out 2).trans rfl, (blk_cell BK1117.out 3).trans rfl, (blk_cell BK1117.out 4).trans rfl, (blk_cell BK1117.out 5).trans rfl, (blk_cell BK1117.out 6).trans rfl, (blk_cell BK1117.out 7).trans rfl, (blk_cell BK1117.out 8).trans rfl, (blk_cell BK1117.out 9).trans rfl, (blk_cell BK1117.out 10).trans rfl⟩ (fun hHeld => ?_)
        generalize w40.drew = w41 at HO1122 HO1127 HO1130 HO1134 HO1137 HO1140 HO1143 HO1148 HO1153 HO1156 HO1160 HO1163 HO1166 HO1169 BK1117 BK1170 HB hHeld ⊢
        refine take_ (i := 0) (N := some 22) (v := ?_) (a' := ?_) #[true, false, false, false, false] rfl rfl (by kernel_rfl) (fun _ _ _ h => h) (Or.inl ⟨by rfl, ?_⟩) hHeld ?_ ?_
        rotate_left
        · rintro w' ⟨s0, s1, s2, s3, s4, s5, s6, s7, s8, s9, s10, s11, s12, s13, s14, s15, s16, s17, s18, s19, s20, s21⟩
          go_simp
          with_reducible rfl
        rotate_left
        · simp only [Act.put, List.setIfInBounds_toArray, List.set_cons_zero, List.set_cons_succ, i64_w, i32_w]
          rfl
        refine take_ (i := 1) (N := some 23) (v := ?_) (a' := ?_) #[true, true, false, false, false] rfl rfl (by kernel_rfl) (fun _ _ _ h => h) (Or.inl ⟨by rfl, ?_⟩) hHeld ?_ ?_
        rotate_left
        · rintro w' ⟨s0, s1, s2, s3, s4, s5, s6, s7, s8, s9, s10, s11, s12, s13, s14, s15, s16, s17, s18, s19, s20, s21⟩
          go_simp
          with_reducible rfl
        rotate_left
        · simp only [Act.put, List.setIfInBounds_toArray, List.set_cons_zero, List.set_cons_succ, i64_w, i32_w]
          rfl
        refine one_ (i := 2) (N := some 24) #[true, true, true, false, false] rfl rfl (by kernel_rfl) (by decide) (fun K hK => ?_)
        refine goes_ Try.func50 (by kernel_rfl) rfl #[.agg #[.bool a0_0, .slice A0_1 l0_1.length c0_1, .int .i64 a0_2, .int .i64 a0_3, .slice A0_4 l0_4.length c0_4, .slice A0_5 l0_5.length c0_5, .int .i64 a0_6, .slice A0_7 l0_7.length c0_7, .slice A0_8 l0_8.length c0_8, .slice A0_9 l0_9.length c0_9, .slice A0_10 l0_10.length c0_10]] (by rfl) rfl rfl (by (try simp only [List.map_toArray, List.map_cons, List.map_nil]); first | done | rfl | (simp only [List.length_drop, List.length_take]; rfl)) ?_
        with_reducible refine (laws_toWorld.calls k a0_0 _ _ l0_1 a0_2 a0_3 _ _ l0_4 _ _ l0_5 a0_6 _ _ l0_7 _ _ l0_8 _ _ l0_9 _ _ l0_10 t1172 t1173 t1176 t1177 t1178 t1181 t1184 t1185 t1188 t1191 t1194 _ ?side1 ?side2 ?side3 ?side4 ?side5 ?side6 ?side7 ?side8 ?side9 ?side10 ?side11 ?side12 ?side13 ?side14 A12.out).mono ?_
        (case side1 => exact CC (Kd.C_below HR0_1.out HB.out))
        (case side2 => exact HC0_1.out)
        (case side3 => exact CC (Kd.C_below HR0_4.out HB.out))
        (case side4 => exact HC0_4.out)
        (case side5 => exact CC (Kd.C_below HR0_5.out HB.out))
        (case side6 => exact HC0_5.out)
        (case side7 => exact CC (Kd.C_below HR0_7.out HB.out))
        (case side8 => exact HC0_7.out)
        (case side9 => exact CC (Kd.C_below HR0_8.out HB.out))
        (case side10 => exact HC0_8.out)
        (case side11 => exact CC (Kd.C_below HR0_9.out HB.out))
        (case side12 => exact HC0_9.out)
        (case side13 => exact CC (Kd.C_below HR0_10.out HB.out))
        (case side14 => exact HC0_10.out)
        rintro e w42 ⟨v1174, v1179, v1182, v1186, v1189, v1192, v1195, rfl, ho0, ho1, ho2, ho3, ho4, ho5, ho6, hb⟩
        refine ⟨_, rfl, ?_⟩
        have n0_ := Aside0.mk (Kd.S_elder' (SS HO1122.out) (Kd.S_base ho0) hb)
        have n1_ := Aside0.mk (Kd.R_elder' (RR HO1127.out) (Kd.R_base ho1) hb)
        have n2_ := Aside0.mk (Kd.R_elder' (RR HO1130.out) (Kd.R_base ho2) hb)
        have n3_ := Aside0.mk (Kd.S_elder' (SS HO1134.out) (Kd.S_base ho3) hb)
        have n4_ := Aside0.mk (Kd.R_elder' (RR HO1137.out) (Kd.R_base ho4) hb)
        have n5_ := Aside0.mk (Kd.R_elder' (RR HO1140.out) (Kd.R_base ho5) hb)
        have n6_ := Aside0.mk (Kd.R_elder' (RR HO1143.out) (Kd.R_base ho6) hb)
        have n7_ := Aside0.mk (Kd.S_elder' (SS HO1148.out) (Kd.S_base ho0) hb)
        have n8_ := Aside0.mk (Kd.R_elder' (RR HO1153.out) (Kd.R_base ho1) hb)
        have n9_ := Aside0.mk (Kd.R_elder' (RR HO1156.out) (Kd.R_base ho2) hb)
        have n10_ := Aside0.mk (Kd.S_elder' (SS HO1160.out) (Kd.S_base ho3) hb)
        have n11_ := Aside0.mk (Kd.R_elder' (RR HO1163.out) (Kd.R_base ho4) hb)
        have n12_ := Aside0.mk (Kd.R_elder' (RR HO1166.out) (Kd.R_base ho5) hb)
        have n13_ := Aside0.mk (Kd.R_elder' (RR HO1169.out) (Kd.R_base ho6) hb)
        have n14_ := Aside0.mk (Kd.S_lower (Kd.S_new' (Kd.S_new' ho0 (Kd.S_lt (SS HO1122.out))) (Kd.S_lt (SS HO1148.out))) (below_size (BB2 HB.out GE1117.out GE1170.out)))
        have n15_ := Aside0.mk (Kd.R_lower (Kd.R_new' (Kd.R_new' ho1 (Kd.R_lt (RR HO1127.out))) (Kd.R_lt (RR HO1153.out))) (below_size (BB2 HB.out GE1117.out GE1170.out)))
        have n16_ := Aside0.mk (Kd.R_lower (Kd.R_new' (Kd.R_new' ho2 (Kd.R_lt (RR HO1130.out))) (Kd.R_lt (RR HO1156.out))) (below_size (BB2 HB.out GE1117.out GE1170.out)))
        have n17_ := Aside0.mk (Kd.S_lower (Kd.S_new' (Kd.S_new' ho3 (Kd.S_lt (SS HO1134.out))) (Kd.S_lt (SS HO1160.out))) (below_size (BB2 HB.out GE1117.out GE1170.out)))
        have n18_ := Aside0.mk (Kd.R_lower (Kd.R_new' (Kd.R_new' ho4 (Kd.R_lt (RR HO1137.out))) (Kd.R_lt (RR HO1163.out))) (below_size (BB2 HB.out GE1117.out GE1170.out)))
        have n19_ := Aside0.mk (Kd.R_lower (Kd.R_new' (Kd.R_new' ho5 (Kd.R_lt (RR HO1140.out))) (Kd.R_lt (RR HO1166.out))) (below_size (BB2 HB.out GE1117.out GE1170.out)))
        have n20_ := Aside0.mk (Kd.R_lower (Kd.R_new' (Kd.R_new' ho6 (Kd.R_lt (RR HO1143.out))) (Kd.R_lt (RR HO1169.out))) (below_size (BB2 HB.out GE1117.out GE1170.out)))
        have n21_ := Aside0.mk (KB BK1117.out hb)
        have n22_ := Aside0.mk (KB BK1170.out hb)
        have n23_ := Aside0.mk (below_step (BB2 HB.out GE1117.out GE1170.out) hb)
        clear HO1122
        clear HO1127
        clear HO1130
        clear HO1134
        clear HO1137
        clear HO1140
        clear HO1143
        clear HO1148
        clear HO1153
        clear HO1156
        clear HO1160
        clear HO1163
        clear HO1166
        clear HO1169
        clear BK1117
        clear BK1170
        clear HB
        have HO1122 := n0_
        have HO1127 := n1_
        have HO1130 := n2_
        have HO1134 := n3_
        have HO1137 := n4_
        have HO1140 := n5_
        have HO1143 := n6_
        have HO1148 := n7_
        have HO1153 := n8_
        have HO1156 := n9_
        have HO1160 := n10_
        have HO1163 := n11_
        have HO1166 := n12_
        have HO1169 := n13_
        have HO1175 := n14_
        have HO1180 := n15_
        have HO1183 := n16_
        have HO1187 := n17_
        have HO1190 := n18_
        have HO1193 := n19_
        have HO1196 := n20_
        have BK1117 := n21_
        have BK1170 := n22_
        have HB := n23_
        clear n0_ n1_ n2_ n3_ n4_ n5_ n6_ n7_ n8_ n9_ n10_ n11_ n12_ n13_ n14_ n15_ n16_ n17_ n18_ n19_ n20_ n21_ n22_ n23_
        (try clear hb)
        (try clear hb2)
        (try clear hk)
        (try clear hi)
        (try clear ho0)
        (try clear ho1)
        (try clear ho2)
        (try clear ho3)
        (try clear ho4)
        (try clear ho5)
        (try clear ho6)
        obtain ⟨Ao43, co43, eo43⟩ := Kd.S_slice HO1175.out
        (first | subst eo43 | (injection eo43 with f1_ f2_ f3_; have f4_ := f1_.symm; have f5_ := f3_.symm; clear f1_ f2_ f3_; subst f4_; subst f5_))
        obtain ⟨Ao44, co44, eo44⟩ := Kd.R_slice HO1180.out
        (first | subst eo44 | (injection eo44 with f1_ f2_ f3_; have f4_ := f1_.symm; have f5_ := f3_.symm; clear f1_ f2_ f3_; subst f4_; subst f5_))
        obtain ⟨Ao45, co45, eo45⟩ := Kd.R_slice HO1183.out
        (first | subst eo45 | (injection eo45 with f1_ f2_ f3_; have f4_ := f1_.symm; have f5_ := f3_.symm; clear f1_ f2_ f3_; subst f4_; subst f5_))
        obtain ⟨Ao46, co46, eo46⟩ := Kd.S_slice HO1187.out
        (first | subst eo46 | (injection eo46 with f1_ f2_ f3_; have f4_ := f1_.symm; have f5_ := f3_.symm; clear f1_ f2_ f3_; subst f4_; subst f5_))
        obtain ⟨Ao47, co47, eo47⟩ := Kd.R_slice HO1190.out
        (first | subst eo47 | (injection eo47 with f1_ f2_ f3_; have f4_ := f1_.symm; have f5_ := f3_.symm; clear f1_ f2_ f3_; subst f4_; subst f5_))
        obtain ⟨Ao48, co48, eo48⟩ := Kd.R_slice HO1193.out
        (first | subst eo48 | (injection eo48 with f1_ f2_ f3_; have f4_ := f1_.symm; have f5_ := f3_.symm; clear f1_ f2_ f3_; subst f4_; subst f5_))
        obtain ⟨Ao49, co49, eo49⟩ := Kd.R_slice HO1196.out
        (first | subst eo49 | (injection eo49 with f1_ f2_ f3_; have f4_ := f1_.symm; have f5_ := f3_.symm; clear f1_ f2_ f3_; subst f4_; subst f5_))
        refine hK.out _ _ ⟨(blk_cell BK1170.out 0).trans rfl, (blk_cell BK1170.out 1).trans rfl, (blk_cell BK1170.out 2).trans rfl, (blk_cell BK1170.out 3).trans rfl, (blk_cell BK1170.out 4).trans rfl, (blk_cell BK1170.out 5).trans rfl, (blk_cell BK1170.out 6).trans rfl, (blk_cell BK1170.out 7).trans rfl, (blk_cell BK1170.out 8).trans rfl, (blk_cell BK1170.out 9).trans rfl, (blk_cell BK1170.out 10).trans rfl, (blk_cell BK1117.out 0).trans rfl, (blk_cell BK1117.out 1).trans rfl, (blk_cell BK1117.out 2).trans rfl, (blk_cell BK1117.out 3).trans rfl, (blk_cell BK1117.out 4).trans rfl, (blk_cell BK1117.out 5).trans rfl, (blk_cell BK1117.out 6).trans rfl, (blk_cell BK1117.out 7).trans rfl, (blk_cell BK1117.out 8).trans rfl, (blk_cell BK1117.out 9).trans rfl, (blk_cell BK1117.out 10).trans rfl⟩ (fun hHeld => ?_)
        clear hK K
        refine norm_ (a' := ?_) ?_ ?_
        rotate_left
        · show Act.put _ (some 24) _ = _
          simp only [Act.put, List.setIfInBounds_toArray, List.set_cons_zero, List.set_cons_succ, i64_w, i32_w]
          rfl
        refine one_ (i := 3) (N := some 25) #[true, true, true, true, false] rfl rfl (by kernel_rfl) (by decide) (fun K hK => ?_)
        refine goes_ Try.func43 (by kernel_rfl) rfl #[.agg #[.bool t1145, .slice Ao33 t1146.length co33, .int .i64 t1149, .int .i64 t1150, .slice Ao34 t1151.length co34, .slice Ao35 t1154.length co35, .int .i64 t1157, .slice Ao36 t1158.length co36, .slice Ao37 t1161.length co37, .slice Ao38 t1164.length co38, .slice Ao39 t1167.length co39], .agg #[.bool t1172, .slice Ao43 t1173.length co43, .int .i64 t1176, .int .i64 t1177, .slice Ao44 t1178.length co44, .slice Ao45 t1181.length co45, .int .i64 t1184, .slice Ao46 t1185.length co46, .slice Ao47 t1188.length co47, .slice Ao48 t1191.length co48, .slice Ao49 t1194.length co49]] (by rfl) rfl rfl (by (try simp only [List.map_toArray, List.map_cons, List.map_nil]); first | done | rfl | (simp only [List.length_drop, List.length_take]; rfl)) ?_
        with_reducible refine (laws_eqWorld.calls k t1145 _ _ t1146 t1149 t1150 _ _ t1151 _ _ t1154 t1157 _ _ t1158 _ _ t1161 _ _ t1164 _ _ t1167 t1172 _ _ t1173 t1176 t1177 _ _ t1178 _ _ t1181 t1184 _ _ t1185 _ _ t1188 _ _ t1191 _ _ t1194 true _ ?side1 ?side2 ?side3 ?side4 ?side5 ?side6 ?side7 ?side8 ?side9 ?side10 ?side11 ?side12 ?side13 ?side14 ?side15 ?side16 ?side17 ?side18 ?side19 ?side20 ?side21 ?side22 ?side23 ?side24 ?side25 ?side26 ?side27 ?side28 A13.out).mono ?_
        (case side1 => exact CC (Kd.S_reads' HO1148.out).2.2)
        (case side2 => exact (Kd.S_reads' HO1148.out).2.1)
        (case side3 => exact CC (Kd.R_reads' HO1153.out).2.2)
        (case side4 => exact (Kd.R_reads' HO1153.out).2.1)
        (case side5 => exact CC (Kd.R_reads' HO1156.out).2.2)
        (case side6 => exact (Kd.R_reads' HO1156.out).2.1)
        (case side7 => exact CC (Kd.S_reads' HO1160.out).2.2)
        (case side8 => exact (Kd.S_reads' HO1160.out).2.1)
        (case side9 => exact CC (Kd.R_reads' HO1163.out).2.2)
        (case side10 => exact (Kd.R_reads' HO1163.out).2.1)
        (case side11 => exact CC (Kd.R_reads' HO1166.out).2.2)
        (case side12 => exact (Kd.R_reads' HO1166.out).2.1)
        (case side13 => exact CC (Kd.R_reads' HO1169.out).2.2)
        (case side14 => exact (Kd.R_reads' HO1169.out).2.1)
        (case side15 => exact CC (Kd.S_reads' HO1175.out).2.2)
        (case side16 => exact (Kd.S_reads' HO1175.out).2.1)
        (case side17 => exact CC (Kd.R_reads' HO1180.out).2.2)
        (case side18 => exact (Kd.R_reads' HO1180.out).2.1)
        (case side19 => exact CC (Kd.R_reads' HO1183.out).2.2)
        (case side20 => exact (Kd.R_reads' HO1183.out).2.1)
        (case side21 => exact CC (Kd.S_reads' HO1187.out).2.2)
        (case side22 => exact (Kd.S_reads' HO1187.out).2.1)
        (case side23 => exact CC (Kd.R_reads' HO1190.out).2.2)
        (case side24 => exact (Kd.R_reads' HO1190.out).2.1)
        (case side25 => exact CC (Kd.R_reads' HO1193.out).2.2)
        (case side26 => exact (Kd.R_reads' HO1193.out).2.1)
        (case side27 => exact CC (Kd.R_reads' HO1196.out).2.2)
        (case side28 => exact (Kd.R_reads' HO1196.out).2.1)
        rintro e w50 ⟨rfl, hb⟩
        refine ⟨_, rfl, ?_⟩
        have n0_ := Aside0.mk (Kd.S_below (SS HO1122.out) hb)
        have n1_ := Aside0.mk (Kd.R_below (RR HO1127.out) hb)
        have n2_ := Aside0.mk (Kd.R_below (RR HO1130.out) hb)
        have n3_ := Aside0.mk (Kd.S_below (SS HO1134.out) hb)
        have n4_ := Aside0.mk (Kd.R_below (RR HO1137.out) hb)
        have n5_ := Aside0.mk (Kd.R_below (RR HO1140.out) hb)
        have n6_ := Aside0.mk (Kd.R_below (RR HO1143.out) hb)
        have n7_ := Aside0.mk (Kd.S_below (SS HO1148.out) hb)
        have n8_ := Aside0.mk (Kd.R_below (RR HO1153.out) hb)
        have n9_ := Aside0.mk (Kd.R_below (RR HO1156.out) hb)
        have n10_ := Aside0.mk (Kd.S_below (SS HO1160.out) hb)
        have n11_ := Aside0.mk (Kd.R_below (RR HO1163.out) hb)
        have n12_ := Aside0.mk (Kd.R_below (RR HO1166.out) hb)
        have n13_ := Aside0.mk (Kd.R_below (RR HO1169.out) hb)
        have n14_ := Aside0.mk (Kd.S_below (SS HO1175.out) hb)
        have n15_ := Aside0.mk (Kd.R_below (RR HO1180.out) hb)
        have n16_ := Aside0.mk (Kd.R_below (RR HO1183.out) hb)
        have n17_ := Aside0.mk (Kd.S_below (SS HO1187.out) hb)
        have n18_ := Aside0.mk (Kd.R_below (RR HO1190.out) hb)
        have n19_ := Aside0.mk (Kd.R_below (RR HO1193.out) hb)
        have n20_ := Aside0.mk (Kd.R_below (RR HO1196.out) hb)
        have n21_ := Aside0.mk (KB BK1117.out hb)
        have n22_ := Aside0.mk (KB BK1170.out hb)
        have n23_ := Aside0.mk (below_step (BB2 HB.out GE1117.out GE1170.out) hb)
        clear HO1122
        clear HO1127
        clear HO1130
        clear HO1134
        clear HO1137
        clear HO1140
        clear HO1143
        clear HO1148
        clear HO1153
        clear HO1156
        clear HO1160
        clear HO1163
        clear HO1166
        clear HO1169
        clear HO1175
        clear HO1180
        clear HO1183
        clear HO1187
        clear HO1190
        clear HO1193
        clear HO1196
        clear BK1117
        clear BK1170
        clear HB
        have HO1122 := n0_
        have HO1127 := n1_
        have HO1130 := n2_
        have HO1134 := n3_
        have HO1137 := n4_
        have HO1140 := n5_
        have HO1143 := n6_
        have HO1148 := n7_
        have HO1153 := n8_
        have HO1156 := n9_
        have HO1160 := n10_
        have HO1163 := n11_
        have HO1166 := n12_
        have HO1169 := n13_
        have HO1175 := n14_
        have HO1180 := n15_
        have HO1183 := n16_
        have HO1187 := n17_
        have HO1190 := n18_
        have HO1193 := n19_
        have HO1196 := n20_
        have BK1117 := n21_
        have BK1170 := n22_
        have HB := n23_
        clear n0_ n1_ n2_ n3_ n4_ n5_ n6_ n7_ n8_ n9_ n10_ n11_ n12_ n13_ n14_ n15_ n16_ n17_ n18_ n19_ n20_ n21_ n22_ n23_
        (try clear hb)
        (try clear hb2)
        (try clear hk)
        (try clear hi)
        refine hK.out _ _ ⟨(blk_cell BK1170.out 0).trans rfl, (blk_cell BK1170.out 1).trans rfl, (blk_cell BK1170.out 2).trans rfl, (blk_cell BK1170.out 3).trans rfl, (blk_cell BK1170.out 4).trans rfl, (blk_cell BK1170.out 5).trans rfl, (blk_cell BK1170.out 6).trans rfl, (blk_cell BK1170.out 7).trans rfl, (blk_cell BK1170.out 8).trans rfl, (blk_cell BK1170.out 9).trans rfl, (blk_cell BK1170.out 10).trans rfl, (blk_cell BK1117.out 0).trans rfl, (blk_cell BK1117.out 1).trans rfl, (blk_cell BK1117.out 2).trans rfl, (blk_cell BK1117.out 3).trans rfl, (blk_cell BK1117.out 4).trans rfl, (blk_cell BK1117.out 5).trans rfl, (blk_cell BK1117.out 6).trans rfl, (blk_cell BK1117.out 7).trans rfl, (blk_cell BK1117.out 8).trans rfl, (blk_cell BK1117.out 9).trans rfl, (blk_cell BK1117.out 10).trans rfl⟩ (fun hHeld => ?_)
        clear hK K
        refine norm_ (a' := ?_) ?_ ?_
        rotate_left
        · show Act.put _ (some 25) _ = _
          simp only [Act.put, List.setIfInBounds_toArray, List.set_cons_zero, List.set_cons_succ, i64_w, i32_w]
          rfl
        refine pure_ (i := 4) (N := some 26) (v := ?_) (a' := ?_) #[true, true, true, true, true] rfl rfl (by kernel_rfl) (fun _ _ _ h => h) (Or.inl ⟨by rfl, ?_⟩) ?_ ?_
        rotate_left
        · intro w'
          go_simp
          with_reducible rfl
        rotate_left
        · simp only [Act.put, List.setIfInBounds_toArray, List.set_cons_zero, List.set_cons_succ, i64_w, i32_w]
          rfl
        refine done_ (by kernel_rfl) ?_
        try go_wp2
        go_ret
        exact ⟨ER, (BB2 HB.out GE1117.out GE1170.out)⟩
      · replace c14 := Bool.eq_false_iff.mpr c14
        subst c14
        have H1 : (some false) = some r := by rw [if_neg (show ¬ (false = true) by decide)] at H; exact H
        clear H
        have H := H1
        clear H1
        exact absurd ((Option.some.inj H).trans hr_.out) (by decide)

end Go.Proofs.Ytfgnaneajonapaa.Pr

/- Generic: whatever reads as data of a type is a value of its kind; by types' numbers and fields, for any program. -/
namespace Go.Proofs.Ytfgnaneajonapaa.Opn
open Go.RowKit Go.ChangeShapes Go.WideShapes Go.Deep Go.Proofs.YtfgnaneajonapaaW.PrintWords

def Opens {α : Type} (P : Program) (d : Kd α) (wf : α → Prop) (t : TypeId) : Prop :=
  ∀ (H : Type) (enc : TypeId × Value → H) (w : World) (base : Nat) (spare : Nat → Bool) (held : Bool) (fuel : Nat) (cs : List Value) (x : DataW H × List MemPlace),
    DataW.trod enc P w base spare held fuel t cs = some x → ∃ v, d.K w v cs ∧ wf v

def OpensF {α : Type} (P : Program) (d : Kd α) (wf : α → Prop) (off : Nat) (fs : List Field) : Prop :=
  ∀ (H : Type) (enc : TypeId × Value → H) (w : World) (base : Nat) (spare : Nat → Bool) (held : Bool) (fuel : Nat) (cs : List Value),
    cs.length = off + d.sz → (∀ f ∈ fs, ∃ y, DataW.trod enc P w base spare held fuel f.type ((cs.drop f.offset).take (P.cellsOf f.type)) = some y) → ∃ v, d.K w v (cs.drop off) ∧ wf v

theorem opens_int {P : Program} {t : TypeId} (k : IntKind) (ht : P.underlying t = some (.int k)) : Opens P (Kd.int k) (fun n => (Lit.int k n).wf = true) t := by
  intro H enc w base spare held fuel cs x h
  obtain ⟨n, rfl, _, hw⟩ := DataW.trod_int ht h
  exact ⟨n, rfl, hw⟩
theorem opens_bool {P : Program} {t : TypeId} (ht : P.underlying t = some .bool) : Opens P Kd.bool (fun _ => True) t := by
  intro H enc w base spare held fuel cs x h
  obtain ⟨n, rfl, _⟩ := DataW.trod_bool ht h
  exact ⟨n, rfl, trivial⟩
theorem opens_string {P : Program} {t : TypeId} (ht : P.underlying t = some .string) : Opens P Kd.string (fun s => s.size ≤ maxLen) t := by
  intro H enc w base spare held fuel cs x h
  obtain ⟨s, rfl, _, hs⟩ := DataW.trod_string ht h
  exact ⟨s, rfl, hs⟩

theorem list_of_lt {α : Type} {q : Nat → α → Prop} (len : Nat) (key : ∀ i, i < len → ∃ v, q i v) : ∃ xs : List α, xs.length = len ∧ ∀ i v, xs[i]? = some v → q i v := by
  induction len with
  | zero => exact ⟨[], rfl, fun i v h => by simp at h⟩
  | succ k ih =>
    obtain ⟨xs, hxl, hx⟩ := ih (fun i hik => key i (by omega))
    obtain ⟨v, h1⟩ := key k (by omega)
    refine ⟨xs ++ [v], by simp [hxl], fun i u hu => ?_⟩
    by_cases hik : i < xs.length
    · rw [List.getElem?_append_left hik] at hu
      exact hx i u hu
    · have hil := (List.getElem?_eq_some_iff.1 hu).1
      simp at hil
      have hi' : i = k := by omega
      subst hi'
      rw [List.getElem?_append_right (by omega)] at hu
      simp [hxl] at hu
      subst hu
      exact h1

theorem opens_slice {α : Type} {P : Program} {t e : TypeId} {d : Kd α} {wf : α → Prop} (ht : P.underlying t = some (.slice e)) (hc : P.cellsOf e = d.sz) (he : Opens P d wf e) :
    Opens P (Kd.slice e d) (fun xs => xs.length ≤ maxLen ∧ ∀ x ∈ xs, wf x) t := by
  intro H enc w base spare held fuel cs x h
  rcases Go.Deep.open_slice ht h with ⟨rfl, _⟩ | ⟨a, len, cap, m, n, D, Pl, rfl, _, hl, hm, hmm, _, hi⟩
  · refine ⟨[], ⟨none, 0, rfl, Nat.le_refl _, rfl, by simp, fun h => absurd h (by simp)⟩, by simp, fun x hx => by simp at hx⟩
  · have hlm : len ≤ m := by rw [hmm]; split <;> omega
    have key : ∀ i, i < len → ∃ v c, d.K w v c ∧ wf v ∧ w.cells? base (a.add (i * P.cellsOf e)) (P.cellsOf e) = some c := by
      intro i hil
      obtain ⟨c, h1, h2⟩ := hi i (by omega)
      obtain ⟨v, hk, hw⟩ := he _ _ _ _ _ _ _ _ _ h2
      exact ⟨v, c, hk, hw, h1⟩
    have this := list_of_lt (q := fun i v => ∃ c, d.K w v c ∧ wf v ∧ w.cells? base (a.add (i * P.cellsOf e)) (P.cellsOf e) = some c) len key
    obtain ⟨xs, hxl, hx⟩ := this
    refine ⟨xs, ⟨some a, cap, by rw [hxl], by omega, ?_⟩, by rw [hxl]; omega, ?_⟩
    · refine ⟨rfl, by unfold maxLen at hm; omega, fun _ => ⟨a, rfl, fun j p hj => ?_⟩⟩
      obtain ⟨c, h1, h2, h3⟩ := hx j p hj
      obtain ⟨_, hcl, hat⟩ := World.cells?_some h3
      refine ⟨c, by rw [hcl, hc], h1, fun i u hu => ?_⟩
      have hil : i < P.cellsOf e := by rw [← hcl]; exact (List.getElem?_eq_some_iff.1 hu).1
      rw [← Go.Deep.add_add, ← hc, hat i hil, hu]
    · intro y hy
      obtain ⟨i, hi⟩ := List.mem_iff_getElem?.1 hy
      obtain ⟨c, _, h2, _⟩ := hx i y hi
      exact h2

theorem opensF_one {α : Type} {P : Program} {d : Kd α} {wf : α → Prop} {f : Field} {off : Nat} (h : Opens P d wf f.type) (ho : f.offset = off) (hc : P.cellsOf f.type = d.sz) : OpensF P d wf off [f] := by
  intro H enc w base spare held fuel cs hl hf
  obtain ⟨y, hy⟩ := hf f (by simp)
  rw [ho, hc, List.take_of_length_le (by simp; omega)] at hy
  exact h _ _ _ _ _ _ _ _ _ hy
theorem opensF_cons {α β : Type} {P : Program} {a : Kd α} {b : Kd β} {wa : α → Prop} {wb : β → Prop} {f : Field} {fs : List Field} {off : Nat} (h : Opens P a wa f.type) (ho : f.offset = off) (hc : P.cellsOf f.type = a.sz)
    (ht : OpensF P b wb (off + a.sz) fs) : OpensF P (Kd.pair a b) (fun x => wa x.1 ∧ wb x.2) off (f :: fs) := by
  intro H enc w base spare held fuel cs hl hf
  have hsz : (Kd.pair a b).sz = a.sz + b.sz := rfl
  obtain ⟨y, hy⟩ := hf f (by simp)
  rw [ho, hc] at hy
  obtain ⟨v, hv, hw⟩ := h _ _ _ _ _ _ _ _ _ hy
  obtain ⟨u, hu, hw'⟩ := ht H enc w base spare held fuel cs (by rw [hl, hsz]; omega) (fun g hg => hf g (by simp [hg]))
  refine ⟨(v, u), ⟨_, _, ?_, hv, hu⟩, hw, hw'⟩
  rw [← List.drop_drop, List.take_append_drop]
theorem opens_struct {α : Type} {P : Program} {t : TypeId} {d : Kd α} {wf : α → Prop} {fs : Array Field} (ht : P.underlying t = some (.struct fs)) (hc : P.cellsOf t = d.sz) (h : OpensF P d wf 0 fs.toList) : Opens P d wf t := by
  intro H enc w base spare held fuel cs x hx
  obtain ⟨xs, n, _, _, hlen, hxl, hf⟩ := DataW.trod_struct ht hx
  obtain ⟨v, hv, hw⟩ := h H enc w base spare held n cs (by rw [hlen, hc]; simp) (fun f hfm => by
    obtain ⟨i, hi⟩ := List.mem_iff_getElem?.1 hfm
    have hi' : fs[i]? = some f := by simpa using hi
    have hil : i < xs.length := by rw [hxl]; exact (Array.getElem?_eq_some_iff.1 hi').1
    exact ⟨xs[i], by rw [hf i f hi', List.getElem?_eq_getElem hil]⟩)
  exact ⟨v, by simpa using hv, hw⟩
theorem opens_iso {α β : Type} {P : Program} {t : TypeId} {d : Kd α} {wf : α → Prop} (h : Opens P d wf t) (f : β → α) (g : α → β) (e : ∀ x, f (g x) = x) : Opens P (Kd.iso d f) (fun y => wf (f y)) t := by
  intro H enc w base spare held fuel cs x hx
  obtain ⟨v, hv, hw⟩ := h _ _ _ _ _ _ _ _ _ hx
  refine ⟨g v, ?_, ?_⟩
  · show d.K w (f (g v)) cs
    rw [e]
    exact hv
  · show wf (f (g v))
    rw [e]
    exact hw

/-- An argument that is a slice. -/
theorem arg_slice {α : Type} {P : Program} {t e : TypeId} {d : Kd α} {wf : List α → Prop} (h : Opens P (Kd.slice e d) wf t) {H : Type} {enc : TypeId × Value → H} {w : World} {base : Nat} {spare : Nat → Bool} {held : Bool}
    {A : Option Addr} {n c : Nat} {x : DataW H} {p : List MemPlace} (hx : DataW.Trod enc P w base spare held t (.slice A n c) x p) : ∃ l : List α, n = l.length ∧ l.length ≤ c ∧ Kd.C d w A l.length l ∧ wf l := by
  obtain ⟨fuel, hf⟩ := hx
  obtain ⟨l, ⟨A', c', he, hl, hC⟩, hw⟩ := h _ _ _ _ _ _ _ _ _ hf
  simp [Value.cells] at he
  obtain ⟨rfl, rfl, rfl⟩ := he
  exact ⟨l, rfl, hl, hC, hw⟩
/-- An argument that is a struct. -/
theorem arg_struct {α : Type} {P : Program} {t : TypeId} {d : Kd α} {wf : α → Prop} (h : Opens P d wf t) {H : Type} {enc : TypeId × Value → H} {w : World} {base : Nat} {spare : Nat → Bool} {held : Bool}
    {cs : Array Value} {x : DataW H} {p : List MemPlace} (hx : DataW.Trod enc P w base spare held t (.agg cs) x p) : ∃ v : α, d.K w v cs.toList ∧ wf v := by
  obtain ⟨fuel, hf⟩ := hx
  exact h _ _ _ _ _ _ _ _ _ hf
end Go.Proofs.Ytfgnaneajonapaa.Opn

/- The pure statement of the law FnExactEnoughLeft: for all values that an argument can be read as. -/
namespace Go.Proofs.Ytfgnaneajonapaa.SFnExactEnoughLeft
open Go.RowKit Go.Proofs.YtfgnaneajonapaaW.PrintWords Go.Proofs.YtfgnaneajonapaaW.PrintLast Go.Proofs.YtfgnaneajonapaaW.PrintMore Go.Proofs.Ytfgnaneajonapaa.Pr Go.Proofs.Ytfgnaneajonapaa.Opn
set_option linter.unusedVariables false
def wf221 (x : S221) : Prop := ((Lit.int .i64 x.f0).wf = true) ∧ ((Lit.int .i64 x.f1).wf = true)
set_option maxRecDepth 100000 in
theorem op221 : Opens Try.prog k221 wf221 221 := opens_iso (opens_struct Try.underlying221 (by kernel_rfl) (opensF_cons (opens_int .i64 Try.underlying3) rfl (by kernel_rfl) (opensF_one (opens_int .i64 Try.underlying3) rfl (by kernel_rfl)))) _ (fun p => (⟨p.1, p.2⟩ : S221)) (fun _ => rfl)
def wf199 (x : S199) : Prop := ((Lit.int .i64 x.f0).wf = true) ∧ ((Lit.int .i64 x.f1).wf = true) ∧ (x.f2.size ≤ maxLen) ∧ (True) ∧ ((Lit.int .i64 x.f4).wf = true) ∧ ((Lit.int .i64 x.f5).wf = true) ∧ ((Lit.int .i64 x.f6).wf = true) ∧ (x.f7.length ≤ maxLen ∧ ∀ y ∈ x.f7, wf221 y) ∧ ((Lit.int .i64 x.f8).wf = true)
set_option maxRecDepth 100000 in
theorem op199 : Opens Try.prog k199 wf199 199 := opens_iso (opens_struct Try.underlying199 (by kernel_rfl) (opensF_cons (opens_int .i64 Try.underlying3) rfl (by kernel_rfl) (opensF_cons (opens_int .i64 Try.underlying3) rfl (by kernel_rfl) (opensF_cons (opens_string Try.underlying9) rfl (by kernel_rfl) (opensF_cons (opens_bool Try.underlying4) rfl (by kernel_rfl) (opensF_cons (opens_int .i64 Try.underlying3) rfl (by kernel_rfl) (opensF_cons (opens_int .i64 Try.underlying3) rfl (by kernel_rfl) (opensF_cons (opens_int .i64 Try.underlying3) rfl (by kernel_rfl) (opensF_cons (opens_slice Try.underlying197 (by kernel_rfl) (op221)) rfl (by kernel_rfl) (opensF_one (opens_int .i64 Try.underlying3) rfl (by kernel_rfl))))))))))) _ (fun p => (⟨p.1, p.2.1, p.2.2.1, p.2.2.2.1, p.2.2.2.2.1, p.2.2.2.2.2.1, p.2.2.2.2.2.2.1, p.2.2.2.2.2.2.2.1, p.2.2.2.2.2.2.2.2⟩ : S199)) (fun _ => rfl)
def wf59 (x : S59) : Prop := (x.f0.length ≤ maxLen ∧ ∀ y ∈ x.f0, wf199 y) ∧ ((Lit.int .i64 x.f1).wf = true)
set_option maxRecDepth 100000 in
theorem op59 : Opens Try.prog k59 wf59 59 := opens_iso (opens_struct Try.underlying59 (by kernel_rfl) (opensF_cons (opens_slice Try.underlying57 (by kernel_rfl) (op199)) rfl (by kernel_rfl) (opensF_one (opens_int .i64 Try.underlying3) rfl (by kernel_rfl)))) _ (fun p => (⟨p.1, p.2⟩ : S59)) (fun _ => rfl)
def wf201 (x : S201) : Prop := (x.f0.size ≤ maxLen) ∧ (x.f1.size ≤ maxLen) ∧ ((Lit.int .i64 x.f2).wf = true)
set_option maxRecDepth 100000 in
theorem op201 : Opens Try.prog k201 wf201 201 := opens_iso (opens_struct Try.underlying201 (by kernel_rfl) (opensF_cons (opens_string Try.underlying9) rfl (by kernel_rfl) (opensF_cons (opens_string Try.underlying9) rfl (by kernel_rfl) (opensF_one (opens_int .i64 Try.underlying3) rfl (by kernel_rfl))))) _ (fun p => (⟨p.1, p.2.1, p.2.2⟩ : S201)) (fun _ => rfl)
def wf62 (x : S62) : Prop := (x.f0.length ≤ maxLen ∧ ∀ y ∈ x.f0, wf201 y)
set_option maxRecDepth 100000 in
theorem op62 : Opens Try.prog k62 wf62 62 := opens_iso (opens_struct Try.underlying62 (by kernel_rfl) (opensF_one (opens_slice Try.underlying60 (by kernel_rfl) (op201)) rfl (by kernel_rfl))) _ (fun p => (⟨p⟩ : S62)) (fun _ => rfl)
def wf161 (x : S161) : Prop := (x.f0.size ≤ maxLen) ∧ ((Lit.int .i64 x.f1).wf = true) ∧ ((Lit.int .i64 x.f2).wf = true)
set_option maxRecDepth 100000 in
theorem op161 : Opens Try.prog k161 wf161 161 := opens_iso (opens_struct Try.underlying161 (by kernel_rfl) (opensF_cons (opens_string Try.underlying9) rfl (by kernel_rfl) (opensF_cons (opens_int .i64 Try.underlying3) rfl (by kernel_rfl) (opensF_one (opens_int .i64 Try.underlying3) rfl (by kernel_rfl))))) _ (fun p => (⟨p.1, p.2.1, p.2.2⟩ : S161)) (fun _ => rfl)
def wf65 (x : S65) : Prop := (True) ∧ (wf59 x.f1) ∧ ((Lit.int .i64 x.f2).wf = true) ∧ (wf62 x.f3) ∧ (x.f4.length ≤ maxLen ∧ ∀ y ∈ x.f4, wf161 y) ∧ ((Lit.int .i64 x.f5).wf = true)
set_option maxRecDepth 100000 in
theorem op65 : Opens Try.prog k65 wf65 65 := opens_iso (opens_struct Try.underlying65 (by kernel_rfl) (opensF_cons (opens_bool Try.underlying4) rfl (by kernel_rfl) (opensF_cons (op59) rfl (by kernel_rfl) (opensF_cons (opens_int .i64 Try.underlying3) rfl (by kernel_rfl) (opensF_cons (op62) rfl (by kernel_rfl) (opensF_cons (opens_slice Try.underlying63 (by kernel_rfl) (op161)) rfl (by kernel_rfl) (opensF_one (opens_int .i64 Try.underlying3) rfl (by kernel_rfl)))))))) _ (fun p => (⟨p.1, p.2.1, p.2.2.1, p.2.2.2.1, p.2.2.2.2.1, p.2.2.2.2.2⟩ : S65)) (fun _ => rfl)
def wf182 (x : S182) : Prop := ((Lit.int .i64 x.f0).wf = true) ∧ ((Lit.int .i64 x.f1).wf = true) ∧ (x.f2.size ≤ maxLen) ∧ ((Lit.int .i64 x.f3).wf = true)
set_option maxRecDepth 100000 in
theorem op182 : Opens Try.prog k182 wf182 182 := opens_iso (opens_struct Try.underlying182 (by kernel_rfl) (opensF_cons (opens_int .i64 Try.underlying3) rfl (by kernel_rfl) (opensF_cons (opens_int .i64 Try.underlying3) rfl (by kernel_rfl) (opensF_cons (opens_string Try.underlying9) rfl (by kernel_rfl) (opensF_one (opens_int .i64 Try.underlying3) rfl (by kernel_rfl)))))) _ (fun p => (⟨p.1, p.2.1, p.2.2.1, p.2.2.2⟩ : S182)) (fun _ => rfl)
def wf94 (x : S94) : Prop := ((Lit.int .i64 x.f0).wf = true) ∧ (True) ∧ (x.f2.length ≤ maxLen ∧ ∀ y ∈ x.f2, wf182 y)
set_option maxRecDepth 100000 in
theorem op94 : Opens Try.prog k94 wf94 94 := opens_iso (opens_struct Try.underlying94 (by kernel_rfl) (opensF_cons (opens_int .i64 Try.underlying3) rfl (by kernel_rfl) (opensF_cons (opens_bool Try.underlying4) rfl (by kernel_rfl) (opensF_one (opens_slice Try.underlying92 (by kernel_rfl) (op182)) rfl (by kernel_rfl))))) _ (fun p => (⟨p.1, p.2.1, p.2.2⟩ : S94)) (fun _ => rfl)
def wf179 (x : S179) : Prop := ((Lit.int .i64 x.f0).wf = true) ∧ (x.f1.size ≤ maxLen)
set_option maxRecDepth 100000 in
theorem op179 : Opens Try.prog k179 wf179 179 := opens_iso (opens_struct Try.underlying179 (by kernel_rfl) (opensF_cons (opens_int .i64 Try.underlying3) rfl (by kernel_rfl) (opensF_one (opens_string Try.underlying9) rfl (by kernel_rfl)))) _ (fun p => (⟨p.1, p.2⟩ : S179)) (fun _ => rfl)
def wf86 (x : S86) : Prop := (wf65 x.f0) ∧ (x.f1.length ≤ maxLen ∧ ∀ y ∈ x.f1, wf94 y) ∧ (x.f2.length ≤ maxLen ∧ ∀ y ∈ x.f2, (Lit.int .i64 y).wf = true) ∧ (x.f3.length ≤ maxLen ∧ ∀ y ∈ x.f3, y.size ≤ maxLen) ∧ (x.f4.length ≤ maxLen ∧ ∀ y ∈ x.f4, wf179 y)
set_option maxRecDepth 100000 in
theorem op86 : Opens Try.prog k86 wf86 86 := opens_iso (opens_struct Try.underlying86 (by kernel_rfl) (opensF_cons (op65) rfl (by kernel_rfl) (opensF_cons (opens_slice Try.underlying22 (by kernel_rfl) (op94)) rfl (by kernel_rfl) (opensF_cons (opens_slice Try.underlying51 (by kernel_rfl) (opens_int .i64 Try.underlying3)) rfl (by kernel_rfl) (opensF_cons (opens_slice Try.underlying29 (by kernel_rfl) (opens_string Try.underlying9)) rfl (by kernel_rfl) (opensF_one (opens_slice Try.underlying84 (by kernel_rfl) (op179)) rfl (by kernel_rfl))))))) _ (fun p => (⟨p.1, p.2.1, p.2.2.1, p.2.2.2.1, p.2.2.2.2⟩ : S86)) (fun _ => rfl)
theorem ok_wfPiece {x : S221} (h : wf221 x) : Lw.okPiece x := trivial
theorem ok_wfInode {x : S199} (h : wf199 x) : Lw.okInode x := ⟨h.2.2.1, ⟨h.2.2.2.2.2.2.2.1.1, fun y hy => ok_wfPiece (h.2.2.2.2.2.2.2.1.2 y hy)⟩⟩
theorem ok_wfTree {x : S59} (h : wf59 x) : Lw.okTree x := ⟨h.1.1, fun y hy => ok_wfInode (h.1.2 y hy)⟩
theorem ok_wfFile {x : S201} (h : wf201 x) : Lw.okFile x := ⟨h.1, h.2.1⟩
theorem ok_wfDisk {x : S62} (h : wf62 x) : Lw.okDisk x := ⟨h.1, fun y hy => ok_wfFile (h.2 y hy)⟩
theorem ok_wfLease {x : S161} (h : wf161 x) : Lw.okLease x := h.1
theorem ok_wfServer {x : S65} (h : wf65 x) : Lw.okServer x := ⟨ok_wfTree h.2.1, ok_wfDisk h.2.2.2.1, ⟨h.2.2.2.2.1.1, fun y hy => ok_wfLease (h.2.2.2.2.1.2 y hy)⟩⟩
theorem ok_wfUnit {x : S182} (h : wf182 x) : Lw.okUnit x := h.2.2.1
theorem ok_wfHost {x : S94} (h : wf94 x) : Lw.okHost x := ⟨h.2.2.1, fun y hy => ok_wfUnit (h.2.2.2 y hy)⟩
theorem ok_wfSize {x : S179} (h : wf179 x) : Lw.okSize x := h.2
theorem ok_wfWorld {x : S86} (h : wf86 x) : Lw.okWorld x := ⟨ok_wfServer h.1, ⟨h.2.1.1, fun y hy => ok_wfHost (h.2.1.2 y hy)⟩, ⟨h.2.2.1.1, fun y hy => trivial⟩, ⟨h.2.2.2.1.1, fun y hy => h.2.2.2.1.2 y hy⟩, ⟨h.2.2.2.2.1, fun y hy => ok_wfSize (h.2.2.2.2.2 y hy)⟩⟩
def Pure : Prop := ∀ (x0 : S86), wf86 x0 → ∃ k, laws_FnExactEnoughLeft.f k (x0.f0.f0) (x0.f0.f1.f0) (x0.f0.f1.f1) (x0.f0.f2) (x0.f0.f3.f0) (x0.f0.f4) (x0.f0.f5) (x0.f1) (x0.f2) (x0.f3) (x0.f4) = some true
end Go.Proofs.Ytfgnaneajonapaa.SFnExactEnoughLeft

/- Check sums: the program's SumText and the reference's are one function of the text. -/
namespace Go.Proofs.Ytfgnaneajonapaa.Pu
open Go.RowKit Go.Proofs.YtfgnaneajonapaaW.PrintWords Go.Proofs.Ytfgnaneajonapaa.Pr Go.Proofs.Ytfgnaneajonapaa.Evs Go.Proofs.Ytfgnaneajonapaa.Lw
set_option linter.unusedVariables false

def bit1 (s : Int) : Int := if Int.tmod s 2 = 1 then Go.bits .xor .u32 ((Int.tdiv s 2) % 4294967296) 3558460437 else (Int.tdiv s 2) % 4294967296
def bitN : Nat → Int → Int
  | 0, s => s
  | d + 1, s => bitN d (bit1 s)
def sumFrom (t : ByteArray) : Int → Nat → Nat → Int
  | s, _, 0 => s
  | s, i, d + 1 => sumFrom t (bitN 8 (Go.bits .xor .u32 s ((bt t (i : Int)) % 4294967296))) (i + 1) d
theorem spec_SumMore_l1 (t : ByteArray) (i r : Int) (d : Nat) : ∀ (s j : Int), 0 ≤ j → j + d = 8 → Ev (fun k => spec_SumMore.l0 k (bitN d s) t (wrap64 (i + 1))) r → Ev (fun k => spec_SumMore.l1 k s t i j) r := by
  induction d with
  | zero => intro s j h0 h8 h; exact ev_step (fun k => spec_SumMore.l1.eq_2 _ _ _ _ k) (ev_neg (by omega) h)
  | succ d ih =>
    intro s j h0 h8 h
    refine ev_step (fun k => spec_SumMore.l1.eq_2 _ _ _ _ k) (ev_pos (by omega) ?_)
    have e : wrap64 (j + 1) = j + 1 := wrap_in (by omega) (by omega)
    rw [e]
    have h' := ih (bit1 s) (j + 1) (by omega) (by omega) h
    unfold bit1 at h'
    by_cases c : Int.tmod s 2 = 1
    · exact ev_pos c (by rw [if_pos c] at h'; exact h')
    · exact ev_neg c (by rw [if_neg c] at h'; exact h')
theorem spec_SumMore_l0 (t : ByteArray) (ht : t.size < 9223372036854775807) (d : Nat) : ∀ (s : Int) (i : Nat), i + d = t.size → Ev (fun k => spec_SumMore.l0 k s t (i : Int)) (sumFrom t s i d) := by
  induction d with
  | zero => intro s i h; exact ev_step (fun k => spec_SumMore.l0.eq_2 _ _ _ k) (ev_neg (by omega) (ev_some _))
  | succ d ih =>
    intro s i h
    refine ev_step (fun k => spec_SumMore.l0.eq_2 _ _ _ k) (ev_pos (by omega) (ev_pos (by omega) (spec_SumMore_l1 _ _ _ 8 _ _ (by omega) (by omega) ?_)))
    rw [wrap_in (by omega) (by omega)]
    exact ih _ (i + 1) (by omega)
theorem impl_SumMore_l1 (t : ByteArray) (i r : Int) (d : Nat) : ∀ (s j : Int), 0 ≤ j → j + d = 8 → Ev (fun k => impl_SumMore.l0 k (bitN d s) t (wrap64 (i + 1))) r → Ev (fun k => impl_SumMore.l1 k s t i j) r := by
  induction d with
  | zero => intro s j h0 h8 h; exact ev_step (fun k => impl_SumMore.l1.eq_2 _ _ _ _ k) (ev_neg (by omega) h)
  | succ d ih =>
    intro s j h0 h8 h
    refine ev_step (fun k => impl_SumMore.l1.eq_2 _ _ _ _ k) (ev_pos (by omega) ?_)
    have e : wrap64 (j + 1) = j + 1 := wrap_in (by omega) (by omega)
    rw [e]
    have h' := ih (bit1 s) (j + 1) (by omega) (by omega) h
    unfold bit1 at h'
    by_cases c : Int.tmod s 2 = 1
    · exact ev_pos c (by rw [if_pos c] at h'; exact h')
    · exact ev_neg c (by rw [if_neg c] at h'; exact h')
theorem impl_SumMore_l0 (t : ByteArray) (ht : t.size < 9223372036854775807) (d : Nat) : ∀ (s : Int) (i : Nat), i + d = t.size → Ev (fun k => impl_SumMore.l0 k s t (i : Int)) (sumFrom t s i d) := by
  induction d with
  | zero => intro s i h; exact ev_step (fun k => impl_SumMore.l0.eq_2 _ _ _ k) (ev_neg (by omega) (ev_some _))
  | succ d ih =>
    intro s i h
    refine ev_step (fun k => impl_SumMore.l0.eq_2 _ _ _ k) (ev_pos (by omega) (ev_pos (by omega) (impl_SumMore_l1 _ _ _ 8 _ _ (by omega) (by omega) ?_)))
    rw [wrap_in (by omega) (by omega)]
    exact ih _ (i + 1) (by omega)
def sumText (t : ByteArray) : Int := wrap64 (sumFrom t 4294967295 0 t.size)
theorem spec_SumText_ev (t : ByteArray) (ht : t.size < 9223372036854775807) : Ev (fun k => spec_SumText.f k t) (sumText t) := by
  unfold spec_SumText.f spec_SumOf.f spec_SumMore.f
  have h := spec_SumMore_l0 t ht t.size 4294967295 0 (by omega)
  exact ev_bind (ev_bind (by simpa using h) (ev_some _)) (ev_some _)
theorem impl_SumText_ev (t : ByteArray) (ht : t.size < 9223372036854775807) : Ev (fun k => impl_SumText.f k t) (sumText t) := by
  unfold impl_SumText.f impl_SumOf.f impl_SumMore.f
  have h := impl_SumMore_l0 t ht t.size 4294967295 0 (by omega)
  exact ev_bind (ev_bind (by simpa using h) (ev_some _)) (ev_some _)
end Go.Proofs.Ytfgnaneajonapaa.Pu

/- GetUnit: the program's and the reference's are one function of a host. -/
namespace Go.Proofs.Ytfgnaneajonapaa.Pu
open Go.RowKit Go.Proofs.YtfgnaneajonapaaW.PrintWords Go.Proofs.Ytfgnaneajonapaa.Pr Go.Proofs.Ytfgnaneajonapaa.Evs Go.Proofs.Ytfgnaneajonapaa.Lw
set_option linter.unusedVariables false

theorem idxF_range {α : Type} (p : α → Bool) (s : List α) : ∀ j : Nat, idxF p s j = -1 ∨ ((j : Int) ≤ idxF p s j ∧ idxF p s j < j + s.length) := by
  induction s with
  | nil => intro j; exact .inl rfl
  | cons x s ih =>
    intro j
    unfold idxF
    split
    · exact .inr ⟨by omega, by simp; omega⟩
    · rcases ih (j + 1) with h | h
      · exact .inl h
      · exact .inr ⟨by omega, by simp; omega⟩
theorem spec_l14At_loop (g i a : Int) (b : Bool) (s : List ImUnit) : ∀ (p : List ImUnit), p.length + s.length < 9223372036854775807 → Ev (fun k => spec_l14At.l0 k g i (p.length : Int) a b (p ++ s)) (idxF (isAt g i) s p.length) := by
  induction s with
  | nil => intro p hl; exact ev_step (fun k => spec_l14At.l0.eq_2 _ _ _ _ _ _ k) (ev_neg (by simp) (ev_some _))
  | cons x s ih =>
    intro p hl
    simp at hl
    refine ev_step (fun k => spec_l14At.l0.eq_2 _ _ _ _ _ _ k) (ev_pos (by simp; omega) (ev_pos (by omega) ?_))
    have e : wrap64 ((p.length : Int) + 1) = (p.length : Int) + 1 := wrap_in (by omega) (by omega)
    simp only [rd146, e]
    have h := ih (p ++ [x]) (by simp; omega)
    simp only [List.length_append, List.length_cons, List.length_nil, List.append_assoc, List.cons_append, List.nil_append] at h
    have h' : Ev (fun k => spec_l14At.l0 k g i ((p.length : Int) + 1) a b (p ++ x :: s)) (idxF (isAt g i) s (p.length + 1)) := by simpa using h
    by_cases c : x.f0 = g
    · refine ev_pos c ?_
      by_cases c2 : x.f1 = i
      · exact ev_pos c2 (ev_eq (ev_some _) (by rw [idxF, if_pos (by simp [isAt, c, c2])]))
      · exact ev_neg c2 (ev_eq h' (by rw [idxF, if_neg (by simp [isAt, c, c2])]))
    · exact ev_neg c (ev_eq h' (by rw [idxF, if_neg (by simp [isAt, c])]))
def getUnit (up : Bool) (us : List ImUnit) (g i : Int) : ByteArray × Bool :=
  if up = true then (if idxF (isAt g i) us 0 < 0 then (⟨#[]⟩, false) else if (rd_T146 us (idxF (isAt g i) us 0)).f3 = sumText (rd_T146 us (idxF (isAt g i) us 0)).f2 then ((rd_T146 us (idxF (isAt g i) us 0)).f2, true) else (⟨#[]⟩, false)) else (⟨#[]⟩, false)
theorem getUnit_no {up : Bool} {us : List ImUnit} {g i : Int} (h : (getUnit up us g i).2 = false) : (getUnit up us g i).1 = ⟨#[]⟩ := by
  unfold getUnit at h ⊢
  split
  · rename_i h1
    rw [if_pos h1] at h
    split
    · rfl
    · rename_i h2
      rw [if_neg h2] at h
      split
      · rename_i h3
        rw [if_pos h3] at h
        cases h
      · rfl
  · rfl
/-- What the lists of units that come in are: short, and so are their texts. -/
def shortU (us : List ImUnit) : Prop := us.length < 9223372036854775807 ∧ ∀ u ∈ us, u.f2.size < 9223372036854775807
theorem shortU_at {us : List ImUnit} (h : shortU us) (i : Int) : (rd_T146 us i).f2.size < 9223372036854775807 := by
  unfold rd_T146
  by_cases c : i.toNat < us.length
  · simp only [List.getD, List.getElem?_eq_getElem c, Option.getD_some]
    exact h.2 _ (List.getElem_mem c)
  · have e : us[i.toNat]? = none := List.getElem?_eq_none (by omega)
    rw [List.getD, e]
    decide
theorem spec_GetUnit_ev (a : Int) (up : Bool) (us : List ImUnit) (g i : Int) (h : shortU us) : Ev (fun k => spec_GetUnit.f k a up us g i) (getUnit up us g i) := by
  unfold spec_GetUnit.f spec_l14At.f getUnit
  have h1 := spec_l14At_loop g i a up us [] (by simpa using h.1)
  refine ev_bind (by simpa using h1) ?_
  have hr := idxF_range (isAt g i) us 0
  refine ev_ite (fun c => ev_ite (fun c => ev_some _) (fun c => ev_pos (by omega) (ev_pos (by omega) (ev_bind (spec_SumText_ev _ (shortU_at h _)) ?_)))) (fun c => ev_some _)
  exact ev_ite (fun c => ev_some _) (fun c => ev_some _)
theorem impl_GetUnit_ev (a : Int) (up : Bool) (us : List ImUnit) (g i : Int) (h : shortU us) : Ev (fun k => impl_GetUnit.f k a up us g i) (getUnit up us g i) := by
  unfold impl_GetUnit.f impl_unitAt.f getUnit
  refine ev_call rfl ?_
  have hr := idxF_range (isAt g i) us 0
  refine ev_ite (fun c => ev_ite (fun c => ev_some _) (fun c => ev_pos (by omega) (ev_pos (by omega) (ev_bind (impl_SumText_ev _ (shortU_at h _)) ?_)))) (fun c => ev_some _)
  exact ev_ite (fun c => ev_some _) (fun c => ev_some _)
end Go.Proofs.Ytfgnaneajonapaa.Pu

/- UnitsOf and LeftOf: the program's and the reference's are one function of the hosts. -/
namespace Go.Proofs.Ytfgnaneajonapaa.Pu
open Go.RowKit Go.Proofs.YtfgnaneajonapaaW.PrintWords Go.Proofs.Ytfgnaneajonapaa.Pr Go.Proofs.Ytfgnaneajonapaa.Evs Go.Proofs.Ytfgnaneajonapaa.Lw
set_option linter.unusedVariables false

/-- What lists of hosts that come in are. -/
def shortH (hs : List ImHost) : Prop := hs.length < 9223372036854775807 ∧ ∀ h ∈ hs, shortU h.f2
/-- The unit of the first host that has it. -/
def firstU : List ImHost → Int → Int → ByteArray × Bool
  | [], _, _ => (⟨#[]⟩, false)
  | h :: s, g, i => if (getUnit h.f1 h.f2 g i).2 = true then getUnit h.f1 h.f2 g i else firstU s g i
theorem firstU_no (s : List ImHost) (g i : Int) (h : (firstU s g i).2 = false) : (firstU s g i).1 = ⟨#[]⟩ := by
  induction s with
  | nil => rfl
  | cons x s ih =>
    unfold firstU at h ⊢
    split
    · rename_i h1
      rw [if_pos h1] at h
      rw [h1] at h
      cases h
    · rename_i h1
      rw [if_neg h1] at h
      exact ih h
/-- Of all places from i on, d of them. -/
def fromU (hs : List ImHost) (g : Int) : Nat → Nat → List (ByteArray × Bool)
  | _, 0 => []
  | i, d + 1 => firstU hs g (i : Int) :: fromU hs g (i + 1) d
theorem fromU_length (hs : List ImHost) (g : Int) (d : Nat) : ∀ i, (fromU hs g i d).length = d := by
  induction d with
  | zero => intro i; rfl
  | succ d ih => intro i; simp [fromU, ih]
def schemaOf (s : Int) : Int × Int × Bool := if s = 1 then (2, 1, true) else if s = 2 then (3, 2, true) else if s = 3 then (4, 2, true) else (0, 0, false)
theorem spec_SchemaOf_eq (s : Int) : spec_SchemaOf.f s = some (schemaOf s) := by
  unfold spec_SchemaOf.f schemaOf
  split
  · rfl
  · split
    · rfl
    · split <;> rfl
theorem impl_SchemaOf_eq (s : Int) : impl_SchemaOf.f s = some (schemaOf s) := by
  unfold impl_SchemaOf.f schemaOf
  split
  · rfl
  · split
    · rfl
    · split <;> rfl
/-- How many units and sums a scheme has. -/
def many (s : Int) : Nat := if s = 1 then 3 else if s = 2 then 5 else if s = 3 then 6 else 0
theorem many_eq (s : Int) : (schemaOf s).1 + (schemaOf s).2.1 = (many s : Int) := by
  unfold schemaOf many
  split
  · rfl
  · split
    · rfl
    · split <;> rfl
theorem many_le (s : Int) : many s ≤ 6 := by unfold many; split <;> (try split) <;> (try split) <;> omega
theorem many_wrap (s : Int) : wrap64 ((schemaOf s).1 + (schemaOf s).2.1) = (many s : Int) := by
  have := many_le s
  rw [many_eq]
  exact wrap_in (by omega) (by omega)
def unitsOf (hs : List ImHost) (s g : Int) : List ByteArray × List Bool := ((fromU hs g 0 (many s)).map (·.1), (fromU hs g 0 (many s)).map (·.2))
-- the program's
theorem impl_UnitsOf_l1 (hs : List ImHost) (g a b : Int) (i : Int) (xs : List ByteArray) (ys : List Bool) (r : List ByteArray × List Bool) (hx : xs.length < 1000000) (hy : ys.length < 1000000) (s : List ImHost)
    (hE : Ev (fun k => impl_UnitsOf.l0 k hs g a b (xs ++ [(firstU s g i).1]) (ys ++ [(firstU s g i).2]) (wrap64 (i + 1))) r) : ∀ (p : List ImHost) (n : Int), n = ((p ++ s).length : Int) → shortH (p ++ s) →
    Ev (fun k => impl_UnitsOf.l1 k hs g a b xs ys i ⟨#[]⟩ false (p ++ s) n (p.length : Int)) r := by
  induction s with
  | nil =>
    intro p n hn hs
    exact ev_step (fun k => impl_UnitsOf.l1.eq_2 _ _ _ _ _ _ _ _ _ _ _ _ k) (ev_neg (by simp at hn; omega) (ev_pos (by omega) (ev_pos (by omega) hE)))
  | cons x s ih =>
    intro p n hn hs
    have hl := hs.1
    simp at hl hn
    have hu : shortU x.f2 := hs.2 x (by simp)
    refine ev_step (fun k => impl_UnitsOf.l1.eq_2 _ _ _ _ _ _ _ _ _ _ _ _ k) (ev_pos (by omega) (ev_pos (by omega) (ev_pos (by simp; omega) ?_)))
    have e : wrap64 ((p.length : Int) + 1) = (p.length : Int) + 1 := wrap_in (by omega) (by omega)
    simp only [rd97, e]
    refine ev_bind (impl_GetUnit_ev x.f0 x.f1 x.f2 g i hu) ?_
    by_cases c : (getUnit x.f1 x.f2 g i).2 = true
    · refine ev_pos c (ev_pos (by omega) (ev_pos (by omega) ?_))
      rw [firstU, if_pos c] at hE
      exact hE
    · have hf : (getUnit x.f1 x.f2 g i).2 = false := by simpa using c
      refine ev_neg c ?_
      rw [getUnit_no hf, hf]
      rw [firstU, if_neg c] at hE
      have h := ih hE (p ++ [x]) n (by simp; omega) (by simpa using hs)
      simpa using h
theorem impl_UnitsOf_l0 (hs : List ImHost) (hh : shortH hs) (g a b : Int) (m : Nat) (hm : wrap64 (a + b) = (m : Int)) (hm6 : m ≤ 6) (d : Nat) : ∀ (i : Nat) (xs : List ByteArray) (ys : List Bool), i + d = m → xs.length + d ≤ 100 → ys.length + d ≤ 100 →
    Ev (fun k => impl_UnitsOf.l0 k hs g a b xs ys (i : Int)) (xs ++ (fromU hs g i d).map (·.1), ys ++ (fromU hs g i d).map (·.2)) := by
  induction d with
  | zero => intro i xs ys hi hx hy; exact ev_step (fun k => impl_UnitsOf.l0.eq_2 _ _ _ _ _ _ _ k) (ev_neg (by rw [hm]; omega) (ev_eq (ev_some _) (by simp [fromU])))
  | succ d ih =>
    intro i xs ys hi hx hy
    refine ev_step (fun k => impl_UnitsOf.l0.eq_2 _ _ _ _ _ _ _ k) (ev_pos (by rw [hm]; omega) ?_)
    have h := ih (i + 1) (xs ++ [(firstU hs g (i : Int)).1]) (ys ++ [(firstU hs g (i : Int)).2]) (by omega) (by simp; omega) (by simp; omega)
    have e : wrap64 ((i : Int) + 1) = ((i + 1 : Nat) : Int) := by rw [wrap_in (by omega) (by omega)]; omega
    have h2 := impl_UnitsOf_l1 hs g a b (i : Int) xs ys _ (by omega) (by omega) hs (by rw [e]; exact h) [] (hs.length : Int) (by simp) (by simpa using hh)
    refine ev_eq (by simpa using h2) ?_
    simp [fromU]
theorem impl_UnitsOf_ev (hs : List ImHost) (hh : shortH hs) (s g : Int) : Ev (fun k => impl_UnitsOf.f k hs s g) (unitsOf hs s g) := by
  unfold impl_UnitsOf.f
  refine ev_call (impl_SchemaOf_eq s) ?_
  have := many_le s
  have h := impl_UnitsOf_l0 hs hh g _ _ (many s) (many_wrap s) (many_le s) (many s) 0 [] [] (by omega) (by simp; omega) (by simp; omega)
  simpa [unitsOf] using h
-- the reference's
theorem set_snoc {α : Type} (xs : List α) (z y : α) (zs : List α) (i : Int) (hi : i = (xs.length : Int)) : (xs ++ z :: zs).set i.toNat y = (xs ++ [y]) ++ zs := by rw [set_mid _ _ _ _ _ hi]; simp
theorem rdOf_mid (xs zs : List Bool) (z : Bool) (i : Int) (hi : i = (xs.length : Int)) : rdOf false (xs ++ z :: zs) i = z := by unfold rdOf; exact getD_mid' _ _ _ _ _ hi
theorem spec_UnitsOf_l1 (hs : List ImHost) (g a b : Int) (i : Int) (xs : List ByteArray) (ys : List Bool) (xt : List ByteArray) (yt : List Bool) (r : List ByteArray × List Bool) (hxi : i = (xs.length : Int)) (hyi : i = (ys.length : Int)) (s : List ImHost)
    (hE : Ev (fun k => spec_UnitsOf.l0 k hs g a b (xs ++ (firstU s g i).1 :: xt) (ys ++ (firstU s g i).2 :: yt) (wrap64 (i + 1))) r) : ∀ (p : List ImHost), hs = p ++ s → shortH (p ++ s) →
    Ev (fun k => spec_UnitsOf.l1 k hs g a b (xs ++ ⟨#[]⟩ :: xt) (ys ++ false :: yt) i (p.length : Int)) r := by
  induction s with
  | nil =>
    intro p hp hs'
    subst hp
    exact ev_step (fun k => spec_UnitsOf.l1.eq_2 _ _ _ _ _ _ _ _ k) (ev_neg (by simp) (ev_step (fun k => spec_UnitsOf.j2.eq_2 _ _ _ _ _ _ _ _ _ k) (ev_neg (by simp) hE)))
  | cons x s ih =>
    intro p hp hs'
    have hl := hs'.1
    simp at hl
    have hu : shortU x.f2 := hs'.2 x (by simp)
    have e : wrap64 ((p.length : Int) + 1) = (p.length : Int) + 1 := wrap_in (by omega) (by omega)
    have hrd : rd_T97 hs (p.length : Int) = x := by rw [hp]; exact rd97 p s x
    refine ev_step (fun k => spec_UnitsOf.l1.eq_2 _ _ _ _ _ _ _ _ k) (ev_pos (by rw [hp]; simp; omega) (ev_pos (by omega) (ev_pos (by simp; omega) ?_)))
    rw [rdOf_mid _ _ _ _ hyi]
    refine ev_step (fun k => spec_UnitsOf.j2.eq_2 _ _ _ _ _ _ _ _ _ k) (ev_pos (by simp) (ev_pos (by omega) (ev_pos (by rw [hp]; simp; omega) ?_)))
    simp only [hrd, e]
    refine ev_bind (spec_GetUnit_ev x.f0 x.f1 x.f2 g i hu) ?_
    by_cases c : (getUnit x.f1 x.f2 g i).2 = true
    · refine ev_pos c (ev_pos (by omega) (ev_pos (by simp; omega) (ev_pos (by simp; omega) ?_)))
      rw [firstU, if_pos c, c] at hE
      simp only [set_mid _ _ _ _ _ hxi, set_mid _ _ _ _ _ hyi]
      -- the rest of the hosts is not asked
      have hstop : ∀ q : Int, 0 ≤ q → Ev (fun k => spec_UnitsOf.l1 k hs g a b (xs ++ (getUnit x.f1 x.f2 g i).1 :: xt) (ys ++ true :: yt) i q) r := by
        intro q hq
        refine ev_step (fun k => spec_UnitsOf.l1.eq_2 _ _ _ _ _ _ _ _ k) ?_
        by_cases c2 : q < (hs.length : Int)
        · refine ev_pos c2 (ev_pos (by omega) (ev_pos (by simp; omega) ?_))
          rw [rdOf_mid _ _ _ _ hyi]
          exact ev_step (fun k => spec_UnitsOf.j2.eq_2 _ _ _ _ _ _ _ _ _ k) (ev_neg (by simp) hE)
        · exact ev_neg c2 (ev_step (fun k => spec_UnitsOf.j2.eq_2 _ _ _ _ _ _ _ _ _ k) (ev_neg (by simp) hE))
      exact hstop _ (by omega)
    · refine ev_neg c ?_
      rw [firstU, if_neg c] at hE
      have h := ih hE (p ++ [x]) (by simpa using hp) (by simpa using hs')
      simpa using h
theorem spec_UnitsOf_l0 (hs : List ImHost) (hh : shortH hs) (g a b : Int) (m : Nat) (hm : wrap64 (a + b) = (m : Int)) (hm6 : m ≤ 6) (d : Nat) : ∀ (i : Nat) (xs : List ByteArray) (ys : List Bool), i + d = m → xs.length = i → ys.length = i →
    Ev (fun k => spec_UnitsOf.l0 k hs g a b (xs ++ List.replicate d ⟨#[]⟩) (ys ++ List.replicate d false) (i : Int)) (xs ++ (fromU hs g i d).map (·.1), ys ++ (fromU hs g i d).map (·.2)) := by
  induction d with
  | zero => intro i xs ys hi hx hy; exact ev_step (fun k => spec_UnitsOf.l0.eq_2 _ _ _ _ _ _ _ k) (ev_neg (by rw [hm]; omega) (ev_eq (ev_some _) (by simp [fromU])))
  | succ d ih =>
    intro i xs ys hi hx hy
    refine ev_step (fun k => spec_UnitsOf.l0.eq_2 _ _ _ _ _ _ _ k) (ev_pos (by rw [hm]; omega) ?_)
    have h := ih (i + 1) (xs ++ [(firstU hs g (i : Int)).1]) (ys ++ [(firstU hs g (i : Int)).2]) (by omega) (by simp; omega) (by simp; omega)
    have e : wrap64 ((i : Int) + 1) = ((i + 1 : Nat) : Int) := by rw [wrap_in (by omega) (by omega)]; omega
    have h2 := spec_UnitsOf_l1 hs g a b (i : Int) xs ys (List.replicate d ⟨#[]⟩) (List.replicate d false) _ (by omega) (by omega) hs (by rw [e]; simpa using h) [] (by simp) (by simpa using hh)
    refine ev_eq (by simpa [List.replicate_succ] using h2) ?_
    simp [fromU]
theorem spec_UnitsOf_ev (hs : List ImHost) (hh : shortH hs) (s g : Int) : Ev (fun k => spec_UnitsOf.f k hs s g) (unitsOf hs s g) := by
  unfold spec_UnitsOf.f
  refine ev_call (spec_SchemaOf_eq s) ?_
  have := many_le s
  simp only [many_wrap]
  refine ev_pos (by omega) (ev_pos (by omega) (ev_pos (by omega) ?_))
  have h := spec_UnitsOf_l0 hs hh g _ _ (many s) (many_wrap s) (many_le s) (many s) 0 [] [] (by omega) rfl rfl
  simpa [unitsOf] using h
end Go.Proofs.Ytfgnaneajonapaa.Pu

/- LeftOf: the program's and the reference's are one function of the hosts. -/
namespace Go.Proofs.Ytfgnaneajonapaa.Pu
open Go.RowKit Go.Proofs.YtfgnaneajonapaaW.PrintWords Go.Proofs.Ytfgnaneajonapaa.Pr Go.Proofs.Ytfgnaneajonapaa.Evs Go.Proofs.Ytfgnaneajonapaa.Lw
set_option linter.unusedVariables false

def trues : List Bool → Nat
  | [] => 0
  | b :: s => (if b = true then 1 else 0) + trues s
theorem trues_le (s : List Bool) : trues s ≤ s.length := by
  induction s with
  | nil => simp [trues]
  | cons b s ih => simp [trues]; split <;> omega
theorem spec_LeftOf_loop (s : List Bool) : ∀ (p : List Bool) (n : Int), 0 ≤ n → n + s.length < 9223372036854775807 → p.length + s.length < 9223372036854775807 → Ev (fun k => spec_LeftOf.l0 k (p ++ s) n (p.length : Int)) (n + (trues s : Int)) := by
  induction s with
  | nil => intro p n h0 h1 hl; exact ev_step (fun k => spec_LeftOf.l0.eq_2 _ _ _ k) (ev_neg (by simp) (ev_eq (ev_some _) (by simp [trues])))
  | cons x s ih =>
    intro p n h0 h1 hl
    simp at hl h1
    refine ev_step (fun k => spec_LeftOf.l0.eq_2 _ _ _ k) (ev_pos (by simp; omega) (ev_pos (by omega) ?_))
    have e : wrap64 ((p.length : Int) + 1) = (p.length : Int) + 1 := wrap_in (by omega) (by omega)
    have e1 : wrap64 (n + 1) = n + 1 := wrap_in (by omega) (by omega)
    have er : rdOf false (p ++ x :: s) (p.length : Int) = x := by unfold rdOf; exact getD_mid' _ _ _ _ _ rfl
    simp only [er, e, e1]
    by_cases c : x = true
    · refine ev_pos c (ev_eq (by simpa using ih (p ++ [x]) (n + 1) (by omega) (by omega) (by simp; omega)) ?_)
      simp [trues, c]; omega
    · refine ev_neg c (ev_eq (by simpa using ih (p ++ [x]) n (by omega) (by omega) (by simp; omega)) ?_)
      simp [trues, c]
theorem impl_LeftOf_loop (m : Int) (s : List Bool) : ∀ (p : List Bool) (n : Int), m = ((p ++ s).length : Int) → 0 ≤ n → n + s.length < 9223372036854775807 → p.length + s.length < 9223372036854775807 → Ev (fun k => impl_LeftOf.l0 k n (p ++ s) m (p.length : Int)) (n + (trues s : Int)) := by
  induction s with
  | nil => intro p n hm h0 h1 hl; exact ev_step (fun k => impl_LeftOf.l0.eq_2 _ _ _ _ k) (ev_neg (by simp at hm; omega) (ev_eq (ev_some _) (by simp [trues])))
  | cons x s ih =>
    intro p n hm h0 h1 hl
    simp at hl h1 hm
    refine ev_step (fun k => impl_LeftOf.l0.eq_2 _ _ _ _ k) (ev_pos (by omega) (ev_pos (by omega) (ev_pos (by simp; omega) ?_)))
    have e : wrap64 ((p.length : Int) + 1) = (p.length : Int) + 1 := wrap_in (by omega) (by omega)
    have e1 : wrap64 (n + 1) = n + 1 := wrap_in (by omega) (by omega)
    have er : rdOf false (p ++ x :: s) (p.length : Int) = x := by unfold rdOf; exact getD_mid' _ _ _ _ _ rfl
    simp only [er, e, e1]
    by_cases c : x = true
    · refine ev_pos c (ev_eq (by simpa using ih (p ++ [x]) (n + 1) (by simp; omega) (by omega) (by omega) (by simp; omega)) ?_)
      simp [trues, c]; omega
    · refine ev_neg c (ev_eq (by simpa using ih (p ++ [x]) n (by simp; omega) (by omega) (by omega) (by simp; omega)) ?_)
      simp [trues, c]
def leftOf (hs : List ImHost) (s g : Int) : Int := (trues (unitsOf hs s g).2 : Int)
theorem unitsOf_len (hs : List ImHost) (s g : Int) : (unitsOf hs s g).2.length ≤ 6 := by
  have := many_le s
  simp [unitsOf, fromU_length]
  omega
theorem impl_LeftOf_ev (hs : List ImHost) (hh : shortH hs) (s g : Int) : Ev (fun k => impl_LeftOf.f k hs s g) (leftOf hs s g) := by
  unfold impl_LeftOf.f
  refine ev_bind (impl_UnitsOf_ev hs hh s g) ?_
  have := unitsOf_len hs s g
  have h := impl_LeftOf_loop _ (unitsOf hs s g).2 [] 0 rfl (by omega) (by omega) (by simp; omega)
  simpa [leftOf] using h
theorem spec_LeftOf_ev (hs : List ImHost) (hh : shortH hs) (s g : Int) : Ev (fun k => spec_LeftOf.f k hs s g) (leftOf hs s g) := by
  unfold spec_LeftOf.f
  refine ev_bind (spec_UnitsOf_ev hs hh s g) ?_
  have := unitsOf_len hs s g
  have h := spec_LeftOf_loop (unitsOf hs s g).2 [] 0 (by omega) (by omega) (by simp; omega)
  simpa [leftOf] using h
theorem short_bd {hs : List ImHost} (h : hs.length ≤ 1048576) (h' : ∀ x ∈ hs, bdHost x) : shortH hs :=
  ⟨by omega, fun x hx => ⟨by have := (h' x hx).1; omega, fun u hu => by have := (h' x hx).2 u hu; unfold bdUnit at this; omega⟩⟩
theorem short_to (l : List LHost) (h : wtHostS l ≤ 1048576) : shortH (l.map toHost) := short_bd (bd_toHostS l h).1 (bd_toHostS l h).2
theorem ln_to (l : List LHost) (h : wtHostS l ≤ 1048576) : ∀ x ∈ l.map toHost, lnHost x := fun x hx => ln_bdHost ((bd_toHostS l h).2 x hx)
end Go.Proofs.Ytfgnaneajonapaa.Pu

/- EnoughLeft: the program's and the reference's are one function of the tree's nodes and the hosts. -/
namespace Go.Proofs.Ytfgnaneajonapaa.Pu
open Go.RowKit Go.Proofs.YtfgnaneajonapaaW.PrintWords Go.Proofs.Ytfgnaneajonapaa.Pr Go.Proofs.Ytfgnaneajonapaa.Evs Go.Proofs.Ytfgnaneajonapaa.Lw
set_option linter.unusedVariables false

def enoughP (hs : List ImHost) (s : Int) : List ImPiece → Bool
  | [] => true
  | x :: t => if leftOf hs s x.f0 < (schemaOf s).1 then false else enoughP hs s t
def enoughN (hs : List ImHost) : List ImInode → Bool
  | [] => true
  | n :: t => if enoughP hs n.f4 n.f7 = true then enoughN hs t else false
section
variable (hs : List ImHost) (hh : shortH hs) (b : Bool) (t0 : List ImInode) (c d : Int) (fs : List ImFile) (ls : List ImLease) (e : Int) (cs : List Int) (ts : List ByteArray) (zs : List ImSize)
include hh
theorem impl_EnoughLeft_l1 (ns : List ImInode) (n i : Int) (x : ImInode) (r : Bool) (s : List ImPiece)
    (hE : enoughP hs x.f4 s = true → Ev (fun k => impl_EnoughLeft.l0 k ns n (wrap64 (i + 1)) b t0 c d fs ls e hs cs ts zs) r) (hF : enoughP hs x.f4 s = false → r = false) :
    ∀ (p : List ImPiece) (m : Int), m = ((p ++ s).length : Int) → p.length + s.length < 9223372036854775807 →
    Ev (fun k => impl_EnoughLeft.l1 k (schemaOf x.f4).1 ns n i (p ++ s) m (p.length : Int) b t0 c d fs ls e hs cs ts zs x.f0 x.f1 x.f2 x.f3 x.f4 x.f5 x.f6 x.f7 x.f8) r := by
  induction s with
  | nil => intro p m hm hl; exact ev_step (fun k => impl_EnoughLeft.l1.eq_2 _ _ _ _ _ _ _ _ _ _ _ _ _ _ _ _ _ _ _ _ _ _ _ _ _ _ _ k) (ev_neg (by simp at hm; omega) (hE rfl))
  | cons y s ih =>
    intro p m hm hl
    simp at hm hl
    refine ev_step (fun k => impl_EnoughLeft.l1.eq_2 _ _ _ _ _ _ _ _ _ _ _ _ _ _ _ _ _ _ _ _ _ _ _ _ _ _ _ k) (ev_pos (by omega) (ev_pos (by omega) (ev_pos (by simp; omega) ?_)))
    have e1 : wrap64 ((p.length : Int) + 1) = (p.length : Int) + 1 := wrap_in (by omega) (by omega)
    simp only [rd137, e1]
    refine ev_bind (impl_LeftOf_ev hs hh x.f4 y.f0) ?_
    by_cases q : leftOf hs x.f4 y.f0 < (schemaOf x.f4).1
    · exact ev_pos q (ev_eq (ev_some _) (hF (by rw [enoughP, if_pos q])).symm)
    · refine ev_neg q ?_
      have h := ih (fun h => hE (by rw [enoughP, if_neg q]; exact h)) (fun h => hF (by rw [enoughP, if_neg q]; exact h)) (p ++ [y]) m (by simp; omega) (by simp; omega)
      simpa using h
theorem impl_EnoughLeft_l0 (n : Int) (s : List ImInode) : ∀ (p : List ImInode), n = ((p ++ s).length : Int) → p.length + s.length < 9223372036854775807 → (∀ x ∈ s, x.f7.length < 9223372036854775807) →
    Ev (fun k => impl_EnoughLeft.l0 k (p ++ s) n (p.length : Int) b t0 c d fs ls e hs cs ts zs) (enoughN hs s) := by
  induction s with
  | nil => intro p hn hl hx; exact ev_step (fun k => impl_EnoughLeft.l0.eq_2 _ _ _ _ _ _ _ _ _ _ _ _ _ _ k) (ev_neg (by simp at hn; omega) (ev_some _))
  | cons x s ih =>
    intro p hn hl hx
    simp at hn hl
    refine ev_step (fun k => impl_EnoughLeft.l0.eq_2 _ _ _ _ _ _ _ _ _ _ _ _ _ _ k) (ev_pos (by omega) (ev_pos (by omega) (ev_pos (by simp; omega) ?_)))
    have e1 : wrap64 ((p.length : Int) + 1) = (p.length : Int) + 1 := wrap_in (by omega) (by omega)
    simp only [rd135]
    refine ev_call (impl_SchemaOf_eq x.f4) ?_
    have h := impl_EnoughLeft_l1 hs hh b t0 c d fs ls e cs ts zs (p ++ x :: s) n (p.length : Int) x (enoughN hs (x :: s)) x.f7 (fun h => by
      have h0 := ih (p ++ [x]) (by simp; omega) (by simp; omega) (fun y hy => hx y (by simp [hy]))
      rw [e1, enoughN, if_pos h]
      simpa using h0) (fun h => by rw [enoughN, if_neg (by simp [h])]) [] (x.f7.length : Int) (by simp) (by simpa using hx x (by simp))
    simpa using h
theorem impl_EnoughLeft_ev (ht : t0.length < 9223372036854775807) (hx : ∀ x ∈ t0, x.f7.length < 9223372036854775807) : Ev (fun k => impl_EnoughLeft.f k b t0 c d fs ls e hs cs ts zs) (enoughN hs t0) := by
  unfold impl_EnoughLeft.f
  simpa using impl_EnoughLeft_l0 hs hh b t0 c d fs ls e cs ts zs (t0.length : Int) t0 [] (by simp) (by simpa using ht) hx
theorem spec_EnoughLeft_l1 (ns : List ImInode) (nx i : Int) (x : ImInode) (r : Bool) (hi : 0 ≤ i) (hi2 : i < (ns.length : Int)) (hrd : rd_T135 ns i = x) (s : List ImPiece)
    (hE : enoughP hs x.f4 s = true → Ev (fun k => spec_EnoughLeft.l0 k (wrap64 (i + 1)) b t0 c d fs ls e hs cs ts zs ns nx) r) (hF : enoughP hs x.f4 s = false → r = false) :
    ∀ (p : List ImPiece), x.f7 = p ++ s → p.length + s.length < 9223372036854775807 →
    Ev (fun k => spec_EnoughLeft.l1 k i (schemaOf x.f4).1 (p.length : Int) b t0 c d fs ls e hs cs ts zs ns nx) r := by
  induction s with
  | nil => intro p hm hl; exact ev_step (fun k => spec_EnoughLeft.l1.eq_2 _ _ _ _ _ _ _ _ _ _ _ _ _ _ _ _ k) (ev_pos hi (ev_pos hi2 (ev_neg (by rw [hrd, hm]; simp) (hE rfl))))
  | cons y s ih =>
    intro p hm hl
    simp at hl
    refine ev_step (fun k => spec_EnoughLeft.l1.eq_2 _ _ _ _ _ _ _ _ _ _ _ _ _ _ _ _ k) (ev_pos hi (ev_pos hi2 (ev_pos (by rw [hrd, hm]; simp; omega) (ev_pos (by omega) ?_))))
    have e1 : wrap64 ((p.length : Int) + 1) = (p.length : Int) + 1 := wrap_in (by omega) (by omega)
    have er : rd_T137 x.f7 (p.length : Int) = y := by rw [hm]; exact rd137 p s y
    simp only [hrd, er, e1]
    refine ev_bind (spec_LeftOf_ev hs hh x.f4 y.f0) ?_
    by_cases q : leftOf hs x.f4 y.f0 < (schemaOf x.f4).1
    · exact ev_pos q (ev_eq (ev_some _) (hF (by rw [enoughP, if_pos q])).symm)
    · refine ev_neg q ?_
      have h := ih (fun h => hE (by rw [enoughP, if_neg q]; exact h)) (fun h => hF (by rw [enoughP, if_neg q]; exact h)) (p ++ [y]) (by simpa using hm) (by simp; omega)
      simpa using h
theorem spec_EnoughLeft_l0 (nx : Int) (s : List ImInode) : ∀ (p : List ImInode), p.length + s.length < 9223372036854775807 → (∀ x ∈ s, x.f7.length < 9223372036854775807) →
    Ev (fun k => spec_EnoughLeft.l0 k (p.length : Int) b t0 c d fs ls e hs cs ts zs (p ++ s) nx) (enoughN hs s) := by
  induction s with
  | nil => intro p hl hx; exact ev_step (fun k => spec_EnoughLeft.l0.eq_2 _ _ _ _ _ _ _ _ _ _ _ _ _ _ k) (ev_neg (by simp) (ev_some _))
  | cons x s ih =>
    intro p hl hx
    simp at hl
    refine ev_step (fun k => spec_EnoughLeft.l0.eq_2 _ _ _ _ _ _ _ _ _ _ _ _ _ _ k) (ev_pos (by simp; omega) (ev_pos (by omega) ?_))
    have e1 : wrap64 ((p.length : Int) + 1) = (p.length : Int) + 1 := wrap_in (by omega) (by omega)
    simp only [rd135]
    refine ev_call (spec_SchemaOf_eq x.f4) ?_
    have h := spec_EnoughLeft_l1 hs hh b t0 c d fs ls e cs ts zs (p ++ x :: s) nx (p.length : Int) x (enoughN hs (x :: s)) (by omega) (by simp; omega) (rd135 p s x) x.f7 (fun h => by
      have h0 := ih (p ++ [x]) (by simp; omega) (fun y hy => hx y (by simp [hy]))
      rw [e1, enoughN, if_pos h]
      simpa using h0) (fun h => by rw [enoughN, if_neg (by simp [h])]) [] rfl (by simpa using hx x (by simp))
    simpa using h
theorem spec_EnoughLeft_ev (ht : t0.length < 9223372036854775807) (hx : ∀ x ∈ t0, x.f7.length < 9223372036854775807) : Ev (fun k => spec_EnoughLeft.f k b t0 c d fs ls e hs cs ts zs) (enoughN hs t0) := by
  unfold spec_EnoughLeft.f
  simpa using spec_EnoughLeft_l0 hs hh b t0 c d fs ls e cs ts zs c t0 [] (by simpa using ht) hx
end
end Go.Proofs.Ytfgnaneajonapaa.Pu

/- EnoughLeft: the program's answer is the reference's, for every world. -/
namespace Go.Proofs.Ytfgnaneajonapaa.Pure
open Go.RowKit Go.Proofs.YtfgnaneajonapaaW.PrintWords Go.Proofs.Ytfgnaneajonapaa.Pr Go.Proofs.Ytfgnaneajonapaa.Evs Go.Proofs.Ytfgnaneajonapaa.Lw Go.Proofs.Ytfgnaneajonapaa.Pu Go.Proofs.Ytfgnaneajonapaa.SFnExactEnoughLeft
set_option linter.unusedVariables false
theorem law_EnoughLeft (x : LWorld) (ho : okWorld x) : Ev (fun k => laws_FnExactEnoughLeft.f k (x.f0.f0) (x.f0.f1.f0) (x.f0.f1.f1) (x.f0.f2) (x.f0.f3.f0) (x.f0.f4) (x.f0.f5) (x.f1) (x.f2) (x.f3) (x.f4)) true := by
  unfold laws_FnExactEnoughLeft.f
  obtain ⟨r, hE, hR⟩ := szWorld_ev x 1048576 (by omega) (by omega) ho
  refine ev_bind hE ?_
  by_cases c : r < 0
  · exact ev_pos c (ev_some _)
  refine ev_neg c ?_
  have hw : wtWorld x ≤ 1048576 := by omega
  have hT := toWorld_ev x hw
  have hb := bd_toWorld x hw
  have hh : shortH (toWorld x).f1 := short_bd hb.2.1.1 hb.2.1.2
  have hn : (toWorld x).f0.f1.f0.length < 9223372036854775807 := by have := hb.1.1.1; omega
  have hp : ∀ y ∈ (toWorld x).f0.f1.f0, y.f7.length < 9223372036854775807 := fun y hy => by have := (hb.1.1.2 y hy).2.1; omega
  generalize toWorld x = z at *
  exact ev_bind hT (ev_bind (spec_EnoughLeft_ev z.f1 hh _ _ _ _ _ _ _ _ _ _ hn hp) (ev_bind hT (ev_bind (impl_EnoughLeft_ev z.f1 hh _ _ _ _ _ _ _ _ _ _ hn hp) (ev_neg (by simp) (ev_bind hT (ev_bind (eqWorld_refl z (ln_bdWorld hb)) (ev_pos rfl (ev_some _))))))))
theorem FnExactEnoughLeft : SFnExactEnoughLeft.Pure := by
  intro x hx
  exact ev_rounds (law_EnoughLeft x (ok_wfWorld hx))
end Go.Proofs.Ytfgnaneajonapaa.Pure
