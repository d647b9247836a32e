/- A part of the proof of the law FnExactMayWrite: its texts, one behind the other. -/
import Derived.ChangeArms
import Derived.Deep.Slices
import Derived.WideShapes
import Derived.Test.YtfgnaneajonapaaBFnExactMayWrite1
import Derived.Test.YtfgnaneajonapaaBFnExactMayWrite2
import Derived.Test.YtfgnaneajonapaaBFnExactMayWrite3
/- Printed out of the translation by this session's pr.py over the kit's print. Lean checks it. -/
namespace Go.Proofs.Ytfgnaneajonapaa.Pr
open Go.RowKit Go.Proofs.YtfgnaneajonapaaW.PrintWords Go.Proofs.YtfgnaneajonapaaW.PrintLast Go.Proofs.YtfgnaneajonapaaW.PrintMore
attribute [local go_sem] max2_int min2_int max_two min_two max_three min_three max_four min_four
set_option linter.unusedVariables false
set_option linter.unusedSimpArgs false

/-! ### laws_FnExactMayWrite: function 7 -/
def laws_FnExactMayWrite.f (k : Nat) (a0_0 : Bool) (l0_1 : List (S199)) (a0_2 : Int) (a0_3 : Int) (l0_4 : List (S201)) (l0_5 : List (S161)) (a0_6 : Int) (a1_0 : Int) (a1_1 : Int) (a1_2 : ByteArray) (a1_3 : ByteArray) (a1_4 : ByteArray) (a1_5 : Int) : Option (Bool) := (laws_szServer.f k a0_0 l0_1 a0_2 a0_3 l0_4 l0_5 a0_6 1048576).bind fun t560 => (if t560 < 0 then (some true) else ((laws_szAsk.f a1_0 a1_1 a1_2 a1_3 a1_4 a1_5 t560).bind fun t561 => (if t561 < 0 then (some true) else ((laws_toServer.f k a0_0 l0_1 a0_2 a0_3 l0_4 l0_5 a0_6).bind fun bt562 => ((laws_toAsk.f a1_0 a1_1 a1_2 a1_3 a1_4 a1_5).bind fun bt575 => ((spec_MayWrite.f k bt562.1 bt562.2.1 bt562.2.2.1 bt562.2.2.2.1 bt562.2.2.2.2.1 bt562.2.2.2.2.2.1 bt562.2.2.2.2.2.2 bt575.1 bt575.2.1 bt575.2.2.1 bt575.2.2.2.1 bt575.2.2.2.2.1 bt575.2.2.2.2.2).bind fun t581 => ((laws_toServer.f k a0_0 l0_1 a0_2 a0_3 l0_4 l0_5 a0_6).bind fun bt582 => ((laws_toAsk.f a1_0 a1_1 a1_2 a1_3 a1_4 a1_5).bind fun bt596 => ((impl_MayWrite.f k bt582.1 bt582.2.1 bt582.2.2.1 bt582.2.2.2.1 bt582.2.2.2.2.1 bt582.2.2.2.2.2.1 bt582.2.2.2.2.2.2 bt596.1 bt596.2.1 bt596.2.2.1 bt596.2.2.2.1 bt596.2.2.2.2.1 bt596.2.2.2.2.2).bind fun t602 => (if t602 = t581 then ((laws_toServer.f k a0_0 l0_1 a0_2 a0_3 l0_4 l0_5 a0_6).bind fun bt603 => ((laws_eqServer.f k bt582.1 bt582.2.1 bt582.2.2.1 bt582.2.2.2.1 bt582.2.2.2.2.1 bt582.2.2.2.2.2.1 bt582.2.2.2.2.2.2 bt603.1 bt603.2.1 bt603.2.2.1 bt603.2.2.2.1 bt603.2.2.2.2.1 bt603.2.2.2.2.2.1 bt603.2.2.2.2.2.2).bind fun t616 => (if t616 = true then (some true) else (some false)))) else (some false)))))))))))
set_option maxHeartbeats 8000000 in
set_option maxRecDepth 100000 in
theorem laws_FnExactMayWrite.calls (k : Nat) (a0_0 : Bool) (A0_1 : Option Addr) (c0_1 : Nat) (l0_1 : List (S199)) (a0_2 : Int) (a0_3 : Int) (A0_4 : Option Addr) (c0_4 : Nat) (l0_4 : List (S201)) (A0_5 : Option Addr) (c0_5 : Nat) (l0_5 : List (S161)) (a0_6 : Int) (a1_0 : Int) (a1_1 : Int) (a1_2 : ByteArray) (a1_3 : ByteArray) (a1_4 : ByteArray) (a1_5 : Int) (r : Bool) (w : World) (hr0_1 : Kd.C k199 w A0_1 l0_1.length l0_1) (hc0_1 : l0_1.length ≤ c0_1) (hr0_4 : Kd.C k201 w A0_4 l0_4.length l0_4) (hc0_4 : l0_4.length ≤ c0_4) (hr0_5 : Kd.C k161 w A0_5 l0_5.length l0_5) (hc0_5 : l0_5.length ≤ c0_5) (h : laws_FnExactMayWrite.f k a0_0 l0_1 a0_2 a0_3 l0_4 l0_5 a0_6 a1_0 a1_1 a1_2 a1_3 a1_4 a1_5 = some r) (hr_ : Aside0 (r = true) := by exact ⟨rfl⟩) :
    Calls Try.prog 7 #[.agg #[.bool a0_0, .slice A0_1 l0_1.length c0_1, .int .i64 a0_2, .int .i64 a0_3, .slice A0_4 l0_4.length c0_4, .slice A0_5 l0_5.length c0_5, .int .i64 a0_6], .agg #[.int .i64 a1_0, .int .i64 a1_1, .string a1_2, .string a1_3, .string a1_4, .int .i64 a1_5]] w fun e w' => e = .returned (.bool r) ∧ Below w.heap.size w w' := by
  have hu65 := Try.underlying65
  have hu67 := Try.underlying67
  have hu46 := Try.underlying46
  have HR0_1 := Aside0.mk hr0_1
  have HC0_1 := Aside0.mk hc0_1
  clear hr0_1 hc0_1
  have HR0_4 := Aside0.mk hr0_4
  have HC0_4 := Aside0.mk hc0_4
  clear hr0_4 hc0_4
  have HR0_5 := Aside0.mk hr0_5
  have HC0_5 := Aside0.mk hc0_5
  clear hr0_5 hc0_5
  have HB := Aside0.mk (Below.refl w.heap.size w)
  have H : ((laws_szServer.f k a0_0 l0_1 a0_2 a0_3 l0_4 l0_5 a0_6 1048576).bind fun t560 => (if t560 < 0 then (some true) else ((laws_szAsk.f a1_0 a1_1 a1_2 a1_3 a1_4 a1_5 t560).bind fun t561 => (if t561 < 0 then (some true) else ((laws_toServer.f k a0_0 l0_1 a0_2 a0_3 l0_4 l0_5 a0_6).bind fun bt562 => ((laws_toAsk.f a1_0 a1_1 a1_2 a1_3 a1_4 a1_5).bind fun bt575 => ((spec_MayWrite.f k bt562.1 bt562.2.1 bt562.2.2.1 bt562.2.2.2.1 bt562.2.2.2.2.1 bt562.2.2.2.2.2.1 bt562.2.2.2.2.2.2 bt575.1 bt575.2.1 bt575.2.2.1 bt575.2.2.2.1 bt575.2.2.2.2.1 bt575.2.2.2.2.2).bind fun t581 => ((laws_toServer.f k a0_0 l0_1 a0_2 a0_3 l0_4 l0_5 a0_6).bind fun bt582 => ((laws_toAsk.f a1_0 a1_1 a1_2 a1_3 a1_4 a1_5).bind fun bt596 => ((impl_MayWrite.f k bt582.1 bt582.2.1 bt582.2.2.1 bt582.2.2.2.1 bt582.2.2.2.2.1 bt582.2.2.2.2.2.1 bt582.2.2.2.2.2.2 bt596.1 bt596.2.1 bt596.2.2.1 bt596.2.2.2.1 bt596.2.2.2.2.1 bt596.2.2.2.2.2).bind fun t602 => (if t602 = t581 then ((laws_toServer.f k a0_0 l0_1 a0_2 a0_3 l0_4 l0_5 a0_6).bind fun bt603 => ((laws_eqServer.f k bt582.1 bt582.2.1 bt582.2.2.1 bt582.2.2.2.1 bt582.2.2.2.2.1 bt582.2.2.2.2.2.1 bt582.2.2.2.2.2.2 bt603.1 bt603.2.1 bt603.2.2.1 bt603.2.2.2.1 bt603.2.2.2.2.1 bt603.2.2.2.2.2.1 bt603.2.2.2.2.2.2).bind fun t616 => (if t616 = true then (some true) else (some false)))) else (some false)))))))))))) = some r := h
  clear h
  replace H := Option.bind_eq_some_iff.mp H
  obtain ⟨t560, A30, H⟩ := H
  replace H : (if t560 < 0 then (some true) else ((laws_szAsk.f a1_0 a1_1 a1_2 a1_3 a1_4 a1_5 t560).bind fun t561 => (if t561 < 0 then (some true) else ((laws_toServer.f k a0_0 l0_1 a0_2 a0_3 l0_4 l0_5 a0_6).bind fun bt562 => ((laws_toAsk.f a1_0 a1_1 a1_2 a1_3 a1_4 a1_5).bind fun bt575 => ((spec_MayWrite.f k bt562.1 bt562.2.1 bt562.2.2.1 bt562.2.2.2.1 bt562.2.2.2.2.1 bt562.2.2.2.2.2.1 bt562.2.2.2.2.2.2 bt575.1 bt575.2.1 bt575.2.2.1 bt575.2.2.2.1 bt575.2.2.2.2.1 bt575.2.2.2.2.2).bind fun t581 => ((laws_toServer.f k a0_0 l0_1 a0_2 a0_3 l0_4 l0_5 a0_6).bind fun bt582 => ((laws_toAsk.f a1_0 a1_1 a1_2 a1_3 a1_4 a1_5).bind fun bt596 => ((impl_MayWrite.f k bt582.1 bt582.2.1 bt582.2.2.1 bt582.2.2.2.1 bt582.2.2.2.2.1 bt582.2.2.2.2.2.1 bt582.2.2.2.2.2.2 bt596.1 bt596.2.1 bt596.2.2.1 bt596.2.2.2.1 bt596.2.2.2.2.1 bt596.2.2.2.2.2).bind fun t602 => (if t602 = t581 then ((laws_toServer.f k a0_0 l0_1 a0_2 a0_3 l0_4 l0_5 a0_6).bind fun bt603 => ((laws_eqServer.f k bt582.1 bt582.2.1 bt582.2.2.1 bt582.2.2.2.1 bt582.2.2.2.2.1 bt582.2.2.2.2.2.1 bt582.2.2.2.2.2.2 bt603.1 bt603.2.1 bt603.2.2.1 bt603.2.2.2.1 bt603.2.2.2.2.1 bt603.2.2.2.2.2.1 bt603.2.2.2.2.2.2).bind fun t616 => (if t616 = true then (some true) else (some false)))) else (some false))))))))))) = some r := H
  have A3 := Aside0.mk A30
  clear A30
  by_cases c4 : t560 < 0
  · rw [if_pos c4] at H
    have c4b0 : decide (t560 < 0) = true := decide_eq_true c4
    clear c4
    obtain rfl := Option.some.inj H
    go_enter Try.func7, Try.ntmps7
    go_wp2_with (first | ((with_reducible refine gate_dst (N := 2) rfl ?_); refine BX 2 #[.bool a0_0, .slice A0_1 l0_1.length c0_1, .int .i64 a0_2, .int .i64 a0_3, .slice A0_4 l0_4.length c0_4, .slice A0_5 l0_5.length c0_5, .int .i64 a0_6] 65 ?_; intro gb558 hg w5 hbox hb; have BK558 := Aside0.mk (hbox); have GW558 : Aside0 (w.heap.size ≤ gb558) := WG hg (BB HB.out); have GE558 := GW558; replace HB := Aside0.mk (below_step (BB HB.out) hb); clear hb hbox hg) | ((with_reducible refine gate_dst (N := 3) rfl ?_); refine BX 3 #[.int .i64 a1_0, .int .i64 a1_1, .string a1_2, .string a1_3, .string a1_4, .int .i64 a1_5] 67 ?_; intro gb559 hg w6 hbox hb; have BK559 := Aside0.mk (hbox); have GW559 : Aside0 (w.heap.size ≤ gb559) := WG hg (BB1 HB.out GE558.out); have GE559 := GW559; have NB558_559 := NL BK558.out hg; have NB559_558 := NG BK558.out hg; replace BK558 := Aside0.mk (KB BK558.out hb); replace HB := Aside0.mk (below_step (BB1 HB.out GE558.out) hb); clear hb hbox hg; have hnb7 := NB558_559.out; have hnc7 := NB559_558.out; have hcz8 := blk_cell BK558.out; have hfz8 := blk_frozen BK558.out) | ((with_reducible refine gate_callee (f := 35) rfl ?_); refine GL (some 11) rfl rfl Try.func35 #[.agg #[.bool a0_0, .slice A0_1 l0_1.length c0_1, .int .i64 a0_2, .int .i64 a0_3, .slice A0_4 l0_4.length c0_4, .slice A0_5 l0_5.length c0_5, .int .i64 a0_6], .int .i64 1048576] rfl ?_; (with_reducible refine (laws_szServer.calls k a0_0 _ _ l0_1 a0_2 a0_3 _ _ l0_4 _ _ l0_5 a0_6 1048576 t560 _ ?side1 ?side2 ?side3 ?side4 ?side5 ?side6 A3.out).mono ?_); (case side1 => exact CC (Kd.C_below HR0_1.out HB.out)); (case side2 => exact HC0_1.out); (case side3 => exact CC (Kd.C_below HR0_4.out HB.out)); (case side4 => exact HC0_4.out); (case side5 => exact CC (Kd.C_below HR0_5.out HB.out)); (case side6 => exact HC0_5.out); rintro e w9 ⟨rfl, hb⟩; refine ⟨_, rfl, ?_⟩; replace BK558 := Aside0.mk (KB BK558.out hb); replace BK559 := Aside0.mk (KB BK559.out hb); replace HB := Aside0.mk (below_step (BB2 HB.out GE558.out GE559.out) hb); (try clear hb)))
    go_ret
    exact ⟨ER, (BB2 HB.out GE558.out GE559.out)⟩
  · rw [if_neg c4] at H
    have c4b0 : decide (t560 < 0) = false := decide_eq_false c4
    clear c4
    replace H := Option.bind_eq_some_iff.mp H
    obtain ⟨t561, A100, H⟩ := H
    replace H : (if t561 < 0 then (some true) else ((laws_toServer.f k a0_0 l0_1 a0_2 a0_3 l0_4 l0_5 a0_6).bind fun bt562 => ((laws_toAsk.f a1_0 a1_1 a1_2 a1_3 a1_4 a1_5).bind fun bt575 => ((spec_MayWrite.f k bt562.1 bt562.2.1 bt562.2.2.1 bt562.2.2.2.1 bt562.2.2.2.2.1 bt562.2.2.2.2.2.1 bt562.2.2.2.2.2.2 bt575.1 bt575.2.1 bt575.2.2.1 bt575.2.2.2.1 bt575.2.2.2.2.1 bt575.2.2.2.2.2).bind fun t581 => ((laws_toServer.f k a0_0 l0_1 a0_2 a0_3 l0_4 l0_5 a0_6).bind fun bt582 => ((laws_toAsk.f a1_0 a1_1 a1_2 a1_3 a1_4 a1_5).bind fun bt596 => ((impl_MayWrite.f k bt582.1 bt582.2.1 bt582.2.2.1 bt582.2.2.2.1 bt582.2.2.2.2.1 bt582.2.2.2.2.2.1 bt582.2.2.2.2.2.2 bt596.1 bt596.2.1 bt596.2.2.1 bt596.2.2.2.1 bt596.2.2.2.2.1 bt596.2.2.2.2.2).bind fun t602 => (if t602 = t581 then ((laws_toServer.f k a0_0 l0_1 a0_2 a0_3 l0_4 l0_5 a0_6).bind fun bt603 => ((laws_eqServer.f k bt582.1 bt582.2.1 bt582.2.2.1 bt582.2.2.2.1 bt582.2.2.2.2.1 bt582.2.2.2.2.2.1 bt582.2.2.2.2.2.2 bt603.1 bt603.2.1 bt603.2.2.1 bt603.2.2.2.1 bt603.2.2.2.2.1 bt603.2.2.2.2.2.1 bt603.2.2.2.2.2.2).bind fun t616 => (if t616 = true then (some true) else (some false)))) else (some false))))))))) = some r := H
    have A10 := Aside0.mk A100
    clear A100
    by_cases c11 : t561 < 0
    · rw [if_pos c11] at H
      have c11b0 : decide (t561 < 0) = true := decide_eq_true c11
      clear c11
      obtain rfl := Option.some.inj H
      go_enter Try.func7, Try.ntmps7
      go_wp2_with (first | ((with_reducible refine gate_dst (N := 2) rfl ?_); refine BX 2 #[.bool a0_0, .slice A0_1 l0_1.length c0_1, .int .i64 a0_2, .int .i64 a0_3, .slice A0_4 l0_4.length c0_4, .slice A0_5 l0_5.length c0_5, .int .i64 a0_6] 65 ?_; intro gb558 hg w12 hbox hb; have BK558 := Aside0.mk (hbox); have GW558 : Aside0 (w.heap.size ≤ gb558) := WG hg (BB HB.out); have GE558 := GW558; replace HB := Aside0.mk (below_step (BB HB.out) hb); clear hb hbox hg) | ((with_reducible refine gate_dst (N := 3) rfl ?_); refine BX 3 #[.int .i64 a1_0, .int .i64 a1_1, .string a1_2, .string a1_3, .string a1_4, .int .i64 a1_5] 67 ?_; intro gb559 hg w13 hbox hb; have BK559 := Aside0.mk (hbox); have GW559 : Aside0 (w.heap.size ≤ gb559) := WG hg (BB1 HB.out GE558.out); have GE559 := GW559; have NB558_559 := NL BK558.out hg; have NB559_558 := NG BK558.out hg; replace BK558 := Aside0.mk (KB BK558.out hb); replace HB := Aside0.mk (below_step (BB1 HB.out GE558.out) hb); clear hb hbox hg; have hnb14 := NB558_559.out; have hnc14 := NB559_558.out; have hcz15 := blk_cell BK558.out; have hfz15 := blk_frozen BK558.out) | ((with_reducible refine gate_callee (f := 35) rfl ?_); refine GL (some 11) rfl rfl Try.func35 #[.agg #[.bool a0_0, .slice A0_1 l0_1.length c0_1, .int .i64 a0_2, .int .i64 a0_3, .slice A0_4 l0_4.length c0_4, .slice A0_5 l0_5.length c0_5, .int .i64 a0_6], .int .i64 1048576] rfl ?_; (with_reducible refine (laws_szServer.calls k a0_0 _ _ l0_1 a0_2 a0_3 _ _ l0_4 _ _ l0_5 a0_6 1048576 t560 _ ?side1 ?side2 ?side3 ?side4 ?side5 ?side6 A3.out).mono ?_); (case side1 => exact CC (Kd.C_below HR0_1.out HB.out)); (case side2 => exact HC0_1.out); (case side3 => exact CC (Kd.C_below HR0_4.out HB.out)); (case side4 => exact HC0_4.out); (case side5 => exact CC (Kd.C_below HR0_5.out HB.out)); (case side6 => exact HC0_5.out); rintro e w16 ⟨rfl, hb⟩; refine ⟨_, rfl, ?_⟩; replace BK558 := Aside0.mk (KB BK558.out hb); replace BK559 := Aside0.mk (KB BK559.out hb); replace HB := Aside0.mk (below_step (BB2 HB.out GE558.out GE559.out) hb); (try clear hb); have hcz17 := blk_cell BK559.out; have hfz17 := blk_frozen BK559.out) | ((with_reducible refine gate_callee (f := 36) rfl ?_); refine GL (some 16) rfl rfl Try.func36 #[.agg #[.int .i64 a1_0, .int .i64 a1_1, .string a1_2, .string a1_3, .string a1_4, .int .i64 a1_5], .int .i64 t560] rfl ?_; (with_reducible refine (laws_szAsk.calls a1_0 a1_1 a1_2 a1_3 a1_4 a1_5 t560 t561 _ A10.out).mono ?_); rintro e w18 ⟨rfl, hb⟩; refine ⟨_, rfl, ?_⟩; replace BK558 := Aside0.mk (KB BK558.out hb); replace BK559 := Aside0.mk (KB BK559.out hb); replace HB := Aside0.mk (below_step (BB2 HB.out GE558.out GE559.out) hb); (try clear hb)))
      go_ret
      exact ⟨ER, (BB2 HB.out GE558.out GE559.out)⟩
    · rw [if_neg c11] at H
      have c11b0 : decide (t561 < 0) = false := decide_eq_false c11
      clear c11
      replace H := Option.bind_eq_some_iff.mp H
      obtain ⟨⟨t562, t563, t566, t567, t568, t571, t574⟩, A190, H⟩ := H
      replace H : ((laws_toAsk.f a1_0 a1_1 a1_2 a1_3 a1_4 a1_5).bind fun bt575 => ((spec_MayWrite.f k t562 t563 t566 t567 t568 t571 t574 bt575.1 bt575.2.1 bt575.2.2.1 bt575.2.2.2.1 bt575.2.2.2.2.1 bt575.2.2.2.2.2).bind fun t581 => ((laws_toServer.f k a0_0 l0_1 a0_2 a0_3 l0_4 l0_5 a0_6).bind fun bt582 => ((laws_toAsk.f a1_0 a1_1 a1_2 a1_3 a1_4 a1_5).bind fun bt596 => ((impl_MayWrite.f k bt582.1 bt582.2.1 bt582.2.2.1 bt582.2.2.2.1 bt582.2.2.2.2.1 bt582.2.2.2.2.2.1 bt582.2.2.2.2.2.2 bt596.1 bt596.2.1 bt596.2.2.1 bt596.2.2.2.1 bt596.2.2.2.2.1 bt596.2.2.2.2.2).bind fun t602 => (if t602 = t581 then ((laws_toServer.f k a0_0 l0_1 a0_2 a0_3 l0_4 l0_5 a0_6).bind fun bt603 => ((laws_eqServer.f k bt582.1 bt582.2.1 bt582.2.2.1 bt582.2.2.2.1 bt582.2.2.2.2.1 bt582.2.2.2.2.2.1 bt582.2.2.2.2.2.2 bt603.1 bt603.2.1 bt603.2.2.1 bt603.2.2.2.1 bt603.2.2.2.2.1 bt603.2.2.2.2.2.1 bt603.2.2.2.2.2.2).bind fun t616 => (if t616 = true then (some true) else (some false)))) else (some false))))))) = some r := H
      have A19 := Aside0.mk A190
      clear A190
      replace H := Option.bind_eq_some_iff.mp H
      obtain ⟨⟨t575, t576, t577, t578, t579, t580⟩, A200, H⟩ := H
      replace H : ((spec_MayWrite.f k t562 t563 t566 t567 t568 t571 t574 t575 t576 t577 t578 t579 t580).bind fun t581 => ((laws_toServer.f k a0_0 l0_1 a0_2 a0_3 l0_4 l0_5 a0_6).bind fun bt582 => ((laws_toAsk.f a1_0 a1_1 a1_2 a1_3 a1_4 a1_5).bind fun bt596 => ((impl_MayWrite.f k bt582.1 bt582.2.1 bt582.2.2.1 bt582.2.2.2.1 bt582.2.2.2.2.1 bt582.2.2.2.2.2.1 bt582.2.2.2.2.2.2 bt596.1 bt596.2.1 bt596.2.2.1 bt596.2.2.2.1 bt596.2.2.2.2.1 bt596.2.2.2.2.2).bind fun t602 => (if t602 = t581 then ((laws_toServer.f k a0_0 l0_1 a0_2 a0_3 l0_4 l0_5 a0_6).bind fun bt603 => ((laws_eqServer.f k bt582.1 bt582.2.1 bt582.2.2.1 bt582.2.2.2.1 bt582.2.2.2.2.1 bt582.2.2.2.2.2.1 bt582.2.2.2.2.2.2 bt603.1 bt603.2.1 bt603.2.2.1 bt603.2.2.2.1 bt603.2.2.2.2.1 bt603.2.2.2.2.2.1 bt603.2.2.2.2.2.2).bind fun t616 => (if t616 = true then (some true) else (some false)))) else (some false)))))) = some r := H
      have A20 := Aside0.mk A200
      clear A200
      replace H := Option.bind_eq_some_iff.mp H
      obtain ⟨t581, A210, H⟩ := H
      replace H : ((laws_toServer.f k a0_0 l0_1 a0_2 a0_3 l0_4 l0_5 a0_6).bind fun bt582 => ((laws_toAsk.f a1_0 a1_1 a1_2 a1_3 a1_4 a1_5).bind fun bt596 => ((impl_MayWrite.f k bt582.1 bt582.2.1 bt582.2.2.1 bt582.2.2.2.1 bt582.2.2.2.2.1 bt582.2.2.2.2.2.1 bt582.2.2.2.2.2.2 bt596.1 bt596.2.1 bt596.2.2.1 bt596.2.2.2.1 bt596.2.2.2.2.1 bt596.2.2.2.2.2).bind fun t602 => (if t602 = t581 then ((laws_toServer.f k a0_0 l0_1 a0_2 a0_3 l0_4 l0_5 a0_6).bind fun bt603 => ((laws_eqServer.f k bt582.1 bt582.2.1 bt582.2.2.1 bt582.2.2.2.1 bt582.2.2.2.2.1 bt582.2.2.2.2.2.1 bt582.2.2.2.2.2.2 bt603.1 bt603.2.1 bt603.2.2.1 bt603.2.2.2.1 bt603.2.2.2.2.1 bt603.2.2.2.2.2.1 bt603.2.2.2.2.2.2).bind fun t616 => (if t616 = true then (some true) else (some false)))) else (some false))))) = some r := H
      have A21 := Aside0.mk A210
      clear A210
      replace H := Option.bind_eq_some_iff.mp H
      obtain ⟨⟨t582, t583, t586, t587, t588, t591, t594⟩, A220, H⟩ := H
      replace H : ((laws_toAsk.f a1_0 a1_1 a1_2 a1_3 a1_4 a1_5).bind fun bt596 => ((impl_MayWrite.f k t582 t583 t586 t587 t588 t591 t594 bt596.1 bt596.2.1 bt596.2.2.1 bt596.2.2.2.1 bt596.2.2.2.2.1 bt596.2.2.2.2.2).bind fun t602 => (if t602 = t581 then ((laws_toServer.f k a0_0 l0_1 a0_2 a0_3 l0_4 l0_5 a0_6).bind fun bt603 => ((laws_eqServer.f k t582 t583 t586 t587 t588 t591 t594 bt603.1 bt603.2.1 bt603.2.2.1 bt603.2.2.2.1 bt603.2.2.2.2.1 bt603.2.2.2.2.2.1 bt603.2.2.2.2.2.2).bind fun t616 => (if t616 = true then (some true) else (some false)))) else (some false)))) = some r := H
      have A22 := Aside0.mk A220
      clear A220
      replace H := Option.bind_eq_some_iff.mp H
      obtain ⟨⟨t596, t597, t598, t599, t600, t601⟩, A230, H⟩ := H
      replace H : ((impl_MayWrite.f k t582 t583 t586 t587 t588 t591 t594 t596 t597 t598 t599 t600 t601).bind fun t602 => (if t602 = t581 then ((laws_toServer.f k a0_0 l0_1 a0_2 a0_3 l0_4 l0_5 a0_6).bind fun bt603 => ((laws_eqServer.f k t582 t583 t586 t587 t588 t591 t594 bt603.1 bt603.2.1 bt603.2.2.1 bt603.2.2.2.1 bt603.2.2.2.2.1 bt603.2.2.2.2.2.1 bt603.2.2.2.2.2.2).bind fun t616 => (if t616 = true then (some true) else (some false)))) else (some false))) = some r := H
      have A23 := Aside0.mk A230
      clear A230
      replace H := Option.bind_eq_some_iff.mp H
      obtain ⟨t602, A240, H⟩ := H
      replace H : (if t602 = t581 then ((laws_toServer.f k a0_0 l0_1 a0_2 a0_3 l0_4 l0_5 a0_6).bind fun bt603 => ((laws_eqServer.f k t582 t583 t586 t587 t588 t591 t594 bt603.1 bt603.2.1 bt603.2.2.1 bt603.2.2.2.1 bt603.2.2.2.2.1 bt603.2.2.2.2.2.1 bt603.2.2.2.2.2.2).bind fun t616 => (if t616 = true then (some true) else (some false)))) else (some false)) = some r := H
      have A24 := Aside0.mk A240
      clear A240
      by_cases c25 : t602 = t581
      · rw [if_pos c25] at H
        have c25b0 : (t602 == t581) = true := beq_iff_eq.mpr c25
        have c25b1 : (t602 != t581) = false := bne_eq_false_iff_eq.mpr c25
        clear c25
        replace H := Option.bind_eq_some_iff.mp H
        obtain ⟨⟨t603, t604, t607, t608, t609, t612, t615⟩, A260, H⟩ := H
        replace H : ((laws_eqServer.f k t582 t583 t586 t587 t588 t591 t594 t603 t604 t607 t608 t609 t612 t615).bind fun t616 => (if t616 = true then (some true) else (some false))) = some r := H
        have A26 := Aside0.mk A260
        clear A260
        replace H := Option.bind_eq_some_iff.mp H
        obtain ⟨t616, A270, H⟩ := H
        replace H : (if t616 = true then (some true) else (some false)) = some r := H
        have A27 := Aside0.mk A270
        clear A270
        by_cases c28 : t616 = true
        · subst c28
          have H1 : (some true) = some r := by rw [if_pos rfl] at H; exact H
          clear H
          have H := H1
          clear H1
          obtain rfl := Option.some.inj H
          go_enter Try.func7, Try.ntmps7
          try go_wp2_with (first | ((with_reducible refine gate_dst (N := 2) rfl ?_); refine BX 2 #[.bool a0_0, .slice A0_1 l0_1.length c0_1, .int .i64 a0_2, .int .i64 a0_3, .slice A0_4 l0_4.length c0_4, .slice A0_5 l0_5.length c0_5, .int .i64 a0_6] 65 ?_; intro gb558 hg w29 hbox hb; have BK558 := Aside0.mk (hbox); have GW558 : Aside0 (w.heap.size ≤ gb558) := WG hg (BB HB.out); have GE558 := GW558; replace HB := Aside0.mk (below_step (BB HB.out) hb); clear hb hbox hg) | ((with_reducible refine gate_dst (N := 3) rfl ?_); refine BX 3 #[.int .i64 a1_0, .int .i64 a1_1, .string a1_2, .string a1_3, .string a1_4, .int .i64 a1_5] 67 ?_; intro gb559 hg w30 hbox hb; have BK559 := Aside0.mk (hbox); have GW559 : Aside0 (w.heap.size ≤ gb559) := WG hg (BB1 HB.out GE558.out); have GE559 := GW559; have NB558_559 := NL BK558.out hg; have NB559_558 := NG BK558.out hg; replace BK558 := Aside0.mk (KB BK558.out hb); replace HB := Aside0.mk (below_step (BB1 HB.out GE558.out) hb); clear hb hbox hg; have hnb31 := NB558_559.out; have hnc31 := NB559_558.out; have hcz32 := blk_cell BK558.out; have hfz32 := blk_frozen BK558.out) | ((with_reducible refine gate_callee (f := 35) rfl ?_); refine GL (some 11) rfl rfl Try.func35 #[.agg #[.bool a0_0, .slice A0_1 l0_1.length c0_1, .int .i64 a0_2, .int .i64 a0_3, .slice A0_4 l0_4.length c0_4, .slice A0_5 l0_5.length c0_5, .int .i64 a0_6], .int .i64 1048576] rfl ?_; (with_reducible refine (laws_szServer.calls k a0_0 _ _ l0_1 a0_2 a0_3 _ _ l0_4 _ _ l0_5 a0_6 1048576 t560 _ ?side1 ?side2 ?side3 ?side4 ?side5 ?side6 A3.out).mono ?_); (case side1 => exact CC (Kd.C_below HR0_1.out HB.out)); (case side2 => exact HC0_1.out); (case side3 => exact CC (Kd.C_below HR0_4.out HB.out)); (case side4 => exact HC0_4.out); (case side5 => exact CC (Kd.C_below HR0_5.out HB.out)); (case side6 => exact HC0_5.out); rintro e w33 ⟨rfl, hb⟩; refine ⟨_, rfl, ?_⟩; replace BK558 := Aside0.mk (KB BK558.out hb); replace BK559 := Aside0.mk (KB BK559.out hb); replace HB := Aside0.mk (below_step (BB2 HB.out GE558.out GE559.out) hb); (try clear hb); have hcz34 := blk_cell BK559.out; have hfz34 := blk_frozen BK559.out) | ((with_reducible refine gate_callee (f := 36) rfl ?_); refine GL (some 16) rfl rfl Try.func36 #[.agg #[.int .i64 a1_0, .int .i64 a1_1, .string a1_2, .string a1_3, .string a1_4, .int .i64 a1_5], .int .i64 t560] rfl ?_; (with_reducible refine (laws_szAsk.calls a1_0 a1_1 a1_2 a1_3 a1_4 a1_5 t560 t561 _ A10.out).mono ?_); rintro e w35 ⟨rfl, hb⟩; refine ⟨_, rfl, ?_⟩; replace BK558 := Aside0.mk (KB BK558.out hb); replace BK559 := Aside0.mk (KB BK559.out hb); replace HB := Aside0.mk (below_step (BB2 HB.out GE558.out GE559.out) hb); (try clear hb)))
          have n0_ := Aside0.mk (blk_drew BK558.out)
          have n1_ := Aside0.mk (blk_drew BK559.out)
          have n2_ := Aside0.mk (below_drew1 HB.out)
          clear BK558
          clear BK559
          clear HB
          have BK558 := n0_
          have BK559 := n1_
          have HB := n2_
          clear n0_ n1_ n2_
          refine start_ (n := 6) (S := fun w' => w'.cell? ⟨gb558, 0, none⟩ = some (.bool a0_0) ∧ w'.cell? ⟨gb558, 1, none⟩ = some (.slice A0_1 l0_1.length c0_1) ∧ w'.cell? ⟨gb558, 2, none⟩ = some (.int .i64 a0_2) ∧ w'.cell? ⟨gb558, 3, none⟩ = some (.int .i64 a0_3) ∧ w'.cell? ⟨gb558, 4, none⟩ = some (.slice A0_4 l0_4.length c0_4) ∧ w'.cell? ⟨gb558, 5, none⟩ = some (.slice A0_5 l0_5.length c0_5) ∧ w'.cell? ⟨gb558, 6, none⟩ = some (.int .i64 a0_6) ∧ w'.cell? ⟨gb559, 0, none⟩ = some (.int .i64 a1_0) ∧ w'.cell? ⟨gb559, 1, none⟩ = some (.int .i64 a1_1) ∧ w'.cell? ⟨gb559, 2, none⟩ = some (.string a1_2) ∧ w'.cell? ⟨gb559, 3, none⟩ = some (.string a1_3) ∧ w'.cell? ⟨gb559, 4, none⟩ = some (.string a1_4) ∧ w'.cell? ⟨gb559, 5, none⟩ = some (.int .i64 a1_5)) (ds := []) #[false, false, false, false, false, false] (by kernel_rfl) rfl rfl ⟨(blk_cell BK558.out 0).trans rfl, (blk_cell BK558.out 1).trans rfl, (blk_cell BK558.out 2).trans rfl, (blk_cell BK558.out 3).trans rfl, (blk_cell BK558.out 4).trans rfl, (blk_cell BK558.out 5).trans rfl, (blk_cell BK558.out 6).trans rfl, (blk_cell BK559.out 0).trans rfl, (blk_cell BK559.out 1).trans rfl, (blk_cell BK559.out 2).trans rfl, (blk_cell BK559.out 3).trans rfl, (blk_cell BK559.out 4).trans rfl, (blk_cell BK559.out 5).trans rfl⟩ (fun hHeld => ?_)
          generalize w35.drew = w36 at BK558 BK559 HB hHeld ⊢
          refine take_ (i := 0) (N := some 19) (v := ?_) (a' := ?_) #[true, false, false, false, false, false] rfl rfl (by kernel_rfl) (fun _ _ _ h => h) (Or.inl ⟨by rfl, ?_⟩) hHeld ?_ ?_
          rotate_left
          · rintro w' ⟨s0, s1, s2, s3, s4, s5, s6, s7, s8, s9, s10, s11, s12⟩
            go_simp
            with_reducible rfl
          rotate_left
          · simp only [Act.put, List.setIfInBounds_toArray, List.set_cons_zero, List.set_cons_succ, i64_w, i32_w]
            rfl
          refine take_ (i := 2) (N := some 21) (v := ?_) (a' := ?_) #[true, false, true, false, false, false] rfl rfl (by kernel_rfl) (fun _ _ _ h => h) (Or.inl ⟨by rfl, ?_⟩) hHeld ?_ ?_
          rotate_left
          · rintro w' ⟨s0, s1, s2, s3, s4, s5, s6, s7, s8, s9, s10, s11, s12⟩
            go_simp
            with_reducible rfl
          rotate_left
          · simp only [Act.put, List.setIfInBounds_toArray, List.set_cons_zero, List.set_cons_succ, i64_w, i32_w]
            rfl
          refine one_ (i := 1) (N := some 20) #[true, true, true, false, false, false] rfl rfl (by kernel_rfl) (by decide) (fun K hK => ?_)
          refine goes_ Try.func38 (by kernel_rfl) rfl #[.agg #[.bool a0_0, .slice A0_1 l0_1.length c0_1, .int .i64 a0_2, .int .i64 a0_3, .slice A0_4 l0_4.length c0_4, .slice A0_5 l0_5.length c0_5, .int .i64 a0_6]] (by rfl) rfl rfl (by (try simp only [List.map_toArray, List.map_cons, List.map_nil]); first | done | rfl | (simp only [List.length_drop, List.length_take]; rfl)) ?_
          with_reducible refine (laws_toServer.calls k a0_0 _ _ l0_1 a0_2 a0_3 _ _ l0_4 _ _ l0_5 a0_6 t562 t563 t566 t567 t568 t571 t574 _ ?side1 ?side2 ?side3 ?side4 ?side5 ?side6 A19.out).mono ?_
          (case side1 => exact CC (Kd.C_below HR0_1.out HB.out))
          (case side2 => exact HC0_1.out)
          (case side3 => exact CC (Kd.C_below HR0_4.out HB.out))
          (case side4 => exact HC0_4.out)
          (case side5 => exact CC (Kd.C_below HR0_5.out HB.out))
          (case side6 => exact HC0_5.out)
          rintro e w37 ⟨v564, v569, v572, rfl, ho0, ho1, ho2, hb⟩
          refine ⟨_, rfl, ?_⟩
          have n0_ := Aside0.mk (Kd.S_lower ho0 (below_size (BB2 HB.out GE558.out GE559.out)))
          have n1_ := Aside0.mk (Kd.R_lower ho1 (below_size (BB2 HB.out GE558.out GE559.out)))
          have n2_ := Aside0.mk (Kd.R_lower ho2 (below_size (BB2 HB.out GE558.out GE559.out)))
          have n3_ := Aside0.mk (KB BK558.out hb)
          have n4_ := Aside0.mk (KB BK559.out hb)
          have n5_ := Aside0.mk (below_step (BB2 HB.out GE558.out GE559.out) hb)
          clear BK558
          clear BK559
          clear HB
          have HO565 := n0_
          have HO570 := n1_
          have HO573 := n2_
          have BK558 := n3_
          have BK559 := n4_
          have HB := n5_
          clear n0_ n1_ n2_ n3_ n4_ n5_
          (try clear hb)
          (try clear hb2)
          (try clear hk)
          (try clear hi)
          (try clear ho0)
          (try clear ho1)
          (try clear ho2)
          refine hK.out _ _ ⟨(blk_cell BK558.out 0).trans rfl, (blk_cell BK558.out 1).trans rfl, (blk_cell BK558.out 2).trans rfl, (blk_cell BK558.out 3).trans rfl, (blk_cell BK558.out 4).trans rfl, (blk_cell BK558.out 5).trans rfl, (blk_cell BK558.out 6).trans rfl, (blk_cell BK559.out 0).trans rfl, (blk_cell BK559.out 1).trans rfl, (blk_cell BK559.out 2).trans rfl, (blk_cell BK559.out 3).trans rfl, (blk_cell BK559.out 4).trans rfl, (blk_cell BK559.out 5).trans rfl⟩ (fun hHeld => ?_)
          clear hK K
          refine norm_ (a' := ?_) ?_ ?_
          rotate_left
          · show Act.put _ (some 20) _ = _
            simp only [Act.put, List.setIfInBounds_toArray, List.set_cons_zero, List.set_cons_succ, i64_w, i32_w]
            rfl
          refine one_ (i := 3) (N := some 22) #[true, true, true, true, false, false] rfl rfl (by kernel_rfl) (by decide) (fun K hK => ?_)
          refine goes_ Try.func39 (by kernel_rfl) rfl #[.agg #[.int .i64 a1_0, .int .i64 a1_1, .string a1_2, .string a1_3, .string a1_4, .int .i64 a1_5]] (by rfl) rfl rfl (by (try simp only [List.map_toArray, List.map_cons, List.map_nil]); first | done | rfl | (simp only [List.length_drop, List.length_take]; rfl)) ?_
          with_reducible refine (laws_toAsk.calls a1_0 a1_1 a1_2 a1_3 a1_4 a1_5 t575 t576 t577 t578 t579 t580 _ A20.out).mono ?_
          rintro e w38 ⟨rfl, hb⟩
          refine ⟨_, rfl, ?_⟩
          have n0_ := Aside0.mk (Kd.S_below (SS HO565.out) hb)
          have n1_ := Aside0.mk (Kd.R_below (RR HO570.out) hb)
          have n2_ := Aside0.mk (Kd.R_below (RR HO573.out) hb)
          have n3_ := Aside0.mk (KB BK558.out hb)
          have n4_ := Aside0.mk (KB BK559.out hb)
          have n5_ := Aside0.mk (below_step (BB2 HB.out GE558.out GE559.out) hb)
          clear HO565
          clear HO570
          clear HO573
          clear BK558
          clear BK559
          clear HB
          have HO565 := n0_
          have HO570 := n1_
          have HO573 := n2_
          have BK558 := n3_
          have BK559 := n4_
          have HB := n5_
          clear n0_ n1_ n2_ n3_ n4_ n5_
          (try clear hb)
          (try clear hb2)
          (try clear hk)
          (try clear hi)
          obtain ⟨Ao39, co39, eo39⟩ := Kd.S_slice HO565.out
          (first | subst eo39 | (injection eo39 with f1_ f2_ f3_; have f4_ := f1_.symm; have f5_ := f3_.symm; clear f1_ f2_ f3_; subst f4_; subst f5_))
          obtain ⟨Ao40, co40, eo40⟩ := Kd.R_slice HO570.out
          (first | subst eo40 | (injection eo40 with f1_ f2_ f3_; have f4_ := f1_.symm; have f5_ := f3_.symm; clear f1_ f2_ f3_; subst f4_; subst f5_))
          obtain ⟨Ao41, co41, eo41⟩ := Kd.R_slice HO573.out
          (first | subst eo41 | (injection eo41 with f1_ f2_ f3_; have f4_ := f1_.symm; have f5_ := f3_.symm; clear f1_ f2_ f3_; subst f4_; subst f5_))
          refine hK.out _ _ ⟨(blk_cell BK558.out 0).trans rfl, (blk_cell BK558.out 1).trans rfl, (blk_cell BK558.out 2).trans rfl, (blk_cell BK558.out 3).trans rfl, (blk_cell BK558.out 4).trans rfl, (blk_cell BK558.out 5).trans rfl, (blk_cell BK558.out 6).trans rfl, (blk_cell BK559.out 0).trans rfl, (blk_cell BK559.out 1).trans rfl, (blk_cell BK559.out 2).trans rfl, (blk_cell BK559.out 3).trans rfl, (blk_cell BK559.out 4).trans rfl, (blk_cell BK559.out 5).trans rfl⟩ (fun hHeld => ?_)
          clear hK K
          refine norm_ (a' := ?_) ?_ ?_
          rotate_left
          · show Act.put _ (some 22) _ = _
            simp only [Act.put, List.setIfInBounds_toArray, List.set_cons_zero, List.set_cons_succ, i64_w, i32_w]
            rfl
          refine one_ (i := 4) (N := some 23) #[true, true, true, true, true, false] rfl rfl (by kernel_rfl) (by decide) (fun K hK => ?_)
          refine goes_ Try.func37 (by kernel_rfl) rfl #[.agg #[.bool t562, .slice Ao39 t563.length co39, .int .i64 t566, .int .i64 t567, .slice Ao40 t568.length co40, .slice Ao41 t571.length co41, .int .i64 t574], .agg #[.int .i64 t575, .int .i64 t576, .string t577, .string t578, .string t579, .int .i64 t580]] (by rfl) rfl rfl (by (try simp only [List.map_toArray, List.map_cons, List.map_nil]); first | done | rfl | (simp only [List.length_drop, List.length_take]; rfl)) ?_
          with_reducible refine (spec_MayWrite.calls k t562 _ _ t563 t566 t567 _ _ t568 _ _ t571 t574 t575 t576 t577 t578 t579 t580 t581 _ ?side1 ?side2 ?side3 ?side4 ?side5 ?side6 A21.out).mono ?_
          (case side1 => exact CC (Kd.S_reads' HO565.out).2.2)
          (case side2 => exact (Kd.S_reads' HO565.out).2.1)
          (case side3 => exact CC (Kd.R_reads' HO570.out).2.2)
          (case side4 => exact (Kd.R_reads' HO570.out).2.1)
          (case side5 => exact CC (Kd.R_reads' HO573.out).2.2)
          (case side6 => exact (Kd.R_reads' HO573.out).2.1)
          rintro e w42 ⟨rfl, hb⟩
          refine ⟨_, rfl, ?_⟩
          have n0_ := Aside0.mk (Kd.S_below (SS HO565.out) hb)
          have n1_ := Aside0.mk (Kd.R_below (RR HO570.out) hb)
          have n2_ := Aside0.mk (Kd.R_below (RR HO573.out) hb)
          have n3_ := Aside0.mk (KB BK558.out hb)
          have n4_ := Aside0.mk (KB BK559.out hb)
          have n5_ := Aside0.mk (below_step (BB2 HB.out GE558.out GE559.out) hb)
          clear HO565
          clear HO570
          clear HO573
          clear BK558
          clear BK559
          clear HB
          have HO565 := n0_
          have HO570 := n1_
          have HO573 := n2_
          have BK558 := n3_
          have BK559 := n4_
          have HB := n5_
          clear n0_ n1_ n2_ n3_ n4_ n5_
          (try clear hb)
          (try clear hb2)
          (try clear hk)
          (try clear hi)
          refine hK.out _ _ ⟨(blk_cell BK558.out 0).trans rfl, (blk_cell BK558.out 1).trans rfl, (blk_cell BK558.out 2).trans rfl, (blk_cell BK558.out 3).trans rfl, (blk_cell BK558.out 4).trans rfl, (blk_cell BK558.out 5).trans rfl, (blk_cell BK558.out 6).trans rfl, (blk_cell BK559.out 0).trans rfl, (blk_cell BK559.out 1).trans rfl, (blk_cell BK559.out 2).trans rfl, (blk_cell BK559.out 3).trans rfl, (blk_cell BK559.out 4).trans rfl, (blk_cell BK559.out 5).trans rfl⟩ (fun hHeld => ?_)
          clear hK K
          refine norm_ (a' := ?_) ?_ ?_
          rotate_left
          · show Act.put _ (some 23) _ = _
            simp only [Act.put, List.setIfInBounds_toArray, List.set_cons_zero, List.set_cons_succ, i64_w, i32_w]
            rfl
          refine pure_ (i := 5) (N := some 6) (v := ?_) (a' := ?_) #[true, true, true, true, true, true] rfl rfl (by kernel_rfl) (fun _ _ _ h => h) (Or.inl ⟨by rfl, ?_⟩) ?_ ?_
          rotate_left
          · intro w'
            go_simp
            with_reducible rfl
          rotate_left
          · simp only [Act.put, List.setIfInBounds_toArray, List.set_cons_zero, List.set_cons_succ, i64_w, i32_w]
            rfl
          refine done_ (by kernel_rfl) ?_
          have hcz43 := blk_cell BK558.out
          have hcz43_1 : w42.cell? ⟨gb558, 1, none⟩ = some (.slice A0_1 l0_1.length c0_1) := (blk_cell BK558.out 1).trans rfl
          have hcz43_2 : w42.cell? ⟨gb558, 2, none⟩ = some (.int .i64 a0_2) := (blk_cell BK558.out 2).trans rfl
          have hcz43_3 : w42.cell? ⟨gb558, 3, none⟩ = some (.int .i64 a0_3) := (blk_cell BK558.out 3).trans rfl
          have hcz43_4 : w42.cell? ⟨gb558, 4, none⟩ = some (.slice A0_4 l0_4.length c0_4) := (blk_cell BK558.out 4).trans rfl
          have hcz43_5 : w42.cell? ⟨gb558, 5, none⟩ = some (.slice A0_5 l0_5.length c0_5) := (blk_cell BK558.out 5).trans rfl
          have hcz43_6 : w42.cell? ⟨gb558, 6, none⟩ = some (.int .i64 a0_6) := (blk_cell BK558.out 6).trans rfl
          have hfz43 := blk_frozen BK558.out
          have hfz43_1 := blk_frozen BK558.out 1
          have hfz43_2 := blk_frozen BK558.out 2
          have hfz43_3 := blk_frozen BK558.out 3
          have hfz43_4 := blk_frozen BK558.out 4
          have hfz43_5 := blk_frozen BK558.out 5
          have hfz43_6 := blk_frozen BK558.out 6
          try go_wp2_with (first | ((with_reducible refine gate_callee (f := 38) rfl ?_); refine GL (some 25) rfl rfl Try.func38 #[.agg #[.bool a0_0, .slice A0_1 l0_1.length c0_1, .int .i64 a0_2, .int .i64 a0_3, .slice A0_4 l0_4.length c0_4, .slice A0_5 l0_5.length c0_5, .int .i64 a0_6]] rfl ?_; (with_reducible refine (laws_toServer.calls k a0_0 _ _ l0_1 a0_2 a0_3 _ _ l0_4 _ _ l0_5 a0_6 t582 t583 t586 t587 t588 t591 t594 _ ?side1 ?side2 ?side3 ?side4 ?side5 ?side6 A22.out).mono ?_); (case side1 => exact CC (Kd.C_below HR0_1.out HB.out)); (case side2 => exact HC0_1.out); (case side3 => exact CC (Kd.C_below HR0_4.out HB.out)); (case side4 => exact HC0_4.out); (case side5 => exact CC (Kd.C_below HR0_5.out HB.out)); (case side6 => exact HC0_5.out); rintro e w44 ⟨v584, v589, v592, rfl, ho0, ho1, ho2, hb⟩; refine ⟨_, rfl, ?_⟩; have HO585 := Aside0.mk (Kd.S_lower (Kd.S_new' ho0 (Kd.S_lt (SS HO565.out))) (below_size (BB2 HB.out GE558.out GE559.out))); have HO590 := Aside0.mk (Kd.R_lower (Kd.R_new' ho1 (Kd.R_lt (RR HO570.out))) (below_size (BB2 HB.out GE558.out GE559.out))); have HO593 := Aside0.mk (Kd.R_lower (Kd.R_new' ho2 (Kd.R_lt (RR HO573.out))) (below_size (BB2 HB.out GE558.out GE559.out))); replace HO565 := Aside0.mk (Kd.S_elder' (SS HO565.out) (Kd.S_base ho0) hb); replace HO570 := Aside0.mk (Kd.R_elder' (RR HO570.out) (Kd.R_base ho1) hb); replace HO573 := Aside0.mk (Kd.R_elder' (RR HO573.out) (Kd.R_base ho2) hb); replace BK558 := Aside0.mk (KB BK558.out hb); replace BK559 := Aside0.mk (KB BK559.out hb); replace HB := Aside0.mk (below_step (BB2 HB.out GE558.out GE559.out) hb); (try clear hb); (try clear ho0); (try clear ho1); (try clear ho2)) | ((with_reducible refine gate_dst (N := 7) rfl ?_); refine BX 7 #[.bool false, .slice none 0 0, .int .i64 0, .int .i64 0, .slice none 0 0, .slice none 0 0, .int .i64 0] 46 ?_; intro gb595 hg w45 hbox hb; have BK595 := Aside0.mk (hbox); have GW595 : Aside0 (w.heap.size ≤ gb595) := WG hg (BB2 HB.out GE558.out GE559.out); have GE595 := GW595; have NB558_595 := NL BK558.out hg; have NB595_558 := NG BK558.out hg; have NB559_595 := NL BK559.out hg; have NB595_559 := NG BK559.out hg; replace HO565 := Aside0.mk (Kd.S_below (SS HO565.out) hb); replace HO570 := Aside0.mk (Kd.R_below (RR HO570.out) hb); replace HO573 := Aside0.mk (Kd.R_below (RR HO573.out) hb); replace HO585 := Aside0.mk (Kd.S_below (SS HO585.out) hb); replace HO590 := Aside0.mk (Kd.R_below (RR HO590.out) hb); replace HO593 := Aside0.mk (Kd.R_below (RR HO593.out) hb); replace BK558 := Aside0.mk (KB BK558.out hb); replace BK559 := Aside0.mk (KB BK559.out hb); replace HB := Aside0.mk (below_step (BB2 HB.out GE558.out GE559.out) hb); clear hb hbox hg; have hnb46 := NB595_558.out; have hnc46 := NB558_595.out; have hnb47 := NB595_559.out; have hnc47 := NB559_595.out; have hcz48 := blk_cell BK595.out; have hfz48 := blk_frozen BK595.out; obtain ⟨Ao49, co49, eo49⟩ := Kd.S_slice HO585.out; subst eo49; obtain ⟨Ao50, co50, eo50⟩ := Kd.R_slice HO590.out; subst eo50; obtain ⟨Ao51, co51, eo51⟩ := Kd.R_slice HO593.out; subst eo51))
          have n0_ : Aside0 (Kd.S k135 135 (((((((w45.setCell ⟨gb595, 0, none⟩ (.bool t582)).setCell ⟨gb595, 1, none⟩ (.slice Ao49 t583.length co49)).setCell ⟨gb595, 2, none⟩ (.int .i64 t586)).setCell ⟨gb595, 3, none⟩ (.int .i64 t587)).setCell ⟨gb595, 4, none⟩ (.slice Ao50 t588.length co50)).setCell ⟨gb595, 5, none⟩ (.slice Ao51 t591.length co51)).setCell ⟨gb595, 6, none⟩ (.int .i64 t594)) w.heap.size (fun k_ => some k_ ≠ (.slice Ao49 t583.length co49 : Value).ownBlock) (.slice Ao39 t563.length co39) t563) := ⟨by (with_reducible repeat (first | apply Kd.S_alloc | apply Kd.S_drewN | apply Kd.S_drew)); exact Kd.S_mono (Kd.S_far (p := ⟨gb595, 6, none⟩) (Kd.S_far (p := ⟨gb595, 5, none⟩) (Kd.S_far (p := ⟨gb595, 4, none⟩) (Kd.S_far (p := ⟨gb595, 3, none⟩) (Kd.S_far (p := ⟨gb595, 2, none⟩) (Kd.S_far (p := ⟨gb595, 1, none⟩) (Kd.S_far (p := ⟨gb595, 0, none⟩) (Kd.S_types HO565.out BK595.out (by decide)) (fun _ hk => hk.2) (.bool t582)) (fun _ hk => hk.2) (.slice Ao49 t583.length co49)) (fun _ hk => hk.2) (.int .i64 t586)) (fun _ hk => hk.2) (.int .i64 t587)) (fun _ hk => hk.2) (.slice Ao50 t588.length co50)) (fun _ hk => hk.2) (.slice Ao51 t591.length co51)) (fun _ hk => hk.2) (.int .i64 t594)) (fun _ hk => hk.1.2)⟩
          have n1_ : Aside0 (Kd.R k192 192 (((((((w45.setCell ⟨gb595, 0, none⟩ (.bool t582)).setCell ⟨gb595, 1, none⟩ (.slice Ao49 t583.length co49)).setCell ⟨gb595, 2, none⟩ (.int .i64 t586)).setCell ⟨gb595, 3, none⟩ (.int .i64 t587)).setCell ⟨gb595, 4, none⟩ (.slice Ao50 t588.length co50)).setCell ⟨gb595, 5, none⟩ (.slice Ao51 t591.length co51)).setCell ⟨gb595, 6, none⟩ (.int .i64 t594)) w.heap.size (fun k_ => some k_ ≠ (.slice Ao50 t588.length co50 : Value).ownBlock) (.slice Ao40 t568.length co40) t568) := ⟨by (with_reducible repeat (first | apply Kd.R_alloc | apply Kd.R_drewN | apply Kd.R_drew)); exact Kd.R_mono (Kd.R_far (p := ⟨gb595, 6, none⟩) (Kd.R_far (p := ⟨gb595, 5, none⟩) (Kd.R_far (p := ⟨gb595, 4, none⟩) (Kd.R_far (p := ⟨gb595, 3, none⟩) (Kd.R_far (p := ⟨gb595, 2, none⟩) (Kd.R_far (p := ⟨gb595, 1, none⟩) (Kd.R_far (p := ⟨gb595, 0, none⟩) (Kd.R_types HO570.out BK595.out (by decide)) (fun _ hk => hk.2) (.bool t582)) (fun _ hk => hk.2) (.slice Ao49 t583.length co49)) (fun _ hk => hk.2) (.int .i64 t586)) (fun _ hk => hk.2) (.int .i64 t587)) (fun _ hk => hk.2) (.slice Ao50 t588.length co50)) (fun _ hk => hk.2) (.slice Ao51 t591.length co51)) (fun _ hk => hk.2) (.int .i64 t594)) (fun _ hk => hk.1.2)⟩
          have n2_ : Aside0 (Kd.R k120 120 (((((((w45.setCell ⟨gb595, 0, none⟩ (.bool t582)).setCell ⟨gb595, 1, none⟩ (.slice Ao49 t583.length co49)).setCell ⟨gb595, 2, none⟩ (.int .i64 t586)).setCell ⟨gb595, 3, none⟩ (.int .i64 t587)).setCell ⟨gb595, 4, none⟩ (.slice Ao50 t588.length co50)).setCell ⟨gb595, 5, none⟩ (.slice Ao51 t591.length co51)).setCell ⟨gb595, 6, none⟩ (.int .i64 t594)) w.heap.size (fun k_ => some k_ ≠ (.slice Ao51 t591.length co51 : Value).ownBlock) (.slice Ao41 t571.length co41) t571) := ⟨by (with_reducible repeat (first | apply Kd.R_alloc | apply Kd.R_drewN | apply Kd.R_drew)); exact Kd.R_mono (Kd.R_far (p := ⟨gb595, 6, none⟩) (Kd.R_far (p := ⟨gb595, 5, none⟩) (Kd.R_far (p := ⟨gb595, 4, none⟩) (Kd.R_far (p := ⟨gb595, 3, none⟩) (Kd.R_far (p := ⟨gb595, 2, none⟩) (Kd.R_far (p := ⟨gb595, 1, none⟩) (Kd.R_far (p := ⟨gb595, 0, none⟩) (Kd.R_types HO573.out BK595.out (by decide)) (fun _ hk => hk.2) (.bool t582)) (fun _ hk => hk.2) (.slice Ao49 t583.length co49)) (fun _ hk => hk.2) (.int .i64 t586)) (fun _ hk => hk.2) (.int .i64 t587)) (fun _ hk => hk.2) (.slice Ao50 t588.length co50)) (fun _ hk => hk.2) (.slice Ao51 t591.length co51)) (fun _ hk => hk.2) (.int .i64 t594)) (fun _ hk => hk.1.2)⟩
          have n3_ : Aside0 (Kd.S k135 135 (((((((w45.setCell ⟨gb595, 0, none⟩ (.bool t582)).setCell ⟨gb595, 1, none⟩ (.slice Ao49 t583.length co49)).setCell ⟨gb595, 2, none⟩ (.int .i64 t586)).setCell ⟨gb595, 3, none⟩ (.int .i64 t587)).setCell ⟨gb595, 4, none⟩ (.slice Ao50 t588.length co50)).setCell ⟨gb595, 5, none⟩ (.slice Ao51 t591.length co51)).setCell ⟨gb595, 6, none⟩ (.int .i64 t594)) w.heap.size (fun k_ => some k_ ≠ (.slice Ao39 t563.length co39 : Value).ownBlock) (.slice Ao49 t583.length co49) t583) := ⟨by (with_reducible repeat (first | apply Kd.S_alloc | apply Kd.S_drewN | apply Kd.S_drew)); exact Kd.S_mono (Kd.S_far (p := ⟨gb595, 6, none⟩) (Kd.S_far (p := ⟨gb595, 5, none⟩) (Kd.S_far (p := ⟨gb595, 4, none⟩) (Kd.S_far (p := ⟨gb595, 3, none⟩) (Kd.S_far (p := ⟨gb595, 2, none⟩) (Kd.S_far (p := ⟨gb595, 1, none⟩) (Kd.S_far (p := ⟨gb595, 0, none⟩) (Kd.S_types HO585.out BK595.out (by decide)) (fun _ hk => hk.2) (.bool t582)) (fun _ hk => hk.2) (.slice Ao49 t583.length co49)) (fun _ hk => hk.2) (.int .i64 t586)) (fun _ hk => hk.2) (.int .i64 t587)) (fun _ hk => hk.2) (.slice Ao50 t588.length co50)) (fun _ hk => hk.2) (.slice Ao51 t591.length co51)) (fun _ hk => hk.2) (.int .i64 t594)) (fun _ hk => hk.1.2)⟩
          have n4_ : Aside0 (Kd.R k192 192 (((((((w45.setCell ⟨gb595, 0, none⟩ (.bool t582)).setCell ⟨gb595, 1, none⟩ (.slice Ao49 t583.length co49)).setCell ⟨gb595, 2, none⟩ (.int .i64 t586)).setCell ⟨gb595, 3, none⟩ (.int .i64 t587)).setCell ⟨gb595, 4, none⟩ (.slice Ao50 t588.length co50)).setCell ⟨gb595, 5, none⟩ (.slice Ao51 t591.length co51)).setCell ⟨gb595, 6, none⟩ (.int .i64 t594)) w.heap.size (fun k_ => some k_ ≠ (.slice Ao40 t568.length co40 : Value).ownBlock) (.slice Ao50 t588.length co50) t588) := ⟨by (with_reducible repeat (first | apply Kd.R_alloc | apply Kd.R_drewN | apply Kd.R_drew)); exact Kd.R_mono (Kd.R_far (p := ⟨gb595, 6, none⟩) (Kd.R_far (p := ⟨gb595, 5, none⟩) (Kd.R_far (p := ⟨gb595, 4, none⟩) (Kd.R_far (p := ⟨gb595, 3, none⟩) (Kd.R_far (p := ⟨gb595, 2, none⟩) (Kd.R_far (p := ⟨gb595, 1, none⟩) (Kd.R_far (p := ⟨gb595, 0, none⟩) (Kd.R_types HO590.out BK595.out (by decide)) (fun _ hk => hk.2) (.bool t582)) (fun _ hk => hk.2) (.slice Ao49 t583.length co49)) (fun _ hk => hk.2) (.int .i64 t586)) (fun _ hk => hk.2) (.int .i64 t587)) (fun _ hk => hk.2) (.slice Ao50 t588.length co50)) (fun _ hk => hk.2) (.slice Ao51 t591.length co51)) (fun _ hk => hk.2) (.int .i64 t594)) (fun _ hk => hk.1.2)⟩
          have n5_ : Aside0 (Kd.R k120 120 (((((((w45.setCell ⟨gb595, 0, none⟩ (.bool t582)).setCell ⟨gb595, 1, none⟩ (.slice Ao49 t583.length co49)).setCell ⟨gb595, 2, none⟩ (.int .i64 t586)).setCell ⟨gb595, 3, none⟩ (.int .i64 t587)).setCell ⟨gb595, 4, none⟩ (.slice Ao50 t588.length co50)).setCell ⟨gb595, 5, none⟩ (.slice Ao51 t591.length co51)).setCell ⟨gb595, 6, none⟩ (.int .i64 t594)) w.heap.size (fun k_ => some k_ ≠ (.slice Ao41 t571.length co41 : Value).ownBlock) (.slice Ao51 t591.length co51) t591) := ⟨by (with_reducible repeat (first | apply Kd.R_alloc | apply Kd.R_drewN | apply Kd.R_drew)); exact Kd.R_mono (Kd.R_far (p := ⟨gb595, 6, none⟩) (Kd.R_far (p := ⟨gb595, 5, none⟩) (Kd.R_far (p := ⟨gb595, 4, none⟩) (Kd.R_far (p := ⟨gb595, 3, none⟩) (Kd.R_far (p := ⟨gb595, 2, none⟩) (Kd.R_far (p := ⟨gb595, 1, none⟩) (Kd.R_far (p := ⟨gb595, 0, none⟩) (Kd.R_types HO593.out BK595.out (by decide)) (fun _ hk => hk.2) (.bool t582)) (fun _ hk => hk.2) (.slice Ao49 t583.length co49)) (fun _ hk => hk.2) (.int .i64 t586)) (fun _ hk => hk.2) (.int .i64 t587)) (fun _ hk => hk.2) (.slice Ao50 t588.length co50)) (fun _ hk => hk.2) (.slice Ao51 t591.length co51)) (fun _ hk => hk.2) (.int .i64 t594)) (fun _ hk => hk.1.2)⟩
          have n6_ : Aside0 ((((((((w45.setCell ⟨gb595, 0, none⟩ (.bool t582)).setCell ⟨gb595, 1, none⟩ (.slice Ao49 t583.length co49)).setCell ⟨gb595, 2, none⟩ (.int .i64 t586)).setCell ⟨gb595, 3, none⟩ (.int .i64 t587)).setCell ⟨gb595, 4, none⟩ (.slice Ao50 t588.length co50)).setCell ⟨gb595, 5, none⟩ (.slice Ao51 t591.length co51)).setCell ⟨gb595, 6, none⟩ (.int .i64 t594)).heap[gb558]? = some (.cells #[.bool a0_0, .slice A0_1 l0_1.length c0_1, .int .i64 a0_2, .int .i64 a0_3, .slice A0_4 l0_4.length c0_4, .slice A0_5 l0_5.length c0_5, .int .i64 a0_6] 65 (0, 0))) := ⟨by (with_reducible repeat (first | refine blk_drewN ?_ _ | refine blk_drew ?_ | refine blk_alloc ?_ _)); refine blk_far ?_ NB558_595.out _; (with_reducible repeat (first | refine blk_drewN ?_ _ | refine blk_drew ?_ | refine blk_alloc ?_ _)); refine blk_far ?_ NB558_595.out _; (with_reducible repeat (first | refine blk_drewN ?_ _ | refine blk_drew ?_ | refine blk_alloc ?_ _)); refine blk_far ?_ NB558_595.out _; (with_reducible repeat (first | refine blk_drewN ?_ _ | refine blk_drew ?_ | refine blk_alloc ?_ _)); refine blk_far ?_ NB558_595.out _; (with_reducible repeat (first | refine blk_drewN ?_ _ | refine blk_drew ?_ | refine blk_alloc ?_ _)); refine blk_far ?_ NB558_595.out _; (with_reducible repeat (first | refine blk_drewN ?_ _ | refine blk_drew ?_ | refine blk_alloc ?_ _)); refine blk_far ?_ NB558_595.out _; (with_reducible repeat (first | refine blk_drewN ?_ _ | refine blk_drew ?_ | refine blk_alloc ?_ _)); refine blk_far ?_ NB558_595.out _; (with_reducible repeat (first | refine blk_drewN ?_ _ | refine blk_drew ?_ | refine blk_alloc ?_ _)); exact BK558.out⟩
          have n7_ : Aside0 ((((((((w45.setCell ⟨gb595, 0, none⟩ (.bool t582)).setCell ⟨gb595, 1, none⟩ (.slice Ao49 t583.length co49)).setCell ⟨gb595, 2, none⟩ (.int .i64 t586)).setCell ⟨gb595, 3, none⟩ (.int .i64 t587)).setCell ⟨gb595, 4, none⟩ (.slice Ao50 t588.length co50)).setCell ⟨gb595, 5, none⟩ (.slice Ao51 t591.length co51)).setCell ⟨gb595, 6, none⟩ (.int .i64 t594)).heap[gb559]? = some (.cells #[.int .i64 a1_0, .int .i64 a1_1, .string a1_2, .string a1_3, .string a1_4, .int .i64 a1_5] 67 (0, 0))) := ⟨by (with_reducible repeat (first | refine blk_drewN ?_ _ | refine blk_drew ?_ | refine blk_alloc ?_ _)); refine blk_far ?_ NB559_595.out _; (with_reducible repeat (first | refine blk_drewN ?_ _ | refine blk_drew ?_ | refine blk_alloc ?_ _)); refine blk_far ?_ NB559_595.out _; (with_reducible repeat (first | refine blk_drewN ?_ _ | refine blk_drew ?_ | refine blk_alloc ?_ _)); refine blk_far ?_ NB559_595.out _; (with_reducible repeat (first | refine blk_drewN ?_ _ | refine blk_drew ?_ | refine blk_alloc ?_ _)); refine blk_far ?_ NB559_595.out _; (with_reducible repeat (first | refine blk_drewN ?_ _ | refine blk_drew ?_ | refine blk_alloc ?_ _)); refine blk_far ?_ NB559_595.out _; (with_reducible repeat (first | refine blk_drewN ?_ _ | refine blk_drew ?_ | refine blk_alloc ?_ _)); refine blk_far ?_ NB559_595.out _; (with_reducible repeat (first | refine blk_drewN ?_ _ | refine blk_drew ?_ | refine blk_alloc ?_ _)); refine blk_far ?_ NB559_595.out _; (with_reducible repeat (first | refine blk_drewN ?_ _ | refine blk_drew ?_ | refine blk_alloc ?_ _)); exact BK559.out⟩
          have n8_ : Aside0 ((((((((w45.setCell ⟨gb595, 0, none⟩ (.bool t582)).setCell ⟨gb595, 1, none⟩ (.slice Ao49 t583.length co49)).setCell ⟨gb595, 2, none⟩ (.int .i64 t586)).setCell ⟨gb595, 3, none⟩ (.int .i64 t587)).setCell ⟨gb595, 4, none⟩ (.slice Ao50 t588.length co50)).setCell ⟨gb595, 5, none⟩ (.slice Ao51 t591.length co51)).setCell ⟨gb595, 6, none⟩ (.int .i64 t594)).heap[gb595]? = some (.cells #[.bool t582, .slice Ao49 t583.length co49, .int .i64 t586, .int .i64 t587, .slice Ao50 t588.length co50, .slice Ao51 t591.length co51, .int .i64 t594] 46 (0, 0))) := ⟨by (with_reducible repeat (first | refine blk_drewN ?_ _ | refine blk_drew ?_ | refine blk_alloc ?_ _)); refine blk_put (cs := #[.bool t582, .slice Ao49 t583.length co49, .int .i64 t586, .int .i64 t587, .slice Ao50 t588.length co50, .slice Ao51 t591.length co51, .int .i64 0]) ?_ 6 _ rfl; (with_reducible repeat (first | refine blk_drewN ?_ _ | refine blk_drew ?_ | refine blk_alloc ?_ _)); refine blk_put (cs := #[.bool t582, .slice Ao49 t583.length co49, .int .i64 t586, .int .i64 t587, .slice Ao50 t588.length co50, .slice none 0 0, .int .i64 0]) ?_ 5 _ rfl; (with_reducible repeat (first | refine blk_drewN ?_ _ | refine blk_drew ?_ | refine blk_alloc ?_ _)); refine blk_put (cs := #[.bool t582, .slice Ao49 t583.length co49, .int .i64 t586, .int .i64 t587, .slice none 0 0, .slice none 0 0, .int .i64 0]) ?_ 4 _ rfl; (with_reducible repeat (first | refine blk_drewN ?_ _ | refine blk_drew ?_ | refine blk_alloc ?_ _)); refine blk_put (cs := #[.bool t582, .slice Ao49 t583.length co49, .int .i64 t586, .int .i64 0, .slice none 0 0, .slice none 0 0, .int .i64 0]) ?_ 3 _ rfl; (with_reducible repeat (first | refine blk_drewN ?_ _ | refine blk_drew ?_ | refine blk_alloc ?_ _)); refine blk_put (cs := #[.bool t582, .slice Ao49 t583.length co49, .int .i64 0, .int .i64 0, .slice none 0 0, .slice none 0 0, .int .i64 0]) ?_ 2 _ rfl; (with_reducible repeat (first | refine blk_drewN ?_ _ | refine blk_drew ?_ | refine blk_alloc ?_ _)); refine blk_put (cs := #[.bool t582, .slice none 0 0, .int .i64 0, .int .i64 0, .slice none 0 0, .slice none 0 0, .int .i64 0]) ?_ 1 _ rfl; (with_reducible repeat (first | refine blk_drewN ?_ _ | refine blk_drew ?_ | refine blk_alloc ?_ _)); refine blk_put (cs := #[.bool false, .slice none 0 0, .int .i64 0, .int .i64 0, .slice none 0 0, .slice none 0 0, .int .i64 0]) ?_ 0 _ rfl; (with_reducible repeat (first | refine blk_drewN ?_ _ | refine blk_drew ?_ | refine blk_alloc ?_ _)); exact BK595.out⟩
          have n9_ : Aside0 (Below w.heap.size w (((((((w45.setCell ⟨gb595, 0, none⟩ (.bool t582)).setCell ⟨gb595, 1, none⟩ (.slice Ao49 t583.length co49)).setCell ⟨gb595, 2, none⟩ (.int .i64 t586)).setCell ⟨gb595, 3, none⟩ (.int .i64 t587)).setCell ⟨gb595, 4, none⟩ (.slice Ao50 t588.length co50)).setCell ⟨gb595, 5, none⟩ (.slice Ao51 t591.length co51)).setCell ⟨gb595, 6, none⟩ (.int .i64 t594))) := ⟨(BB3 HB.out GE558.out GE559.out GE595.out)⟩
          (try clear HO565)
          (try clear HO570)
          (try clear HO573)
          (try clear HO585)
          (try clear HO590)
          (try clear HO593)
          (try clear BK558)
          (try clear BK559)
          (try clear BK595)
          (try clear HB)
          generalize (((((((w45.setCell ⟨gb595, 0, none⟩ (.bool t582)).setCell ⟨gb595, 1, none⟩ (.slice Ao49 t583.length co49)).setCell ⟨gb595, 2, none⟩ (.int .i64 t586)).setCell ⟨gb595, 3, none⟩ (.int .i64 t587)).setCell ⟨gb595, 4, none⟩ (.slice Ao50 t588.length co50)).setCell ⟨gb595, 5, none⟩ (.slice Ao51 t591.length co51)).setCell ⟨gb595, 6, none⟩ (.int .i64 t594)) = w52 at n0_ n1_ n2_ n3_ n4_ n5_ n6_ n7_ n8_ n9_ ⊢
          have HO565 := n0_
          have HO570 := n1_
          have HO573 := n2_
          have HO585 := n3_
          have HO590 := n4_
          have HO593 := n5_
          have BK558 := n6_
          have BK559 := n7_
          have BK595 := n8_
          have HB := n9_
          clear n0_ n1_ n2_ n3_ n4_ n5_ n6_ n7_ n8_ n9_
          have n0_ := Aside0.mk (Kd.S_drew HO565.out)
          have n1_ := Aside0.mk (Kd.R_drew HO570.out)
          have n2_ := Aside0.mk (Kd.R_drew HO573.out)
          have n3_ := Aside0.mk (Kd.S_drew HO585.out)
          have n4_ := Aside0.mk (Kd.R_drew HO590.out)
          have n5_ := Aside0.mk (Kd.R_drew HO593.out)
          have n6_ := Aside0.mk (blk_drew BK558.out)
          have n7_ := Aside0.mk (blk_drew BK559.out)
          have n8_ := Aside0.mk (blk_drew BK595.out)
          have n9_ := Aside0.mk (below_drew1 HB.out)
          clear HO565
          clear HO570
          clear HO573
          clear HO585
          clear HO590
          clear HO593
          clear BK558
          clear BK559
          clear BK595
          clear HB
          have HO565 := n0_
          have HO570 := n1_
          have HO573 := n2_
          have HO585 := n3_
          have HO590 := n4_
          have HO593 := n5_
          have BK558 := n6_
          have BK559 := n7_
          have BK595 := n8_
          have HB := n9_
          clear n0_ n1_ n2_ n3_ n4_ n5_ n6_ n7_ n8_ n9_
          refine start_ (n := 5) (S := fun w' => w'.cell? ⟨gb595, 0, none⟩ = some (.bool t582) ∧ w'.cell? ⟨gb595, 1, none⟩ = some (.slice Ao49 t583.length co49) ∧ w'.cell? ⟨gb595, 2, none⟩ = some (.int .i64 t586) ∧ w'.cell? ⟨gb595, 3, none⟩ = some (.int .i64 t587) ∧ w'.cell? ⟨gb595, 4, none⟩ = some (.slice Ao50 t588.length co50) ∧ w'.cell? ⟨gb595, 5, none⟩ = some (.slice Ao51 t591.length co51) ∧ w'.cell? ⟨gb595, 6, none⟩ = some (.int .i64 t594) ∧ w'.cell? ⟨gb559, 0, none⟩ = some (.int .i64 a1_0) ∧ w'.cell? ⟨gb559, 1, none⟩ = some (.int .i64 a1_1) ∧ w'.cell? ⟨gb559, 2, none⟩ = some (.string a1_2) ∧ w'.cell? ⟨gb559, 3, none⟩ = some (.string a1_3) ∧ w'.cell? ⟨gb559, 4, none⟩ = some (.string a1_4) ∧ w'.cell? ⟨gb559, 5, none⟩ = some (.int .i64 a1_5)) (ds := []) #[false, false, false, false, false] (by kernel_rfl) rfl rfl ⟨(blk_cell BK595.out 0).trans rfl, (blk_cell BK595.out 1).trans rfl, (blk_cell BK595.out 2).trans rfl, (blk_cell BK595.out 3).trans rfl, (blk_cell BK595.out 4).trans rfl, (blk_cell BK595.out 5).trans rfl, (blk_cell BK595.out 6).trans rfl, (blk_cell BK559.out 0).trans rfl, (blk_cell BK559.out 1).trans rfl, (blk_cell BK559.out 2).trans rfl, (blk_cell BK559.out 3).trans rfl, (blk_cell BK559.out 4).trans rfl, (blk_cell BK559.out 5).trans rfl⟩ (fun hHeld => ?_)
          generalize w52.drew = w53 at HO565 HO570 HO573 HO585 HO590 HO593 BK558 BK559 BK595 HB hHeld ⊢
          refine take_ (i := 0) (N := some 26) (v := ?_) (a' := ?_) #[true, false, false, false, false] rfl rfl (by kernel_rfl) (fun _ _ _ h => h) (Or.inl ⟨by rfl, ?_⟩) hHeld ?_ ?_
          rotate_left
          · rintro w' ⟨s0, s1, s2, s3, s4, s5, s6, s7, s8, s9, s10, s11, s12⟩
            go_simp
            with_reducible rfl
          rotate_left
          · simp only [Act.put, List.setIfInBounds_toArray, List.set_cons_zero, List.set_cons_succ, i64_w, i32_w]
            rfl
          refine take_ (i := 1) (N := some 27) (v := ?_) (a' := ?_) #[true, true, false, false, false] rfl rfl (by kernel_rfl) (fun _ _ _ h => h) (Or.inl ⟨by rfl, ?_⟩) hHeld ?_ ?_
          rotate_left
          · rintro w' ⟨s0, s1, s2, s3, s4, s5, s6, s7, s8, s9, s10, s11, s12⟩
            go_simp
            with_reducible rfl
          rotate_left
          · simp only [Act.put, List.setIfInBounds_toArray, List.set_cons_zero, List.set_cons_succ, i64_w, i32_w]
            rfl
          refine one_ (i := 2) (N := some 28) #[true, true, true, false, false] rfl rfl (by kernel_rfl) (by decide) (fun K hK => ?_)
          refine goes_ Try.func39 (by kernel_rfl) rfl #[.agg #[.int .i64 a1_0, .int .i64 a1_1, .string a1_2, .string a1_3, .string a1_4, .int .i64 a1_5]] (by rfl) rfl rfl (by (try simp only [List.map_toArray, List.map_cons, List.map_nil]); first | done | rfl | (simp only [List.length_drop, List.length_take]; rfl)) ?_
          with_reducible refine (laws_toAsk.calls a1_0 a1_1 a1_2 a1_3 a1_4 a1_5 t596 t597 t598 t599 t600 t601 _ A23.out).mono ?_
          rintro e w54 ⟨rfl, hb⟩
          refine ⟨_, rfl, ?_⟩
          have n0_ := Aside0.mk (Kd.S_below (SS HO565.out) hb)
          have n1_ := Aside0.mk (Kd.R_below (RR HO570.out) hb)
          have n2_ := Aside0.mk (Kd.R_below (RR HO573.out) hb)
          have n3_ := Aside0.mk (Kd.S_below (SS HO585.out) hb)
          have n4_ := Aside0.mk (Kd.R_below (RR HO590.out) hb)
          have n5_ := Aside0.mk (Kd.R_below (RR HO593.out) hb)
          have n6_ := Aside0.mk (KB BK558.out hb)
          have n7_ := Aside0.mk (KB BK559.out hb)
          have n8_ := Aside0.mk (KB BK595.out hb)
          have n9_ := Aside0.mk (below_step (BB3 HB.out GE558.out GE559.out GE595.out) hb)
          clear HO565
          clear HO570
          clear HO573
          clear HO585
          clear HO590
          clear HO593
          clear BK558
          clear BK559
          clear BK595
          clear HB
          have HO565 := n0_
          have HO570 := n1_
          have HO573 := n2_
          have HO585 := n3_
          have HO590 := n4_
          have HO593 := n5_
          have BK558 := n6_
          have BK559 := n7_
          have BK595 := n8_
          have HB := n9_
          clear n0_ n1_ n2_ n3_ n4_ n5_ n6_ n7_ n8_ n9_
          (try clear hb)
          (try clear hb2)
          (try clear hk)
          (try clear hi)
          refine hK.out _ _ ⟨(blk_cell BK595.out 0).trans rfl, (blk_cell BK595.out 1).trans rfl, (blk_cell BK595.out 2).trans rfl, (blk_cell BK595.out 3).trans rfl, (blk_cell BK595.out 4).trans rfl, (blk_cell BK595.out 5).trans rfl, (blk_cell BK595.out 6).trans rfl, (blk_cell BK559.out 0).trans rfl, (blk_cell BK559.out 1).trans rfl, (blk_cell BK559.out 2).trans rfl, (blk_cell BK559.out 3).trans rfl, (blk_cell BK559.out 4).trans rfl, (blk_cell BK559.out 5).trans rfl⟩ (fun hHeld => ?_)
          clear hK K
          refine norm_ (a' := ?_) ?_ ?_
          rotate_left
          · show Act.put _ (some 28) _ = _
            simp only [Act.put, List.setIfInBounds_toArray, List.set_cons_zero, List.set_cons_succ, i64_w, i32_w]
            rfl
          refine one_ (i := 3) (N := some 29) #[true, true, true, true, false] rfl rfl (by kernel_rfl) (by decide) (fun K hK => ?_)
          refine goes_ Try.func40 (by kernel_rfl) rfl #[.agg #[.bool t582, .slice Ao49 t583.length co49, .int .i64 t586, .int .i64 t587, .slice Ao50 t588.length co50, .slice Ao51 t591.length co51, .int .i64 t594], .agg #[.int .i64 t596, .int .i64 t597, .string t598, .string t599, .string t600, .int .i64 t601]] (by rfl) rfl rfl (by (try simp only [List.map_toArray, List.map_cons, List.map_nil]); first | done | rfl | (simp only [List.length_drop, List.length_take]; rfl)) ?_
          with_reducible refine (impl_MayWrite.calls k t582 _ _ t583 t586 t587 _ _ t588 _ _ t591 t594 t596 t597 t598 t599 t600 t601 t602 _ ?side1 ?side2 ?side3 ?side4 ?side5 ?side6 A24.out).mono ?_
          (case side1 => exact CC (Kd.S_reads' HO585.out).2.2)
          (case side2 => exact (Kd.S_reads' HO585.out).2.1)
          (case side3 => exact CC (Kd.R_reads' HO590.out).2.2)
          (case side4 => exact (Kd.R_reads' HO590.out).2.1)
          (case side5 => exact CC (Kd.R_reads' HO593.out).2.2)
          (case side6 => exact (Kd.R_reads' HO593.out).2.1)
          rintro e w55 ⟨rfl, hb⟩
          refine ⟨_, rfl, ?_⟩
          have n0_ := Aside0.mk (Kd.S_below (SS HO565.out) hb)
          have n1_ := Aside0.mk (Kd.R_below (RR HO570.out) hb)
          have n2_ := Aside0.mk (Kd.R_below (RR HO573.out) hb)
          have n3_ := Aside0.mk (Kd.S_below (SS HO585.out) hb)
          have n4_ := Aside0.mk (Kd.R_below (RR HO590.out) hb)
          have n5_ := Aside0.mk (Kd.R_below (RR HO593.out) hb)
          have n6_ := Aside0.mk (KB BK558.out hb)
          have n7_ := Aside0.mk (KB BK559.out hb)
          have n8_ := Aside0.mk (KB BK595.out hb)
          have n9_ := Aside0.mk (below_step (BB3 HB.out GE558.out GE559.out GE595.out) hb)
          clear HO565
          clear HO570
          clear HO573
          clear HO585
          clear HO590
          clear HO593
          clear BK558
          clear BK559
          clear BK595
          clear HB
          have HO565 := n0_
          have HO570 := n1_
          have HO573 := n2_
          have HO585 := n3_
          have HO590 := n4_
          have HO593 := n5_
          have BK558 := n6_
          have BK559 := n7_
          have BK595 := n8_
          have HB := n9_
          clear n0_ n1_ n2_ n3_ n4_ n5_ n6_ n7_ n8_ n9_
          (try clear hb)
          (try clear hb2)
          (try clear hk)
          (try clear hi)
          refine hK.out _ _ ⟨(blk_cell BK595.out 0).trans rfl, (blk_cell BK595.out 1).trans rfl, (blk_cell BK595.out 2).trans rfl, (blk_cell BK595.out 3).trans rfl, (blk_cell BK595.out 4).trans rfl, (blk_cell BK595.out 5).trans rfl, (blk_cell BK595.out 6).trans rfl, (blk_cell BK559.out 0).trans rfl, (blk_cell BK559.out 1).trans rfl, (blk_cell BK559.out 2).trans rfl, (blk_cell BK559.out 3).trans rfl, (blk_cell BK559.out 4).trans rfl, (blk_cell BK559.out 5).trans rfl⟩ (fun hHeld => ?_)
          clear hK K
          refine norm_ (a' := ?_) ?_ ?_
          rotate_left
          · show Act.put _ (some 29) _ = _
            simp only [Act.put, List.setIfInBounds_toArray, List.set_cons_zero, List.set_cons_succ, i64_w, i32_w]
            rfl
          refine pure_ (i := 4) (N := some 8) (v := ?_) (a' := ?_) #[true, true, true, true, true] rfl rfl (by kernel_rfl) (fun _ _ _ h => h) (Or.inl ⟨by rfl, ?_⟩) ?_ ?_
          rotate_left
          · intro w'
            go_simp
            with_reducible rfl
          rotate_left
          · simp only [Act.put, List.setIfInBounds_toArray, List.set_cons_zero, List.set_cons_succ, i64_w, i32_w]
            rfl
          refine done_ (by kernel_rfl) ?_
          try go_wp2
          have n0_ := Aside0.mk (Kd.S_drew HO565.out)
          have n1_ := Aside0.mk (Kd.R_drew HO570.out)
          have n2_ := Aside0.mk (Kd.R_drew HO573.out)
          have n3_ := Aside0.mk (Kd.S_drew HO585.out)
          have n4_ := Aside0.mk (Kd.R_drew HO590.out)
          have n5_ := Aside0.mk (Kd.R_drew HO593.out)
          have n6_ := Aside0.mk (blk_drew BK558.out)
          have n7_ := Aside0.mk (blk_drew BK559.out)
          have n8_ := Aside0.mk (blk_drew BK595.out)
          have n9_ := Aside0.mk (below_drew1 HB.out)
          clear HO565
          clear HO570
          clear HO573
          clear HO585
          clear HO590
          clear HO593
          clear BK558
          clear BK559
          clear BK595
          clear HB
          have HO565 := n0_
          have HO570 := n1_
          have HO573 := n2_
          have HO585 := n3_
          have HO590 := n4_
          have HO593 := n5_
          have BK558 := n6_
          have BK559 := n7_
          have BK595 := n8_
          have HB := n9_
          clear n0_ n1_ n2_ n3_ n4_ n5_ n6_ n7_ n8_ n9_
          refine start_ (n := 5) (S := fun w' => w'.cell? ⟨gb595, 0, none⟩ = some (.bool t582) ∧ w'.cell? ⟨gb595, 1, none⟩ = some (.slice Ao49 t583.length co49) ∧ w'.cell? ⟨gb595, 2, none⟩ = some (.int .i64 t586) ∧ w'.cell? ⟨gb595, 3, none⟩ = some (.int .i64 t587) ∧ w'.cell? ⟨gb595, 4, none⟩ = some (.slice Ao50 t588.length co50) ∧ w'.cell? ⟨gb595, 5, none⟩ = some (.slice Ao51 t591.length co51) ∧ w'.cell? ⟨gb595, 6, none⟩ = some (.int .i64 t594) ∧ w'.cell? ⟨gb558, 0, none⟩ = some (.bool a0_0) ∧ w'.cell? ⟨gb558, 1, none⟩ = some (.slice A0_1 l0_1.length c0_1) ∧ w'.cell? ⟨gb558, 2, none⟩ = some (.int .i64 a0_2) ∧ w'.cell? ⟨gb558, 3, none⟩ = some (.int .i64 a0_3) ∧ w'.cell? ⟨gb558, 4, none⟩ = some (.slice A0_4 l0_4.length c0_4) ∧ w'.cell? ⟨gb558, 5, none⟩ = some (.slice A0_5 l0_5.length c0_5) ∧ w'.cell? ⟨gb558, 6, none⟩ = some (.int .i64 a0_6)) (ds := []) #[false, false, false, false, false] (by kernel_rfl) rfl rfl ⟨(blk_cell BK595.out 0).trans rfl, (blk_cell BK595.out 1).trans rfl, (blk_cell BK595.out 2).trans rfl, (blk_cell BK595.out 3).trans rfl, (blk_cell BK595.out 4).trans rfl, (blk_cell BK595.out 5).trans rfl, (blk_cell BK595.out 6).trans rfl, (blk_cell BK558.out 0).trans rfl, (blk_cell BK558.out 1).trans rfl, (blk_cell BK558.out 2).trans rfl, (blk_cell BK558.out 3).trans rfl, (blk_cell BK558.out 4).trans rfl, (blk_cell BK558.out 5).trans rfl, (blk_cell BK558.out 6).trans rfl⟩ (fun hHeld => ?_)
          generalize w55.drew = w56 at HO565 HO570 HO573 HO585 HO590 HO593 BK558 BK559 BK595 HB hHeld ⊢
          refine take_ (i := 0) (N := some 33) (v := ?_) (a' := ?_) #[true, false, false, false, false] rfl rfl (by kernel_rfl) (fun _ _ _ h => h) (Or.inl ⟨by rfl, ?_⟩) hHeld ?_ ?_
          rotate_left
          · rintro w' ⟨s0, s1, s2, s3, s4, s5, s6, s7, s8, s9, s10, s11, s12, s13⟩
            go_simp
            with_reducible rfl
          rotate_left
          · simp only [Act.put, List.setIfInBounds_toArray, List.set_cons_zero, List.set_cons_succ, i64_w, i32_w]
            rfl
          refine take_ (i := 1) (N := some 34) (v := ?_) (a' := ?_) #[true, true, false, false, false] rfl rfl (by kernel_rfl) (fun _ _ _ h => h) (Or.inl ⟨by rfl, ?_⟩) hHeld ?_ ?_
          rotate_left
          · rintro w' ⟨s0, s1, s2, s3, s4, s5, s6, s7, s8, s9, s10, s11, s12, s13⟩
            go_simp
            with_reducible rfl
          rotate_left
          · simp only [Act.put, List.setIfInBounds_toArray, List.set_cons_zero, List.set_cons_succ, i64_w, i32_w]
            rfl
          refine one_ (i := 2) (N := some 35) #[true, true, true, false, false] rfl rfl (by kernel_rfl) (by decide) (fun K hK => ?_)
          refine goes_ Try.func38 (by kernel_rfl) rfl #[.agg #[.bool a0_0, .slice A0_1 l0_1.length c0_1, .int .i64 a0_2, .int .i64 a0_3, .slice A0_4 l0_4.length c0_4, .slice A0_5 l0_5.length c0_5, .int .i64 a0_6]] (by rfl) rfl rfl (by (try simp only [List.map_toArray, List.map_cons, List.map_nil]); first | done | rfl | (simp only [List.length_drop, List.length_take]; rfl)) ?_
          with_reducible refine (laws_toServer.calls k a0_0 _ _ l0_1 a0_2 a0_3 _ _ l0_4 _ _ l0_5 a0_6 t603 t604 t607 t608 t609 t612 t615 _ ?side1 ?side2 ?side3 ?side4 ?side5 ?side6 A26.out).mono ?_
          (case side1 => exact CC (Kd.C_below HR0_1.out HB.out))
          (case side2 => exact HC0_1.out)
          (case side3 => exact CC (Kd.C_below HR0_4.out HB.out))
          (case side4 => exact HC0_4.out)
          (case side5 => exact CC (Kd.C_below HR0_5.out HB.out))
          (case side6 => exact HC0_5.out)
          rintro e w57 ⟨v605, v610, v613, rfl, ho0, ho1, ho2, hb⟩
          refine ⟨_, rfl, ?_⟩
          have n0_ := Aside0.mk (Kd.S_elder' (SS HO565.out) (Kd.S_base ho0) hb)
          have n1_ := Aside0.mk (Kd.R_elder' (RR HO570.out) (Kd.R_base ho1) hb)
          have n2_ := Aside0.mk (Kd.R_elder' (RR HO573.out) (Kd.R_base ho2) hb)
          have n3_ := Aside0.mk (Kd.S_elder' (SS HO585.out) (Kd.S_base ho0) hb)
          have n4_ := Aside0.mk (Kd.R_elder' (RR HO590.out) (Kd.R_base ho1) hb)
          have n5_ := Aside0.mk (Kd.R_elder' (RR HO593.out) (Kd.R_base ho2) hb)
          have n6_ := Aside0.mk (Kd.S_lower (Kd.S_new' (Kd.S_new' ho0 (Kd.S_lt (SS HO565.out))) (Kd.S_lt (SS HO585.out))) (below_size (BB3 HB.out GE558.out GE559.out GE595.out)))
          have n7_ := Aside0.mk (Kd.R_lower (Kd.R_new' (Kd.R_new' ho1 (Kd.R_lt (RR HO570.out))) (Kd.R_lt (RR HO590.out))) (below_size (BB3 HB.out GE558.out GE559.out GE595.out)))
          have n8_ := Aside0.mk (Kd.R_lower (Kd.R_new' (Kd.R_new' ho2 (Kd.R_lt (RR HO573.out))) (Kd.R_lt (RR HO593.out))) (below_size (BB3 HB.out GE558.out GE559.out GE595.out)))
          have n9_ := Aside0.mk (KB BK558.out hb)
          have n10_ := Aside0.mk (KB BK559.out hb)
          have n11_ := Aside0.mk (KB BK595.out hb)
          have n12_ := Aside0.mk (below_step (BB3 HB.out GE558.out GE559.out GE595.out) hb)
          clear HO565
          clear HO570
          clear HO573
          clear HO585
          clear HO590
          clear HO593
          clear BK558
          clear BK559
          clear BK595
          clear HB
          have HO565 := n0_
          have HO570 := n1_
          have HO573 := n2_
          have HO585 := n3_
          have HO590 := n4_
          have HO593 := n5_
          have HO606 := n6_
          have HO611 := n7_
          have HO614 := n8_
          have BK558 := n9_
          have BK559 := n10_
          have BK595 := n11_
          have HB := n12_
          clear n0_ n1_ n2_ n3_ n4_ n5_ n6_ n7_ n8_ n9_ n10_ n11_ n12_
          (try clear hb)
          (try clear hb2)
          (try clear hk)
          (try clear hi)
          (try clear ho0)
          (try clear ho1)
          (try clear ho2)
          obtain ⟨Ao58, co58, eo58⟩ := Kd.S_slice HO606.out
          (first | subst eo58 | (injection eo58 with f1_ f2_ f3_; have f4_ := f1_.symm; have f5_ := f3_.symm; clear f1_ f2_ f3_; subst f4_; subst f5_))
          obtain ⟨Ao59, co59, eo59⟩ := Kd.R_slice HO611.out
          (first | subst eo59 | (injection eo59 with f1_ f2_ f3_; have f4_ := f1_.symm; have f5_ := f3_.symm; clear f1_ f2_ f3_; subst f4_; subst f5_))
          obtain ⟨Ao60, co60, eo60⟩ := Kd.R_slice HO614.out
          (first | subst eo60 | (injection eo60 with f1_ f2_ f3_; have f4_ := f1_.symm; have f5_ := f3_.symm; clear f1_ f2_ f3_; subst f4_; subst f5_))
          refine hK.out _ _ ⟨(blk_cell BK595.out 0).trans rfl, (blk_cell BK595.out 1).trans rfl, (blk_cell BK595.out 2).trans rfl, (blk_cell BK595.out 3).trans rfl, (blk_cell BK595.out 4).trans rfl, (blk_cell BK595.out 5).trans rfl, (blk_cell BK595.out 6).trans rfl, (blk_cell BK558.out 0).trans rfl, (blk_cell BK558.out 1).trans rfl, (blk_cell BK558.out 2).trans rfl, (blk_cell BK558.out 3).trans rfl, (blk_cell BK558.out 4).trans rfl, (blk_cell BK558.out 5).trans rfl, (blk_cell BK558.out 6).trans rfl⟩ (fun hHeld => ?_)
          clear hK K
          refine norm_ (a' := ?_) ?_ ?_
          rotate_left
          · show Act.put _ (some 35) _ = _
            simp only [Act.put, List.setIfInBounds_toArray, List.set_cons_zero, List.set_cons_succ, i64_w, i32_w]
            rfl
          refine one_ (i := 3) (N := some 36) #[true, true, true, true, false] rfl rfl (by kernel_rfl) (by decide) (fun K hK => ?_)
          refine goes_ Try.func27 (by kernel_rfl) rfl #[.agg #[.bool t582, .slice Ao49 t583.length co49, .int .i64 t586, .int .i64 t587, .slice Ao50 t588.length co50, .slice Ao51 t591.length co51, .int .i64 t594], .agg #[.bool t603, .slice Ao58 t604.length co58, .int .i64 t607, .int .i64 t608, .slice Ao59 t609.length co59, .slice Ao60 t612.length co60, .int .i64 t615]] (by rfl) rfl rfl (by (try simp only [List.map_toArray, List.map_cons, List.map_nil]); first | done | rfl | (simp only [List.length_drop, List.length_take]; rfl)) ?_
          with_reducible refine (laws_eqServer.calls k t582 _ _ t583 t586 t587 _ _ t588 _ _ t591 t594 t603 _ _ t604 t607 t608 _ _ t609 _ _ t612 t615 true _ ?side1 ?side2 ?side3 ?side4 ?side5 ?side6 ?side7 ?side8 ?side9 ?side10 ?side11 ?side12 A27.out).mono ?_
          (case side1 => exact CC (Kd.S_reads' HO585.out).2.2)
          (case side2 => exact (Kd.S_reads' HO585.out).2.1)
          (case side3 => exact CC (Kd.R_reads' HO590.out).2.2)
          (case side4 => exact (Kd.R_reads' HO590.out).2.1)
          (case side5 => exact CC (Kd.R_reads' HO593.out).2.2)
          (case side6 => exact (Kd.R_reads' HO593.out).2.1)
          (case side7 => exact CC (Kd.S_reads' HO606.out).2.2)
          (case side8 => exact (Kd.S_reads' HO606.out).2.1)
          (case side9 => exact CC (Kd.R_reads' HO611.out).2.2)
          (case side10 => exact (Kd.R_reads' HO611.out).2.1)
          (case side11 => exact CC (Kd.R_reads' HO614.out).2.2)
          (case side12 => exact (Kd.R_reads' HO614.out).2.1)
          rintro e w61 ⟨rfl, hb⟩
          refine ⟨_, rfl, ?_⟩
          have n0_ := Aside0.mk (Kd.S_below (SS HO565.out) hb)
          have n1_ := Aside0.mk (Kd.R_below (RR HO570.out) hb)
          have n2_ := Aside0.mk (Kd.R_below (RR HO573.out) hb)
          have n3_ := Aside0.mk (Kd.S_below (SS HO585.out) hb)
          have n4_ := Aside0.mk (Kd.R_below (RR HO590.out) hb)
          have n5_ := Aside0.mk (Kd.R_below (RR HO593.out) hb)
          have n6_ := Aside0.mk (Kd.S_below (SS HO606.out) hb)
          have n7_ := Aside0.mk (Kd.R_below (RR HO611.out) hb)
          have n8_ := Aside0.mk (Kd.R_below (RR HO614.out) hb)
          have n9_ := Aside0.mk (KB BK558.out hb)
          have n10_ := Aside0.mk (KB BK559.out hb)
          have n11_ := Aside0.mk (KB BK595.out hb)
          have n12_ := Aside0.mk (below_step (BB3 HB.out GE558.out GE559.out GE595.out) hb)
          clear HO565
          clear HO570
          clear HO573
          clear HO585
          clear HO590
          clear HO593
          clear HO606
          clear HO611
          clear HO614
          clear BK558
          clear BK559
          clear BK595
          clear HB
          have HO565 := n0_
          have HO570 := n1_
          have HO573 := n2_
          have HO585 := n3_
          have HO590 := n4_
          have HO593 := n5_
          have HO606 := n6_
          have HO611 := n7_
          have HO614 := n8_
          have BK558 := n9_
          have BK559 := n10_
          have BK595 := n11_
          have HB := n12_
          clear n0_ n1_ n2_ n3_ n4_ n5_ n6_ n7_ n8_ n9_ n10_ n11_ n12_
          (try clear hb)
          (try clear hb2)
          (try clear hk)
          (try clear hi)
          refine hK.out _ _ ⟨(blk_cell BK595.out 0).trans rfl, (blk_cell BK595.out 1).trans rfl, (blk_cell BK595.out 2).trans rfl, (blk_cell BK595.out 3).trans rfl, (blk_cell BK595.out 4).trans rfl, (blk_cell BK595.out 5).trans rfl, (blk_cell BK595.out 6).trans rfl, (blk_cell BK558.out 0).trans rfl, (blk_cell BK558.out 1).trans rfl, (blk_cell BK558.out 2).trans rfl, (blk_cell BK558.out 3).trans rfl, (blk_cell BK558.out 4).trans rfl, (blk_cell BK558.out 5).trans rfl, (blk_cell BK558.out 6).trans rfl⟩ (fun hHeld => ?_)
          clear hK K
          refine norm_ (a' := ?_) ?_ ?_
          rotate_left
          · show Act.put _ (some 36) _ = _
            simp only [Act.put, List.setIfInBounds_toArray, List.set_cons_zero, List.set_cons_succ, i64_w, i32_w]
            rfl
          refine pure_ (i := 4) (N := some 37) (v := ?_) (a' := ?_) #[true, true, true, true, true] rfl rfl (by kernel_rfl) (fun _ _ _ h => h) (Or.inl ⟨by rfl, ?_⟩) ?_ ?_
          rotate_left
          · intro w'
            go_simp
            with_reducible rfl
          rotate_left
          · simp only [Act.put, List.setIfInBounds_toArray, List.set_cons_zero, List.set_cons_succ, i64_w, i32_w]
            rfl
          refine done_ (by kernel_rfl) ?_
          try go_wp2
          go_ret
          exact ⟨ER, (BB3 HB.out GE558.out GE559.out GE595.out)⟩
        · replace c28 := Bool.eq_false_iff.mpr c28
          subst c28
          have H1 : (some false) = some r := by rw [if_neg (show ¬ (false = true) by decide)] at H; exact H
          clear H
          have H := H1
          clear H1
          exact absurd ((Option.some.inj H).trans hr_.out) (by decide)
      · rw [if_neg c25] at H
        have c25b0 : (t602 == t581) = false := beq_eq_false_iff_ne.mpr c25
        have c25b1 : (t602 != t581) = true := bne_iff_ne.mpr c25
        exact absurd ((Option.some.inj H).trans hr_.out) (by decide)

end Go.Proofs.Ytfgnaneajonapaa.Pr

/- Generic: whatever reads as data of a type is a value of its kind; by types' numbers and fields, for any program. -/
namespace Go.Proofs.Ytfgnaneajonapaa.Opn
open Go.RowKit Go.ChangeShapes Go.WideShapes Go.Deep Go.Proofs.YtfgnaneajonapaaW.PrintWords

def Opens {α : Type} (P : Program) (d : Kd α) (wf : α → Prop) (t : TypeId) : Prop :=
  ∀ (H : Type) (enc : TypeId × Value → H) (w : World) (base : Nat) (spare : Nat → Bool) (held : Bool) (fuel : Nat) (cs : List Value) (x : DataW H × List MemPlace),
    DataW.trod enc P w base spare held fuel t cs = some x → ∃ v, d.K w v cs ∧ wf v

def OpensF {α : Type} (P : Program) (d : Kd α) (wf : α → Prop) (off : Nat) (fs : List Field) : Prop :=
  ∀ (H : Type) (enc : TypeId × Value → H) (w : World) (base : Nat) (spare : Nat → Bool) (held : Bool) (fuel : Nat) (cs : List Value),
    cs.length = off + d.sz → (∀ f ∈ fs, ∃ y, DataW.trod enc P w base spare held fuel f.type ((cs.drop f.offset).take (P.cellsOf f.type)) = some y) → ∃ v, d.K w v (cs.drop off) ∧ wf v

theorem opens_int {P : Program} {t : TypeId} (k : IntKind) (ht : P.underlying t = some (.int k)) : Opens P (Kd.int k) (fun n => (Lit.int k n).wf = true) t := by
  intro H enc w base spare held fuel cs x h
  obtain ⟨n, rfl, _, hw⟩ := DataW.trod_int ht h
  exact ⟨n, rfl, hw⟩
theorem opens_bool {P : Program} {t : TypeId} (ht : P.underlying t = some .bool) : Opens P Kd.bool (fun _ => True) t := by
  intro H enc w base spare held fuel cs x h
  obtain ⟨n, rfl, _⟩ := DataW.trod_bool ht h
  exact ⟨n, rfl, trivial⟩
theorem opens_string {P : Program} {t : TypeId} (ht : P.underlying t = some .string) : Opens P Kd.string (fun s => s.size ≤ maxLen) t := by
  intro H enc w base spare held fuel cs x h
  obtain ⟨s, rfl, _, hs⟩ := DataW.trod_string ht h
  exact ⟨s, rfl, hs⟩

theorem list_of_lt {α : Type} {q : Nat → α → Prop} (len : Nat) (key : ∀ i, i < len → ∃ v, q i v) : ∃ xs : List α, xs.length = len ∧ ∀ i v, xs[i]? = some v → q i v := by
  induction len with
  | zero => exact ⟨[], rfl, fun i v h => by simp at h⟩
  | succ k ih =>
    obtain ⟨xs, hxl, hx⟩ := ih (fun i hik => key i (by omega))
    obtain ⟨v, h1⟩ := key k (by omega)
    refine ⟨xs ++ [v], by simp [hxl], fun i u hu => ?_⟩
    by_cases hik : i < xs.length
    · rw [List.getElem?_append_left hik] at hu
      exact hx i u hu
    · have hil := (List.getElem?_eq_some_iff.1 hu).1
      simp at hil
      have hi' : i = k := by omega
      subst hi'
      rw [List.getElem?_append_right (by omega)] at hu
      simp [hxl] at hu
      subst hu
      exact h1

theorem opens_slice {α : Type} {P : Program} {t e : TypeId} {d : Kd α} {wf : α → Prop} (ht : P.underlying t = some (.slice e)) (hc : P.cellsOf e = d.sz) (he : Opens P d wf e) :
    Opens P (Kd.slice e d) (fun xs => xs.length ≤ maxLen ∧ ∀ x ∈ xs, wf x) t := by
  intro H enc w base spare held fuel cs x h
  rcases Go.Deep.open_slice ht h with ⟨rfl, _⟩ | ⟨a, len, cap, m, n, D, Pl, rfl, _, hl, hm, hmm, _, hi⟩
  · refine ⟨[], ⟨none, 0, rfl, Nat.le_refl _, rfl, by simp, fun h => absurd h (by simp)⟩, by simp, fun x hx => by simp at hx⟩
  · have hlm : len ≤ m := by rw [hmm]; split <;> omega
    have key : ∀ i, i < len → ∃ v c, d.K w v c ∧ wf v ∧ w.cells? base (a.add (i * P.cellsOf e)) (P.cellsOf e) = some c := by
      intro i hil
      obtain ⟨c, h1, h2⟩ := hi i (by omega)
      obtain ⟨v, hk, hw⟩ := he _ _ _ _ _ _ _ _ _ h2
      exact ⟨v, c, hk, hw, h1⟩
    have this := list_of_lt (q := fun i v => ∃ c, d.K w v c ∧ wf v ∧ w.cells? base (a.add (i * P.cellsOf e)) (P.cellsOf e) = some c) len key
    obtain ⟨xs, hxl, hx⟩ := this
    refine ⟨xs, ⟨some a, cap, by rw [hxl], by omega, ?_⟩, by rw [hxl]; omega, ?_⟩
    · refine ⟨rfl, by unfold maxLen at hm; omega, fun _ => ⟨a, rfl, fun j p hj => ?_⟩⟩
      obtain ⟨c, h1, h2, h3⟩ := hx j p hj
      obtain ⟨_, hcl, hat⟩ := World.cells?_some h3
      refine ⟨c, by rw [hcl, hc], h1, fun i u hu => ?_⟩
      have hil : i < P.cellsOf e := by rw [← hcl]; exact (List.getElem?_eq_some_iff.1 hu).1
      rw [← Go.Deep.add_add, ← hc, hat i hil, hu]
    · intro y hy
      obtain ⟨i, hi⟩ := List.mem_iff_getElem?.1 hy
      obtain ⟨c, _, h2, _⟩ := hx i y hi
      exact h2

theorem opensF_one {α : Type} {P : Program} {d : Kd α} {wf : α → Prop} {f : Field} {off : Nat} (h : Opens P d wf f.type) (ho : f.offset = off) (hc : P.cellsOf f.type = d.sz) : OpensF P d wf off [f] := by
  intro H enc w base spare held fuel cs hl hf
  obtain ⟨y, hy⟩ := hf f (by simp)
  rw [ho, hc, List.take_of_length_le (by simp; omega)] at hy
  exact h _ _ _ _ _ _ _ _ _ hy
theorem opensF_cons {α β : Type} {P : Program} {a : Kd α} {b : Kd β} {wa : α → Prop} {wb : β → Prop} {f : Field} {fs : List Field} {off : Nat} (h : Opens P a wa f.type) (ho : f.offset = off) (hc : P.cellsOf f.type = a.sz)
    (ht : OpensF P b wb (off + a.sz) fs) : OpensF P (Kd.pair a b) (fun x => wa x.1 ∧ wb x.2) off (f :: fs) := by
  intro H enc w base spare held fuel cs hl hf
  have hsz : (Kd.pair a b).sz = a.sz + b.sz := rfl
  obtain ⟨y, hy⟩ := hf f (by simp)
  rw [ho, hc] at hy
  obtain ⟨v, hv, hw⟩ := h _ _ _ _ _ _ _ _ _ hy
  obtain ⟨u, hu, hw'⟩ := ht H enc w base spare held fuel cs (by rw [hl, hsz]; omega) (fun g hg => hf g (by simp [hg]))
  refine ⟨(v, u), ⟨_, _, ?_, hv, hu⟩, hw, hw'⟩
  rw [← List.drop_drop, List.take_append_drop]
theorem opens_struct {α : Type} {P : Program} {t : TypeId} {d : Kd α} {wf : α → Prop} {fs : Array Field} (ht : P.underlying t = some (.struct fs)) (hc : P.cellsOf t = d.sz) (h : OpensF P d wf 0 fs.toList) : Opens P d wf t := by
  intro H enc w base spare held fuel cs x hx
  obtain ⟨xs, n, _, _, hlen, hxl, hf⟩ := DataW.trod_struct ht hx
  obtain ⟨v, hv, hw⟩ := h H enc w base spare held n cs (by rw [hlen, hc]; simp) (fun f hfm => by
    obtain ⟨i, hi⟩ := List.mem_iff_getElem?.1 hfm
    have hi' : fs[i]? = some f := by simpa using hi
    have hil : i < xs.length := by rw [hxl]; exact (Array.getElem?_eq_some_iff.1 hi').1
    exact ⟨xs[i], by rw [hf i f hi', List.getElem?_eq_getElem hil]⟩)
  exact ⟨v, by simpa using hv, hw⟩
theorem opens_iso {α β : Type} {P : Program} {t : TypeId} {d : Kd α} {wf : α → Prop} (h : Opens P d wf t) (f : β → α) (g : α → β) (e : ∀ x, f (g x) = x) : Opens P (Kd.iso d f) (fun y => wf (f y)) t := by
  intro H enc w base spare held fuel cs x hx
  obtain ⟨v, hv, hw⟩ := h _ _ _ _ _ _ _ _ _ hx
  refine ⟨g v, ?_, ?_⟩
  · show d.K w (f (g v)) cs
    rw [e]
    exact hv
  · show wf (f (g v))
    rw [e]
    exact hw

/-- An argument that is a slice. -/
theorem arg_slice {α : Type} {P : Program} {t e : TypeId} {d : Kd α} {wf : List α → Prop} (h : Opens P (Kd.slice e d) wf t) {H : Type} {enc : TypeId × Value → H} {w : World} {base : Nat} {spare : Nat → Bool} {held : Bool}
    {A : Option Addr} {n c : Nat} {x : DataW H} {p : List MemPlace} (hx : DataW.Trod enc P w base spare held t (.slice A n c) x p) : ∃ l : List α, n = l.length ∧ l.length ≤ c ∧ Kd.C d w A l.length l ∧ wf l := by
  obtain ⟨fuel, hf⟩ := hx
  obtain ⟨l, ⟨A', c', he, hl, hC⟩, hw⟩ := h _ _ _ _ _ _ _ _ _ hf
  simp [Value.cells] at he
  obtain ⟨rfl, rfl, rfl⟩ := he
  exact ⟨l, rfl, hl, hC, hw⟩
/-- An argument that is a struct. -/
theorem arg_struct {α : Type} {P : Program} {t : TypeId} {d : Kd α} {wf : α → Prop} (h : Opens P d wf t) {H : Type} {enc : TypeId × Value → H} {w : World} {base : Nat} {spare : Nat → Bool} {held : Bool}
    {cs : Array Value} {x : DataW H} {p : List MemPlace} (hx : DataW.Trod enc P w base spare held t (.agg cs) x p) : ∃ v : α, d.K w v cs.toList ∧ wf v := by
  obtain ⟨fuel, hf⟩ := hx
  exact h _ _ _ _ _ _ _ _ _ hf
end Go.Proofs.Ytfgnaneajonapaa.Opn

/- The pure statement of the law FnExactMayWrite: for all values that an argument can be read as. -/
namespace Go.Proofs.Ytfgnaneajonapaa.SFnExactMayWrite
open Go.RowKit Go.Proofs.YtfgnaneajonapaaW.PrintWords Go.Proofs.YtfgnaneajonapaaW.PrintLast Go.Proofs.YtfgnaneajonapaaW.PrintMore Go.Proofs.Ytfgnaneajonapaa.Pr Go.Proofs.Ytfgnaneajonapaa.Opn
set_option linter.unusedVariables false
def wf221 (x : S221) : Prop := ((Lit.int .i64 x.f0).wf = true) ∧ ((Lit.int .i64 x.f1).wf = true)
set_option maxRecDepth 100000 in
theorem op221 : Opens Try.prog k221 wf221 221 := opens_iso (opens_struct Try.underlying221 (by kernel_rfl) (opensF_cons (opens_int .i64 Try.underlying3) rfl (by kernel_rfl) (opensF_one (opens_int .i64 Try.underlying3) rfl (by kernel_rfl)))) _ (fun p => (⟨p.1, p.2⟩ : S221)) (fun _ => rfl)
def wf199 (x : S199) : Prop := ((Lit.int .i64 x.f0).wf = true) ∧ ((Lit.int .i64 x.f1).wf = true) ∧ (x.f2.size ≤ maxLen) ∧ (True) ∧ ((Lit.int .i64 x.f4).wf = true) ∧ ((Lit.int .i64 x.f5).wf = true) ∧ ((Lit.int .i64 x.f6).wf = true) ∧ (x.f7.length ≤ maxLen ∧ ∀ y ∈ x.f7, wf221 y) ∧ ((Lit.int .i64 x.f8).wf = true)
set_option maxRecDepth 100000 in
theorem op199 : Opens Try.prog k199 wf199 199 := opens_iso (opens_struct Try.underlying199 (by kernel_rfl) (opensF_cons (opens_int .i64 Try.underlying3) rfl (by kernel_rfl) (opensF_cons (opens_int .i64 Try.underlying3) rfl (by kernel_rfl) (opensF_cons (opens_string Try.underlying9) rfl (by kernel_rfl) (opensF_cons (opens_bool Try.underlying4) rfl (by kernel_rfl) (opensF_cons (opens_int .i64 Try.underlying3) rfl (by kernel_rfl) (opensF_cons (opens_int .i64 Try.underlying3) rfl (by kernel_rfl) (opensF_cons (opens_int .i64 Try.underlying3) rfl (by kernel_rfl) (opensF_cons (opens_slice Try.underlying197 (by kernel_rfl) (op221)) rfl (by kernel_rfl) (opensF_one (opens_int .i64 Try.underlying3) rfl (by kernel_rfl))))))))))) _ (fun p => (⟨p.1, p.2.1, p.2.2.1, p.2.2.2.1, p.2.2.2.2.1, p.2.2.2.2.2.1, p.2.2.2.2.2.2.1, p.2.2.2.2.2.2.2.1, p.2.2.2.2.2.2.2.2⟩ : S199)) (fun _ => rfl)
def wf59 (x : S59) : Prop := (x.f0.length ≤ maxLen ∧ ∀ y ∈ x.f0, wf199 y) ∧ ((Lit.int .i64 x.f1).wf = true)
set_option maxRecDepth 100000 in
theorem op59 : Opens Try.prog k59 wf59 59 := opens_iso (opens_struct Try.underlying59 (by kernel_rfl) (opensF_cons (opens_slice Try.underlying57 (by kernel_rfl) (op199)) rfl (by kernel_rfl) (opensF_one (opens_int .i64 Try.underlying3) rfl (by kernel_rfl)))) _ (fun p => (⟨p.1, p.2⟩ : S59)) (fun _ => rfl)
def wf201 (x : S201) : Prop := (x.f0.size ≤ maxLen) ∧ (x.f1.size ≤ maxLen) ∧ ((Lit.int .i64 x.f2).wf = true)
set_option maxRecDepth 100000 in
theorem op201 : Opens Try.prog k201 wf201 201 := opens_iso (opens_struct Try.underlying201 (by kernel_rfl) (opensF_cons (opens_string Try.underlying9) rfl (by kernel_rfl) (opensF_cons (opens_string Try.underlying9) rfl (by kernel_rfl) (opensF_one (opens_int .i64 Try.underlying3) rfl (by kernel_rfl))))) _ (fun p => (⟨p.1, p.2.1, p.2.2⟩ : S201)) (fun _ => rfl)
def wf62 (x : S62) : Prop := (x.f0.length ≤ maxLen ∧ ∀ y ∈ x.f0, wf201 y)
set_option maxRecDepth 100000 in
theorem op62 : Opens Try.prog k62 wf62 62 := opens_iso (opens_struct Try.underlying62 (by kernel_rfl) (opensF_one (opens_slice Try.underlying60 (by kernel_rfl) (op201)) rfl (by kernel_rfl))) _ (fun p => (⟨p⟩ : S62)) (fun _ => rfl)
def wf161 (x : S161) : Prop := (x.f0.size ≤ maxLen) ∧ ((Lit.int .i64 x.f1).wf = true) ∧ ((Lit.int .i64 x.f2).wf = true)
set_option maxRecDepth 100000 in
theorem op161 : Opens Try.prog k161 wf161 161 := opens_iso (opens_struct Try.underlying161 (by kernel_rfl) (opensF_cons (opens_string Try.underlying9) rfl (by kernel_rfl) (opensF_cons (opens_int .i64 Try.underlying3) rfl (by kernel_rfl) (opensF_one (opens_int .i64 Try.underlying3) rfl (by kernel_rfl))))) _ (fun p => (⟨p.1, p.2.1, p.2.2⟩ : S161)) (fun _ => rfl)
def wf65 (x : S65) : Prop := (True) ∧ (wf59 x.f1) ∧ ((Lit.int .i64 x.f2).wf = true) ∧ (wf62 x.f3) ∧ (x.f4.length ≤ maxLen ∧ ∀ y ∈ x.f4, wf161 y) ∧ ((Lit.int .i64 x.f5).wf = true)
set_option maxRecDepth 100000 in
theorem op65 : Opens Try.prog k65 wf65 65 := opens_iso (opens_struct Try.underlying65 (by kernel_rfl) (opensF_cons (opens_bool Try.underlying4) rfl (by kernel_rfl) (opensF_cons (op59) rfl (by kernel_rfl) (opensF_cons (opens_int .i64 Try.underlying3) rfl (by kernel_rfl) (opensF_cons (op62) rfl (by kernel_rfl) (opensF_cons (opens_slice Try.underlying63 (by kernel_rfl) (op161)) rfl (by kernel_rfl) (opensF_one (opens_int .i64 Try.underlying3) rfl (by kernel_rfl)))))))) _ (fun p => (⟨p.1, p.2.1, p.2.2.1, p.2.2.2.1, p.2.2.2.2.1, p.2.2.2.2.2⟩ : S65)) (fun _ => rfl)
def wf67 (x : S67) : Prop := ((Lit.int .i64 x.f0).wf = true) ∧ ((Lit.int .i64 x.f1).wf = true) ∧ (x.f2.size ≤ maxLen) ∧ (x.f3.size ≤ maxLen) ∧ (x.f4.size ≤ maxLen) ∧ ((Lit.int .i64 x.f5).wf = true)
set_option maxRecDepth 100000 in
theorem op67 : Opens Try.prog k67 wf67 67 := opens_iso (opens_struct Try.underlying67 (by kernel_rfl) (opensF_cons (opens_int .i64 Try.underlying3) rfl (by kernel_rfl) (opensF_cons (opens_int .i64 Try.underlying3) rfl (by kernel_rfl) (opensF_cons (opens_string Try.underlying9) rfl (by kernel_rfl) (opensF_cons (opens_string Try.underlying9) rfl (by kernel_rfl) (opensF_cons (opens_string Try.underlying9) rfl (by kernel_rfl) (opensF_one (opens_int .i64 Try.underlying3) rfl (by kernel_rfl)))))))) _ (fun p => (⟨p.1, p.2.1, p.2.2.1, p.2.2.2.1, p.2.2.2.2.1, p.2.2.2.2.2⟩ : S67)) (fun _ => rfl)
theorem ok_wfPiece {x : S221} (h : wf221 x) : Lw.okPiece x := trivial
theorem ok_wfInode {x : S199} (h : wf199 x) : Lw.okInode x := ⟨h.2.2.1, ⟨h.2.2.2.2.2.2.2.1.1, fun y hy => ok_wfPiece (h.2.2.2.2.2.2.2.1.2 y hy)⟩⟩
theorem ok_wfTree {x : S59} (h : wf59 x) : Lw.okTree x := ⟨h.1.1, fun y hy => ok_wfInode (h.1.2 y hy)⟩
theorem ok_wfFile {x : S201} (h : wf201 x) : Lw.okFile x := ⟨h.1, h.2.1⟩
theorem ok_wfDisk {x : S62} (h : wf62 x) : Lw.okDisk x := ⟨h.1, fun y hy => ok_wfFile (h.2 y hy)⟩
theorem ok_wfLease {x : S161} (h : wf161 x) : Lw.okLease x := h.1
theorem ok_wfServer {x : S65} (h : wf65 x) : Lw.okServer x := ⟨ok_wfTree h.2.1, ok_wfDisk h.2.2.2.1, ⟨h.2.2.2.2.1.1, fun y hy => ok_wfLease (h.2.2.2.2.1.2 y hy)⟩⟩
theorem ok_wfAsk {x : S67} (h : wf67 x) : Lw.okAsk x := ⟨h.2.2.1, h.2.2.2.1, h.2.2.2.2.1⟩
def Pure : Prop := ∀ (x0 : S65) (x1 : S67), wf65 x0 → wf67 x1 → ∃ k, laws_FnExactMayWrite.f k (x0.f0) (x0.f1.f0) (x0.f1.f1) (x0.f2) (x0.f3.f0) (x0.f4) (x0.f5) (x1.f0) (x1.f1) (x1.f2) (x1.f3) (x1.f4) (x1.f5) = some true
end Go.Proofs.Ytfgnaneajonapaa.SFnExactMayWrite

/- HolderOf: the program's and the reference's are one function of the leases. -/
namespace Go.Proofs.Ytfgnaneajonapaa.Pu
open Go.RowKit Go.Proofs.YtfgnaneajonapaaW.PrintWords Go.Proofs.Ytfgnaneajonapaa.Pr Go.Proofs.Ytfgnaneajonapaa.Evs Go.Proofs.Ytfgnaneajonapaa.Lw
set_option linter.unusedVariables false

def holder : List ImLease → ByteArray → Int
  | [], _ => 0
  | x :: s, p => if x.f0.toList = p.toList then x.f1 else holder s p
theorem spec_HolderOf_loop (a : ByteArray) (s : List ImLease) : ∀ (p : List ImLease), p.length + s.length < 9223372036854775807 → Ev (fun k => spec_HolderOf.l0 k (p ++ s) a (p.length : Int)) (holder s a) := by
  induction s with
  | nil => intro p hl; exact ev_step (fun k => spec_HolderOf.l0.eq_2 _ _ _ k) (ev_neg (by simp) (ev_some _))
  | cons x s ih =>
    intro p hl
    simp at hl
    refine ev_step (fun k => spec_HolderOf.l0.eq_2 _ _ _ k) (ev_pos (by simp; omega) (ev_pos (by omega) ?_))
    rw [rd120, holder]
    refine ev_ite (fun _ => ev_some _) (fun _ => ?_)
    rw [wrap_succ (by omega) (by omega)]
    simpa using ih (p ++ [x]) (by simp; omega)
theorem impl_HolderOf_loop (a : ByteArray) (n : Int) (s : List ImLease) : ∀ (p : List ImLease), n = ((p ++ s).length : Int) → p.length + s.length < 9223372036854775807 → Ev (fun k => impl_HolderOf.l0 k a (p ++ s) n (p.length : Int)) (holder s a) := by
  induction s with
  | nil => intro p hn hl; exact ev_step (fun k => impl_HolderOf.l0.eq_2 _ _ _ _ k) (ev_neg (by simp at hn; omega) (ev_some _))
  | cons x s ih =>
    intro p hn hl
    simp at hl hn
    refine ev_step (fun k => impl_HolderOf.l0.eq_2 _ _ _ _ k) (ev_pos (by omega) (ev_pos (by omega) (ev_pos (by simp; omega) ?_)))
    rw [rd120, holder]
    refine ev_ite (fun _ => ev_some _) (fun _ => ?_)
    rw [wrap_succ (by omega) (by omega)]
    simpa using ih (p ++ [x]) (by simp; omega) (by simp; omega)
theorem spec_HolderOf_ev (l : List ImLease) (hl : l.length ≤ 1048576) (p : ByteArray) : Ev (fun k => spec_HolderOf.f k l p) (holder l p) := by
  unfold spec_HolderOf.f
  simpa using spec_HolderOf_loop p l [] (by simp; omega)
theorem impl_HolderOf_ev (l : List ImLease) (hl : l.length ≤ 1048576) (p : ByteArray) : Ev (fun k => impl_HolderOf.f k l p) (holder l p) := by
  unfold impl_HolderOf.f
  simpa using impl_HolderOf_loop p _ l [] rfl (by simp; omega)
end Go.Proofs.Ytfgnaneajonapaa.Pu

/- MayWrite: the program's and the reference's are one function of the leases and the ask. -/
namespace Go.Proofs.Ytfgnaneajonapaa.Pu
open Go.RowKit Go.Proofs.YtfgnaneajonapaaW.PrintWords Go.Proofs.Ytfgnaneajonapaa.Pr Go.Proofs.Ytfgnaneajonapaa.Evs Go.Proofs.Ytfgnaneajonapaa.Lw
set_option linter.unusedVariables false

theorem l17Under_eq (p q : ByteArray) (hp : p.size ≤ 1048576) (hq : q.size ≤ 1048576) : spec_l17Under.f p q = some (underB p q) := by
  rw [← underB_eq p q hq]
  unfold spec_l17Under.f impl_underPath.f strings_HasPrefix.f stringslite_HasPrefix.f
  by_cases c : p.toList = q.toList
  · rw [if_pos c, if_pos c]
  rw [if_neg c, if_neg c]
  have e1 : wrap64 ((q.size : Int) + 1) = (q.size : Int) + 1 := wrap_succ (by omega) (by omega)
  have e2 : (q ++ (⟨#[47]⟩ : ByteArray)).size = q.size + 1 := by rw [ByteArray.size_append]; rfl
  have e3 : q.size + 1 ≤ 9223372036854775807 := by omega
  simp only [e1, e2, e3, ↓reduceIte]
  by_cases d : (p.size : Int) > (q.size : Int)
  · rw [if_pos d, if_pos (by omega), if_pos (by omega), if_pos (show (p.size : Int) ≥ ((q.size + 1 : Nat) : Int) by omega), if_pos (by omega), if_pos (show ((q.size + 1 : Nat) : Int) ≤ (p.size : Int) by omega)]
    rfl
  · rw [if_neg d, if_neg (show ¬ (p.size : Int) ≥ ((q.size + 1 : Nat) : Int) by omega)]
    rfl
def mayW (ls : List ImLease) (q : ImAsk) : Int :=
  if q.f0 = 3 then (if holder ls q.f2 = q.f1 then 0 else 6)
  else if q.f0 = 4 then (if holder ls q.f2 = q.f1 then 0 else if holder ls q.f2 = 0 then 0 else 6)
  else if q.f0 = 10 then (if holder ls q.f2 = q.f1 then 0 else if holder ls q.f2 = 0 then 0 else 6)
  else if q.f0 = 5 then (if ls.any (otherU q.f1 q.f2) = true then 6 else 0)
  else if q.f0 = 6 then (if ls.any (otherU q.f1 q.f2) = true then 6 else 0)
  else 0
section
variable (b : Bool) (t0 : List ImInode) (c d : Int) (fs : List ImFile) (e : Int) (q : ImAsk) (hq : q.f2.size ≤ 1048576)
include hq
theorem spec_MayWrite_l0 (s : List ImLease) : ∀ (p : List ImLease), p.length + s.length < 9223372036854775807 → (∀ x ∈ s, bdLease x) →
    Ev (fun k => spec_MayWrite.l0 k (p.length : Int) b t0 c d fs (p ++ s) e q.f0 q.f1 q.f2 q.f3 q.f4 q.f5) (if s.any (otherU q.f1 q.f2) = true then 6 else 0) := by
  induction s with
  | nil => intro p hl hx; exact ev_step (fun k => spec_MayWrite.l0.eq_2 _ _ _ _ _ _ _ _ _ _ _ _ _ _ k) (ev_neg (by simp) (ev_some _))
  | cons x s ih =>
    intro p hl hx
    simp at hl
    refine ev_step (fun k => spec_MayWrite.l0.eq_2 _ _ _ _ _ _ _ _ _ _ _ _ _ _ k) (ev_pos (by simp; omega) (ev_pos (by omega) ?_))
    rw [rd120, wrap_succ (by omega) (by omega), List.any_cons]
    have h := ih (p ++ [x]) (by simp; omega) (fun y hy => hx y (List.mem_cons_of_mem _ hy))
    have h' : Ev (fun k => spec_MayWrite.l0 k ((p.length : Int) + 1) b t0 c d fs (p ++ x :: s) e q.f0 q.f1 q.f2 q.f3 q.f4 q.f5) (if s.any (otherU q.f1 q.f2) = true then 6 else 0) := by simpa using h
    by_cases w : x.f1 = q.f1
    · rw [show otherU q.f1 q.f2 x = false from if_pos w, Bool.false_or]
      exact ev_pos w h'
    · rw [show otherU q.f1 q.f2 x = underB x.f0 q.f2 from if_neg w]
      refine ev_neg w (ev_call (l17Under_eq x.f0 q.f2 (hx x (List.mem_cons_self ..)) hq) ?_)
      cases hu : underB x.f0 q.f2 with
      | true => exact ev_pos rfl (ev_some _)
      | false => exact ev_neg (by decide) (by simpa using h')
theorem spec_MayWrite_ev (ls : List ImLease) (hl : ls.length ≤ 1048576) (hx : ∀ x ∈ ls, bdLease x) :
    Ev (fun k => spec_MayWrite.f k b t0 c d fs ls e q.f0 q.f1 q.f2 q.f3 q.f4 q.f5) (mayW ls q) := by
  unfold spec_MayWrite.f mayW
  have hA := spec_MayWrite_l0 b t0 c d fs e q hq ls [] (by simp; omega) hx
  simp only [List.nil_append, List.length_nil] at hA
  have hA' : Ev (fun k => spec_MayWrite.l0 k 0 b t0 c d fs ls e q.f0 q.f1 q.f2 q.f3 q.f4 q.f5) (if ls.any (otherU q.f1 q.f2) = true then 6 else 0) := hA
  refine ev_bind (spec_HolderOf_ev ls hl q.f2) ?_
  generalize holder ls q.f2 = t
  refine ev_ite (fun _ => ev_ite (fun _ => ev_some _) (fun _ => ev_some _)) (fun c3 => ?_)
  have hj : ∀ (v : Bool) (hv : v = true → t = q.f1 ∨ True) (r : Int), (v = true → r = if t = q.f1 then 0 else if t = 0 then 0 else 6) → (v = false → r = if q.f0 = 5 then (if ls.any (otherU q.f1 q.f2) = true then 6 else 0) else if q.f0 = 6 then (if ls.any (otherU q.f1 q.f2) = true then 6 else 0) else 0) →
      Ev (fun k => spec_MayWrite.j0 k t q.f0 v b t0 c d fs ls e q.f0 q.f1 q.f2 q.f3 q.f4 q.f5) r := by
    intro v _ r hT hF
    refine ev_step (fun k => spec_MayWrite.j0.eq_2 _ _ _ _ _ _ _ _ _ _ _ _ _ _ _ _ k) ?_
    cases v with
    | true =>
      rw [hT rfl]
      refine ev_pos rfl ?_
      by_cases z : t = 0
      · exact ev_pos z (ev_eq (ev_some _) (by split <;> simp))
      · refine ev_neg z ?_
        by_cases y : t = q.f1
        · exact ev_pos y (ev_eq (ev_some _) (if_pos y).symm)
        · exact ev_neg y (ev_eq (ev_some _) (by rw [if_neg y, if_neg z]))
    | false =>
      rw [hF rfl]
      refine ev_neg (by decide) ?_
      refine ev_ite (fun c5 => ?_) (fun c5 => ?_)
      · refine ev_step (fun k => spec_MayWrite.j1.eq_2 _ _ _ _ _ _ _ _ _ _ _ _ _ _ k) ?_
        exact ev_pos (by simp [c5]) hA'
      · refine ev_step (fun k => spec_MayWrite.j1.eq_2 _ _ _ _ _ _ _ _ _ _ _ _ _ _ k) ?_
        by_cases c6 : q.f0 = 6
        · rw [if_pos c6]; exact ev_pos (by simp [c6]) hA'
        · rw [if_neg c6]; exact ev_neg (by simp [c6]) (ev_some _)
  by_cases c4 : q.f0 = 4
  · exact ev_pos c4 (hj _ (fun _ => .inr trivial) _ (fun _ => if_pos c4) (fun h => absurd h (by simp [c4])))
  · refine ev_neg c4 (hj _ (fun _ => .inr trivial) _ (fun h => ?_) (fun h => ?_))
    · rw [if_neg c4, if_pos (by simpa using h)]
    · rw [if_neg c4, if_neg (by simpa using h)]
theorem impl_MayWrite_ev (ls : List ImLease) (hl : ls.length ≤ 1048576) :
    Ev (fun k => impl_MayWrite.f k b t0 c d fs ls e q.f0 q.f1 q.f2 q.f3 q.f4 q.f5) (mayW ls q) := by
  unfold impl_MayWrite.f mayW
  refine ev_bind (impl_HolderOf_ev ls hl q.f2) (ev_pos hq (ev_const ?_))
  generalize holder ls q.f2 = t
  (repeat' split) <;> rfl
end
end Go.Proofs.Ytfgnaneajonapaa.Pu

/- MayWrite: the program's answer is the reference's, for every server and ask. -/
namespace Go.Proofs.Ytfgnaneajonapaa.Pure
open Go.RowKit Go.Proofs.YtfgnaneajonapaaW.PrintWords Go.Proofs.Ytfgnaneajonapaa.Pr Go.Proofs.Ytfgnaneajonapaa.Evs Go.Proofs.Ytfgnaneajonapaa.Lw Go.Proofs.Ytfgnaneajonapaa.Pu Go.Proofs.Ytfgnaneajonapaa.SFnExactMayWrite
set_option linter.unusedVariables false
theorem law_MayWrite (x : LServer) (ho : okServer x) (q : LAsk) (hq : okAsk q) : Ev (fun k => laws_FnExactMayWrite.f k (x.f0) (x.f1.f0) (x.f1.f1) (x.f2) (x.f3.f0) (x.f4) (x.f5) (q.f0) (q.f1) (q.f2) (q.f3) (q.f4) (q.f5)) true := by
  unfold laws_FnExactMayWrite.f
  obtain ⟨r, hE, hR⟩ := szServer_ev x 1048576 (by omega) (by omega) ho
  refine ev_bind hE ?_
  by_cases c : r < 0
  · exact ev_pos c (ev_some _)
  refine ev_neg c ?_
  obtain ⟨r2, hE2, hR2⟩ := szAsk_ev q r (by omega) (by omega) hq
  refine ev_call hE2 ?_
  by_cases c2 : r2 < 0
  · exact ev_pos c2 (ev_some _)
  refine ev_neg c2 ?_
  have hw : wtServer x ≤ 1048576 := by omega
  have hw2 : wtAsk q ≤ 1048576 := by omega
  have hT := toServer_ev x hw
  have hA := toAsk_ev q
  have hb := bd_toServer x hw
  have hb2 := bd_toAsk q hw2
  generalize toServer x = z at *
  generalize toAsk q = y at *
  exact ev_bind hT (ev_bind hA (ev_bind (spec_MayWrite_ev _ _ _ _ _ _ y hb2.1 z.f4 hb.2.2.1 hb.2.2.2) (ev_bind hT (ev_bind hA (ev_bind (impl_MayWrite_ev _ _ _ _ _ _ y hb2.1 z.f4 hb.2.2.1) (ev_pos rfl (ev_bind hT (ev_bind (eqServer_refl z (ln_bdServer hb)) (ev_pos rfl (ev_some _))))))))))
theorem FnExactMayWrite : SFnExactMayWrite.Pure := by
  intro x q hx hq
  exact ev_rounds (law_MayWrite x (ok_wfServer hx) q (ok_wfAsk hq))
end Go.Proofs.Ytfgnaneajonapaa.Pure
