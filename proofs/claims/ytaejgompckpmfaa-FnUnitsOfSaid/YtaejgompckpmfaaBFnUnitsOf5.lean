/- A part of the proof of the law FnUnitsOf: its texts, one behind the other. -/
import Derived.Test.YtaejgompckpmfaaBFnUnitsOf1
import Derived.Test.YtaejgompckpmfaaBFnUnitsOf2
import Derived.Test.YtaejgompckpmfaaBFnUnitsOf3
import Derived.Test.YtaejgompckpmfaaBFnUnitsOf4
set_option linter.unusedVariables false
set_option linter.unusedSimpArgs false
namespace Go.Proofs.Ytaejgompckpmfaa.Pr
open Go.RowKit Go.Proofs.YtaejgompckpmfaaW.PrintWords Go.Proofs.YtaejgompckpmfaaW.PrintLast Go.Proofs.YtaejgompckpmfaaW.PrintMore
attribute [local go_sem] max2_int min2_int max_two min_two max_three min_three max_four min_four
def spec_l15Copy.l0 : Nat → List (S35) → List (S35) → Int → Option ((List (S35)))
 | 0, _, _, _ => none
 | k + 1, x0, x3, x4 => if x4 < (x0.length : Int) then (if 0 ≤ x4 then ((spec_l14Copy.f ((rd_T35 x0 x4).f0) ((rd_T35 x0 x4).f1) ((rd_T35 x0 x4).f2)).bind fun bt335 => (if x3.length < 3518437208883 then (spec_l15Copy.l0 k x0 (x3 ++ [(⟨bt335.1, bt335.2.1, bt335.2.2⟩ : S35)]) (wrap64 (x4 + 1))) else (none))) else (none)) else (some x3)
def spec_l15Copy.f (k : Nat) (l0 : List (S35)) : Option ((List (S35))) := spec_l15Copy.l0 k l0 (([] : List (S35))) 0
set_option maxHeartbeats 8000000 in
set_option maxRecDepth 100000 in
theorem spec_l15Copy.calls (k : Nat) (A0 : Option Addr) (c0 : Nat) (l0 : List (S35)) (r : List (S35)) (w : World) (hr0 : Kd.C k35 w A0 l0.length l0) (hc0 : l0.length ≤ c0) (h : spec_l15Copy.f k l0 = some r) :
  Calls Try.prog 77 #[.slice A0 l0.length c0] w fun e w' => ∃ v0_ : Value, e = .returned (v0_) ∧ Kd.S k35 35 w' w.heap.size (fun _ => True) v0_ r ∧ Below w.heap.size w w' := by
 have hu35 := Try.underlying35
 have HR0 := AM hr0
 have HC0 := AM hc0
 clear hr0 hc0
 have HB := AM (Below.refl w.heap.size w)
 have H : (spec_l15Copy.l0 k l0 (([] : List (S35))) 0) = some r := h
 clear h
 obtain ⟨y331, hy331⟩ : ∃ y_ : List (S35), y_ = (([] : List (S35))) := ⟨_, rfl⟩
 replace H : (spec_l15Copy.l0 k l0 y331 0) = some r := by first | (rw [hy331]; first | with_reducible exact H | with_reducible exact OB H) | with_reducible exact OB H | with_reducible exact H | (rw [hy331]; exact H) | exact H
 have Ny331 := AM hy331
 clear hy331
 have H' := AM H
 clear H
 go_enter Try.func77, Try.ntmps77
 go_wp2_with (first | ((with_reducible refine gate_dst (N := 5) rfl ?_); refine Kd.S_lit k35 _ 35 ?hg (N := 5) ?hd (xs := ([] : List (S35))) (inner := []) (ok := fun _ => True) (okp := fun _ => True) ?hr ?hp (fun _ hk => hk) trivial (Below.refl _ _) (Nat.le_refl _) (by simp) ?_; (case hd => rfl); (case hg => rfl); (case hr => first | (go_simp; done) | (go_simp; rfl)); (case hp => exact (Reps.none _ _)); intro v332 w2 ho3 hb hg_ hnew_; clear hg_ hnew_; (first | rw [← Ny331.out] at ho3 | (simp only [Int.reduceToNat] at ho3; rw [← Ny331.out] at ho3)); have HO333 := AM (Kd.S_lower ho3 (below_size (BB HB.out))); replace HB := AM (below_step (BB HB.out) hb); clear hb ho3))
 go_loopg [3, 4] k (fun kq v3 v4 w' => ∃ (x3_1 : List (S35)) (x4_1 : Int), v4 = .int .i64 x4_1 ∧ Aside0 (spec_l15Copy.l0 kq l0 x3_1 x4_1 = some r) ∧ Aside0 (kq ≤ k) ∧ Aside0 (Kd.S k35 35 w' w.heap.size (fun _ => True) v3 x3_1) ∧ Aside0 (Below w.heap.size w w'))
 case atStart => exact ⟨(y331), (0), FR, H', ⟨Nat.le_refl _⟩, ⟨(SS HO333.out)⟩, ⟨(BB HB.out)⟩⟩
 case round =>
  clear H'
  try clear p2
  obtain ⟨x3_1, x4_1, rfl, HA, HK1, HO_3, HB⟩ := hrel
  cases gk with
  | zero => exact absurd HA.out (by simp [spec_l15Copy.l0])
  | succ k1 =>
   have H := HA.out
   clear HA
   simp only [spec_l15Copy.l0] at H
   by_cases c4 : x4_1 < (l0.length : Int)
   ·rw [if_pos c4] at H
    have c4b0 := decide_eq_true c4
    clear c4
    by_cases c5 : 0 ≤ x4_1
    rotate_left
    ·rw [if_neg c5] at H; exact absurd H (by simp)
    rw [if_pos c5] at H
    have c5b0 := decide_eq_true c5
    clear c5
    replace H := Option.bind_eq_some_iff.mp H
    obtain ⟨⟨t335, t336, t337⟩, A60, H⟩ := H
    replace H : (if x3_1.length < 3518437208883 then (spec_l15Copy.l0 k1 l0 (x3_1 ++ [(⟨t335, t336, t337⟩ : S35)]) (wrap64 (x4_1 + 1))) else (none)) = some r := H
    have A6 := AM A60
    clear A60
    by_cases c7 : x3_1.length < 3518437208883
    rotate_left
    ·rw [if_neg c7] at H; exact absurd H (by simp)
    rw [if_pos c7] at H
    have LMc7 := AM c7
    clear c7
    obtain ⟨y340, hy340⟩ : ∃ y_ : List (S35), y_ = (x3_1 ++ [(⟨t335, t336, t337⟩ : S35)]) := ⟨_, rfl⟩
    replace H : (spec_l15Copy.l0 k1 l0 y340 (wrap64 (x4_1 + 1))) = some r := by first | (rw [hy340]; first | with_reducible exact H | with_reducible exact OB H) | with_reducible exact OB H | with_reducible exact H | (rw [hy340]; exact H) | exact H
    have Ny340 := AM hy340
    clear hy340
    have H' := AM H
    clear H
    have p334 : 0 ≤ (x4_1 : Int) := DT
    have q334 : x4_1 < (l0.length : Int) := DT
    obtain ⟨ad334, A334_2, c334_2, e334, hx334_0, hx334_1, hx334_2, hl334_2, hi334_2⟩ := at_T35 HR0.out x4_1 p334 q334
    cases e334
    replace hx334_0 := CX HB.out hx334_0
    replace hx334_1 := CX HB.out hx334_1
    replace hx334_2 := CX HB.out hx334_2
    have HR334_2 := AM hi334_2
    have HC334_2 := AM hl334_2
    clear hi334_2 hl334_2
    replace p334 := eq_true p334
    replace q334 := eq_true q334
    go_wp2_with (first | ((with_reducible refine gate_callee (f := 79) rfl ?_); refine GL (some 17) rfl rfl Try.func79 #[.agg #[.int .i64 ((rd_T35 l0 x4_1).f0), .bool ((rd_T35 l0 x4_1).f1), .slice A334_2 ((rd_T35 l0 x4_1).f2).length c334_2]] rfl ?_; (with_reducible refine (spec_l14Copy.calls ((rd_T35 l0 x4_1).f0) ((rd_T35 l0 x4_1).f1) _ _ ((rd_T35 l0 x4_1).f2) t335 t336 t337 _ ?side1 ?side2 A6.out).mono ?_); (case side1 => exact CC (Kd.C_below HR334_2.out HB.out)); (case side2 => exact HC334_2.out); rintro e w8 ⟨v338, rfl, ho0, hb⟩; refine ⟨_, rfl, ?_⟩; have HO339 := AM (Kd.R_lower ho0 (below_size (BB HB.out))); replace HO_3 := AM (Kd.S_elder' (SS HO_3.out) (Kd.R_base ho0) hb); replace HB := AM (below_step (BB HB.out) hb); (try clear hb); (try clear ho0); obtain ⟨Ao10, co10, eo10⟩ := Kd.R_slice HO339.out; subst eo10) | ((with_reducible refine gate_builtin (b := .append) (xs := #[.tmp 12, .tmp 18]) rfl ?_); at_builtin; refine Kd.S_append k35 (w0 := w) w.heap.size rfl (.tmp 12) (.tmp 18) 24 35 (.agg #[(.int .i64 0), (.bool false), (.slice none 0 0)]) 40 rfl Try.underlying24 info35 rfl (by decide) (by omega) u3 x3_1 (⟨t335, t336, t337⟩ : S35) [.int .i64 t335, .bool t336, .slice Ao10 t337.length co10] (fun _ => True) (fun k_ => some k_ = (.slice Ao10 t337.length co10 : Value).ownBlock) rfl rfl ?aP (fun k_ hk_ => ((Kd.R_mono (ok' := fun k_ => ((fun _ => True)) k_ ∧ some k_ ≠ (u3 : Value).ownBlock) (Kd.R_apart' (HO339.out) (Kd.S_typed HO_3.out) (by decide)) (fun k_ hk => ⟨trivial, hk.2⟩))).1 k_ hk_.symm) ?aF ?aO ?aB ?aS ?aL ?_; (case aP => exact k35_mkM _ _ _ (⟨t335, t336, t337⟩ : S35) (Kd.R_mono (Kd.R_tight rfl (Kd.R_mono (ok' := fun k_ => ((fun _ => True)) k_ ∧ some k_ ≠ (u3 : Value).ownBlock) (Kd.R_apart' (HO339.out) (Kd.S_typed HO_3.out) (by decide)) (fun k_ hk => ⟨trivial, hk.2⟩))) (fun _ h_ => h_))); (case aB => exact (BB HB.out)); (case aF => exact (fun _ _ => trivial)); (case aO => exact (by (with_reducible repeat (first | apply Kd.S_alloc | apply Kd.S_drewN | apply Kd.S_drew)); exact Kd.S_mono HO_3.out (fun k_ hk => ⟨trivial, fun e_ => hk.2 e_⟩))); (case aS => exact (below_size (BB HB.out))); (case aL => have := LMc7.out; omega); intro v341 w9 ho hb hg hat; rw [← Ny340.out] at ho; have HO342 := AM (ho); replace HB := AM (hb); clear HO_3; clear HO339; clear ho hb hg hat))
    go_roundg k1
    case measure => have := HK1.out; omega
    case rel => exact ⟨(y340), (wrap64 (x4_1 + 1)), FR, H', ⟨by have := HK1.out; omega⟩, ⟨(SS HO342.out)⟩, ⟨(BB HB.out)⟩⟩
   ·rw [if_neg c4] at H
    have c4b0 := decide_eq_false c4
    clear c4
    obtain rfl := Option.some.inj H
    go_wp2
    go_ret
    exact ⟨_, ER, by (with_reducible repeat (first | apply Kd.S_alloc | apply Kd.S_drewN | apply Kd.S_drew)); exact HO_3.out, (BB HB.out)⟩

def spec_l15Host.l0 : Nat → List (S35) → Int → Int → Option (Int)
 | 0, _, _, _ => none
 | k + 1, x0, x1, x5 => if x5 < (x0.length : Int) then (if 0 ≤ x5 then (if ((rd_T35 x0 x5).f0) = x1 then (some x5) else (spec_l15Host.l0 k x0 x1 (wrap64 (x5 + 1)))) else (none)) else (some (-1))
def spec_l15Host.f (k : Nat) (l0 : List (S35)) (a1 : Int) : Option (Int) := spec_l15Host.l0 k l0 a1 0
set_option maxHeartbeats 8000000 in
set_option maxRecDepth 100000 in
theorem spec_l15Host.calls (k : Nat) (A0 : Option Addr) (c0 : Nat) (l0 : List (S35)) (a1 : Int) (r : Int) (w : World) (hr0 : Kd.C k35 w A0 l0.length l0) (hc0 : l0.length ≤ c0) (h : spec_l15Host.f k l0 a1 = some r) :
  Calls Try.prog 78 #[.slice A0 l0.length c0, .int .i64 a1] w fun e w' => e = .returned (.int .i64 r) ∧ Drawn0 w w' := by
 have HR0 := AM hr0
 have HC0 := AM hc0
 clear hr0 hc0
 have H : (spec_l15Host.l0 k l0 a1 0) = some r := h
 clear h
 have H' := AM H
 clear H
 go_enter Try.func78, Try.ntmps78
 go_wp2
 go_loopg [5] k (fun kq v5 w' => ∃ (x5_1 : Int), v5 = .int .i64 x5_1 ∧ Aside0 (spec_l15Host.l0 kq l0 a1 x5_1 = some r) ∧ Aside0 (kq ≤ k) ∧ Drawn0 w w')
 case atStart => exact ⟨(0), FR, H', ⟨Nat.le_refl _⟩, by repeat (first | exact Drawn0.refl _ | apply Drawn0.step)⟩
 case round =>
  clear H'
  try clear p2
  obtain ⟨x5_1, rfl, HA, HK1, ⟨m1, rfl⟩⟩ := hrel
  cases gk with
  | zero => exact absurd HA.out (by simp [spec_l15Host.l0])
  | succ k1 =>
   have H := HA.out
   clear HA
   simp only [spec_l15Host.l0] at H
   by_cases c3 : x5_1 < (l0.length : Int)
   ·rw [if_pos c3] at H
    have c3b0 := decide_eq_true c3
    clear c3
    by_cases c4 : 0 ≤ x5_1
    rotate_left
    ·rw [if_neg c4] at H; exact absurd H (by simp)
    rw [if_pos c4] at H
    have c4b0 := decide_eq_true c4
    clear c4
    by_cases c5 : ((rd_T35 l0 x5_1).f0) = a1
    ·rw [if_pos c5] at H
     have c5b0 : (((rd_T35 l0 x5_1).f0) == a1) = true := beq_iff_eq.mpr c5
     have c5b1 : (((rd_T35 l0 x5_1).f0) != a1) = false := bne_eq_false_iff_eq.mpr c5
     clear c5
     obtain rfl := Option.some.inj H
     have p343 : 0 ≤ (x5_1 : Int) := DT
     have q343 : x5_1 < (l0.length : Int) := DT
     obtain ⟨ad343, A343_2, c343_2, e343, hx343_0, hx343_1, hx343_2, hl343_2, hi343_2⟩ := at_T35 HR0.out x5_1 p343 q343
     cases e343
     have HR343_2 := AM hi343_2
     have HC343_2 := AM hl343_2
     clear hi343_2 hl343_2
     replace p343 := eq_true p343
     replace q343 := eq_true q343
     go_wp2
     go_ret
     exact ⟨FR, by repeat (first | exact Drawn0.refl _ | apply Drawn0.step)⟩
    ·rw [if_neg c5] at H
     have c5b0 : (((rd_T35 l0 x5_1).f0) == a1) = false := beq_eq_false_iff_ne.mpr c5
     have c5b1 : (((rd_T35 l0 x5_1).f0) != a1) = true := bne_iff_ne.mpr c5
     have H' := AM H
     clear H
     have p343 : 0 ≤ (x5_1 : Int) := DT
     have q343 : x5_1 < (l0.length : Int) := DT
     obtain ⟨ad343, A343_2, c343_2, e343, hx343_0, hx343_1, hx343_2, hl343_2, hi343_2⟩ := at_T35 HR0.out x5_1 p343 q343
     cases e343
     have HR343_2 := AM hi343_2
     have HC343_2 := AM hl343_2
     clear hi343_2 hl343_2
     replace p343 := eq_true p343
     replace q343 := eq_true q343
     go_wp2
     go_roundg k1
     case measure => have := HK1.out; omega
     case rel => exact ⟨(wrap64 (x5_1 + 1)), FR, H', ⟨by have := HK1.out; omega⟩, by repeat (first | exact Drawn0.refl _ | apply Drawn0.step)⟩
   ·rw [if_neg c3] at H
    have c3b0 := decide_eq_false c3
    clear c3
    obtain rfl := Option.some.inj H
    go_wp2
    go_ret
    exact ⟨FR, by repeat (first | exact Drawn0.refl _ | apply Drawn0.step)⟩

mutual
def spec_WriteGroup.j0 : Nat → List (S35) → Int → List ByteArray → List Int → Bool → Option ((List (S35)) × Bool)
 | 0, _, _, _, _, _ => none
 | k + 1, x0, x2, x12, x14, x49 => if x49 = true then ((spec_l15Copy.f k x0).bind fun t356 => (some (t356, false))) else ((spec_l15Copy.f k x0).bind fun t359 => (spec_WriteGroup.l0 k x0 x2 x12 x14 t359 0))
def spec_WriteGroup.l0 : Nat → List (S35) → Int → List ByteArray → List Int → List (S35) → Int → Option ((List (S35)) × Bool)
 | 0, _, _, _, _, _, _ => none
 | k + 1, x0, x2, x12, x14, x16, x17 => if x17 < (x14.length : Int) then (if 0 ≤ x17 then ((spec_l15Host.f k x16 (rd x14 x17)).bind fun t363 => (if 0 ≤ t363 then (if t363 < (x16.length : Int) then (if x17 < (x12.length : Int) then ((spec_PutUnit.f k ((rd_T35 x16 t363).f0) ((rd_T35 x16 t363).f1) ((rd_T35 x16 t363).f2) x2 x17 (rdOf ByteArray.empty x12 x17) 0).bind fun bt366 => (if bt366.2.2.2 = true then (spec_WriteGroup.l0 k x0 x2 x12 x14 (x16.set (t363 : Int).toNat (⟨bt366.1, bt366.2.1, bt366.2.2.1⟩ : S35)) (wrap64 (x17 + 1))) else ((spec_l15Copy.f k x0).bind fun t374 => (some (t374, false))))) else (none)) else (none)) else (none))) else (none)) else (some (x16, true))
end
def spec_WriteGroup.f (k : Nat) (l0 : List (S35)) (a1 : Int) (a2 : Int) (a3 : ByteArray) : Option ((List (S35)) × Bool) := (spec_CutUnits.f k a1 a3).bind fun bt344 => ((spec_Encode.f k a1 bt344.1).bind fun bt348 => ((spec_PlaceGroup.f k l0 (bt348.1.length : Int)).bind fun bt352 => (if bt344.2 = true then (if bt348.2 = true then (spec_WriteGroup.j0 k l0 a2 bt348.1 bt352.1 (!bt352.2)) else (spec_WriteGroup.j0 k l0 a2 bt348.1 bt352.1 true)) else (spec_WriteGroup.j0 k l0 a2 bt348.1 bt352.1 true))))
def spec_WriteGroup.T11 : Bool × List (List Nat × List Nat) := (true, [([], []), ([], []), ([0, 1], [0, 1]), ([2], [2]), ([], []), ([], []), ([], []), ([], []), ([6, 7], [6, 7]), ([8], [8]), ([4, 5, 9], [4, 5, 9]), ([3, 10], [3, 10]), ([11], [11]), ([12], [12]), ([12], [12]), ([], []), ([15, 13, 11, 0, 1, 2, 3, 4, 5, 6, 7, 8, 9, 10, 11, 12, 13, 15], [13, 15]), ([14, 16, 0, 1, 2, 3, 4, 5, 6, 7, 8, 9, 10, 11, 12, 13, 14, 15, 16], [14])])
def spec_WriteGroup.B11 : List Nat := [0, 0, 3, 7, 0, 0, 0, 0, 192, 448, 1008, 2047, 4095, 8191, 8191, 0, 49151, 131071]
theorem spec_WriteGroup.tab11 : rtab .any (opsOf Try.f52 11) = spec_WriteGroup.T11 := by kernel_rfl
theorem spec_WriteGroup.bits11 : waitsOk spec_WriteGroup.T11.2 spec_WriteGroup.B11 = true := by kernel_rfl
set_option maxHeartbeats 8000000 in
set_option maxRecDepth 100000 in
theorem spec_WriteGroup.calls (k : Nat) (A0 : Option Addr) (c0 : Nat) (l0 : List (S35)) (a1 : Int) (a2 : Int) (a3 : ByteArray) (r1 : List (S35)) (r2 : Bool) (w : World) (hr0 : Kd.C k35 w A0 l0.length l0) (hc0 : l0.length ≤ c0) (h : spec_WriteGroup.f k l0 a1 a2 a3 = some (r1, r2)) :
  Calls Try.prog 52 #[.slice A0 l0.length c0, .int .i64 a1, .int .i64 a2, .string a3] w fun e w' => ∃ v0_ : Value, e = .returned (.tuple #[v0_, .bool r2]) ∧ Kd.S k35 35 w' w.heap.size (fun _ => True) v0_ r1 ∧ Below w.heap.size w w' := by
 have hu35 := Try.underlying35
 have hu60 := Try.underlying60
 have HR0 := AM hr0
 have HC0 := AM hc0
 clear hr0 hc0
 have HB := AM (Below.refl w.heap.size w)
 have H : ((spec_CutUnits.f k a1 a3).bind fun bt344 => ((spec_Encode.f k a1 bt344.1).bind fun bt348 => ((spec_PlaceGroup.f k l0 (bt348.1.length : Int)).bind fun bt352 => (if bt344.2 = true then (if bt348.2 = true then (spec_WriteGroup.j0 k l0 a2 bt348.1 bt352.1 (!bt352.2)) else (spec_WriteGroup.j0 k l0 a2 bt348.1 bt352.1 true)) else (spec_WriteGroup.j0 k l0 a2 bt348.1 bt352.1 true))))) = some (r1, r2) := h
 clear h
 replace H := Option.bind_eq_some_iff.mp H
 obtain ⟨⟨t344, t345⟩, A50, H⟩ := H
 replace H : ((spec_Encode.f k a1 t344).bind fun bt348 => ((spec_PlaceGroup.f k l0 (bt348.1.length : Int)).bind fun bt352 => (if t345 = true then (if bt348.2 = true then (spec_WriteGroup.j0 k l0 a2 bt348.1 bt352.1 (!bt352.2)) else (spec_WriteGroup.j0 k l0 a2 bt348.1 bt352.1 true)) else (spec_WriteGroup.j0 k l0 a2 bt348.1 bt352.1 true)))) = some (r1, r2) := H
 have A5 := AM A50
 clear A50
 replace H := Option.bind_eq_some_iff.mp H
 obtain ⟨⟨t348, t349⟩, A60, H⟩ := H
 replace H : ((spec_PlaceGroup.f k l0 (t348.length : Int)).bind fun bt352 => (if t345 = true then (if t349 = true then (spec_WriteGroup.j0 k l0 a2 t348 bt352.1 (!bt352.2)) else (spec_WriteGroup.j0 k l0 a2 t348 bt352.1 true)) else (spec_WriteGroup.j0 k l0 a2 t348 bt352.1 true))) = some (r1, r2) := H
 have A6 := AM A60
 clear A60
 replace H := Option.bind_eq_some_iff.mp H
 obtain ⟨⟨t352, t353⟩, A70, H⟩ := H
 replace H : (if t345 = true then (if t349 = true then (spec_WriteGroup.j0 k l0 a2 t348 t352 (!t353)) else (spec_WriteGroup.j0 k l0 a2 t348 t352 true)) else (spec_WriteGroup.j0 k l0 a2 t348 t352 true)) = some (r1, r2) := H
 have A7 := AM A70
 clear A70
 have HC8 := AM H
 clear H
 go_enter Try.func52, Try.ntmps52
 go_upto_region 4 with (first | ((with_reducible refine gate_callee (f := 74) rfl ?_); refine GL (some 24) rfl rfl Try.func74 #[.int .i64 a1, .string a3] rfl ?_; (with_reducible refine (spec_CutUnits.calls k a1 a3 t344 t345 _ A5.out).mono ?_); rintro e w9 ⟨v346, rfl, ho0, hb⟩; refine ⟨_, rfl, ?_⟩; have HO347 := AM (Kd.R_lower ho0 (below_size (BB HB.out))); replace HB := AM (below_step (BB HB.out) hb); (try clear hb); (try clear ho0); obtain ⟨Ao10, co10, eo10⟩ := Kd.R_slice HO347.out; subst eo10) | ((with_reducible refine gate_callee (f := 75) rfl ?_); refine GL (some 30) rfl rfl Try.func75 #[.int .i64 a1, .slice Ao10 t344.length co10] rfl ?_; (with_reducible refine (spec_Encode.calls k a1 _ _ t344 t348 t349 _ ?side1 ?side2 A6.out).mono ?_); (case side1 => exact CC (Kd.R_reads' HO347.out).2.2); (case side2 => exact (Kd.R_reads' HO347.out).2.1); rintro e w11 ⟨v350, rfl, ho0, hb⟩; refine ⟨_, rfl, ?_⟩; have HO351 := AM (Kd.R_lower (Kd.R_new' ho0 (Kd.R_lt (RR HO347.out))) (below_size (BB HB.out))); replace HO347 := AM (Kd.R_elder' (RR HO347.out) (Kd.R_base ho0) hb); replace HB := AM (below_step (BB HB.out) hb); (try clear hb); (try clear ho0); obtain ⟨Ao12, co12, eo12⟩ := Kd.R_slice HO351.out; subst eo12) | ((with_reducible refine gate_callee (f := 76) rfl ?_); refine GL (some 37) rfl rfl Try.func76 #[.slice A0 l0.length c0, .int .i64 (t348.length : Int)] rfl ?_; (with_reducible refine (spec_PlaceGroup.calls k _ _ l0 (t348.length : Int) t352 t353 _ ?side1 ?side2 A7.out).mono ?_); (case side1 => exact CC (Kd.C_below HR0.out HB.out)); (case side2 => exact HC0.out); rintro e w13 ⟨v354, rfl, ho0, hb⟩; refine ⟨_, rfl, ?_⟩; have HO355 := AM (Kd.R_lower ho0 (below_size (BB HB.out))); replace HO347 := AM (Kd.R_below (RR HO347.out) hb); replace HO351 := AM (Kd.R_below (RR HO351.out) hb); replace HB := AM (below_step (BB HB.out) hb); (try clear hb); (try clear ho0)))
 (try simp only [Act.put, List.setIfInBounds_toArray, List.set_cons_zero, List.set_cons_succ])
 go_cut [49] (fun v49 wc => ∃ (kq : Nat) (x49_7 : Bool), v49 = .bool x49_7 ∧ Aside0 (spec_WriteGroup.j0 kq l0 a2 t348 t352 x49_7 = some (r1, r2)) ∧ Aside0 (kq ≤ k) ∧ Aside0 (Kd.R Kd.string 9 wc w.heap.size (fun _ => True) (.slice Ao12 t348.length co12) t348) ∧ Aside0 (Kd.R (Kd.int .i64) 3 wc w.heap.size (fun _ => True) v354 t352) ∧ Aside0 (Below w.heap.size w wc))
 case first =>
  have H := HC8.out
  clear HC8
  by_cases c14 : t345 = true
  ·subst c14
   have H1 : (if t349 = true then (spec_WriteGroup.j0 k l0 a2 t348 t352 (!t353)) else (spec_WriteGroup.j0 k l0 a2 t348 t352 true)) = some (r1, r2) := by rw [if_pos rfl] at H; exact H
   clear H
   have H := H1
   clear H1
   by_cases c15 : t349 = true
   ·subst c15
    have H1 : (spec_WriteGroup.j0 k l0 a2 t348 t352 (!t353)) = some (r1, r2) := by rw [if_pos rfl] at H; exact H
    clear H
    have H := H1
    clear H1
    have H' := AM H
    clear H
    go_wp2
    go_meet
    case rel => exact ⟨_, (!t353), FR, H', ⟨by first | omega | exact Nat.le_refl _⟩, ⟨by (with_reducible repeat (first | apply Kd.R_alloc | apply Kd.R_drewN | apply Kd.R_drew)); exact Kd.R_mono HO351.out (fun _ hk => trivial)⟩, ⟨(RR HO355.out)⟩, ⟨(BB HB.out)⟩⟩
   ·replace c15 := Bool.eq_false_iff.mpr c15
    subst c15
    have H1 : (spec_WriteGroup.j0 k l0 a2 t348 t352 true) = some (r1, r2) := by rw [if_neg (show ¬ (false = true) by decide)] at H; exact H
    clear H
    have H := H1
    clear H1
    have H' := AM H
    clear H
    go_wp2
    go_meet
    case rel => exact ⟨_, (true), FR, H', ⟨by first | omega | exact Nat.le_refl _⟩, ⟨by (with_reducible repeat (first | apply Kd.R_alloc | apply Kd.R_drewN | apply Kd.R_drew)); exact Kd.R_mono HO351.out (fun _ hk => trivial)⟩, ⟨(RR HO355.out)⟩, ⟨(BB HB.out)⟩⟩
  ·replace c14 := Bool.eq_false_iff.mpr c14
   subst c14
   have H1 : (spec_WriteGroup.j0 k l0 a2 t348 t352 true) = some (r1, r2) := by rw [if_neg (show ¬ (false = true) by decide)] at H; exact H
   clear H
   have H := H1
   clear H1
   have H' := AM H
   clear H
   go_wp2
   go_meet
   case rel => exact ⟨_, (true), FR, H', ⟨by first | omega | exact Nat.le_refl _⟩, ⟨by (with_reducible repeat (first | apply Kd.R_alloc | apply Kd.R_drewN | apply Kd.R_drew)); exact Kd.R_mono HO351.out (fun _ hk => trivial)⟩, ⟨(RR HO355.out)⟩, ⟨(BB HB.out)⟩⟩
 case rest =>
  clear HC8
  try clear c1
  try clear p2
  try clear c5
  try clear c7
  try clear c14
  try clear c15
  obtain ⟨kq, x49_7, rfl, HA, HJ7, HO_12, HO_14, HB⟩ := hcut
  cases kq with
  | zero => exact absurd HA.out (by simp [spec_WriteGroup.j0])
  | succ kj7 =>
   have H := HA.out
   clear HA
   simp only [spec_WriteGroup.j0] at H
   by_cases c16 : x49_7 = true
   ·subst c16
    have H1 : ((spec_l15Copy.f kj7 l0).bind fun t356 => (some (t356, false))) = some (r1, r2) := by rw [if_pos rfl] at H; exact H
    clear H
    have H := H1
    clear H1
    replace H := Option.bind_eq_some_iff.mp H
    obtain ⟨t356, A170, H⟩ := H
    replace H : (some (t356, false)) = some (r1, r2) := H
    have A17 := AM A170
    clear A170
    simp only [Option.some.injEq, Prod.mk.injEq] at H
    obtain ⟨rfl, rfl⟩ := H
    go_wp2_with (first | ((with_reducible refine gate_callee (f := 77) rfl ?_); refine GL (some 51) rfl rfl Try.func77 #[.slice A0 l0.length c0] rfl ?_; (with_reducible refine (spec_l15Copy.calls kj7 _ _ l0 t356 _ ?side1 ?side2 A17.out).mono ?_); (case side1 => exact CC (Kd.C_below HR0.out HB.out)); (case side2 => exact HC0.out); rintro e w18 ⟨v357, rfl, ho0, hb⟩; refine ⟨_, rfl, ?_⟩; have HO358 := AM (Kd.S_lower ho0 (below_size (BB HB.out))); replace HO_12 := AM (Kd.R_below (RR HO_12.out) hb); replace HO_14 := AM (Kd.R_below (RR HO_14.out) hb); replace HB := AM (below_step (BB HB.out) hb); (try clear hb); (try clear ho0)))
    go_ret2
    exact ⟨_, ER, by (with_reducible repeat (first | apply Kd.S_alloc | apply Kd.S_drewN | apply Kd.S_drew)); exact HO358.out, (BB HB.out)⟩
   ·replace c16 := Bool.eq_false_iff.mpr c16
    subst c16
    have H1 : ((spec_l15Copy.f kj7 l0).bind fun t359 => (spec_WriteGroup.l0 kj7 l0 a2 t348 t352 t359 0)) = some (r1, r2) := by rw [if_neg (show ¬ (false = true) by decide)] at H; exact H
    clear H
    have H := H1
    clear H1
    replace H := Option.bind_eq_some_iff.mp H
    obtain ⟨t359, A190, H⟩ := H
    replace H : (spec_WriteGroup.l0 kj7 l0 a2 t348 t352 t359 0) = some (r1, r2) := H
    have A19 := AM A190
    clear A190
    have H' := AM H
    clear H
    go_wp2_with (first | ((with_reducible refine gate_callee (f := 77) rfl ?_); refine GL (some 53) rfl rfl Try.func77 #[.slice A0 l0.length c0] rfl ?_; (with_reducible refine (spec_l15Copy.calls kj7 _ _ l0 t359 _ ?side1 ?side2 A19.out).mono ?_); (case side1 => exact CC (Kd.C_below HR0.out HB.out)); (case side2 => exact HC0.out); rintro e w20 ⟨v360, rfl, ho0, hb⟩; refine ⟨_, rfl, ?_⟩; have HO361 := AM (Kd.S_lower ho0 (below_size (BB HB.out))); replace HO_12 := AM (Kd.R_below (RR HO_12.out) hb); replace HO_14 := AM (Kd.R_below (RR HO_14.out) hb); replace HB := AM (below_step (BB HB.out) hb); (try clear hb); (try clear ho0)))
    go_loopg [17] kj7 (fun kq v17 w' => ∃ (x16_2 : List (S35)) (x17_2 : Int), v17 = .int .i64 x17_2 ∧ Aside0 (spec_WriteGroup.l0 kq l0 a2 t348 t352 x16_2 x17_2 = some (r1, r2)) ∧ Aside0 (kq ≤ kj7) ∧ Aside0 (Kd.R Kd.string 9 w' w.heap.size (fun _ => True) (.slice Ao12 t348.length co12) t348) ∧ Aside0 (Kd.R (Kd.int .i64) 3 w' w.heap.size (fun _ => True) v354 t352) ∧ Aside0 (Kd.S k35 35 w' w.heap.size (fun _ => True) v360 x16_2) ∧ Aside0 (Below w.heap.size w w'))
    case atStart => exact ⟨(t359), (0), FR, H', ⟨Nat.le_refl _⟩, ⟨(RR HO_12.out)⟩, ⟨(RR HO_14.out)⟩, ⟨(SS HO361.out)⟩, ⟨(BB HB.out)⟩⟩
    case round =>
     clear H'
     try clear c1
     try clear p2
     try clear c5
     try clear c7
     try clear c14
     try clear c15
     try clear c16
     try clear p2
     obtain ⟨x16_2, x17_2, rfl, HA, HK2, HO_12, HO_14, HO_16, HB⟩ := hrel
     cases gk with
     | zero => exact absurd HA.out (by simp [spec_WriteGroup.l0])
     | succ k2 =>
      have H := HA.out
      clear HA
      simp only [spec_WriteGroup.l0] at H
      by_cases c21 : x17_2 < (t352.length : Int)
      ·rw [if_pos c21] at H
       have c21b0 := decide_eq_true c21
       clear c21
       by_cases c22 : 0 ≤ x17_2
       rotate_left
       ·rw [if_neg c22] at H; exact absurd H (by simp)
       rw [if_pos c22] at H
       have c22b0 := decide_eq_true c22
       clear c22
       replace H := Option.bind_eq_some_iff.mp H
       obtain ⟨t363, A230, H⟩ := H
       replace H : (if 0 ≤ t363 then (if t363 < (x16_2.length : Int) then (if x17_2 < (t348.length : Int) then ((spec_PutUnit.f k2 ((rd_T35 x16_2 t363).f0) ((rd_T35 x16_2 t363).f1) ((rd_T35 x16_2 t363).f2) a2 x17_2 (rdOf ByteArray.empty t348 x17_2) 0).bind fun bt366 => (if bt366.2.2.2 = true then (spec_WriteGroup.l0 k2 l0 a2 t348 t352 (x16_2.set (t363 : Int).toNat (⟨bt366.1, bt366.2.1, bt366.2.2.1⟩ : S35)) (wrap64 (x17_2 + 1))) else ((spec_l15Copy.f k2 l0).bind fun t374 => (some (t374, false))))) else (none)) else (none)) else (none)) = some (r1, r2) := H
       have A23 := AM A230
       clear A230
       by_cases c24 : 0 ≤ t363
       rotate_left
       ·rw [if_neg c24] at H; exact absurd H (by simp)
       rw [if_pos c24] at H
       have c24b0 := decide_eq_true c24
       clear c24
       by_cases c25 : t363 < (x16_2.length : Int)
       rotate_left
       ·rw [if_neg c25] at H; exact absurd H (by simp)
       rw [if_pos c25] at H
       have c25b0 := decide_eq_true c25
       clear c25
       by_cases c26 : x17_2 < (t348.length : Int)
       rotate_left
       ·rw [if_neg c26] at H; exact absurd H (by simp)
       rw [if_pos c26] at H
       have c26b0 := decide_eq_true c26
       clear c26
       replace H := Option.bind_eq_some_iff.mp H
       obtain ⟨⟨t366, t367, t368, t371⟩, A270, H⟩ := H
       replace H : (if t371 = true then (spec_WriteGroup.l0 k2 l0 a2 t348 t352 (x16_2.set (t363 : Int).toNat (⟨t366, t367, t368⟩ : S35)) (wrap64 (x17_2 + 1))) else ((spec_l15Copy.f k2 l0).bind fun t374 => (some (t374, false)))) = some (r1, r2) := H
       have A27 := AM A270
       clear A270
       by_cases c28 : t371 = true
       ·subst c28
        have H1 : (spec_WriteGroup.l0 k2 l0 a2 t348 t352 (x16_2.set (t363 : Int).toNat (⟨t366, t367, t368⟩ : S35)) (wrap64 (x17_2 + 1))) = some (r1, r2) := by rw [if_pos rfl] at H; exact H
        clear H
        have H := H1
        clear H1
        obtain ⟨y373, hy373⟩ : ∃ y_ : List (S35), y_ = (x16_2.set (t363 : Int).toNat (⟨t366, t367, t368⟩ : S35)) := ⟨_, rfl⟩
        replace H : (spec_WriteGroup.l0 k2 l0 a2 t348 t352 y373 (wrap64 (x17_2 + 1))) = some (r1, r2) := by first | (rw [hy373]; first | with_reducible exact H | with_reducible exact OB H) | with_reducible exact OB H | with_reducible exact H | (rw [hy373]; exact H) | exact H
        have Ny373 := AM hy373
        clear hy373
        have H' := AM H
        clear H
        obtain ⟨Ao30, co30, eo30⟩ := Kd.R_slice HO_14.out
        subst eo30
        have p362 : 0 ≤ (x17_2 : Int) := DT
        have q362 : x17_2 < (t352.length : Int) := DT
        obtain ⟨ad362, e362, hx362_0⟩ := Kd.at_int (Kd.R_reads' HO_14.out).2.2 x17_2 p362 q362
        cases e362
        replace p362 := eq_true p362
        replace q362 := eq_true q362
        obtain ⟨Ao31, co31, eo31⟩ := Kd.S_slice HO_16.out
        subst eo31
        try go_wp2_with (first | ((with_reducible refine gate_callee (f := 78) rfl ?_); refine GL (some 65) rfl rfl Try.func78 #[.slice Ao31 x16_2.length co31, .int .i64 (rd t352 x17_2)] rfl ?_; (with_reducible refine (spec_l15Host.calls k2 _ _ x16_2 (rd t352 x17_2) t363 _ ?side1 ?side2 A23.out).mono ?_); (case side1 => exact CC (Kd.S_reads' HO_16.out).2.2); (case side2 => exact (Kd.S_reads' HO_16.out).2.1); rintro e w' ⟨rfl, ⟨nd, rfl⟩⟩; refine ⟨_, rfl, ?_⟩; (try (rw [drewN_self wr]; generalize hq_ : World.drewN wr _ = wr; have n0_ : Aside0 (Kd.R Kd.string 9 wr w.heap.size (fun _ => True) (.slice Ao12 t348.length co12) t348) := ⟨by rw [← hq_]; exact (RR HO_12.out)⟩; have n1_ : Aside0 (Kd.R (Kd.int .i64) 3 wr w.heap.size (fun _ => True) (.slice (some ad362) t352.length co30) t352) := ⟨by rw [← hq_]; exact (RR HO_14.out)⟩; have n2_ : Aside0 (Kd.S k35 35 wr w.heap.size (fun _ => True) (.slice Ao31 x16_2.length co31) x16_2) := ⟨by rw [← hq_]; exact (SS HO_16.out)⟩; have n3_ : Aside0 (Below w.heap.size w wr) := ⟨by rw [← hq_]; exact (BB HB.out)⟩; clear HO_12 HO_14 HO_16 HB hq_; have HO_12 := n0_; have HO_14 := n1_; have HO_16 := n2_; have HB := n3_; clear n0_ n1_ n2_ n3_))))
        replace HO_12 := AM (Kd.R_drew HO_12.out); replace HO_14 := AM (Kd.R_drew HO_14.out); replace HO_16 := AM (Kd.S_drew HO_16.out); replace HB := AM (below_drew1 HB.out)
        have p364 : 0 ≤ (t363 : Int) := DT
        have q364 : t363 < (x16_2.length : Int) := DT
        obtain ⟨ad364, A364_2, c364_2, e364, hx364_0, hx364_1, hx364_2, hl364_2, hi364_2⟩ := at_T35 (Kd.S_reads' HO_16.out).2.2 t363 p364 q364
        cases e364
        obtain ⟨ce364, hce364, hMe364, hcc364⟩ := Kd.S_get HO_16.out z35 t363 p364 (by first | exact q364 | exact DT | (have e_ := (Kd.S_reads' HO_16.out).1; omega))
        obtain ⟨ve364_2, rfl, ge364_2⟩ := k35_openM hMe364
        have hv364_2 := hcc364 2 _ rfl
        rw [add_field _ _ 2 (by omega)] at hv364_2
        replace hv364_2 := Option.some.inj (hv364_2.symm.trans hx364_2)
        rw [hv364_2] at ge364_2
        have HL364_2 := AM (show Kd.R k60 60 _ _ _ _ ((rd_T35 x16_2 t363).f2) from ge364_2)
        clear hv364_2 ge364_2
        clear hcc364 hce364
        have HR364_2 := AM hi364_2
        have HC364_2 := AM hl364_2
        clear hi364_2 hl364_2
        replace p364 := eq_true p364
        replace q364 := eq_true q364
        have p365 : 0 ≤ (x17_2 : Int) := DT
        have q365 : x17_2 < (t348.length : Int) := DT
        obtain ⟨ad365, e365, hx365_0⟩ := Kd.at_string (Kd.R_reads' HO_12.out).2.2 x17_2 p365 q365
        cases e365
        replace p365 := eq_true p365
        replace q365 := eq_true q365
        refine start_ (n := 18) (S := fun w' => w'.cell? (ad364.add ((t363).toNat * 3)) = some (.int .i64 ((rd_T35 x16_2 t363).f0)) ∧ w'.cell? ⟨(ad364.add ((t363).toNat * 3)).block, (ad364.add ((t363).toNat * 3)).off + 1, none⟩ = some (.bool ((rd_T35 x16_2 t363).f1)) ∧ w'.cell? ⟨(ad364.add ((t363).toNat * 3)).block, (ad364.add ((t363).toNat * 3)).off + 2, none⟩ = some (.slice A364_2 ((rd_T35 x16_2 t363).f2).length c364_2) ∧ w'.cell? (ad365.add (x17_2).toNat) = some (.string (rdOf ByteArray.empty t348 x17_2))) (ds := []) (.replicate 18 false) (by kernel_rfl) rfl rfl ⟨hx364_0, hx364_1, hx364_2, hx365_0⟩ (fun hHeld => ?_); refine with_tabW spec_WriteGroup.tab11 spec_WriteGroup.bits11 (fun HT_ HW_ => ?_)
        generalize wr.drew = w32 at HO_12 HO_14 HO_16 HB HL364_2 HR364_2 hx364_0 hx364_1 hx364_2 hx365_0 hHeld ⊢
        refine PH 0 67 HT_.out ?_
        refine PH 1 68 HT_.out ?_
        refine PH 2 69 HT_.out ?_
        refine PH 4 71 HT_.out ?_
        refine PH 5 72 HT_.out ?_
        refine PH 6 73 HT_.out ?_
        refine PH 7 74 HT_.out ?_
        refine PH 8 75 HT_.out ?_
        refine TH 3 70 HT_.out HW_.out hHeld ?_
        refine TH 9 76 HT_.out HW_.out hHeld ?_
        refine PH 10 77 HT_.out ?_
        refine join_ (σ := Value × Nat) 2 #[true, true, true, true, true, true, true, true, true, true, true, true, true, true, true, true, false, false] (fun s_ => [(78, .tuple #[.agg #[.int .i64 t366, .bool t367, s_.1], .bool true]), (19, .pointer (some ⟨s_.2, 0, none⟩)), (66, .tuple #[.agg #[.int .i64 t366, .bool t367, s_.1], .bool true]), (79, .agg #[.int .i64 t366, .bool t367, s_.1]), (80, .bool true)]) (fun s_ w' => (w'.cell? (ad364.add ((t363).toNat * 3)) = some (.int .i64 ((rd_T35 x16_2 t363).f0)) ∧ w'.cell? ⟨(ad364.add ((t363).toNat * 3)).block, (ad364.add ((t363).toNat * 3)).off + 1, none⟩ = some (.bool ((rd_T35 x16_2 t363).f1)) ∧ w'.cell? ⟨(ad364.add ((t363).toNat * 3)).block, (ad364.add ((t363).toNat * 3)).off + 2, none⟩ = some (.slice A364_2 ((rd_T35 x16_2 t363).f2).length c364_2) ∧ w'.cell? (ad365.add (x17_2).toNat) = some (.string (rdOf ByteArray.empty t348 x17_2))) ∧ (Kd.R k60 60 w' w.heap.size (fun k_ => some k_ ≠ (s_.1 : Value).ownBlock ∧ some k_ ≠ (.slice (some ad364) x16_2.length co31 : Value).ownBlock) (.slice A364_2 ((rd_T35 x16_2 t363).f2).length c364_2) ((rd_T35 x16_2 t363).f2)) ∧ (Kd.R k60 60 w' w.heap.size (fun k_ => some k_ ≠ (.slice A364_2 ((rd_T35 x16_2 t363).f2).length c364_2 : Value).ownBlock) s_.1 t368) ∧ (Kd.R Kd.string 9 w' w.heap.size (fun _ => True) (.slice (some ad365) t348.length co12) t348) ∧ (Kd.R (Kd.int .i64) 3 w' w.heap.size (fun _ => True) (.slice (some ad362) t352.length co30) t352) ∧ (Kd.S k35 35 w' w.heap.size (fun k_ => some k_ ≠ (s_.1 : Value).ownBlock ∧ k_ ≠ s_.2) (.slice (some ad364) x16_2.length co31) x16_2) ∧ (w'.heap[s_.2]? = some (.cells #[.int .i64 0, .bool false, .slice none 0 0] 35 (0, 0))) ∧ (w.heap.size ≤ s_.2) ∧ (w.heap.size ≤ s_.2) ∧ (Below w.heap.size w w')) ?_ ?_
        rotate_left
        ·intro hCont
         refine two_ (i := 11) (j := 15) (Ni := some 78) (Nj := some 19) #[true, true, true, true, true, true, true, true, true, true, true, true, false, false, false, false, false, false] #[true, true, true, true, true, true, true, true, true, true, true, false, false, false, false, true, false, false] rfl rfl rfl rfl (two_of HT_.out (by kernel_rfl)) (by decide) (by decide) (fun K hK => ?_) (fun K hK => ?_)
         ·skip
          refine GO Try.func55 #[.agg #[.int .i64 ((rd_T35 x16_2 t363).f0), .bool ((rd_T35 x16_2 t363).f1), .slice A364_2 ((rd_T35 x16_2 t363).f2).length c364_2], .agg #[.int .i64 a2, .int .i64 x17_2, .string (rdOf ByteArray.empty t348 x17_2), .int .i64 0]] ?_
          with_reducible refine (spec_PutUnit.calls k2 ((rd_T35 x16_2 t363).f0) ((rd_T35 x16_2 t363).f1) _ _ ((rd_T35 x16_2 t363).f2) a2 x17_2 (rdOf ByteArray.empty t348 x17_2) 0 t366 t367 t368 true _ ?side1 ?side2 A27.out).mono ?_
          (case side1 => repeat (first | exact (CC HR364_2.out) | (with_reducible refine Kd.C_alloc ?_ _) | (with_reducible refine Kd.C_drewN ?_ _) | (with_reducible refine Kd.C_drew ?_)))
          (case side2 => exact HC364_2.out)
          rintro e w33 ⟨v369, rfl, ho0, hb⟩
          have HS0_ := (hb.cell (World.block_lt_of_cell? _ _ (hHeld.1))).trans (hHeld.1)
          have HS1_ := (hb.cell (World.block_lt_of_cell? _ _ (hHeld.2.1))).trans (hHeld.2.1)
          have HS2_ := (hb.cell (World.block_lt_of_cell? _ _ (hHeld.2.2.1))).trans (hHeld.2.2.1)
          have HS3_ := (hb.cell (World.block_lt_of_cell? _ _ (hHeld.2.2.2))).trans (hHeld.2.2.2)
          refine ⟨_, rfl, ?_⟩
          have HO370 := AM (Kd.R_lower (Kd.R_new' ho0 (Kd.R_lt (RR HL364_2.out))) (below_size (BB HB.out))); replace HO_12 := AM (Kd.R_below (RR HO_12.out) hb); replace HO_14 := AM (Kd.R_below (RR HO_14.out) hb); replace HO_16 := AM (Kd.S_elder' (SS HO_16.out) (Kd.R_base ho0) hb); replace HL364_2 := AM (Kd.R_elder' (RR HL364_2.out) (Kd.R_base ho0) hb); replace HR364_2 := AM (Kd.C_below (CC HR364_2.out) hb); replace HB := AM (below_step (BB HB.out) hb)
          (try clear hb)
          (try clear hb2)
          (try clear hk)
          (try clear hi)
          (try clear ho0)
          refine hK.out _ _ ⟨HS0_, HS1_, HS2_, HS3_⟩ (fun hHeld => ?_)
          clear hK K
          refine NM 78 ?_
          refine PH 12 66 HT_.out ?_
          refine PH 13 79 HT_.out ?_
          refine PH 14 80 HT_.out ?_
          refine OH 15 (some 19) HT_.out (fun K hK => ?_)
          refine box_step ?hg (N := 19) ?hd (cs := #[.int .i64 0, .bool false, .slice none 0 0]) (t := 35) ?hr ?_; (case hd => rfl); (case hg => rfl); (case hr => first | (go_simp; done) | (go_simp; rfl))
          intro gb372 hg w34 hbox hb
          have HS0_ := (hb.cell (World.block_lt_of_cell? _ _ (hHeld.1))).trans (hHeld.1)
          have HS1_ := (hb.cell (World.block_lt_of_cell? _ _ (hHeld.2.1))).trans (hHeld.2.1)
          have HS2_ := (hb.cell (World.block_lt_of_cell? _ _ (hHeld.2.2.1))).trans (hHeld.2.2.1)
          have HS3_ := (hb.cell (World.block_lt_of_cell? _ _ (hHeld.2.2.2))).trans (hHeld.2.2.2)
          have n0_ := AM (Kd.R_below (RR HO_12.out) hb); have n1_ := AM (Kd.R_below (RR HO_14.out) hb); have n2_ := AM (Kd.S_below (Kd.S_elderB (SS HO_16.out) gb372 (Nat.le_of_eq hg.symm)) hb); have n3_ := AM (Kd.R_below (RR HL364_2.out) hb); have n4_ := AM (Kd.R_below (RR HO370.out) hb); have n5_ := AM (Kd.C_below (CC HR364_2.out) hb); have n6_ := AM (below_step (BB HB.out) hb); have n7_ := AM (hbox); have n8_ := AM ((by rw [hg]; exact (below_size (BB HB.out)) : w.heap.size ≤ gb372)); have n9_ := AM ((by rw [hg]; exact (below_size (BB HB.out)) : w.heap.size ≤ gb372)); clear HO_12; clear HO_14; clear HO_16; clear HL364_2; clear HO370; clear HR364_2; clear HB; have HO_12 := n0_; have HO_14 := n1_; have HO_16 := n2_; have HL364_2 := n3_; have HO370 := n4_; have HR364_2 := n5_; have HB := n6_; have BK372 := n7_; have GW372 := n8_; have GE372 := n9_; clear n0_ n1_ n2_ n3_ n4_ n5_ n6_ n7_ n8_ n9_
          clear hb hbox hg
          refine hK.out _ _ ⟨HS0_, HS1_, HS2_, HS3_⟩ (fun hHeld => ?_)
          clear hK K
          refine NM 19 ?_
          exact norm_ (by simp only [putAll, Act.put, List.setIfInBounds_toArray, List.set_cons_zero, List.set_cons_succ]) (hCont (v369, gb372) _ ⟨hHeld, (by (with_reducible repeat (first | apply Kd.R_alloc | apply Kd.R_drewN | apply Kd.R_drew)); exact Kd.R_mono HL364_2.out (by first | exact (fun _ hk => ⟨hk.2, hk.1.2⟩) | exact (fun _ hk => PT hk))), (by (with_reducible repeat (first | apply Kd.R_alloc | apply Kd.R_drewN | apply Kd.R_drew)); exact Kd.R_mono HO370.out (fun _ hk => hk.2)), (RR HO_12.out), (RR HO_14.out), (by (with_reducible repeat (first | apply Kd.S_alloc | apply Kd.S_drewN | apply Kd.S_drew)); exact Kd.S_mono HO_16.out (fun _ hk => ⟨hk.1.2, hk.2⟩)), (BD BK372.out), GW372.out, GE372.out, (BB1 HB.out GE372.out)⟩)
         ·skip
          refine box_step ?hg (N := 19) ?hd (cs := #[.int .i64 0, .bool false, .slice none 0 0]) (t := 35) ?hr ?_; (case hd => rfl); (case hg => rfl); (case hr => first | (go_simp; done) | (go_simp; rfl))
          intro gb372 hg w33 hbox hb
          have HS0_ := (hb.cell (World.block_lt_of_cell? _ _ (hHeld.1))).trans (hHeld.1)
          have HS1_ := (hb.cell (World.block_lt_of_cell? _ _ (hHeld.2.1))).trans (hHeld.2.1)
          have HS2_ := (hb.cell (World.block_lt_of_cell? _ _ (hHeld.2.2.1))).trans (hHeld.2.2.1)
          have HS3_ := (hb.cell (World.block_lt_of_cell? _ _ (hHeld.2.2.2))).trans (hHeld.2.2.2)
          have n0_ := AM (Kd.R_below (RR HO_12.out) hb); have n1_ := AM (Kd.R_below (RR HO_14.out) hb); have n2_ := AM (Kd.S_below (Kd.S_elderB (SS HO_16.out) gb372 (Nat.le_of_eq hg.symm)) hb); have n3_ := AM (Kd.R_below (RR HL364_2.out) hb); have n4_ := AM (Kd.C_below (CC HR364_2.out) hb); have n5_ := AM (below_step (BB HB.out) hb); have n6_ := AM (hbox); have n7_ := AM ((by rw [hg]; exact (below_size (BB HB.out)) : w.heap.size ≤ gb372)); have n8_ := AM ((by rw [hg]; exact (below_size (BB HB.out)) : w.heap.size ≤ gb372)); clear HO_12; clear HO_14; clear HO_16; clear HL364_2; clear HR364_2; clear HB; have HO_12 := n0_; have HO_14 := n1_; have HO_16 := n2_; have HL364_2 := n3_; have HR364_2 := n4_; have HB := n5_; have BK372 := n6_; have GW372 := n7_; have GE372 := n8_; clear n0_ n1_ n2_ n3_ n4_ n5_ n6_ n7_ n8_
          clear hb hbox hg
          refine hK.out _ _ ⟨HS0_, HS1_, HS2_, HS3_⟩ (fun hHeld => ?_)
          clear hK K
          refine NM 19 ?_
          refine OH 11 (some 78) HT_.out (fun K hK => ?_)
          refine GO Try.func55 #[.agg #[.int .i64 ((rd_T35 x16_2 t363).f0), .bool ((rd_T35 x16_2 t363).f1), .slice A364_2 ((rd_T35 x16_2 t363).f2).length c364_2], .agg #[.int .i64 a2, .int .i64 x17_2, .string (rdOf ByteArray.empty t348 x17_2), .int .i64 0]] ?_
          with_reducible refine (spec_PutUnit.calls k2 ((rd_T35 x16_2 t363).f0) ((rd_T35 x16_2 t363).f1) _ _ ((rd_T35 x16_2 t363).f2) a2 x17_2 (rdOf ByteArray.empty t348 x17_2) 0 t366 t367 t368 true _ ?side1 ?side2 A27.out).mono ?_
          (case side1 => repeat (first | exact (CC HR364_2.out) | (with_reducible refine Kd.C_alloc ?_ _) | (with_reducible refine Kd.C_drewN ?_ _) | (with_reducible refine Kd.C_drew ?_)))
          (case side2 => exact HC364_2.out)
          rintro e w34 ⟨v369, rfl, ho0, hb⟩
          have HS0_ := (hb.cell (World.block_lt_of_cell? _ _ (hHeld.1))).trans (hHeld.1)
          have HS1_ := (hb.cell (World.block_lt_of_cell? _ _ (hHeld.2.1))).trans (hHeld.2.1)
          have HS2_ := (hb.cell (World.block_lt_of_cell? _ _ (hHeld.2.2.1))).trans (hHeld.2.2.1)
          have HS3_ := (hb.cell (World.block_lt_of_cell? _ _ (hHeld.2.2.2))).trans (hHeld.2.2.2)
          refine ⟨_, rfl, ?_⟩
          have HO370 := AM (Kd.R_lower (Kd.R_new' ho0 (Kd.R_lt (RR HL364_2.out))) (below_size (BB1 HB.out GE372.out))); replace HO_12 := AM (Kd.R_below (RR HO_12.out) hb); replace HO_14 := AM (Kd.R_below (RR HO_14.out) hb); replace HO_16 := AM (Kd.S_elder' (SS HO_16.out) (Kd.R_base ho0) hb); replace HL364_2 := AM (Kd.R_elder' (RR HL364_2.out) (Kd.R_base ho0) hb); replace HR364_2 := AM (Kd.C_below (CC HR364_2.out) hb); replace BK372 := AM (KB BK372.out hb); replace HB := AM (below_step (BB1 HB.out GE372.out) hb)
          (try clear hb)
          (try clear hb2)
          (try clear hk)
          (try clear hi)
          (try clear ho0)
          refine hK.out _ _ ⟨HS0_, HS1_, HS2_, HS3_⟩ (fun hHeld => ?_)
          clear hK K
          refine NM 78 ?_
          refine PH 12 66 HT_.out ?_
          refine PH 13 79 HT_.out ?_
          refine PH 14 80 HT_.out ?_
          exact norm_ (by simp only [putAll, Act.put, List.setIfInBounds_toArray, List.set_cons_zero, List.set_cons_succ]) (hCont (v369, gb372) _ ⟨hHeld, (by (with_reducible repeat (first | apply Kd.R_alloc | apply Kd.R_drewN | apply Kd.R_drew)); exact Kd.R_mono HL364_2.out (by first | exact (fun _ hk => ⟨hk.2, hk.1.2⟩) | exact (fun _ hk => PT hk))), (by (with_reducible repeat (first | apply Kd.R_alloc | apply Kd.R_drewN | apply Kd.R_drew)); exact Kd.R_mono HO370.out (fun _ hk => hk.2)), (RR HO_12.out), (RR HO_14.out), (by (with_reducible repeat (first | apply Kd.S_alloc | apply Kd.S_drewN | apply Kd.S_drew)); exact Kd.S_mono HO_16.out (fun _ hk => ⟨hk.2, hk.1.2⟩)), (BD BK372.out), GW372.out, GE372.out, (BB1 HB.out GE372.out)⟩)
        rintro ⟨v369, gb372⟩ w35 ⟨hS_, h0_, h1_, h2_, h3_, h4_, h5_, h6_, h7_, h8_⟩
        have n0_ : Aside0 (Kd.R k60 60 w35 w.heap.size (fun k_ => some k_ ≠ (v369 : Value).ownBlock ∧ some k_ ≠ (.slice (some ad364) x16_2.length co31 : Value).ownBlock) (.slice A364_2 ((rd_T35 x16_2 t363).f2).length c364_2) ((rd_T35 x16_2 t363).f2)) := ⟨h0_⟩
        have n1_ : Aside0 (Kd.R k60 60 w35 w.heap.size (fun k_ => some k_ ≠ (.slice A364_2 ((rd_T35 x16_2 t363).f2).length c364_2 : Value).ownBlock) v369 t368) := ⟨h1_⟩
        have n2_ : Aside0 (Kd.R Kd.string 9 w35 w.heap.size (fun _ => True) (.slice (some ad365) t348.length co12) t348) := ⟨h2_⟩
        have n3_ : Aside0 (Kd.R (Kd.int .i64) 3 w35 w.heap.size (fun _ => True) (.slice (some ad362) t352.length co30) t352) := ⟨h3_⟩
        have n4_ : Aside0 (Kd.S k35 35 w35 w.heap.size (fun k_ => some k_ ≠ (v369 : Value).ownBlock ∧ k_ ≠ gb372) (.slice (some ad364) x16_2.length co31) x16_2) := ⟨h4_⟩
        have n5_ : Aside0 (w35.heap[gb372]? = some (.cells #[.int .i64 0, .bool false, .slice none 0 0] 35 (0, 0))) := ⟨h5_⟩
        have n6_ : Aside0 (w.heap.size ≤ gb372) := ⟨h6_⟩
        have n7_ : Aside0 (w.heap.size ≤ gb372) := ⟨h7_⟩
        have n8_ : Aside0 (Below w.heap.size w w35) := ⟨h8_⟩
        clear HO_12
        clear HO_14
        clear HO_16
        clear HB
        clear h0_ h1_ h2_ h3_ h4_ h5_ h6_ h7_ h8_
        have HL364_2 := n0_
        have HO370 := n1_
        have HO_12 := n2_
        have HO_14 := n3_
        have HO_16 := n4_
        have BK372 := n5_
        have GW372 := n6_
        have GE372 := n7_
        have HB := n8_
        clear n0_ n1_ n2_ n3_ n4_ n5_ n6_ n7_ n8_
        have hHeld : w35.cell? (ad364.add ((t363).toNat * 3)) = some (.int .i64 ((rd_T35 x16_2 t363).f0)) ∧ w35.cell? ⟨(ad364.add ((t363).toNat * 3)).block, (ad364.add ((t363).toNat * 3)).off + 1, none⟩ = some (.bool ((rd_T35 x16_2 t363).f1)) ∧ w35.cell? ⟨(ad364.add ((t363).toNat * 3)).block, (ad364.add ((t363).toNat * 3)).off + 2, none⟩ = some (.slice A364_2 ((rd_T35 x16_2 t363).f2).length c364_2) ∧ w35.cell? (ad365.add (x17_2).toNat) = some (.string (rdOf ByteArray.empty t348 x17_2)) := hS_
        obtain ⟨Ao38, co38, eo38⟩ := Kd.R_slice HO370.out
        (first | subst eo38 | (injection eo38 with f1_ f2_ f3_; have f4_ := f1_.symm; have f5_ := f3_.symm; clear f1_ f2_ f3_; subst f4_; subst f5_))
        refine norm_ (a' := ?_) ?_ ?_
        rotate_left
        ·simp only [putAll, Act.put, List.setIfInBounds_toArray, List.set_cons_zero, List.set_cons_succ]
         rfl
        refine OH 16 none HT_.out (fun K hK => ?_)
        have hs36 : w35.cell? ⟨gb372, 0, none⟩ = some (.int .i64 0) := (blk_cell BK372.out 0).trans rfl
        have hfs36 := blk_frozen BK372.out 0
        have hs37 : w35.cell? ⟨gb372, 1, none⟩ = some (.bool false) := (blk_cell BK372.out 1).trans rfl
        have hfs37 := blk_frozen BK372.out 1
        have hs39 : w35.cell? ⟨gb372, 2, none⟩ = some (.slice none 0 0) := (blk_cell BK372.out 2).trans rfl
        have hfs39 := blk_frozen BK372.out 2
        refine skip_ (w1 := ?_) (by rfl) rfl ?_ ?_
        rotate_left
        ·go_simp
         rfl
        refine hK.out _ _ ⟨((cell_far (p := ⟨gb372, _, none⟩) (by first | exact Kd.own_blk (Kd.S_away HO_16.out (fun _ hk => hk.2)) | (rw [add_block]; exact Kd.own_blk (Kd.S_away HO_16.out (fun _ hk => hk.2))) | (show (Addr.add _ _).block ≠ _; rw [add_block]; exact Kd.own_blk (Kd.S_away HO_16.out (fun _ hk => hk.2))) | (dsimp only; exact Kd.own_blk (Kd.S_away HO_16.out (fun _ hk => hk.2)))) _).trans (((cell_far (p := ⟨gb372, _, none⟩) (by first | exact Kd.own_blk (Kd.S_away HO_16.out (fun _ hk => hk.2)) | (rw [add_block]; exact Kd.own_blk (Kd.S_away HO_16.out (fun _ hk => hk.2))) | (show (Addr.add _ _).block ≠ _; rw [add_block]; exact Kd.own_blk (Kd.S_away HO_16.out (fun _ hk => hk.2))) | (dsimp only; exact Kd.own_blk (Kd.S_away HO_16.out (fun _ hk => hk.2)))) _).trans (((cell_far (p := ⟨gb372, _, none⟩) (by first | exact Kd.own_blk (Kd.S_away HO_16.out (fun _ hk => hk.2)) | (rw [add_block]; exact Kd.own_blk (Kd.S_away HO_16.out (fun _ hk => hk.2))) | (show (Addr.add _ _).block ≠ _; rw [add_block]; exact Kd.own_blk (Kd.S_away HO_16.out (fun _ hk => hk.2))) | (dsimp only; exact Kd.own_blk (Kd.S_away HO_16.out (fun _ hk => hk.2)))) _).trans (hHeld.1)))))), ((cell_far (p := ⟨gb372, _, none⟩) (by first | exact Kd.own_blk (Kd.S_away HO_16.out (fun _ hk => hk.2)) | (rw [add_block]; exact Kd.own_blk (Kd.S_away HO_16.out (fun _ hk => hk.2))) | (show (Addr.add _ _).block ≠ _; rw [add_block]; exact Kd.own_blk (Kd.S_away HO_16.out (fun _ hk => hk.2))) | (dsimp only; exact Kd.own_blk (Kd.S_away HO_16.out (fun _ hk => hk.2)))) _).trans (((cell_far (p := ⟨gb372, _, none⟩) (by first | exact Kd.own_blk (Kd.S_away HO_16.out (fun _ hk => hk.2)) | (rw [add_block]; exact Kd.own_blk (Kd.S_away HO_16.out (fun _ hk => hk.2))) | (show (Addr.add _ _).block ≠ _; rw [add_block]; exact Kd.own_blk (Kd.S_away HO_16.out (fun _ hk => hk.2))) | (dsimp only; exact Kd.own_blk (Kd.S_away HO_16.out (fun _ hk => hk.2)))) _).trans (((cell_far (p := ⟨gb372, _, none⟩) (by first | exact Kd.own_blk (Kd.S_away HO_16.out (fun _ hk => hk.2)) | (rw [add_block]; exact Kd.own_blk (Kd.S_away HO_16.out (fun _ hk => hk.2))) | (show (Addr.add _ _).block ≠ _; rw [add_block]; exact Kd.own_blk (Kd.S_away HO_16.out (fun _ hk => hk.2))) | (dsimp only; exact Kd.own_blk (Kd.S_away HO_16.out (fun _ hk => hk.2)))) _).trans (hHeld.2.1)))))), ((cell_far (p := ⟨gb372, _, none⟩) (by first | exact Kd.own_blk (Kd.S_away HO_16.out (fun _ hk => hk.2)) | (rw [add_block]; exact Kd.own_blk (Kd.S_away HO_16.out (fun _ hk => hk.2))) | (show (Addr.add _ _).block ≠ _; rw [add_block]; exact Kd.own_blk (Kd.S_away HO_16.out (fun _ hk => hk.2))) | (dsimp only; exact Kd.own_blk (Kd.S_away HO_16.out (fun _ hk => hk.2)))) _).trans (((cell_far (p := ⟨gb372, _, none⟩) (by first | exact Kd.own_blk (Kd.S_away HO_16.out (fun _ hk => hk.2)) | (rw [add_block]; exact Kd.own_blk (Kd.S_away HO_16.out (fun _ hk => hk.2))) | (show (Addr.add _ _).block ≠ _; rw [add_block]; exact Kd.own_blk (Kd.S_away HO_16.out (fun _ hk => hk.2))) | (dsimp only; exact Kd.own_blk (Kd.S_away HO_16.out (fun _ hk => hk.2)))) _).trans (((cell_far (p := ⟨gb372, _, none⟩) (by first | exact Kd.own_blk (Kd.S_away HO_16.out (fun _ hk => hk.2)) | (rw [add_block]; exact Kd.own_blk (Kd.S_away HO_16.out (fun _ hk => hk.2))) | (show (Addr.add _ _).block ≠ _; rw [add_block]; exact Kd.own_blk (Kd.S_away HO_16.out (fun _ hk => hk.2))) | (dsimp only; exact Kd.own_blk (Kd.S_away HO_16.out (fun _ hk => hk.2)))) _).trans (hHeld.2.2.1)))))), ((cell_far (p := ⟨gb372, _, none⟩) (by first | exact Kd.own_blk (Kd.R_ne HO_12.out BK372.out (by decide)) | (rw [add_block]; exact Kd.own_blk (Kd.R_ne HO_12.out BK372.out (by decide))) | (show (Addr.add _ _).block ≠ _; rw [add_block]; exact Kd.own_blk (Kd.R_ne HO_12.out BK372.out (by decide))) | (dsimp only; exact Kd.own_blk (Kd.R_ne HO_12.out BK372.out (by decide)))) _).trans (((cell_far (p := ⟨gb372, _, none⟩) (by first | exact Kd.own_blk (Kd.R_ne HO_12.out BK372.out (by decide)) | (rw [add_block]; exact Kd.own_blk (Kd.R_ne HO_12.out BK372.out (by decide))) | (show (Addr.add _ _).block ≠ _; rw [add_block]; exact Kd.own_blk (Kd.R_ne HO_12.out BK372.out (by decide))) | (dsimp only; exact Kd.own_blk (Kd.R_ne HO_12.out BK372.out (by decide)))) _).trans (((cell_far (p := ⟨gb372, _, none⟩) (by first | exact Kd.own_blk (Kd.R_ne HO_12.out BK372.out (by decide)) | (rw [add_block]; exact Kd.own_blk (Kd.R_ne HO_12.out BK372.out (by decide))) | (show (Addr.add _ _).block ≠ _; rw [add_block]; exact Kd.own_blk (Kd.R_ne HO_12.out BK372.out (by decide))) | (dsimp only; exact Kd.own_blk (Kd.R_ne HO_12.out BK372.out (by decide)))) _).trans (hHeld.2.2.2))))))⟩ (fun hHeld => ?_)
        clear hK K
        refine PH 17 20 HT_.out ?_
        refine done_ (done_of HT_.out (by kernel_rfl)) ?_
        obtain ⟨w40, hw_⟩ : ∃ w_, w_ = (((w35.setCell ⟨gb372, 0, none⟩ (.int .i64 t366)).setCell ⟨gb372, 1, none⟩ (.bool t367)).setCell ⟨gb372, 2, none⟩ (.slice Ao38 t368.length co38)) := ⟨_, rfl⟩
        rw [← hw_]
        have n0_ : Aside0 (Kd.R Kd.string 9 w40 w.heap.size (fun _ => True) (.slice (some ad365) t348.length co12) t348) := ⟨by rw [hw_]; (with_reducible repeat (first | apply Kd.R_alloc | apply Kd.R_drewN | apply Kd.R_drew)); exact Kd.R_mono (Kd.R_far (p := ⟨gb372, 2, none⟩) (Kd.R_far (p := ⟨gb372, 1, none⟩) (Kd.R_far (p := ⟨gb372, 0, none⟩) (Kd.R_types HO_12.out BK372.out (by decide)) (fun _ hk => hk.2) (.int .i64 t366)) (fun _ hk => hk.2) (.bool t367)) (fun _ hk => hk.2) (.slice Ao38 t368.length co38)) (fun _ hk => trivial)⟩
        have n1_ : Aside0 (Kd.R (Kd.int .i64) 3 w40 w.heap.size (fun _ => True) (.slice (some ad362) t352.length co30) t352) := ⟨by rw [hw_]; (with_reducible repeat (first | apply Kd.R_alloc | apply Kd.R_drewN | apply Kd.R_drew)); exact Kd.R_mono (Kd.R_far (p := ⟨gb372, 2, none⟩) (Kd.R_far (p := ⟨gb372, 1, none⟩) (Kd.R_far (p := ⟨gb372, 0, none⟩) (Kd.R_types HO_14.out BK372.out (by decide)) (fun _ hk => hk.2) (.int .i64 t366)) (fun _ hk => hk.2) (.bool t367)) (fun _ hk => hk.2) (.slice Ao38 t368.length co38)) (fun _ hk => trivial)⟩
        have n2_ : Aside0 (Kd.S k35 35 w40 w.heap.size (fun k_ => some k_ ≠ (.slice Ao38 t368.length co38 : Value).ownBlock ∧ k_ ≠ gb372) (.slice (some ad364) x16_2.length co31) x16_2) := ⟨by rw [hw_]; (with_reducible repeat (first | apply Kd.S_alloc | apply Kd.S_drewN | apply Kd.S_drew)); exact Kd.S_mono (Kd.S_far (p := ⟨gb372, 2, none⟩) (Kd.S_far (p := ⟨gb372, 1, none⟩) (Kd.S_far (p := ⟨gb372, 0, none⟩) (Kd.S_mono HO_16.out (fun k_ hk => (⟨hk, hk.2⟩ : _ ∧ k_ ≠ gb372))) (fun _ hk => hk.2) (.int .i64 t366)) (fun _ hk => hk.2) (.bool t367)) (fun _ hk => hk.2) (.slice Ao38 t368.length co38)) (fun _ hk => ⟨hk.1.1, hk.1.2⟩)⟩
        have n3_ : Aside0 (Kd.R k60 60 w40 w.heap.size (fun k_ => some k_ ≠ (.slice (some ad364) x16_2.length co31 : Value).ownBlock ∧ some k_ ≠ (.slice Ao38 t368.length co38 : Value).ownBlock) (.slice A364_2 ((rd_T35 x16_2 t363).f2).length c364_2) ((rd_T35 x16_2 t363).f2)) := ⟨by rw [hw_]; (with_reducible repeat (first | apply Kd.R_alloc | apply Kd.R_drewN | apply Kd.R_drew)); exact Kd.R_mono (Kd.R_far (p := ⟨gb372, 2, none⟩) (Kd.R_far (p := ⟨gb372, 1, none⟩) (Kd.R_far (p := ⟨gb372, 0, none⟩) (Kd.R_types HL364_2.out BK372.out (by decide)) (fun _ hk => hk.2) (.int .i64 t366)) (fun _ hk => hk.2) (.bool t367)) (fun _ hk => hk.2) (.slice Ao38 t368.length co38)) (fun _ hk => ⟨hk.1.2, hk.1.1⟩)⟩
        have n4_ : Aside0 (Kd.R k60 60 w40 w.heap.size (fun k_ => some k_ ≠ (.slice A364_2 ((rd_T35 x16_2 t363).f2).length c364_2 : Value).ownBlock) (.slice Ao38 t368.length co38) t368) := ⟨by rw [hw_]; (with_reducible repeat (first | apply Kd.R_alloc | apply Kd.R_drewN | apply Kd.R_drew)); exact Kd.R_mono (Kd.R_far (p := ⟨gb372, 2, none⟩) (Kd.R_far (p := ⟨gb372, 1, none⟩) (Kd.R_far (p := ⟨gb372, 0, none⟩) (Kd.R_types HO370.out BK372.out (by decide)) (fun _ hk => hk.2) (.int .i64 t366)) (fun _ hk => hk.2) (.bool t367)) (fun _ hk => hk.2) (.slice Ao38 t368.length co38)) (fun _ hk => hk.1)⟩
        have n5_ : Aside0 (w40.heap[gb372]? = some (.cells #[.int .i64 t366, .bool t367, .slice Ao38 t368.length co38] 35 (0, 0))) := ⟨by rw [hw_]; refine BD ?_; refine blk_put (cs := #[.int .i64 t366, .bool t367, .slice none 0 0]) ?_ 2 _ rfl; refine BD ?_; refine blk_put (cs := #[.int .i64 t366, .bool false, .slice none 0 0]) ?_ 1 _ rfl; refine BD ?_; refine blk_put (cs := #[.int .i64 0, .bool false, .slice none 0 0]) ?_ 0 _ rfl; refine BD ?_; exact BK372.out⟩
        have n6_ : Aside0 (Below w.heap.size w w40) := ⟨by rw [hw_]; exact (BB1 HB.out GE372.out)⟩
        (try clear HO_12)
        (try clear HO_14)
        (try clear HO_16)
        (try clear HL364_2)
        (try clear HO370)
        (try clear BK372)
        (try clear HB)
        clear hw_
        have HO_12 := n0_
        have HO_14 := n1_
        have HO_16 := n2_
        have HL364_2 := n3_
        have HO370 := n4_
        have BK372 := n5_
        have HB := n6_
        clear n0_ n1_ n2_ n3_ n4_ n5_ n6_
        have hcz41 := blk_cell BK372.out
        have hcz41_1 : w40.cell? ⟨gb372, 1, none⟩ = some (.bool t367) := (blk_cell BK372.out 1).trans rfl
        have hcz41_2 : w40.cell? ⟨gb372, 2, none⟩ = some (.slice Ao38 t368.length co38) := (blk_cell BK372.out 2).trans rfl
        have hfz41 := blk_frozen BK372.out
        have hfz41_1 := blk_frozen BK372.out 1
        have hfz41_2 := blk_frozen BK372.out 2
        have p29 : 0 ≤ (t363 : Int) := DT
        have q29 : (t363 : Int) < ((x16_2.length : Int) : Int) := DT
        obtain ⟨go29, co29, eo29, gb29, gl29, cl29, HG29⟩ := Kd.S_form HO_16.out (by omega)
        (first | cases eo29 | (injection eo29 with ea_ en_ ec_; (first | subst ea_ | (injection ea_ with ea_; subst ea_)); subst ec_; clear en_))
        have GB29 := AM gb29
        have GG29 := AM HG29
        clear gb29 gl29 HG29
        (first | simp only [add_plain] at hx364_0 | skip)
        (first | simp only [add_plain] at hx364_1 | skip)
        (first | simp only [add_plain] at hx364_2 | skip)
        obtain ⟨_, ce29, hcl29, hM29, hcc29, hfr29, _, _⟩ := Kd.S_elem HO_16.out z35 (t363 : Int) p29 q29
        obtain ⟨ve29_2, rfl, ge29_2⟩ := k35_openM hM29
        have hx29_0 : w40.cell? ⟨go29, (t363 : Int).toNat * 3, none⟩ = some (.int .i64 ((rd_T35 x16_2 t363).f0)) := hcc29 0 _ rfl
        have hx29_1 : w40.cell? ⟨go29, (t363 : Int).toNat * 3 + 1, none⟩ = some (.bool ((rd_T35 x16_2 t363).f1)) := hcc29 1 _ rfl
        have hx29_2 : w40.cell? ⟨go29, (t363 : Int).toNat * 3 + 2, none⟩ = some (ve29_2) := hcc29 2 _ rfl
        have hf29_0 : w40.frozen? ⟨go29, (t363 : Int).toNat * 3, none⟩ = false := hfr29 0
        have hf29_1 : w40.frozen? ⟨go29, (t363 : Int).toNat * 3 + 1, none⟩ = false := hfr29 1
        have hf29_2 : w40.frozen? ⟨go29, (t363 : Int).toNat * 3 + 2, none⟩ = false := hfr29 2
        clear hcl29 hcc29 hfr29 hM29
        replace p29 := eq_true p29
        replace q29 := eq_true q29
        have HX42 := AM (show Kd.S k35 35 w40 w.heap.size (fun k_ => ((fun k_ => k_ ≠ gb372)) k_ ∧ ¬ ((fun k_ => some k_ = (.slice Ao38 t368.length co38 : Value).ownBlock)) k_) (.slice (some ⟨go29, 0, none⟩) x16_2.length co31) x16_2 from (by (with_reducible repeat (first | apply Kd.S_alloc | apply Kd.S_drewN | apply Kd.S_drew)); exact Kd.S_mono HO_16.out (fun k_ hk => ⟨hk.2, fun e_ => hk.1 e_⟩)))
        obtain ⟨oki42, ce42, hcl42, hM42, hcc42, hfr42, hoki42, hH42⟩ := Kd.S_elem HX42.out z35 (t363 : Int) DT (by have h_ : (t363 : Int) < ((x16_2.length : Int) : Int) := DT; first | exact h_ | (have e_ := (Kd.S_reads' HO_16.out).1; omega) | simpa using h_)
        obtain ⟨ve42_2, rfl, ge42_2⟩ := k35_openM hM42
        have HP42 := Kd.S_seg hH42 DT (by have h_ : (t363 : Int) < ((x16_2.length : Int) : Int) := DT; first | exact h_ | (have e_ := (Kd.S_reads' HO_16.out).1; omega) | simpa using h_) (seg := [.int .i64 t366, .bool t367, .slice Ao38 t368.length co38]) (j := 0) (show 3 ≤ 3 from by decide) (x' := (⟨t366, t367, t368⟩ : S35)) (k35_mkM _ _ _ (⟨t366, t367, t368⟩ : S35) (Kd.R_mono (Kd.R_tight rfl (Kd.R_mono (ok' := fun k_ => ((fun k_ => k_ ≠ gb372)) k_ ∧ k_ ≠ go29) (Kd.R_types (Kd.R_apart' (HO370.out) (Kd.S_typed HO_16.out) (by decide)) BK372.out (by decide)) (fun k_ hk => ⟨hk.2, fun e_ => (hk.1.2) (by rw [e_]; rfl)⟩))) (fun _ h_ => Or.inr (h_)))) (fun _ hk => hk) (fun k_ hk_ => ((Kd.R_mono (ok' := fun k_ => ((fun k_ => k_ ≠ gb372)) k_ ∧ k_ ≠ go29) (Kd.R_types (Kd.R_apart' (HO370.out) (Kd.S_typed HO_16.out) (by decide)) BK372.out (by decide)) (fun k_ hk => ⟨hk.2, fun e_ => (hk.1.2) (by rw [e_]; rfl)⟩))).1 k_ hk_.symm)
        have hx42_0 := hcc42 0 _ rfl
        (try simp only [show (k35).sz = 3 from rfl, Nat.mul_one, Nat.add_zero] at hx42_0)
        have hf42_0 := hfr42 0
        (try simp only [show (k35).sz = 3 from rfl, Nat.mul_one, Nat.add_zero] at hf42_0)
        have hx42_1 := hcc42 1 _ rfl
        (try simp only [show (k35).sz = 3 from rfl, Nat.mul_one, Nat.add_zero] at hx42_1)
        have hf42_1 := hfr42 1
        (try simp only [show (k35).sz = 3 from rfl, Nat.mul_one, Nat.add_zero] at hf42_1)
        have hx42_2 := hcc42 2 _ rfl
        (try simp only [show (k35).sz = 3 from rfl, Nat.mul_one, Nat.add_zero] at hx42_2)
        have hf42_2 := hfr42 2
        (try simp only [show (k35).sz = 3 from rfl, Nat.mul_one, Nat.add_zero] at hf42_2)
        clear hcl42 hcc42 hfr42 hM42 hoki42 hH42
        try go_wp2_with (first | ((with_reducible refine gate_store (t := 35) (p := 88) rfl ?_); refine store_event (t := 35) (p := 88) (v := ?vo_w43) (w1 := (((w40.setCell ⟨go29, (t363 : Int).toNat * 3, none⟩ (.int .i64 t366)).setCell ⟨go29, (t363 : Int).toNat * 3 + 1, none⟩ (.bool t367)).setCell ⟨go29, (t363 : Int).toNat * 3 + 2, none⟩ (.slice Ao38 t368.length co38))) ?hg ?ho ?hn ?hr ?_; (case ho => rfl); (case hg => rfl); (case hn => rfl); (case hr => first | (go_simp; done) | (go_simp; rfl)); intro w43 hw; have hg : w40.grownBy w43 (some go29) := (by rw [hw]; exact HP42.2); have hp_ : Kd.S k35 35 w43 w.heap.size (fun k_ => k_ ≠ gb372) (.slice (some ⟨go29, 0, none⟩) x16_2.length co31) y373 := (by rw [hw, Ny373.out]; exact HP42.1); clear HP42; have n0_ := AM (Kd.R_over' (v := (.slice (some ⟨go29, 0, none⟩) x16_2.length co31)) (RR HO_12.out) (Kd.S_typed HO_16.out) (by decide) hg); have n1_ := AM (Kd.R_over' (v := (.slice (some ⟨go29, 0, none⟩) x16_2.length co31)) (RR HO_14.out) (Kd.S_typed HO_16.out) (by decide) hg); have n2_ := AM (hp_); have n3_ := AM (Kd.R_after (v := (.slice (some ⟨go29, 0, none⟩) x16_2.length co31)) (v1 := (.slice (some ⟨go29, 0, none⟩) x16_2.length co31)) (ok := (fun k_ => some k_ ≠ (.slice Ao38 t368.length co38 : Value).ownBlock)) (by (with_reducible repeat (first | apply Kd.R_alloc | apply Kd.R_drewN | apply Kd.R_drew)); exact Kd.R_mono HL364_2.out (by first | exact (fun _ hk => ⟨hk.2, hk.1⟩) | exact (fun _ hk => PT hk))) hg (.inl rfl)); have n4_ := AM (blk_grown (g := gb372) (o := .cells #[.int .i64 t366, .bool t367, .slice Ao38 t368.length co38] 35 (0, 0)) (BD BK372.out) hg (Kd.S_away HO_16.out (fun _ hk => hk.2))); have n5_ := AM ((by rw [hw]; exact below_set (below_set (below_set (HB.out) GB29.out) GB29.out) GB29.out : Below w.heap.size w w43)); clear HO_12; clear HO_14; clear HO_16; clear HL364_2; clear BK372; clear HB; clear HO370; have HO_12 := n0_; have HO_14 := n1_; have HO_16 := n2_; have HL364_2 := n3_; have BK372 := n4_; have HB := n5_; clear n0_ n1_ n2_ n3_ n4_ n5_; clear hg hw hp_))
        go_roundg k2
        case measure => have := HJ7.out; have := HK2.out; omega
        case rel => exact ⟨(y373), (wrap64 (x17_2 + 1)), FR, H', ⟨by have := HJ7.out; have := HK2.out; omega⟩, ⟨(RR HO_12.out)⟩, ⟨(RR HO_14.out)⟩, ⟨by (with_reducible repeat (first | apply Kd.S_alloc | apply Kd.S_drewN | apply Kd.S_drew)); exact Kd.S_mono HO_16.out (fun _ hk => trivial)⟩, ⟨(BB1 HB.out GE372.out)⟩⟩
       ·replace c28 := Bool.eq_false_iff.mpr c28
        subst c28
        have H1 : ((spec_l15Copy.f k2 l0).bind fun t374 => (some (t374, false))) = some (r1, r2) := by rw [if_neg (show ¬ (false = true) by decide)] at H; exact H
        clear H
        have H := H1
        clear H1
        replace H := Option.bind_eq_some_iff.mp H
        obtain ⟨t374, A440, H⟩ := H
        replace H : (some (t374, false)) = some (r1, r2) := H
        have A44 := AM A440
        clear A440
        simp only [Option.some.injEq, Prod.mk.injEq] at H
        obtain ⟨rfl, rfl⟩ := H
        obtain ⟨Ao45, co45, eo45⟩ := Kd.R_slice HO_14.out
        subst eo45
        have p362 : 0 ≤ (x17_2 : Int) := DT
        have q362 : x17_2 < (t352.length : Int) := DT
        obtain ⟨ad362, e362, hx362_0⟩ := Kd.at_int (Kd.R_reads' HO_14.out).2.2 x17_2 p362 q362
        cases e362
        replace p362 := eq_true p362
        replace q362 := eq_true q362
        obtain ⟨Ao46, co46, eo46⟩ := Kd.S_slice HO_16.out
        subst eo46
        try go_wp2_with (first | ((with_reducible refine gate_callee (f := 78) rfl ?_); refine GL (some 65) rfl rfl Try.func78 #[.slice Ao46 x16_2.length co46, .int .i64 (rd t352 x17_2)] rfl ?_; (with_reducible refine (spec_l15Host.calls k2 _ _ x16_2 (rd t352 x17_2) t363 _ ?side1 ?side2 A23.out).mono ?_); (case side1 => exact CC (Kd.S_reads' HO_16.out).2.2); (case side2 => exact (Kd.S_reads' HO_16.out).2.1); rintro e w' ⟨rfl, ⟨nd, rfl⟩⟩; refine ⟨_, rfl, ?_⟩; (try (rw [drewN_self wr]; generalize hq_ : World.drewN wr _ = wr; have n0_ : Aside0 (Kd.R Kd.string 9 wr w.heap.size (fun _ => True) (.slice Ao12 t348.length co12) t348) := ⟨by rw [← hq_]; exact (RR HO_12.out)⟩; have n1_ : Aside0 (Kd.R (Kd.int .i64) 3 wr w.heap.size (fun _ => True) (.slice (some ad362) t352.length co45) t352) := ⟨by rw [← hq_]; exact (RR HO_14.out)⟩; have n2_ : Aside0 (Kd.S k35 35 wr w.heap.size (fun _ => True) (.slice Ao46 x16_2.length co46) x16_2) := ⟨by rw [← hq_]; exact (SS HO_16.out)⟩; have n3_ : Aside0 (Below w.heap.size w wr) := ⟨by rw [← hq_]; exact (BB HB.out)⟩; clear HO_12 HO_14 HO_16 HB hq_; have HO_12 := n0_; have HO_14 := n1_; have HO_16 := n2_; have HB := n3_; clear n0_ n1_ n2_ n3_))))
        replace HO_12 := AM (Kd.R_drew HO_12.out); replace HO_14 := AM (Kd.R_drew HO_14.out); replace HO_16 := AM (Kd.S_drew HO_16.out); replace HB := AM (below_drew1 HB.out)
        have p364 : 0 ≤ (t363 : Int) := DT
        have q364 : t363 < (x16_2.length : Int) := DT
        obtain ⟨ad364, A364_2, c364_2, e364, hx364_0, hx364_1, hx364_2, hl364_2, hi364_2⟩ := at_T35 (Kd.S_reads' HO_16.out).2.2 t363 p364 q364
        cases e364
        obtain ⟨ce364, hce364, hMe364, hcc364⟩ := Kd.S_get HO_16.out z35 t363 p364 (by first | exact q364 | exact DT | (have e_ := (Kd.S_reads' HO_16.out).1; omega))
        obtain ⟨ve364_2, rfl, ge364_2⟩ := k35_openM hMe364
        have hv364_2 := hcc364 2 _ rfl
        rw [add_field _ _ 2 (by omega)] at hv364_2
        replace hv364_2 := Option.some.inj (hv364_2.symm.trans hx364_2)
        rw [hv364_2] at ge364_2
        have HL364_2 := AM (show Kd.R k60 60 _ _ _ _ ((rd_T35 x16_2 t363).f2) from ge364_2)
        clear hv364_2 ge364_2
        clear hcc364 hce364
        have HR364_2 := AM hi364_2
        have HC364_2 := AM hl364_2
        clear hi364_2 hl364_2
        replace p364 := eq_true p364
        replace q364 := eq_true q364
        have p365 : 0 ≤ (x17_2 : Int) := DT
        have q365 : x17_2 < (t348.length : Int) := DT
        obtain ⟨ad365, e365, hx365_0⟩ := Kd.at_string (Kd.R_reads' HO_12.out).2.2 x17_2 p365 q365
        cases e365
        replace p365 := eq_true p365
        replace q365 := eq_true q365
        refine start_ (n := 18) (S := fun w' => w'.cell? (ad364.add ((t363).toNat * 3)) = some (.int .i64 ((rd_T35 x16_2 t363).f0)) ∧ w'.cell? ⟨(ad364.add ((t363).toNat * 3)).block, (ad364.add ((t363).toNat * 3)).off + 1, none⟩ = some (.bool ((rd_T35 x16_2 t363).f1)) ∧ w'.cell? ⟨(ad364.add ((t363).toNat * 3)).block, (ad364.add ((t363).toNat * 3)).off + 2, none⟩ = some (.slice A364_2 ((rd_T35 x16_2 t363).f2).length c364_2) ∧ w'.cell? (ad365.add (x17_2).toNat) = some (.string (rdOf ByteArray.empty t348 x17_2))) (ds := []) (.replicate 18 false) (by kernel_rfl) rfl rfl ⟨hx364_0, hx364_1, hx364_2, hx365_0⟩ (fun hHeld => ?_); refine with_tabW spec_WriteGroup.tab11 spec_WriteGroup.bits11 (fun HT_ HW_ => ?_)
        generalize wr.drew = w47 at HO_12 HO_14 HO_16 HB HL364_2 HR364_2 hx364_0 hx364_1 hx364_2 hx365_0 hHeld ⊢
        refine PH 0 67 HT_.out ?_
        refine PH 1 68 HT_.out ?_
        refine PH 2 69 HT_.out ?_
        refine PH 4 71 HT_.out ?_
        refine PH 5 72 HT_.out ?_
        refine PH 6 73 HT_.out ?_
        refine PH 7 74 HT_.out ?_
        refine PH 8 75 HT_.out ?_
        refine TH 3 70 HT_.out HW_.out hHeld ?_
        refine TH 9 76 HT_.out HW_.out hHeld ?_
        refine PH 10 77 HT_.out ?_
        refine join_ (σ := Value × Nat) 2 #[true, true, true, true, true, true, true, true, true, true, true, true, true, true, true, true, false, false] (fun s_ => [(78, .tuple #[.agg #[.int .i64 t366, .bool t367, s_.1], .bool false]), (19, .pointer (some ⟨s_.2, 0, none⟩)), (66, .tuple #[.agg #[.int .i64 t366, .bool t367, s_.1], .bool false]), (79, .agg #[.int .i64 t366, .bool t367, s_.1]), (80, .bool false)]) (fun s_ w' => (w'.cell? (ad364.add ((t363).toNat * 3)) = some (.int .i64 ((rd_T35 x16_2 t363).f0)) ∧ w'.cell? ⟨(ad364.add ((t363).toNat * 3)).block, (ad364.add ((t363).toNat * 3)).off + 1, none⟩ = some (.bool ((rd_T35 x16_2 t363).f1)) ∧ w'.cell? ⟨(ad364.add ((t363).toNat * 3)).block, (ad364.add ((t363).toNat * 3)).off + 2, none⟩ = some (.slice A364_2 ((rd_T35 x16_2 t363).f2).length c364_2) ∧ w'.cell? (ad365.add (x17_2).toNat) = some (.string (rdOf ByteArray.empty t348 x17_2))) ∧ (Kd.R k60 60 w' w.heap.size (fun k_ => some k_ ≠ (s_.1 : Value).ownBlock ∧ some k_ ≠ (.slice (some ad364) x16_2.length co46 : Value).ownBlock) (.slice A364_2 ((rd_T35 x16_2 t363).f2).length c364_2) ((rd_T35 x16_2 t363).f2)) ∧ (Kd.R k60 60 w' w.heap.size (fun k_ => some k_ ≠ (.slice A364_2 ((rd_T35 x16_2 t363).f2).length c364_2 : Value).ownBlock) s_.1 t368) ∧ (Kd.R Kd.string 9 w' w.heap.size (fun _ => True) (.slice (some ad365) t348.length co12) t348) ∧ (Kd.R (Kd.int .i64) 3 w' w.heap.size (fun _ => True) (.slice (some ad362) t352.length co45) t352) ∧ (Kd.S k35 35 w' w.heap.size (fun k_ => some k_ ≠ (s_.1 : Value).ownBlock ∧ k_ ≠ s_.2) (.slice (some ad364) x16_2.length co46) x16_2) ∧ (w'.heap[s_.2]? = some (.cells #[.int .i64 0, .bool false, .slice none 0 0] 35 (0, 0))) ∧ (w.heap.size ≤ s_.2) ∧ (w.heap.size ≤ s_.2) ∧ (Below w.heap.size w w')) ?_ ?_
        rotate_left
        ·intro hCont
         refine two_ (i := 11) (j := 15) (Ni := some 78) (Nj := some 19) #[true, true, true, true, true, true, true, true, true, true, true, true, false, false, false, false, false, false] #[true, true, true, true, true, true, true, true, true, true, true, false, false, false, false, true, false, false] rfl rfl rfl rfl (two_of HT_.out (by kernel_rfl)) (by decide) (by decide) (fun K hK => ?_) (fun K hK => ?_)
         ·skip
          refine GO Try.func55 #[.agg #[.int .i64 ((rd_T35 x16_2 t363).f0), .bool ((rd_T35 x16_2 t363).f1), .slice A364_2 ((rd_T35 x16_2 t363).f2).length c364_2], .agg #[.int .i64 a2, .int .i64 x17_2, .string (rdOf ByteArray.empty t348 x17_2), .int .i64 0]] ?_
          with_reducible refine (spec_PutUnit.calls k2 ((rd_T35 x16_2 t363).f0) ((rd_T35 x16_2 t363).f1) _ _ ((rd_T35 x16_2 t363).f2) a2 x17_2 (rdOf ByteArray.empty t348 x17_2) 0 t366 t367 t368 false _ ?side1 ?side2 A27.out).mono ?_
          (case side1 => repeat (first | exact (CC HR364_2.out) | (with_reducible refine Kd.C_alloc ?_ _) | (with_reducible refine Kd.C_drewN ?_ _) | (with_reducible refine Kd.C_drew ?_)))
          (case side2 => exact HC364_2.out)
          rintro e w48 ⟨v369, rfl, ho0, hb⟩
          have HS0_ := (hb.cell (World.block_lt_of_cell? _ _ (hHeld.1))).trans (hHeld.1)
          have HS1_ := (hb.cell (World.block_lt_of_cell? _ _ (hHeld.2.1))).trans (hHeld.2.1)
          have HS2_ := (hb.cell (World.block_lt_of_cell? _ _ (hHeld.2.2.1))).trans (hHeld.2.2.1)
          have HS3_ := (hb.cell (World.block_lt_of_cell? _ _ (hHeld.2.2.2))).trans (hHeld.2.2.2)
          refine ⟨_, rfl, ?_⟩
          have HO370 := AM (Kd.R_lower (Kd.R_new' ho0 (Kd.R_lt (RR HL364_2.out))) (below_size (BB HB.out))); replace HO_12 := AM (Kd.R_below (RR HO_12.out) hb); replace HO_14 := AM (Kd.R_below (RR HO_14.out) hb); replace HO_16 := AM (Kd.S_elder' (SS HO_16.out) (Kd.R_base ho0) hb); replace HL364_2 := AM (Kd.R_elder' (RR HL364_2.out) (Kd.R_base ho0) hb); replace HR364_2 := AM (Kd.C_below (CC HR364_2.out) hb); replace HB := AM (below_step (BB HB.out) hb)
          (try clear hb)
          (try clear hb2)
          (try clear hk)
          (try clear hi)
          (try clear ho0)
          refine hK.out _ _ ⟨HS0_, HS1_, HS2_, HS3_⟩ (fun hHeld => ?_)
          clear hK K
          refine NM 78 ?_
          refine PH 12 66 HT_.out ?_
          refine PH 13 79 HT_.out ?_
          refine PH 14 80 HT_.out ?_
          refine OH 15 (some 19) HT_.out (fun K hK => ?_)
          refine box_step ?hg (N := 19) ?hd (cs := #[.int .i64 0, .bool false, .slice none 0 0]) (t := 35) ?hr ?_; (case hd => rfl); (case hg => rfl); (case hr => first | (go_simp; done) | (go_simp; rfl))
          intro gb372 hg w49 hbox hb
          have HS0_ := (hb.cell (World.block_lt_of_cell? _ _ (hHeld.1))).trans (hHeld.1)
          have HS1_ := (hb.cell (World.block_lt_of_cell? _ _ (hHeld.2.1))).trans (hHeld.2.1)
          have HS2_ := (hb.cell (World.block_lt_of_cell? _ _ (hHeld.2.2.1))).trans (hHeld.2.2.1)
          have HS3_ := (hb.cell (World.block_lt_of_cell? _ _ (hHeld.2.2.2))).trans (hHeld.2.2.2)
          have n0_ := AM (Kd.R_below (RR HO_12.out) hb); have n1_ := AM (Kd.R_below (RR HO_14.out) hb); have n2_ := AM (Kd.S_below (Kd.S_elderB (SS HO_16.out) gb372 (Nat.le_of_eq hg.symm)) hb); have n3_ := AM (Kd.R_below (RR HL364_2.out) hb); have n4_ := AM (Kd.R_below (RR HO370.out) hb); have n5_ := AM (Kd.C_below (CC HR364_2.out) hb); have n6_ := AM (below_step (BB HB.out) hb); have n7_ := AM (hbox); have n8_ := AM ((by rw [hg]; exact (below_size (BB HB.out)) : w.heap.size ≤ gb372)); have n9_ := AM ((by rw [hg]; exact (below_size (BB HB.out)) : w.heap.size ≤ gb372)); clear HO_12; clear HO_14; clear HO_16; clear HL364_2; clear HO370; clear HR364_2; clear HB; have HO_12 := n0_; have HO_14 := n1_; have HO_16 := n2_; have HL364_2 := n3_; have HO370 := n4_; have HR364_2 := n5_; have HB := n6_; have BK372 := n7_; have GW372 := n8_; have GE372 := n9_; clear n0_ n1_ n2_ n3_ n4_ n5_ n6_ n7_ n8_ n9_
          clear hb hbox hg
          refine hK.out _ _ ⟨HS0_, HS1_, HS2_, HS3_⟩ (fun hHeld => ?_)
          clear hK K
          refine NM 19 ?_
          exact norm_ (by simp only [putAll, Act.put, List.setIfInBounds_toArray, List.set_cons_zero, List.set_cons_succ]) (hCont (v369, gb372) _ ⟨hHeld, (by (with_reducible repeat (first | apply Kd.R_alloc | apply Kd.R_drewN | apply Kd.R_drew)); exact Kd.R_mono HL364_2.out (by first | exact (fun _ hk => ⟨hk.2, hk.1.2⟩) | exact (fun _ hk => PT hk))), (by (with_reducible repeat (first | apply Kd.R_alloc | apply Kd.R_drewN | apply Kd.R_drew)); exact Kd.R_mono HO370.out (fun _ hk => hk.2)), (RR HO_12.out), (RR HO_14.out), (by (with_reducible repeat (first | apply Kd.S_alloc | apply Kd.S_drewN | apply Kd.S_drew)); exact Kd.S_mono HO_16.out (fun _ hk => ⟨hk.1.2, hk.2⟩)), (BD BK372.out), GW372.out, GE372.out, (BB1 HB.out GE372.out)⟩)
         ·skip
          refine box_step ?hg (N := 19) ?hd (cs := #[.int .i64 0, .bool false, .slice none 0 0]) (t := 35) ?hr ?_; (case hd => rfl); (case hg => rfl); (case hr => first | (go_simp; done) | (go_simp; rfl))
          intro gb372 hg w48 hbox hb
          have HS0_ := (hb.cell (World.block_lt_of_cell? _ _ (hHeld.1))).trans (hHeld.1)
          have HS1_ := (hb.cell (World.block_lt_of_cell? _ _ (hHeld.2.1))).trans (hHeld.2.1)
          have HS2_ := (hb.cell (World.block_lt_of_cell? _ _ (hHeld.2.2.1))).trans (hHeld.2.2.1)
          have HS3_ := (hb.cell (World.block_lt_of_cell? _ _ (hHeld.2.2.2))).trans (hHeld.2.2.2)
          have n0_ := AM (Kd.R_below (RR HO_12.out) hb); have n1_ := AM (Kd.R_below (RR HO_14.out) hb); have n2_ := AM (Kd.S_below (Kd.S_elderB (SS HO_16.out) gb372 (Nat.le_of_eq hg.symm)) hb); have n3_ := AM (Kd.R_below (RR HL364_2.out) hb); have n4_ := AM (Kd.C_below (CC HR364_2.out) hb); have n5_ := AM (below_step (BB HB.out) hb); have n6_ := AM (hbox); have n7_ := AM ((by rw [hg]; exact (below_size (BB HB.out)) : w.heap.size ≤ gb372)); have n8_ := AM ((by rw [hg]; exact (below_size (BB HB.out)) : w.heap.size ≤ gb372)); clear HO_12; clear HO_14; clear HO_16; clear HL364_2; clear HR364_2; clear HB; have HO_12 := n0_; have HO_14 := n1_; have HO_16 := n2_; have HL364_2 := n3_; have HR364_2 := n4_; have HB := n5_; have BK372 := n6_; have GW372 := n7_; have GE372 := n8_; clear n0_ n1_ n2_ n3_ n4_ n5_ n6_ n7_ n8_
          clear hb hbox hg
          refine hK.out _ _ ⟨HS0_, HS1_, HS2_, HS3_⟩ (fun hHeld => ?_)
          clear hK K
          refine NM 19 ?_
          refine OH 11 (some 78) HT_.out (fun K hK => ?_)
          refine GO Try.func55 #[.agg #[.int .i64 ((rd_T35 x16_2 t363).f0), .bool ((rd_T35 x16_2 t363).f1), .slice A364_2 ((rd_T35 x16_2 t363).f2).length c364_2], .agg #[.int .i64 a2, .int .i64 x17_2, .string (rdOf ByteArray.empty t348 x17_2), .int .i64 0]] ?_
          with_reducible refine (spec_PutUnit.calls k2 ((rd_T35 x16_2 t363).f0) ((rd_T35 x16_2 t363).f1) _ _ ((rd_T35 x16_2 t363).f2) a2 x17_2 (rdOf ByteArray.empty t348 x17_2) 0 t366 t367 t368 false _ ?side1 ?side2 A27.out).mono ?_
          (case side1 => repeat (first | exact (CC HR364_2.out) | (with_reducible refine Kd.C_alloc ?_ _) | (with_reducible refine Kd.C_drewN ?_ _) | (with_reducible refine Kd.C_drew ?_)))
          (case side2 => exact HC364_2.out)
          rintro e w49 ⟨v369, rfl, ho0, hb⟩
          have HS0_ := (hb.cell (World.block_lt_of_cell? _ _ (hHeld.1))).trans (hHeld.1)
          have HS1_ := (hb.cell (World.block_lt_of_cell? _ _ (hHeld.2.1))).trans (hHeld.2.1)
          have HS2_ := (hb.cell (World.block_lt_of_cell? _ _ (hHeld.2.2.1))).trans (hHeld.2.2.1)
          have HS3_ := (hb.cell (World.block_lt_of_cell? _ _ (hHeld.2.2.2))).trans (hHeld.2.2.2)
          refine ⟨_, rfl, ?_⟩
          have HO370 := AM (Kd.R_lower (Kd.R_new' ho0 (Kd.R_lt (RR HL364_2.out))) (below_size (BB1 HB.out GE372.out))); replace HO_12 := AM (Kd.R_below (RR HO_12.out) hb); replace HO_14 := AM (Kd.R_below (RR HO_14.out) hb); replace HO_16 := AM (Kd.S_elder' (SS HO_16.out) (Kd.R_base ho0) hb); replace HL364_2 := AM (Kd.R_elder' (RR HL364_2.out) (Kd.R_base ho0) hb); replace HR364_2 := AM (Kd.C_below (CC HR364_2.out) hb); replace BK372 := AM (KB BK372.out hb); replace HB := AM (below_step (BB1 HB.out GE372.out) hb)
          (try clear hb)
          (try clear hb2)
          (try clear hk)
          (try clear hi)
          (try clear ho0)
          refine hK.out _ _ ⟨HS0_, HS1_, HS2_, HS3_⟩ (fun hHeld => ?_)
          clear hK K
          refine NM 78 ?_
          refine PH 12 66 HT_.out ?_
          refine PH 13 79 HT_.out ?_
          refine PH 14 80 HT_.out ?_
          exact norm_ (by simp only [putAll, Act.put, List.setIfInBounds_toArray, List.set_cons_zero, List.set_cons_succ]) (hCont (v369, gb372) _ ⟨hHeld, (by (with_reducible repeat (first | apply Kd.R_alloc | apply Kd.R_drewN | apply Kd.R_drew)); exact Kd.R_mono HL364_2.out (by first | exact (fun _ hk => ⟨hk.2, hk.1.2⟩) | exact (fun _ hk => PT hk))), (by (with_reducible repeat (first | apply Kd.R_alloc | apply Kd.R_drewN | apply Kd.R_drew)); exact Kd.R_mono HO370.out (fun _ hk => hk.2)), (RR HO_12.out), (RR HO_14.out), (by (with_reducible repeat (first | apply Kd.S_alloc | apply Kd.S_drewN | apply Kd.S_drew)); exact Kd.S_mono HO_16.out (fun _ hk => ⟨hk.2, hk.1.2⟩)), (BD BK372.out), GW372.out, GE372.out, (BB1 HB.out GE372.out)⟩)
        rintro ⟨v369, gb372⟩ w50 ⟨hS_, h0_, h1_, h2_, h3_, h4_, h5_, h6_, h7_, h8_⟩
        have n0_ : Aside0 (Kd.R k60 60 w50 w.heap.size (fun k_ => some k_ ≠ (v369 : Value).ownBlock ∧ some k_ ≠ (.slice (some ad364) x16_2.length co46 : Value).ownBlock) (.slice A364_2 ((rd_T35 x16_2 t363).f2).length c364_2) ((rd_T35 x16_2 t363).f2)) := ⟨h0_⟩
        have n1_ : Aside0 (Kd.R k60 60 w50 w.heap.size (fun k_ => some k_ ≠ (.slice A364_2 ((rd_T35 x16_2 t363).f2).length c364_2 : Value).ownBlock) v369 t368) := ⟨h1_⟩
        have n2_ : Aside0 (Kd.R Kd.string 9 w50 w.heap.size (fun _ => True) (.slice (some ad365) t348.length co12) t348) := ⟨h2_⟩
        have n3_ : Aside0 (Kd.R (Kd.int .i64) 3 w50 w.heap.size (fun _ => True) (.slice (some ad362) t352.length co45) t352) := ⟨h3_⟩
        have n4_ : Aside0 (Kd.S k35 35 w50 w.heap.size (fun k_ => some k_ ≠ (v369 : Value).ownBlock ∧ k_ ≠ gb372) (.slice (some ad364) x16_2.length co46) x16_2) := ⟨h4_⟩
        have n5_ : Aside0 (w50.heap[gb372]? = some (.cells #[.int .i64 0, .bool false, .slice none 0 0] 35 (0, 0))) := ⟨h5_⟩
        have n6_ : Aside0 (w.heap.size ≤ gb372) := ⟨h6_⟩
        have n7_ : Aside0 (w.heap.size ≤ gb372) := ⟨h7_⟩
        have n8_ : Aside0 (Below w.heap.size w w50) := ⟨h8_⟩
        clear HO_12
        clear HO_14
        clear HO_16
        clear HB
        clear h0_ h1_ h2_ h3_ h4_ h5_ h6_ h7_ h8_
        have HL364_2 := n0_
        have HO370 := n1_
        have HO_12 := n2_
        have HO_14 := n3_
        have HO_16 := n4_
        have BK372 := n5_
        have GW372 := n6_
        have GE372 := n7_
        have HB := n8_
        clear n0_ n1_ n2_ n3_ n4_ n5_ n6_ n7_ n8_
        have hHeld : w50.cell? (ad364.add ((t363).toNat * 3)) = some (.int .i64 ((rd_T35 x16_2 t363).f0)) ∧ w50.cell? ⟨(ad364.add ((t363).toNat * 3)).block, (ad364.add ((t363).toNat * 3)).off + 1, none⟩ = some (.bool ((rd_T35 x16_2 t363).f1)) ∧ w50.cell? ⟨(ad364.add ((t363).toNat * 3)).block, (ad364.add ((t363).toNat * 3)).off + 2, none⟩ = some (.slice A364_2 ((rd_T35 x16_2 t363).f2).length c364_2) ∧ w50.cell? (ad365.add (x17_2).toNat) = some (.string (rdOf ByteArray.empty t348 x17_2)) := hS_
        obtain ⟨Ao53, co53, eo53⟩ := Kd.R_slice HO370.out
        (first | subst eo53 | (injection eo53 with f1_ f2_ f3_; have f4_ := f1_.symm; have f5_ := f3_.symm; clear f1_ f2_ f3_; subst f4_; subst f5_))
        refine norm_ (a' := ?_) ?_ ?_
        rotate_left
        ·simp only [putAll, Act.put, List.setIfInBounds_toArray, List.set_cons_zero, List.set_cons_succ]
         rfl
        refine OH 16 none HT_.out (fun K hK => ?_)
        have hs51 : w50.cell? ⟨gb372, 0, none⟩ = some (.int .i64 0) := (blk_cell BK372.out 0).trans rfl
        have hfs51 := blk_frozen BK372.out 0
        have hs52 : w50.cell? ⟨gb372, 1, none⟩ = some (.bool false) := (blk_cell BK372.out 1).trans rfl
        have hfs52 := blk_frozen BK372.out 1
        have hs54 : w50.cell? ⟨gb372, 2, none⟩ = some (.slice none 0 0) := (blk_cell BK372.out 2).trans rfl
        have hfs54 := blk_frozen BK372.out 2
        refine skip_ (w1 := ?_) (by rfl) rfl ?_ ?_
        rotate_left
        ·go_simp
         rfl
        refine hK.out _ _ ⟨((cell_far (p := ⟨gb372, _, none⟩) (by first | exact Kd.own_blk (Kd.S_away HO_16.out (fun _ hk => hk.2)) | (rw [add_block]; exact Kd.own_blk (Kd.S_away HO_16.out (fun _ hk => hk.2))) | (show (Addr.add _ _).block ≠ _; rw [add_block]; exact Kd.own_blk (Kd.S_away HO_16.out (fun _ hk => hk.2))) | (dsimp only; exact Kd.own_blk (Kd.S_away HO_16.out (fun _ hk => hk.2)))) _).trans (((cell_far (p := ⟨gb372, _, none⟩) (by first | exact Kd.own_blk (Kd.S_away HO_16.out (fun _ hk => hk.2)) | (rw [add_block]; exact Kd.own_blk (Kd.S_away HO_16.out (fun _ hk => hk.2))) | (show (Addr.add _ _).block ≠ _; rw [add_block]; exact Kd.own_blk (Kd.S_away HO_16.out (fun _ hk => hk.2))) | (dsimp only; exact Kd.own_blk (Kd.S_away HO_16.out (fun _ hk => hk.2)))) _).trans (((cell_far (p := ⟨gb372, _, none⟩) (by first | exact Kd.own_blk (Kd.S_away HO_16.out (fun _ hk => hk.2)) | (rw [add_block]; exact Kd.own_blk (Kd.S_away HO_16.out (fun _ hk => hk.2))) | (show (Addr.add _ _).block ≠ _; rw [add_block]; exact Kd.own_blk (Kd.S_away HO_16.out (fun _ hk => hk.2))) | (dsimp only; exact Kd.own_blk (Kd.S_away HO_16.out (fun _ hk => hk.2)))) _).trans (hHeld.1)))))), ((cell_far (p := ⟨gb372, _, none⟩) (by first | exact Kd.own_blk (Kd.S_away HO_16.out (fun _ hk => hk.2)) | (rw [add_block]; exact Kd.own_blk (Kd.S_away HO_16.out (fun _ hk => hk.2))) | (show (Addr.add _ _).block ≠ _; rw [add_block]; exact Kd.own_blk (Kd.S_away HO_16.out (fun _ hk => hk.2))) | (dsimp only; exact Kd.own_blk (Kd.S_away HO_16.out (fun _ hk => hk.2)))) _).trans (((cell_far (p := ⟨gb372, _, none⟩) (by first | exact Kd.own_blk (Kd.S_away HO_16.out (fun _ hk => hk.2)) | (rw [add_block]; exact Kd.own_blk (Kd.S_away HO_16.out (fun _ hk => hk.2))) | (show (Addr.add _ _).block ≠ _; rw [add_block]; exact Kd.own_blk (Kd.S_away HO_16.out (fun _ hk => hk.2))) | (dsimp only; exact Kd.own_blk (Kd.S_away HO_16.out (fun _ hk => hk.2)))) _).trans (((cell_far (p := ⟨gb372, _, none⟩) (by first | exact Kd.own_blk (Kd.S_away HO_16.out (fun _ hk => hk.2)) | (rw [add_block]; exact Kd.own_blk (Kd.S_away HO_16.out (fun _ hk => hk.2))) | (show (Addr.add _ _).block ≠ _; rw [add_block]; exact Kd.own_blk (Kd.S_away HO_16.out (fun _ hk => hk.2))) | (dsimp only; exact Kd.own_blk (Kd.S_away HO_16.out (fun _ hk => hk.2)))) _).trans (hHeld.2.1)))))), ((cell_far (p := ⟨gb372, _, none⟩) (by first | exact Kd.own_blk (Kd.S_away HO_16.out (fun _ hk => hk.2)) | (rw [add_block]; exact Kd.own_blk (Kd.S_away HO_16.out (fun _ hk => hk.2))) | (show (Addr.add _ _).block ≠ _; rw [add_block]; exact Kd.own_blk (Kd.S_away HO_16.out (fun _ hk => hk.2))) | (dsimp only; exact Kd.own_blk (Kd.S_away HO_16.out (fun _ hk => hk.2)))) _).trans (((cell_far (p := ⟨gb372, _, none⟩) (by first | exact Kd.own_blk (Kd.S_away HO_16.out (fun _ hk => hk.2)) | (rw [add_block]; exact Kd.own_blk (Kd.S_away HO_16.out (fun _ hk => hk.2))) | (show (Addr.add _ _).block ≠ _; rw [add_block]; exact Kd.own_blk (Kd.S_away HO_16.out (fun _ hk => hk.2))) | (dsimp only; exact Kd.own_blk (Kd.S_away HO_16.out (fun _ hk => hk.2)))) _).trans (((cell_far (p := ⟨gb372, _, none⟩) (by first | exact Kd.own_blk (Kd.S_away HO_16.out (fun _ hk => hk.2)) | (rw [add_block]; exact Kd.own_blk (Kd.S_away HO_16.out (fun _ hk => hk.2))) | (show (Addr.add _ _).block ≠ _; rw [add_block]; exact Kd.own_blk (Kd.S_away HO_16.out (fun _ hk => hk.2))) | (dsimp only; exact Kd.own_blk (Kd.S_away HO_16.out (fun _ hk => hk.2)))) _).trans (hHeld.2.2.1)))))), ((cell_far (p := ⟨gb372, _, none⟩) (by first | exact Kd.own_blk (Kd.R_ne HO_12.out BK372.out (by decide)) | (rw [add_block]; exact Kd.own_blk (Kd.R_ne HO_12.out BK372.out (by decide))) | (show (Addr.add _ _).block ≠ _; rw [add_block]; exact Kd.own_blk (Kd.R_ne HO_12.out BK372.out (by decide))) | (dsimp only; exact Kd.own_blk (Kd.R_ne HO_12.out BK372.out (by decide)))) _).trans (((cell_far (p := ⟨gb372, _, none⟩) (by first | exact Kd.own_blk (Kd.R_ne HO_12.out BK372.out (by decide)) | (rw [add_block]; exact Kd.own_blk (Kd.R_ne HO_12.out BK372.out (by decide))) | (show (Addr.add _ _).block ≠ _; rw [add_block]; exact Kd.own_blk (Kd.R_ne HO_12.out BK372.out (by decide))) | (dsimp only; exact Kd.own_blk (Kd.R_ne HO_12.out BK372.out (by decide)))) _).trans (((cell_far (p := ⟨gb372, _, none⟩) (by first | exact Kd.own_blk (Kd.R_ne HO_12.out BK372.out (by decide)) | (rw [add_block]; exact Kd.own_blk (Kd.R_ne HO_12.out BK372.out (by decide))) | (show (Addr.add _ _).block ≠ _; rw [add_block]; exact Kd.own_blk (Kd.R_ne HO_12.out BK372.out (by decide))) | (dsimp only; exact Kd.own_blk (Kd.R_ne HO_12.out BK372.out (by decide)))) _).trans (hHeld.2.2.2))))))⟩ (fun hHeld => ?_)
        clear hK K
        refine PH 17 20 HT_.out ?_
        refine done_ (done_of HT_.out (by kernel_rfl)) ?_
        try go_wp2_with (first | ((with_reducible refine gate_callee (f := 77) rfl ?_); refine GL (some 84) rfl rfl Try.func77 #[.slice A0 l0.length c0] rfl ?_; (with_reducible refine (spec_l15Copy.calls k2 _ _ l0 t374 _ ?side1 ?side2 A44.out).mono ?_); (case side1 => exact Kd.C_below HR0.out (BB1 HB.out GE372.out)); (case side2 => exact HC0.out); rintro e w55 ⟨v375, rfl, ho0, hb⟩; refine ⟨_, rfl, ?_⟩; have n0_ := AM (Kd.R_below (by (with_reducible repeat (first | apply Kd.R_alloc | apply Kd.R_drewN | apply Kd.R_drew)); exact (Kd.R_mono (Kd.R_far (p := ⟨gb372, 2, none⟩) (Kd.R_far (p := ⟨gb372, 1, none⟩) (Kd.R_far (p := ⟨gb372, 0, none⟩) (Kd.R_types HO_12.out BK372.out (by decide)) (fun _ hk => hk.2) (.int .i64 t366)) (fun _ hk => hk.2) (.bool t367)) (fun _ hk => hk.2) (.slice Ao53 t368.length co53)) (fun _ h_ => h_.1))) hb); have n1_ := AM (Kd.R_below (by (with_reducible repeat (first | apply Kd.R_alloc | apply Kd.R_drewN | apply Kd.R_drew)); exact (Kd.R_mono (Kd.R_far (p := ⟨gb372, 2, none⟩) (Kd.R_far (p := ⟨gb372, 1, none⟩) (Kd.R_far (p := ⟨gb372, 0, none⟩) (Kd.R_types HO_14.out BK372.out (by decide)) (fun _ hk => hk.2) (.int .i64 t366)) (fun _ hk => hk.2) (.bool t367)) (fun _ hk => hk.2) (.slice Ao53 t368.length co53)) (fun _ h_ => h_.1))) hb); have n2_ := AM (Kd.S_elder' (by (with_reducible repeat (first | apply Kd.S_alloc | apply Kd.S_drewN | apply Kd.S_drew)); exact (Kd.S_mono (Kd.S_far (p := ⟨gb372, 2, none⟩) (Kd.S_far (p := ⟨gb372, 1, none⟩) (Kd.S_far (p := ⟨gb372, 0, none⟩) (Kd.S_mono HO_16.out (fun k_ hk => (⟨hk, hk.2⟩ : _ ∧ k_ ≠ gb372))) (fun _ hk => hk.2) (.int .i64 t366)) (fun _ hk => hk.2) (.bool t367)) (fun _ hk => hk.2) (.slice Ao53 t368.length co53)) (fun _ h_ => h_.1))) (Kd.S_base ho0) hb); have n3_ := AM (Kd.R_below (by (with_reducible repeat (first | apply Kd.R_alloc | apply Kd.R_drewN | apply Kd.R_drew)); exact (Kd.R_mono (Kd.R_far (p := ⟨gb372, 2, none⟩) (Kd.R_far (p := ⟨gb372, 1, none⟩) (Kd.R_far (p := ⟨gb372, 0, none⟩) (Kd.R_types HL364_2.out BK372.out (by decide)) (fun _ hk => hk.2) (.int .i64 t366)) (fun _ hk => hk.2) (.bool t367)) (fun _ hk => hk.2) (.slice Ao53 t368.length co53)) (fun _ h_ => h_.1))) hb); have n4_ := AM (Kd.R_below (by (with_reducible repeat (first | apply Kd.R_alloc | apply Kd.R_drewN | apply Kd.R_drew)); exact (Kd.R_mono (Kd.R_far (p := ⟨gb372, 2, none⟩) (Kd.R_far (p := ⟨gb372, 1, none⟩) (Kd.R_far (p := ⟨gb372, 0, none⟩) (Kd.R_types HO370.out BK372.out (by decide)) (fun _ hk => hk.2) (.int .i64 t366)) (fun _ hk => hk.2) (.bool t367)) (fun _ hk => hk.2) (.slice Ao53 t368.length co53)) (fun _ h_ => h_.1))) hb); have n5_ := AM (Kd.S_lower (Kd.S_newB (Kd.S_new' (Kd.S_new' (Kd.S_new' ho0 (Kd.S_lt (by (with_reducible repeat (first | apply Kd.S_alloc | apply Kd.S_drewN | apply Kd.S_drew)); exact (Kd.S_mono (Kd.S_far (p := ⟨gb372, 2, none⟩) (Kd.S_far (p := ⟨gb372, 1, none⟩) (Kd.S_far (p := ⟨gb372, 0, none⟩) (Kd.S_mono HO_16.out (fun k_ hk => (⟨hk, hk.2⟩ : _ ∧ k_ ≠ gb372))) (fun _ hk => hk.2) (.int .i64 t366)) (fun _ hk => hk.2) (.bool t367)) (fun _ hk => hk.2) (.slice Ao53 t368.length co53)) (fun _ h_ => h_.1))))) (Kd.R_lt (by (with_reducible repeat (first | apply Kd.R_alloc | apply Kd.R_drewN | apply Kd.R_drew)); exact (Kd.R_mono (Kd.R_far (p := ⟨gb372, 2, none⟩) (Kd.R_far (p := ⟨gb372, 1, none⟩) (Kd.R_far (p := ⟨gb372, 0, none⟩) (Kd.R_types HL364_2.out BK372.out (by decide)) (fun _ hk => hk.2) (.int .i64 t366)) (fun _ hk => hk.2) (.bool t367)) (fun _ hk => hk.2) (.slice Ao53 t368.length co53)) (fun _ h_ => h_.1))))) (Kd.R_lt (by (with_reducible repeat (first | apply Kd.R_alloc | apply Kd.R_drewN | apply Kd.R_drew)); exact (Kd.R_mono (Kd.R_far (p := ⟨gb372, 2, none⟩) (Kd.R_far (p := ⟨gb372, 1, none⟩) (Kd.R_far (p := ⟨gb372, 0, none⟩) (Kd.R_types HO370.out BK372.out (by decide)) (fun _ hk => hk.2) (.int .i64 t366)) (fun _ hk => hk.2) (.bool t367)) (fun _ hk => hk.2) (.slice Ao53 t368.length co53)) (fun _ h_ => h_.1))))) (g := gb372) (o := .cells #[.int .i64 t366, .bool t367, .slice Ao53 t368.length co53] 35 (0, 0)) (by refine BD ?_; refine blk_put (cs := #[.int .i64 t366, .bool t367, .slice none 0 0]) ?_ 2 _ rfl; refine BD ?_; refine blk_put (cs := #[.int .i64 t366, .bool false, .slice none 0 0]) ?_ 1 _ rfl; refine BD ?_; refine blk_put (cs := #[.int .i64 0, .bool false, .slice none 0 0]) ?_ 0 _ rfl; refine BD ?_; exact BK372.out)) (below_size (BB1 HB.out GE372.out))); have n6_ := AM (blk_below (g := gb372) (o := .cells #[.int .i64 t366, .bool t367, .slice Ao53 t368.length co53] 35 (0, 0)) (by refine BD ?_; refine blk_put (cs := #[.int .i64 t366, .bool t367, .slice none 0 0]) ?_ 2 _ rfl; refine BD ?_; refine blk_put (cs := #[.int .i64 t366, .bool false, .slice none 0 0]) ?_ 1 _ rfl; refine BD ?_; refine blk_put (cs := #[.int .i64 0, .bool false, .slice none 0 0]) ?_ 0 _ rfl; refine BD ?_; exact BK372.out) hb); have n7_ := AM (below_step (BB1 HB.out GE372.out) hb); clear HO_12; clear HO_14; clear HO_16; clear HL364_2; clear HO370; clear BK372; clear HB; have HO_12 := n0_; have HO_14 := n1_; have HO_16 := n2_; have HL364_2 := n3_; have HO370 := n4_; have HO376 := n5_; have BK372 := n6_; have HB := n7_; clear n0_ n1_ n2_ n3_ n4_ n5_ n6_ n7_; (try clear hb); (try clear ho0)))
        go_ret2
        exact ⟨_, ER, by (with_reducible repeat (first | apply Kd.S_alloc | apply Kd.S_drewN | apply Kd.S_drew)); exact Kd.S_mono HO376.out (fun _ hk => trivial), (BB1 HB.out GE372.out)⟩
      ·rw [if_neg c21] at H
       have c21b0 := decide_eq_false c21
       clear c21
       simp only [Option.some.injEq, Prod.mk.injEq] at H
       obtain ⟨rfl, rfl⟩ := H
       obtain ⟨Ao56, co56, eo56⟩ := Kd.R_slice HO_14.out
       subst eo56
       go_wp2
       go_ret2
       exact ⟨_, ER, by (with_reducible repeat (first | apply Kd.S_alloc | apply Kd.S_drewN | apply Kd.S_drew)); exact HO_16.out, (BB HB.out)⟩

theorem addr_block (a : Addr) (j : Nat) : (a.add j).block = a.block := by unfold Addr.add; split <;> rfl
theorem keep_cell {w w1 : World} {g : Nat} (hk : KeepBut w w1 g none) {p : Addr} {v : Value} (h : w.cell? p = some v) (hg : p.block ≠ g) : w1.cell? p = some v := (World.cell?_of_block (hk.2 p.block (World.block_lt_of_cell? w _ h) hg (by simp))).trans h
mutual
def spec_l15Hosts.l0 : Nat → List (S35) → Int → List Int → Int → Int → Option ((List (S35)) × Int × Int × ByteArray × Int × Int)
 | 0, _, _, _, _, _ => none
 | k + 1, x6, x7, x1000, x1001, x1002 => if x7 ≤ 7 then ((spec_l01Once.f x1000 x1001 x1002 12).bind fun bt383 => (if x6.length < 3518437208883 then (spec_l15Hosts.l0 k (x6 ++ [(⟨x7, !bt383.1, ([] : List (S60))⟩ : S35)]) (wrap64 (x7 + 1)) x1000 bt383.2.1 bt383.2.2) else (none))) else ((spec_l01Below.f x1000 x1001 x1002 3).bind fun bt389 => (spec_l15Hosts.l1 k x6 (wrap64 (1 + bt389.1)) (⟨#[]⟩ : ByteArray) 1 x1000 bt389.2.1 bt389.2.2))
def spec_l15Hosts.l1 : Nat → List (S35) → Int → ByteArray → Int → List Int → Int → Int → Option ((List (S35)) × Int × Int × ByteArray × Int × Int)
 | 0, _, _, _, _, _, _, _ => none
 | k + 1, x6, x8, x9, x10, x1000, x1001, x1002 => (spec_l01Below.f x1000 x1001 x1002 3).bind fun bt392 => (if x10 ≤ (wrap64 (1 + bt392.1)) then ((spec_GroupSize.f x8).bind fun t395 => ((spec_l01Below.f x1000 bt392.2.1 bt392.2.2 t395).bind fun bt396 => ((spec_l01Text.f k x1000 bt396.2.1 bt396.2.2 (wrap64 (1 + bt396.1))).bind fun bt399 => ((spec_WriteGroup.f k x6 x8 x10 bt399.1).bind fun bt402 => (if bt402.2 = true then (if x10 = 1 then (spec_l15Hosts.l1 k bt402.1 x8 bt399.1 (wrap64 (x10 + 1)) x1000 bt399.2.1 bt399.2.2) else (spec_l15Hosts.l1 k bt402.1 x8 x9 (wrap64 (x10 + 1)) x1000 bt399.2.1 bt399.2.2)) else (spec_l15Hosts.l1 k bt402.1 x8 x9 (wrap64 (x10 + 1)) x1000 bt399.2.1 bt399.2.2)))))) else (spec_l15Hosts.l2 k x6 x8 x9 0 x1000 bt392.2.1 bt392.2.2))
def spec_l15Hosts.l2 : Nat → List (S35) → Int → ByteArray → Int → List Int → Int → Int → Option ((List (S35)) × Int × Int × ByteArray × Int × Int)
 | 0, _, _, _, _, _, _, _ => none
 | k + 1, x6, x8, x9, x14, x1000, x1001, x1002 => (spec_l01Below.f x1000 x1001 x1002 4).bind fun bt406 => (if x14 < bt406.1 then ((spec_l01Below.f x1000 bt406.2.1 bt406.2.2 (x6.length : Int)).bind fun bt409 => ((spec_l01Below.f x1000 bt409.2.1 bt409.2.2 4).bind fun bt412 => (if bt412.1 = 0 then (if 0 ≤ bt409.1 then (if bt409.1 < (x6.length : Int) then (spec_l15Hosts.l2 k (x6.set (bt409.1 : Int).toNat (⟨(rd_T35 x6 bt409.1).f0, false, (rd_T35 x6 bt409.1).f2⟩ : S35)) x8 x9 (wrap64 (x14 + 1)) x1000 bt412.2.1 bt412.2.2) else (none)) else (none)) else (if bt412.1 = 1 then (if 0 ≤ bt409.1 then (if bt409.1 < (x6.length : Int) then (spec_l15Hosts.l2 k (x6.set (bt409.1 : Int).toNat (⟨(rd_T35 x6 bt409.1).f0, (rd_T35 x6 bt409.1).f1, (([] : List (S60)))⟩ : S35)) x8 x9 (wrap64 (x14 + 1)) x1000 bt412.2.1 bt412.2.2) else (none)) else (none)) else (if bt412.1 = 2 then (if 0 ≤ bt409.1 then (if bt409.1 < (x6.length : Int) then (if (((rd_T35 x6 bt409.1).f2).length : Int) > 0 then (if 0 < (((rd_T35 x6 bt409.1).f2).length : Int) then ((spec_l01Below.f x1000 bt412.2.1 bt412.2.2 9).bind fun bt425 => ((spec_Spoil.f k ((rd_T35 x6 bt409.1).f0) ((rd_T35 x6 bt409.1).f1) ((rd_T35 x6 bt409.1).f2) ((rd_T60 ((rd_T35 x6 bt409.1).f2) 0).f0) ((rd_T60 ((rd_T35 x6 bt409.1).f2) 0).f1) bt425.1).bind fun bt428 => (spec_l15Hosts.l2 k (x6.set (bt409.1 : Int).toNat (⟨bt428.1, bt428.2.1, bt428.2.2.1⟩ : S35)) x8 x9 (wrap64 (x14 + 1)) x1000 bt425.2.1 bt425.2.2))) else (none)) else (spec_l15Hosts.l2 k x6 x8 x9 (wrap64 (x14 + 1)) x1000 bt412.2.1 bt412.2.2)) else (none)) else (none)) else (if 0 ≤ bt409.1 then (if bt409.1 < (x6.length : Int) then (spec_l15Hosts.l2 k (x6.set (bt409.1 : Int).toNat (⟨(rd_T35 x6 bt409.1).f0, true, (rd_T35 x6 bt409.1).f2⟩ : S35)) x8 x9 (wrap64 (x14 + 1)) x1000 bt412.2.1 bt412.2.2) else (none)) else (none))))))) else (some (x6, x8, 1, x9, bt406.2.1, bt406.2.2)))
end
def spec_l15Hosts.f (k : Nat) (s0_0 : List Int) (s0_1 : Int) (s0_2 : Int) : Option ((List (S35)) × Int × Int × ByteArray × Int × Int) := spec_l15Hosts.l0 k (([] : List (S35))) 1 s0_0 s0_1 s0_2
set_option maxHeartbeats 8000000 in
set_option maxRecDepth 100000 in
theorem spec_l15Hosts.calls (k : Nat) (g : Nat) (s0_0 : List Int) (s0_1 : Int) (s0_2 : Int) (r1 : List (S35)) (r2 : Int) (r3 : Int) (r4 : ByteArray) (r5 : Int) (r6 : Int) (w0 w : World) (hI : IsS81 w0 w g s0_0 s0_1 s0_2) (hB : Below w0.heap.size w0 w) (h : spec_l15Hosts.f k s0_0 s0_1 s0_2 = some (r1, r2, r3, r4, r5, r6)) :
  Calls Try.prog 24 #[.pointer (some ⟨g, 0, none⟩)] w fun e w' => ∃ v0_ : Value, e = .returned (.tuple #[v0_, .int .i64 r2, .int .i64 r3, .string r4]) ∧ Kd.S k35 35 w' w.heap.size (fun _ => True) v0_ r1 ∧ IsS81 w0 w' g s0_0 r5 r6 ∧ Below w0.heap.size w0 w' ∧ KeepBut w w' g none := by
 have hu35 := Try.underlying35
 have hu60 := Try.underlying60
 have HI0 := AM hI
 have HK := AM (KeepBut.refl w g none)
 have HL := AM hB.size
 clear hI
 have HW0 := AM hB.size
 have HB := AM hB
 clear hB
 have H : (spec_l15Hosts.l0 k (([] : List (S35))) 1 s0_0 s0_1 s0_2) = some (r1, r2, r3, r4, r5, r6) := h
 clear h
 obtain ⟨y380, hy380⟩ : ∃ y_ : List (S35), y_ = (([] : List (S35))) := ⟨_, rfl⟩
 replace H : (spec_l15Hosts.l0 k y380 1 s0_0 s0_1 s0_2) = some (r1, r2, r3, r4, r5, r6) := by first | (rw [hy380]; first | with_reducible exact H | with_reducible exact OB H) | with_reducible exact OB H | with_reducible exact H | (rw [hy380]; exact H) | exact H
 have Ny380 := AM hy380
 clear hy380
 have H' := AM H
 clear H
 go_enter Try.func24, Try.ntmps24
 go_wp2_with (first | ((with_reducible refine gate_dst (N := 17) rfl ?_); refine Kd.S_lit k35 _ 35 ?hg (N := 17) ?hd (xs := ([] : List (S35))) (inner := []) (ok := fun _ => True) (okp := fun _ => True) ?hr ?hp (fun _ hk => hk) trivial (Below.refl _ _) (Nat.le_refl _) (by simp) ?_; (case hd => rfl); (case hg => rfl); (case hr => first | (go_simp; done) | (go_simp; rfl)); (case hp => exact (Reps.none _ _)); intro v381 w2 ho3 hb hg_ hnew_; clear hg_ hnew_; (first | rw [← Ny380.out] at ho3 | (simp only [Int.reduceToNat] at ho3; rw [← Ny380.out] at ho3)); have HO382 := AM (Kd.S_lower ho3 (keep_size (w := w) (g := g) (row := none) (KK HK.out))); replace HK := AM (KeepBut.trans (KK HK.out) (KeepBut.of_below hb g none) (.inl rfl)); replace HB := AM (below_step ((BB1 HB.out (IsS81.ge HI0.out))) hb); replace HI0 := AM (IsS81.below (II81 HI0.out) hb); clear hb ho3))
 go_loopg [6, 7] k (fun kq v6 v7 w' => ∃ (x6_1 : List (S35)) (x7_1 : Int) (x1001_1 : Int) (x1002_1 : Int), v7 = .int .i64 x7_1 ∧ Aside0 (spec_l15Hosts.l0 kq x6_1 x7_1 s0_0 x1001_1 x1002_1 = some (r1, r2, r3, r4, r5, r6)) ∧ Aside0 (kq ≤ k) ∧ Aside0 (Kd.S k35 35 w' w.heap.size (fun _ => True) v6 x6_1) ∧ Aside0 (IsS81 w0 w' g s0_0 x1001_1 x1002_1) ∧ Aside0 (KeepBut w w' g none) ∧ Aside0 (Below w0.heap.size w0 w'))
 case atStart => exact ⟨(y380), (1), (s0_1), (s0_2), FR, H', ⟨Nat.le_refl _⟩, ⟨(SS HO382.out)⟩, ⟨(II81 HI0.out)⟩, ⟨(KK HK.out)⟩, ⟨(BB1 HB.out (IsS81.ge HI0.out))⟩⟩
 case round =>
  clear H'
  try clear c2
  try clear p2
  obtain ⟨x6_1, x7_1, x1001_1, x1002_1, rfl, HA, HK1, HO_6, HI0, HK, HB⟩ := hrel
  cases gk with
  | zero => exact absurd HA.out (by simp [spec_l15Hosts.l0])
  | succ k1 =>
   have H := HA.out
   clear HA
   simp only [spec_l15Hosts.l0] at H
   by_cases c4 : x7_1 ≤ 7
   ·rw [if_pos c4] at H
    have c4b0 := decide_eq_true c4
    clear c4
    replace H := Option.bind_eq_some_iff.mp H
    obtain ⟨⟨t383, t384, t385⟩, A50, H⟩ := H
    replace H : (if x6_1.length < 3518437208883 then (spec_l15Hosts.l0 k1 (x6_1 ++ [(⟨x7_1, !t383, ([] : List (S60))⟩ : S35)]) (wrap64 (x7_1 + 1)) s0_0 t384 t385) else (none)) = some (r1, r2, r3, r4, r5, r6) := H
    have A5 := AM A50
    clear A50
    by_cases c6 : x6_1.length < 3518437208883
    rotate_left
    ·rw [if_neg c6] at H; exact absurd H (by simp)
    rw [if_pos c6] at H
    have LMc6 := AM c6
    clear c6
    obtain ⟨y386, hy386⟩ : ∃ y_ : List (S35), y_ = (x6_1 ++ [(⟨x7_1, !t383, ([] : List (S60))⟩ : S35)]) := ⟨_, rfl⟩
    replace H : (spec_l15Hosts.l0 k1 y386 (wrap64 (x7_1 + 1)) s0_0 t384 t385) = some (r1, r2, r3, r4, r5, r6) := by first | (rw [hy386]; first | with_reducible exact H | with_reducible exact OB H) | with_reducible exact OB H | with_reducible exact H | (rw [hy386]; exact H) | exact H
    have Ny386 := AM hy386
    clear hy386
    have H' := AM H
    clear H
    go_wp2_with (first | ((with_reducible refine gate_callee (f := 49) rfl ?_); refine GL (some 25) rfl rfl Try.func49 #[.pointer (some ⟨g, 0, none⟩), .int .i64 12] rfl ?_; (with_reducible refine (spec_l01Once.calls g s0_0 x1001_1 x1002_1 12 t383 t384 t385 w0 _ ?side1 ?side2 A5.out).mono ?_); (case side1 => exact II81 HI0.out); (case side2 => exact BB1 HB.out (IsS81.ge HI0.out)); rintro e w7 ⟨rfl, hi, hb, hk⟩; refine ⟨_, rfl, ?_⟩; replace HO_6 := AM (Kd.S_mono (Kd.S_keep (IsS81.apartS (show IsS81 w0 _ g s0_0 x1001_1 x1002_1 from (II81 HI0.out)) (SS HO_6.out) (by decide)) hk (fun _ h => h.2)) (fun _ h => h.1)); replace HK := AM (KeepBut.trans (KK HK.out) hk (.inl rfl)); replace HB := AM (hb); replace HI0 := AM (hi); (try clear hb); (try clear hk); (try clear hi)) | ((with_reducible refine gate_builtin (b := .append) (xs := #[.tmp 22, .tmp 28]) rfl ?_); at_builtin; refine Kd.S_append k35 w.heap.size rfl (.tmp 22) (.tmp 28) 24 35 (.agg #[(.int .i64 0), (.bool false), (.slice none 0 0)]) 40 rfl Try.underlying24 info35 rfl (by decide) (by omega) u6 x6_1 (⟨x7_1, !t383, ([] : List (S60))⟩ : S35) [.int .i64 x7_1, .bool (!t383), .slice none 0 0] (fun _ => True) (fun _ => False) rfl rfl ?aP (fun k_ hk_ => hk_.elim) ?aF ?aO (Below.refl _ _) ?aS ?aL ?_; (case aP => exact k35_mkM _ _ _ (⟨x7_1, !t383, ([] : List (S60))⟩ : S35) (Kd.R_nil _ _ _ _ _)); (case aF => exact (fun _ _ => trivial)); (case aO => exact (by (with_reducible repeat (first | apply Kd.S_alloc | apply Kd.S_drewN | apply Kd.S_drew)); exact Kd.S_mono HO_6.out (fun k_ hk => ⟨trivial, fun e_ => e_⟩))); (case aS => exact (keep_size (w := w) (g := g) (row := none) (KK HK.out))); (case aL => have := LMc6.out; omega); intro v387 w8 ho hb hg hat; rw [← Ny386.out] at ho; have HO388 := AM (ho); replace HB := AM (below_weaken ((BB1 HB.out (IsS81.ge HI0.out))) HL.out hb); replace HI0 := AM (IsS81.grown (II81 HI0.out) hg (IsS81.own_neS HI0.out HO_6.out (by decide))); replace HK := AM (KeepBut.trans (KK HK.out) (KeepBut.of_grown hg g) (Kd.S_base2 HO_6.out)); clear HO_6; clear ho hb hg hat))
    go_roundg k1
    case measure => have := HK1.out; omega
    case rel => exact ⟨(y386), (wrap64 (x7_1 + 1)), (t384), (t385), FR, H', ⟨by have := HK1.out; omega⟩, ⟨(SS HO388.out)⟩, ⟨(II81 HI0.out)⟩, ⟨(KK HK.out)⟩, ⟨(BB1 HB.out (IsS81.ge HI0.out))⟩⟩
   ·rw [if_neg c4] at H
    have c4b0 := decide_eq_false c4
    clear c4
    replace H := Option.bind_eq_some_iff.mp H
    obtain ⟨⟨t389, t390, t391⟩, A90, H⟩ := H
    replace H : (spec_l15Hosts.l1 k1 x6_1 (wrap64 (1 + t389)) (⟨#[]⟩ : ByteArray) 1 s0_0 t390 t391) = some (r1, r2, r3, r4, r5, r6) := H
    have A9 := AM A90
    clear A90
    have H' := AM H
    clear H
    go_wp2_with (first | ((with_reducible refine gate_callee (f := 32) rfl ?_); refine GL (some 31) rfl rfl Try.func32 #[.pointer (some ⟨g, 0, none⟩), .int .i64 3] rfl ?_; (with_reducible refine (spec_l01Below.calls g s0_0 x1001_1 x1002_1 3 t389 t390 t391 w0 _ ?side1 ?side2 A9.out).mono ?_); (case side1 => exact II81 HI0.out); (case side2 => exact BB1 HB.out (IsS81.ge HI0.out)); rintro e w10 ⟨rfl, hi, hb, hk⟩; refine ⟨_, rfl, ?_⟩; replace HO_6 := AM (Kd.S_mono (Kd.S_keep (IsS81.apartS (show IsS81 w0 _ g s0_0 x1001_1 x1002_1 from (II81 HI0.out)) (SS HO_6.out) (by decide)) hk (fun _ h => h.2)) (fun _ h => h.1)); replace HK := AM (KeepBut.trans (KK HK.out) hk (.inl rfl)); replace HB := AM (hb); replace HI0 := AM (hi); (try clear hb); (try clear hk); (try clear hi)))
    go_loopg [6, 9, 10] k1 (fun kq v6 v9 v10 w' => ∃ (x6_2 : List (S35)) (x9_2 : ByteArray) (x10_2 : Int) (x1001_2 : Int) (x1002_2 : Int), v9 = .string x9_2 ∧ v10 = .int .i64 x10_2 ∧ Aside0 (spec_l15Hosts.l1 kq x6_2 (wrap64 (1 + t389)) x9_2 x10_2 s0_0 x1001_2 x1002_2 = some (r1, r2, r3, r4, r5, r6)) ∧ Aside0 (kq ≤ k1) ∧ Aside0 (Kd.S k35 35 w' w.heap.size (fun _ => True) v6 x6_2) ∧ Aside0 (IsS81 w0 w' g s0_0 x1001_2 x1002_2) ∧ Aside0 (KeepBut w w' g none) ∧ Aside0 (Below w0.heap.size w0 w'))
    case atStart => exact ⟨(x6_1), ((⟨#[]⟩ : ByteArray)), (1), (t390), (t391), FR, FR, H', ⟨Nat.le_refl _⟩, ⟨(SS HO_6.out)⟩, ⟨(II81 HI0.out)⟩, ⟨(KK HK.out)⟩, ⟨(BB1 HB.out (IsS81.ge HI0.out))⟩⟩
    case round =>
     clear H'
     try clear c2
     try clear p2
     try clear c3
     try clear c4
     try clear c4b0
     try clear c6
     try clear p6
     try clear p2
     obtain ⟨x6_2, x9_2, x10_2, x1001_2, x1002_2, rfl, rfl, HA, HK2, HO_6, HI0, HK, HB⟩ := hrel
     cases gk with
     | zero => exact absurd HA.out (by simp [spec_l15Hosts.l1])
     | succ k2 =>
      have H := HA.out
      clear HA
      simp only [spec_l15Hosts.l1] at H
      replace H := Option.bind_eq_some_iff.mp H
      obtain ⟨⟨t392, t393, t394⟩, A110, H⟩ := H
      replace H : (if x10_2 ≤ (wrap64 (1 + t392)) then ((spec_GroupSize.f (wrap64 (1 + t389))).bind fun t395 => ((spec_l01Below.f s0_0 t393 t394 t395).bind fun bt396 => ((spec_l01Text.f k2 s0_0 bt396.2.1 bt396.2.2 (wrap64 (1 + bt396.1))).bind fun bt399 => ((spec_WriteGroup.f k2 x6_2 (wrap64 (1 + t389)) x10_2 bt399.1).bind fun bt402 => (if bt402.2 = true then (if x10_2 = 1 then (spec_l15Hosts.l1 k2 bt402.1 (wrap64 (1 + t389)) bt399.1 (wrap64 (x10_2 + 1)) s0_0 bt399.2.1 bt399.2.2) else (spec_l15Hosts.l1 k2 bt402.1 (wrap64 (1 + t389)) x9_2 (wrap64 (x10_2 + 1)) s0_0 bt399.2.1 bt399.2.2)) else (spec_l15Hosts.l1 k2 bt402.1 (wrap64 (1 + t389)) x9_2 (wrap64 (x10_2 + 1)) s0_0 bt399.2.1 bt399.2.2)))))) else (spec_l15Hosts.l2 k2 x6_2 (wrap64 (1 + t389)) x9_2 0 s0_0 t393 t394)) = some (r1, r2, r3, r4, r5, r6) := H
      have A11 := AM A110
      clear A110
      by_cases c12 : x10_2 ≤ (wrap64 (1 + t392))
      ·rw [if_pos c12] at H
       have c12b0 := decide_eq_true c12
       clear c12
       replace H := Option.bind_eq_some_iff.mp H
       obtain ⟨t395, A130, H⟩ := H
       replace H : ((spec_l01Below.f s0_0 t393 t394 t395).bind fun bt396 => ((spec_l01Text.f k2 s0_0 bt396.2.1 bt396.2.2 (wrap64 (1 + bt396.1))).bind fun bt399 => ((spec_WriteGroup.f k2 x6_2 (wrap64 (1 + t389)) x10_2 bt399.1).bind fun bt402 => (if bt402.2 = true then (if x10_2 = 1 then (spec_l15Hosts.l1 k2 bt402.1 (wrap64 (1 + t389)) bt399.1 (wrap64 (x10_2 + 1)) s0_0 bt399.2.1 bt399.2.2) else (spec_l15Hosts.l1 k2 bt402.1 (wrap64 (1 + t389)) x9_2 (wrap64 (x10_2 + 1)) s0_0 bt399.2.1 bt399.2.2)) else (spec_l15Hosts.l1 k2 bt402.1 (wrap64 (1 + t389)) x9_2 (wrap64 (x10_2 + 1)) s0_0 bt399.2.1 bt399.2.2))))) = some (r1, r2, r3, r4, r5, r6) := H
       have A13 := AM A130
       clear A130
       replace H := Option.bind_eq_some_iff.mp H
       obtain ⟨⟨t396, t397, t398⟩, A140, H⟩ := H
       replace H : ((spec_l01Text.f k2 s0_0 t397 t398 (wrap64 (1 + t396))).bind fun bt399 => ((spec_WriteGroup.f k2 x6_2 (wrap64 (1 + t389)) x10_2 bt399.1).bind fun bt402 => (if bt402.2 = true then (if x10_2 = 1 then (spec_l15Hosts.l1 k2 bt402.1 (wrap64 (1 + t389)) bt399.1 (wrap64 (x10_2 + 1)) s0_0 bt399.2.1 bt399.2.2) else (spec_l15Hosts.l1 k2 bt402.1 (wrap64 (1 + t389)) x9_2 (wrap64 (x10_2 + 1)) s0_0 bt399.2.1 bt399.2.2)) else (spec_l15Hosts.l1 k2 bt402.1 (wrap64 (1 + t389)) x9_2 (wrap64 (x10_2 + 1)) s0_0 bt399.2.1 bt399.2.2)))) = some (r1, r2, r3, r4, r5, r6) := H
       have A14 := AM A140
       clear A140
       replace H := Option.bind_eq_some_iff.mp H
       obtain ⟨⟨t399, t400, t401⟩, A150, H⟩ := H
       replace H : ((spec_WriteGroup.f k2 x6_2 (wrap64 (1 + t389)) x10_2 t399).bind fun bt402 => (if bt402.2 = true then (if x10_2 = 1 then (spec_l15Hosts.l1 k2 bt402.1 (wrap64 (1 + t389)) t399 (wrap64 (x10_2 + 1)) s0_0 t400 t401) else (spec_l15Hosts.l1 k2 bt402.1 (wrap64 (1 + t389)) x9_2 (wrap64 (x10_2 + 1)) s0_0 t400 t401)) else (spec_l15Hosts.l1 k2 bt402.1 (wrap64 (1 + t389)) x9_2 (wrap64 (x10_2 + 1)) s0_0 t400 t401))) = some (r1, r2, r3, r4, r5, r6) := H
       have A15 := AM A150
       clear A150
       replace H := Option.bind_eq_some_iff.mp H
       obtain ⟨⟨t402, t403⟩, A160, H⟩ := H
       replace H : (if t403 = true then (if x10_2 = 1 then (spec_l15Hosts.l1 k2 t402 (wrap64 (1 + t389)) t399 (wrap64 (x10_2 + 1)) s0_0 t400 t401) else (spec_l15Hosts.l1 k2 t402 (wrap64 (1 + t389)) x9_2 (wrap64 (x10_2 + 1)) s0_0 t400 t401)) else (spec_l15Hosts.l1 k2 t402 (wrap64 (1 + t389)) x9_2 (wrap64 (x10_2 + 1)) s0_0 t400 t401)) = some (r1, r2, r3, r4, r5, r6) := H
       have A16 := AM A160
       clear A160
       by_cases c17 : t403 = true
       ·subst c17
        have H1 : (if x10_2 = 1 then (spec_l15Hosts.l1 k2 t402 (wrap64 (1 + t389)) t399 (wrap64 (x10_2 + 1)) s0_0 t400 t401) else (spec_l15Hosts.l1 k2 t402 (wrap64 (1 + t389)) x9_2 (wrap64 (x10_2 + 1)) s0_0 t400 t401)) = some (r1, r2, r3, r4, r5, r6) := by rw [if_pos rfl] at H; exact H
        clear H
        have H := H1
        clear H1
        by_cases c18 : x10_2 = 1
        ·rw [if_pos c18] at H
         have c18b0 : (x10_2 == 1) = true := beq_iff_eq.mpr c18
         have c18b1 : (x10_2 != 1) = false := bne_eq_false_iff_eq.mpr c18
         clear c18
         have H' := AM H
         clear H
         go_wp2_with (first | ((with_reducible refine gate_callee (f := 32) rfl ?_); refine GL (some 35) rfl rfl Try.func32 #[.pointer (some ⟨g, 0, none⟩), .int .i64 3] rfl ?_; (with_reducible refine (spec_l01Below.calls g s0_0 x1001_2 x1002_2 3 t392 t393 t394 w0 _ ?side1 ?side2 A11.out).mono ?_); (case side1 => exact II81 HI0.out); (case side2 => exact BB1 HB.out (IsS81.ge HI0.out)); rintro e w19 ⟨rfl, hi, hb, hk⟩; refine ⟨_, rfl, ?_⟩; replace HO_6 := AM (Kd.S_mono (Kd.S_keep (IsS81.apartS (show IsS81 w0 _ g s0_0 x1001_2 x1002_2 from (II81 HI0.out)) (SS HO_6.out) (by decide)) hk (fun _ h => h.2)) (fun _ h => h.1)); replace HK := AM (KeepBut.trans (KK HK.out) hk (.inl rfl)); replace HB := AM (hb); replace HI0 := AM (hi); (try clear hb); (try clear hk); (try clear hi)) | ((with_reducible refine gate_callee (f := 51) rfl ?_); refine GL (some 43) rfl rfl Try.func51 #[.int .i64 (wrap64 (1 + t389))] rfl ?_; (with_reducible refine (spec_GroupSize.calls (wrap64 (1 + t389)) t395 _ A13.out).mono ?_); rintro e w' ⟨rfl, ⟨nd, rfl⟩⟩; refine ⟨_, rfl, ?_⟩) | ((with_reducible refine gate_callee (f := 32) rfl ?_); refine GL (some 44) rfl rfl Try.func32 #[.pointer (some ⟨g, 0, none⟩), .int .i64 t395] rfl ?_; (with_reducible refine (spec_l01Below.calls g s0_0 t393 t394 t395 t396 t397 t398 w0 _ ?side1 ?side2 A14.out).mono ?_); (case side1 => exact II81 HI0.out); (case side2 => exact BB1 HB.out (IsS81.ge HI0.out)); rintro e w20 ⟨rfl, hi, hb, hk⟩; refine ⟨_, rfl, ?_⟩; replace HO_6 := AM (Kd.S_mono (Kd.S_keep (IsS81.apartS (show IsS81 w0 _ g s0_0 t393 t394 from (II81 HI0.out)) (SS HO_6.out) (by decide)) hk (fun _ h => h.2)) (fun _ h => h.1)); replace HK := AM (KeepBut.trans (KK HK.out) hk (.inl rfl)); replace HB := AM (hb); replace HI0 := AM (hi); (try clear hb); (try clear hk); (try clear hi)) | ((with_reducible refine gate_callee (f := 50) rfl ?_); refine GL (some 46) rfl rfl Try.func50 #[.pointer (some ⟨g, 0, none⟩), .int .i64 (wrap64 (1 + t396))] rfl ?_; (with_reducible refine (spec_l01Text.calls k2 g s0_0 t397 t398 (wrap64 (1 + t396)) t399 t400 t401 w0 _ ?side1 ?side2 A15.out).mono ?_); (case side1 => exact II81 HI0.out); (case side2 => exact BB1 HB.out (IsS81.ge HI0.out)); rintro e w21 ⟨rfl, hi, hb, hk⟩; refine ⟨_, rfl, ?_⟩; replace HO_6 := AM (Kd.S_mono (Kd.S_keep (IsS81.apartS (show IsS81 w0 _ g s0_0 t397 t398 from (II81 HI0.out)) (SS HO_6.out) (by decide)) hk (fun _ h => h.2)) (fun _ h => h.1)); replace HK := AM (KeepBut.trans (KK HK.out) hk (.inl rfl)); replace HB := AM (hb); replace HI0 := AM (hi); (try clear hb); (try clear hk); (try clear hi); obtain ⟨Ao22, co22, eo22⟩ := Kd.S_slice HO_6.out; subst eo22) | ((with_reducible refine gate_callee (f := 52) rfl ?_); refine GL (some 52) rfl rfl Try.func52 #[.slice Ao22 x6_2.length co22, .int .i64 (wrap64 (1 + t389)), .int .i64 x10_2, .string t399] rfl ?_; (with_reducible refine (spec_WriteGroup.calls k2 _ _ x6_2 (wrap64 (1 + t389)) x10_2 t399 t402 true _ ?side1 ?side2 A16.out).mono ?_); (case side1 => exact CC (Kd.S_reads' HO_6.out).2.2); (case side2 => exact (Kd.S_reads' HO_6.out).2.1); rintro e w23 ⟨v404, rfl, ho0, hb⟩; refine ⟨_, rfl, ?_⟩; have HO405 := AM (Kd.S_lower (Kd.S_new' ho0 (Kd.S_lt (SS HO_6.out))) (keep_size (w := w) (g := g) (row := none) (KK HK.out))); replace HO_6 := AM (Kd.S_elder' (SS HO_6.out) (Kd.S_base ho0) hb); replace HK := AM (KeepBut.trans (KK HK.out) (KeepBut.of_below hb g none) (.inl rfl)); replace HB := AM (below_step ((BB1 HB.out (IsS81.ge HI0.out))) hb); replace HI0 := AM (IsS81.below (II81 HI0.out) hb); (try clear hb); (try clear ho0)))
         go_roundg k2
         case measure => have := HK1.out; have := HK2.out; omega
         case rel => exact ⟨(t402), (t399), (wrap64 (x10_2 + 1)), (t400), (t401), FR, FR, H', ⟨by have := HK1.out; have := HK2.out; omega⟩, ⟨by (with_reducible repeat (first | apply Kd.S_alloc | apply Kd.S_drewN | apply Kd.S_drew)); exact Kd.S_mono HO405.out (fun _ hk => trivial)⟩, ⟨(II81 HI0.out)⟩, ⟨(KK HK.out)⟩, ⟨(BB1 HB.out (IsS81.ge HI0.out))⟩⟩
        ·rw [if_neg c18] at H
         have c18b0 : (x10_2 == 1) = false := beq_eq_false_iff_ne.mpr c18
         have c18b1 : (x10_2 != 1) = true := bne_iff_ne.mpr c18
         have H' := AM H
         clear H
         go_wp2_with (first | ((with_reducible refine gate_callee (f := 32) rfl ?_); refine GL (some 35) rfl rfl Try.func32 #[.pointer (some ⟨g, 0, none⟩), .int .i64 3] rfl ?_; (with_reducible refine (spec_l01Below.calls g s0_0 x1001_2 x1002_2 3 t392 t393 t394 w0 _ ?side1 ?side2 A11.out).mono ?_); (case side1 => exact II81 HI0.out); (case side2 => exact BB1 HB.out (IsS81.ge HI0.out)); rintro e w24 ⟨rfl, hi, hb, hk⟩; refine ⟨_, rfl, ?_⟩; replace HO_6 := AM (Kd.S_mono (Kd.S_keep (IsS81.apartS (show IsS81 w0 _ g s0_0 x1001_2 x1002_2 from (II81 HI0.out)) (SS HO_6.out) (by decide)) hk (fun _ h => h.2)) (fun _ h => h.1)); replace HK := AM (KeepBut.trans (KK HK.out) hk (.inl rfl)); replace HB := AM (hb); replace HI0 := AM (hi); (try clear hb); (try clear hk); (try clear hi)) | ((with_reducible refine gate_callee (f := 51) rfl ?_); refine GL (some 43) rfl rfl Try.func51 #[.int .i64 (wrap64 (1 + t389))] rfl ?_; (with_reducible refine (spec_GroupSize.calls (wrap64 (1 + t389)) t395 _ A13.out).mono ?_); rintro e w' ⟨rfl, ⟨nd, rfl⟩⟩; refine ⟨_, rfl, ?_⟩) | ((with_reducible refine gate_callee (f := 32) rfl ?_); refine GL (some 44) rfl rfl Try.func32 #[.pointer (some ⟨g, 0, none⟩), .int .i64 t395] rfl ?_; (with_reducible refine (spec_l01Below.calls g s0_0 t393 t394 t395 t396 t397 t398 w0 _ ?side1 ?side2 A14.out).mono ?_); (case side1 => exact II81 HI0.out); (case side2 => exact BB1 HB.out (IsS81.ge HI0.out)); rintro e w25 ⟨rfl, hi, hb, hk⟩; refine ⟨_, rfl, ?_⟩; replace HO_6 := AM (Kd.S_mono (Kd.S_keep (IsS81.apartS (show IsS81 w0 _ g s0_0 t393 t394 from (II81 HI0.out)) (SS HO_6.out) (by decide)) hk (fun _ h => h.2)) (fun _ h => h.1)); replace HK := AM (KeepBut.trans (KK HK.out) hk (.inl rfl)); replace HB := AM (hb); replace HI0 := AM (hi); (try clear hb); (try clear hk); (try clear hi)) | ((with_reducible refine gate_callee (f := 50) rfl ?_); refine GL (some 46) rfl rfl Try.func50 #[.pointer (some ⟨g, 0, none⟩), .int .i64 (wrap64 (1 + t396))] rfl ?_; (with_reducible refine (spec_l01Text.calls k2 g s0_0 t397 t398 (wrap64 (1 + t396)) t399 t400 t401 w0 _ ?side1 ?side2 A15.out).mono ?_); (case side1 => exact II81 HI0.out); (case side2 => exact BB1 HB.out (IsS81.ge HI0.out)); rintro e w26 ⟨rfl, hi, hb, hk⟩; refine ⟨_, rfl, ?_⟩; replace HO_6 := AM (Kd.S_mono (Kd.S_keep (IsS81.apartS (show IsS81 w0 _ g s0_0 t397 t398 from (II81 HI0.out)) (SS HO_6.out) (by decide)) hk (fun _ h => h.2)) (fun _ h => h.1)); replace HK := AM (KeepBut.trans (KK HK.out) hk (.inl rfl)); replace HB := AM (hb); replace HI0 := AM (hi); (try clear hb); (try clear hk); (try clear hi); obtain ⟨Ao27, co27, eo27⟩ := Kd.S_slice HO_6.out; subst eo27) | ((with_reducible refine gate_callee (f := 52) rfl ?_); refine GL (some 52) rfl rfl Try.func52 #[.slice Ao27 x6_2.length co27, .int .i64 (wrap64 (1 + t389)), .int .i64 x10_2, .string t399] rfl ?_; (with_reducible refine (spec_WriteGroup.calls k2 _ _ x6_2 (wrap64 (1 + t389)) x10_2 t399 t402 true _ ?side1 ?side2 A16.out).mono ?_); (case side1 => exact CC (Kd.S_reads' HO_6.out).2.2); (case side2 => exact (Kd.S_reads' HO_6.out).2.1); rintro e w28 ⟨v404, rfl, ho0, hb⟩; refine ⟨_, rfl, ?_⟩; have HO405 := AM (Kd.S_lower (Kd.S_new' ho0 (Kd.S_lt (SS HO_6.out))) (keep_size (w := w) (g := g) (row := none) (KK HK.out))); replace HO_6 := AM (Kd.S_elder' (SS HO_6.out) (Kd.S_base ho0) hb); replace HK := AM (KeepBut.trans (KK HK.out) (KeepBut.of_below hb g none) (.inl rfl)); replace HB := AM (below_step ((BB1 HB.out (IsS81.ge HI0.out))) hb); replace HI0 := AM (IsS81.below (II81 HI0.out) hb); (try clear hb); (try clear ho0)))
         go_roundg k2
         case measure => have := HK1.out; have := HK2.out; omega
         case rel => exact ⟨(t402), (x9_2), (wrap64 (x10_2 + 1)), (t400), (t401), FR, FR, H', ⟨by have := HK1.out; have := HK2.out; omega⟩, ⟨by (with_reducible repeat (first | apply Kd.S_alloc | apply Kd.S_drewN | apply Kd.S_drew)); exact Kd.S_mono HO405.out (fun _ hk => trivial)⟩, ⟨(II81 HI0.out)⟩, ⟨(KK HK.out)⟩, ⟨(BB1 HB.out (IsS81.ge HI0.out))⟩⟩
       ·replace c17 := Bool.eq_false_iff.mpr c17
        subst c17
        have H1 : (spec_l15Hosts.l1 k2 t402 (wrap64 (1 + t389)) x9_2 (wrap64 (x10_2 + 1)) s0_0 t400 t401) = some (r1, r2, r3, r4, r5, r6) := by rw [if_neg (show ¬ (false = true) by decide)] at H; exact H
        clear H
        have H := H1
        clear H1
        have H' := AM H
        clear H
        go_wp2_with (first | ((with_reducible refine gate_callee (f := 32) rfl ?_); refine GL (some 35) rfl rfl Try.func32 #[.pointer (some ⟨g, 0, none⟩), .int .i64 3] rfl ?_; (with_reducible refine (spec_l01Below.calls g s0_0 x1001_2 x1002_2 3 t392 t393 t394 w0 _ ?side1 ?side2 A11.out).mono ?_); (case side1 => exact II81 HI0.out); (case side2 => exact BB1 HB.out (IsS81.ge HI0.out)); rintro e w29 ⟨rfl, hi, hb, hk⟩; refine ⟨_, rfl, ?_⟩; replace HO_6 := AM (Kd.S_mono (Kd.S_keep (IsS81.apartS (show IsS81 w0 _ g s0_0 x1001_2 x1002_2 from (II81 HI0.out)) (SS HO_6.out) (by decide)) hk (fun _ h => h.2)) (fun _ h => h.1)); replace HK := AM (KeepBut.trans (KK HK.out) hk (.inl rfl)); replace HB := AM (hb); replace HI0 := AM (hi); (try clear hb); (try clear hk); (try clear hi)) | ((with_reducible refine gate_callee (f := 51) rfl ?_); refine GL (some 43) rfl rfl Try.func51 #[.int .i64 (wrap64 (1 + t389))] rfl ?_; (with_reducible refine (spec_GroupSize.calls (wrap64 (1 + t389)) t395 _ A13.out).mono ?_); rintro e w' ⟨rfl, ⟨nd, rfl⟩⟩; refine ⟨_, rfl, ?_⟩) | ((with_reducible refine gate_callee (f := 32) rfl ?_); refine GL (some 44) rfl rfl Try.func32 #[.pointer (some ⟨g, 0, none⟩), .int .i64 t395] rfl ?_; (with_reducible refine (spec_l01Below.calls g s0_0 t393 t394 t395 t396 t397 t398 w0 _ ?side1 ?side2 A14.out).mono ?_); (case side1 => exact II81 HI0.out); (case side2 => exact BB1 HB.out (IsS81.ge HI0.out)); rintro e w30 ⟨rfl, hi, hb, hk⟩; refine ⟨_, rfl, ?_⟩; replace HO_6 := AM (Kd.S_mono (Kd.S_keep (IsS81.apartS (show IsS81 w0 _ g s0_0 t393 t394 from (II81 HI0.out)) (SS HO_6.out) (by decide)) hk (fun _ h => h.2)) (fun _ h => h.1)); replace HK := AM (KeepBut.trans (KK HK.out) hk (.inl rfl)); replace HB := AM (hb); replace HI0 := AM (hi); (try clear hb); (try clear hk); (try clear hi)) | ((with_reducible refine gate_callee (f := 50) rfl ?_); refine GL (some 46) rfl rfl Try.func50 #[.pointer (some ⟨g, 0, none⟩), .int .i64 (wrap64 (1 + t396))] rfl ?_; (with_reducible refine (spec_l01Text.calls k2 g s0_0 t397 t398 (wrap64 (1 + t396)) t399 t400 t401 w0 _ ?side1 ?side2 A15.out).mono ?_); (case side1 => exact II81 HI0.out); (case side2 => exact BB1 HB.out (IsS81.ge HI0.out)); rintro e w31 ⟨rfl, hi, hb, hk⟩; refine ⟨_, rfl, ?_⟩; replace HO_6 := AM (Kd.S_mono (Kd.S_keep (IsS81.apartS (show IsS81 w0 _ g s0_0 t397 t398 from (II81 HI0.out)) (SS HO_6.out) (by decide)) hk (fun _ h => h.2)) (fun _ h => h.1)); replace HK := AM (KeepBut.trans (KK HK.out) hk (.inl rfl)); replace HB := AM (hb); replace HI0 := AM (hi); (try clear hb); (try clear hk); (try clear hi); obtain ⟨Ao32, co32, eo32⟩ := Kd.S_slice HO_6.out; subst eo32) | ((with_reducible refine gate_callee (f := 52) rfl ?_); refine GL (some 52) rfl rfl Try.func52 #[.slice Ao32 x6_2.length co32, .int .i64 (wrap64 (1 + t389)), .int .i64 x10_2, .string t399] rfl ?_; (with_reducible refine (spec_WriteGroup.calls k2 _ _ x6_2 (wrap64 (1 + t389)) x10_2 t399 t402 false _ ?side1 ?side2 A16.out).mono ?_); (case side1 => exact CC (Kd.S_reads' HO_6.out).2.2); (case side2 => exact (Kd.S_reads' HO_6.out).2.1); rintro e w33 ⟨v404, rfl, ho0, hb⟩; refine ⟨_, rfl, ?_⟩; have HO405 := AM (Kd.S_lower (Kd.S_new' ho0 (Kd.S_lt (SS HO_6.out))) (keep_size (w := w) (g := g) (row := none) (KK HK.out))); replace HO_6 := AM (Kd.S_elder' (SS HO_6.out) (Kd.S_base ho0) hb); replace HK := AM (KeepBut.trans (KK HK.out) (KeepBut.of_below hb g none) (.inl rfl)); replace HB := AM (below_step ((BB1 HB.out (IsS81.ge HI0.out))) hb); replace HI0 := AM (IsS81.below (II81 HI0.out) hb); (try clear hb); (try clear ho0)))
        go_roundg k2
        case measure => have := HK1.out; have := HK2.out; omega
        case rel => exact ⟨(t402), (x9_2), (wrap64 (x10_2 + 1)), (t400), (t401), FR, FR, H', ⟨by have := HK1.out; have := HK2.out; omega⟩, ⟨by (with_reducible repeat (first | apply Kd.S_alloc | apply Kd.S_drewN | apply Kd.S_drew)); exact Kd.S_mono HO405.out (fun _ hk => trivial)⟩, ⟨(II81 HI0.out)⟩, ⟨(KK HK.out)⟩, ⟨(BB1 HB.out (IsS81.ge HI0.out))⟩⟩
      ·rw [if_neg c12] at H
       have c12b0 := decide_eq_false c12
       clear c12
       have H' := AM H
       clear H
       go_wp2_with (first | ((with_reducible refine gate_callee (f := 32) rfl ?_); refine GL (some 35) rfl rfl Try.func32 #[.pointer (some ⟨g, 0, none⟩), .int .i64 3] rfl ?_; (with_reducible refine (spec_l01Below.calls g s0_0 x1001_2 x1002_2 3 t392 t393 t394 w0 _ ?side1 ?side2 A11.out).mono ?_); (case side1 => exact II81 HI0.out); (case side2 => exact BB1 HB.out (IsS81.ge HI0.out)); rintro e w34 ⟨rfl, hi, hb, hk⟩; refine ⟨_, rfl, ?_⟩; replace HO_6 := AM (Kd.S_mono (Kd.S_keep (IsS81.apartS (show IsS81 w0 _ g s0_0 x1001_2 x1002_2 from (II81 HI0.out)) (SS HO_6.out) (by decide)) hk (fun _ h => h.2)) (fun _ h => h.1)); replace HK := AM (KeepBut.trans (KK HK.out) hk (.inl rfl)); replace HB := AM (hb); replace HI0 := AM (hi); (try clear hb); (try clear hk); (try clear hi)))
       go_loopg [14] k2 (fun kq v14 w' => ∃ (x6_3 : List (S35)) (x14_3 : Int) (x1001_3 : Int) (x1002_3 : Int), v14 = .int .i64 x14_3 ∧ Aside0 (spec_l15Hosts.l2 kq x6_3 (wrap64 (1 + t389)) x9_2 x14_3 s0_0 x1001_3 x1002_3 = some (r1, r2, r3, r4, r5, r6)) ∧ Aside0 (kq ≤ k2) ∧ Aside0 (Kd.S k35 35 w' w.heap.size (fun _ => True) u6 x6_3) ∧ Aside0 (IsS81 w0 w' g s0_0 x1001_3 x1002_3) ∧ Aside0 (KeepBut w w' g none) ∧ Aside0 (Below w0.heap.size w0 w'))
       case atStart => exact ⟨(x6_2), (0), (t393), (t394), FR, H', ⟨Nat.le_refl _⟩, ⟨(SS HO_6.out)⟩, ⟨(II81 HI0.out)⟩, ⟨(KK HK.out)⟩, ⟨(BB1 HB.out (IsS81.ge HI0.out))⟩⟩
       case round =>
        clear H'
        try clear c1
        try clear c2
        try clear p2
        try clear c3
        try clear c4
        try clear c4b0
        try clear c5
        try clear c6
        try clear p6
        try clear c12
        try clear c12b0
        try clear c17
        try clear c18
        try clear c18b0
        try clear c18b1
        try clear c24
        try clear c32
        try clear p2
        try clear p6
        obtain ⟨x6_3, x14_3, x1001_3, x1002_3, rfl, HA, HK3, HO_6, HI0, HK, HB⟩ := hrel
        cases gk with
        | zero => exact absurd HA.out (by simp [spec_l15Hosts.l2])
        | succ k3 =>
         have H := HA.out
         clear HA
         simp only [spec_l15Hosts.l2] at H
         replace H := Option.bind_eq_some_iff.mp H
         obtain ⟨⟨t406, t407, t408⟩, A350, H⟩ := H
         replace H : (if x14_3 < t406 then ((spec_l01Below.f s0_0 t407 t408 (x6_3.length : Int)).bind fun bt409 => ((spec_l01Below.f s0_0 bt409.2.1 bt409.2.2 4).bind fun bt412 => (if bt412.1 = 0 then (if 0 ≤ bt409.1 then (if bt409.1 < (x6_3.length : Int) then (spec_l15Hosts.l2 k3 (x6_3.set (bt409.1 : Int).toNat (⟨(rd_T35 x6_3 bt409.1).f0, false, (rd_T35 x6_3 bt409.1).f2⟩ : S35)) (wrap64 (1 + t389)) x9_2 (wrap64 (x14_3 + 1)) s0_0 bt412.2.1 bt412.2.2) else (none)) else (none)) else (if bt412.1 = 1 then (if 0 ≤ bt409.1 then (if bt409.1 < (x6_3.length : Int) then (spec_l15Hosts.l2 k3 (x6_3.set (bt409.1 : Int).toNat (⟨(rd_T35 x6_3 bt409.1).f0, (rd_T35 x6_3 bt409.1).f1, (([] : List (S60)))⟩ : S35)) (wrap64 (1 + t389)) x9_2 (wrap64 (x14_3 + 1)) s0_0 bt412.2.1 bt412.2.2) else (none)) else (none)) else (if bt412.1 = 2 then (if 0 ≤ bt409.1 then (if bt409.1 < (x6_3.length : Int) then (if (((rd_T35 x6_3 bt409.1).f2).length : Int) > 0 then (if 0 < (((rd_T35 x6_3 bt409.1).f2).length : Int) then ((spec_l01Below.f s0_0 bt412.2.1 bt412.2.2 9).bind fun bt425 => ((spec_Spoil.f k3 ((rd_T35 x6_3 bt409.1).f0) ((rd_T35 x6_3 bt409.1).f1) ((rd_T35 x6_3 bt409.1).f2) ((rd_T60 ((rd_T35 x6_3 bt409.1).f2) 0).f0) ((rd_T60 ((rd_T35 x6_3 bt409.1).f2) 0).f1) bt425.1).bind fun bt428 => (spec_l15Hosts.l2 k3 (x6_3.set (bt409.1 : Int).toNat (⟨bt428.1, bt428.2.1, bt428.2.2.1⟩ : S35)) (wrap64 (1 + t389)) x9_2 (wrap64 (x14_3 + 1)) s0_0 bt425.2.1 bt425.2.2))) else (none)) else (spec_l15Hosts.l2 k3 x6_3 (wrap64 (1 + t389)) x9_2 (wrap64 (x14_3 + 1)) s0_0 bt412.2.1 bt412.2.2)) else (none)) else (none)) else (if 0 ≤ bt409.1 then (if bt409.1 < (x6_3.length : Int) then (spec_l15Hosts.l2 k3 (x6_3.set (bt409.1 : Int).toNat (⟨(rd_T35 x6_3 bt409.1).f0, true, (rd_T35 x6_3 bt409.1).f2⟩ : S35)) (wrap64 (1 + t389)) x9_2 (wrap64 (x14_3 + 1)) s0_0 bt412.2.1 bt412.2.2) else (none)) else (none))))))) else (some (x6_3, (wrap64 (1 + t389)), 1, x9_2, t407, t408))) = some (r1, r2, r3, r4, r5, r6) := H
         have A35 := AM A350
         clear A350
         by_cases c36 : x14_3 < t406
         ·rw [if_pos c36] at H
          have c36b0 := decide_eq_true c36
          clear c36
          replace H := Option.bind_eq_some_iff.mp H
          obtain ⟨⟨t409, t410, t411⟩, A370, H⟩ := H
          replace H : ((spec_l01Below.f s0_0 t410 t411 4).bind fun bt412 => (if bt412.1 = 0 then (if 0 ≤ t409 then (if t409 < (x6_3.length : Int) then (spec_l15Hosts.l2 k3 (x6_3.set (t409 : Int).toNat (⟨(rd_T35 x6_3 t409).f0, false, (rd_T35 x6_3 t409).f2⟩ : S35)) (wrap64 (1 + t389)) x9_2 (wrap64 (x14_3 + 1)) s0_0 bt412.2.1 bt412.2.2) else (none)) else (none)) else (if bt412.1 = 1 then (if 0 ≤ t409 then (if t409 < (x6_3.length : Int) then (spec_l15Hosts.l2 k3 (x6_3.set (t409 : Int).toNat (⟨(rd_T35 x6_3 t409).f0, (rd_T35 x6_3 t409).f1, (([] : List (S60)))⟩ : S35)) (wrap64 (1 + t389)) x9_2 (wrap64 (x14_3 + 1)) s0_0 bt412.2.1 bt412.2.2) else (none)) else (none)) else (if bt412.1 = 2 then (if 0 ≤ t409 then (if t409 < (x6_3.length : Int) then (if (((rd_T35 x6_3 t409).f2).length : Int) > 0 then (if 0 < (((rd_T35 x6_3 t409).f2).length : Int) then ((spec_l01Below.f s0_0 bt412.2.1 bt412.2.2 9).bind fun bt425 => ((spec_Spoil.f k3 ((rd_T35 x6_3 t409).f0) ((rd_T35 x6_3 t409).f1) ((rd_T35 x6_3 t409).f2) ((rd_T60 ((rd_T35 x6_3 t409).f2) 0).f0) ((rd_T60 ((rd_T35 x6_3 t409).f2) 0).f1) bt425.1).bind fun bt428 => (spec_l15Hosts.l2 k3 (x6_3.set (t409 : Int).toNat (⟨bt428.1, bt428.2.1, bt428.2.2.1⟩ : S35)) (wrap64 (1 + t389)) x9_2 (wrap64 (x14_3 + 1)) s0_0 bt425.2.1 bt425.2.2))) else (none)) else (spec_l15Hosts.l2 k3 x6_3 (wrap64 (1 + t389)) x9_2 (wrap64 (x14_3 + 1)) s0_0 bt412.2.1 bt412.2.2)) else (none)) else (none)) else (if 0 ≤ t409 then (if t409 < (x6_3.length : Int) then (spec_l15Hosts.l2 k3 (x6_3.set (t409 : Int).toNat (⟨(rd_T35 x6_3 t409).f0, true, (rd_T35 x6_3 t409).f2⟩ : S35)) (wrap64 (1 + t389)) x9_2 (wrap64 (x14_3 + 1)) s0_0 bt412.2.1 bt412.2.2) else (none)) else (none)))))) = some (r1, r2, r3, r4, r5, r6) := H
          have A37 := AM A370
          clear A370
          replace H := Option.bind_eq_some_iff.mp H
          obtain ⟨⟨t412, t413, t414⟩, A380, H⟩ := H
          replace H : (if t412 = 0 then (if 0 ≤ t409 then (if t409 < (x6_3.length : Int) then (spec_l15Hosts.l2 k3 (x6_3.set (t409 : Int).toNat (⟨(rd_T35 x6_3 t409).f0, false, (rd_T35 x6_3 t409).f2⟩ : S35)) (wrap64 (1 + t389)) x9_2 (wrap64 (x14_3 + 1)) s0_0 t413 t414) else (none)) else (none)) else (if t412 = 1 then (if 0 ≤ t409 then (if t409 < (x6_3.length : Int) then (spec_l15Hosts.l2 k3 (x6_3.set (t409 : Int).toNat (⟨(rd_T35 x6_3 t409).f0, (rd_T35 x6_3 t409).f1, (([] : List (S60)))⟩ : S35)) (wrap64 (1 + t389)) x9_2 (wrap64 (x14_3 + 1)) s0_0 t413 t414) else (none)) else (none)) else (if t412 = 2 then (if 0 ≤ t409 then (if t409 < (x6_3.length : Int) then (if (((rd_T35 x6_3 t409).f2).length : Int) > 0 then (if 0 < (((rd_T35 x6_3 t409).f2).length : Int) then ((spec_l01Below.f s0_0 t413 t414 9).bind fun bt425 => ((spec_Spoil.f k3 ((rd_T35 x6_3 t409).f0) ((rd_T35 x6_3 t409).f1) ((rd_T35 x6_3 t409).f2) ((rd_T60 ((rd_T35 x6_3 t409).f2) 0).f0) ((rd_T60 ((rd_T35 x6_3 t409).f2) 0).f1) bt425.1).bind fun bt428 => (spec_l15Hosts.l2 k3 (x6_3.set (t409 : Int).toNat (⟨bt428.1, bt428.2.1, bt428.2.2.1⟩ : S35)) (wrap64 (1 + t389)) x9_2 (wrap64 (x14_3 + 1)) s0_0 bt425.2.1 bt425.2.2))) else (none)) else (spec_l15Hosts.l2 k3 x6_3 (wrap64 (1 + t389)) x9_2 (wrap64 (x14_3 + 1)) s0_0 t413 t414)) else (none)) else (none)) else (if 0 ≤ t409 then (if t409 < (x6_3.length : Int) then (spec_l15Hosts.l2 k3 (x6_3.set (t409 : Int).toNat (⟨(rd_T35 x6_3 t409).f0, true, (rd_T35 x6_3 t409).f2⟩ : S35)) (wrap64 (1 + t389)) x9_2 (wrap64 (x14_3 + 1)) s0_0 t413 t414) else (none)) else (none))))) = some (r1, r2, r3, r4, r5, r6) := H
          have A38 := AM A380
          clear A380
          by_cases c39 : t412 = 0
          ·rw [if_pos c39] at H
           have c39b0 : (t412 == 0) = true := beq_iff_eq.mpr c39
           have c39b1 : (t412 != 0) = false := bne_eq_false_iff_eq.mpr c39
           clear c39
           by_cases c40 : 0 ≤ t409
           rotate_left
           ·rw [if_neg c40] at H; exact absurd H (by simp)
           rw [if_pos c40] at H
           have c40b0 := decide_eq_true c40
           clear c40
           by_cases c41 : t409 < (x6_3.length : Int)
           rotate_left
           ·rw [if_neg c41] at H; exact absurd H (by simp)
           rw [if_pos c41] at H
           have c41b0 := decide_eq_true c41
           clear c41
           obtain ⟨y415, hy415⟩ : ∃ y_ : List (S35), y_ = (x6_3.set (t409 : Int).toNat (⟨(rd_T35 x6_3 t409).f0, false, (rd_T35 x6_3 t409).f2⟩ : S35)) := ⟨_, rfl⟩
           replace H : (spec_l15Hosts.l2 k3 y415 (wrap64 (1 + t389)) x9_2 (wrap64 (x14_3 + 1)) s0_0 t413 t414) = some (r1, r2, r3, r4, r5, r6) := by first | (rw [hy415]; first | with_reducible exact H | with_reducible exact OB H) | with_reducible exact OB H | with_reducible exact H | (rw [hy415]; exact H) | exact H
           have Ny415 := AM hy415
           clear hy415
           have H' := AM H
           clear H
           go_wp2_with (first | ((with_reducible refine gate_callee (f := 32) rfl ?_); refine GL (some 64) rfl rfl Try.func32 #[.pointer (some ⟨g, 0, none⟩), .int .i64 4] rfl ?_; (with_reducible refine (spec_l01Below.calls g s0_0 x1001_3 x1002_3 4 t406 t407 t408 w0 _ ?side1 ?side2 A35.out).mono ?_); (case side1 => exact II81 HI0.out); (case side2 => exact BB1 HB.out (IsS81.ge HI0.out)); rintro e w43 ⟨rfl, hi, hb, hk⟩; refine ⟨_, rfl, ?_⟩; replace HO_6 := AM (Kd.S_mono (Kd.S_keep (IsS81.apartS (show IsS81 w0 _ g s0_0 x1001_3 x1002_3 from (II81 HI0.out)) (SS HO_6.out) (by decide)) hk (fun _ h => h.2)) (fun _ h => h.1)); replace HK := AM (KeepBut.trans (KK HK.out) hk (.inl rfl)); replace HB := AM (hb); replace HI0 := AM (hi); (try clear hb); (try clear hk); (try clear hi); obtain ⟨Ao44, co44, eo44⟩ := Kd.S_slice HO_6.out; subst eo44) | ((with_reducible refine gate_callee (f := 32) rfl ?_); refine GL (some 71) rfl rfl Try.func32 #[.pointer (some ⟨g, 0, none⟩), .int .i64 (x6_3.length : Int)] rfl ?_; (with_reducible refine (spec_l01Below.calls g s0_0 t407 t408 (x6_3.length : Int) t409 t410 t411 w0 _ ?side1 ?side2 A37.out).mono ?_); (case side1 => exact II81 HI0.out); (case side2 => exact BB1 HB.out (IsS81.ge HI0.out)); rintro e w45 ⟨rfl, hi, hb, hk⟩; refine ⟨_, rfl, ?_⟩; replace HO_6 := AM (Kd.S_mono (Kd.S_keep (IsS81.apartS (show IsS81 w0 _ g s0_0 t407 t408 from (II81 HI0.out)) (SS HO_6.out) (by decide)) hk (fun _ h => h.2)) (fun _ h => h.1)); replace HK := AM (KeepBut.trans (KK HK.out) hk (.inl rfl)); replace HB := AM (hb); replace HI0 := AM (hi); (try clear hb); (try clear hk); (try clear hi)) | ((with_reducible refine gate_callee (f := 32) rfl ?_); refine GL (some 73) rfl rfl Try.func32 #[.pointer (some ⟨g, 0, none⟩), .int .i64 4] rfl ?_; (with_reducible refine (spec_l01Below.calls g s0_0 t410 t411 4 t412 t413 t414 w0 _ ?side1 ?side2 A38.out).mono ?_); (case side1 => exact II81 HI0.out); (case side2 => exact BB1 HB.out (IsS81.ge HI0.out)); rintro e w46 ⟨rfl, hi, hb, hk⟩; refine ⟨_, rfl, ?_⟩; replace HO_6 := AM (Kd.S_mono (Kd.S_keep (IsS81.apartS (show IsS81 w0 _ g s0_0 t410 t411 from (II81 HI0.out)) (SS HO_6.out) (by decide)) hk (fun _ h => h.2)) (fun _ h => h.1)); replace HK := AM (KeepBut.trans (KK HK.out) hk (.inl rfl)); replace HB := AM (hb); replace HI0 := AM (hi); (try clear hb); (try clear hk); (try clear hi); have p42 : 0 ≤ (t409 : Int) := DT; have q42 : (t409 : Int) < ((x6_3.length : Int) : Int) := DT; obtain ⟨go42, co42, eo42, gb42, gl42, cl42, HG42⟩ := Kd.S_form HO_6.out (by omega); (first | cases eo42 | (injection eo42 with ea_ en_ ec_; (first | subst ea_ | (injection ea_ with ea_; subst ea_)); subst ec_; clear en_)); have GB42 := AM gb42; have GG42 := AM HG42; clear gb42 gl42 HG42; obtain ⟨_, ce42, hcl42, hM42, hcc42, hfr42, _, _⟩ := Kd.S_elem HO_6.out z35 (t409 : Int) p42 q42; obtain ⟨ve42_2, rfl, ge42_2⟩ := k35_openM hM42; have hx42_0 : w46.cell? ⟨go42, (t409 : Int).toNat * 3, none⟩ = some (.int .i64 ((rd_T35 x6_3 t409).f0)) := hcc42 0 _ rfl; have hx42_1 : w46.cell? ⟨go42, (t409 : Int).toNat * 3 + 1, none⟩ = some (.bool ((rd_T35 x6_3 t409).f1)) := hcc42 1 _ rfl; have hx42_2 : w46.cell? ⟨go42, (t409 : Int).toNat * 3 + 2, none⟩ = some (ve42_2) := hcc42 2 _ rfl; have hf42_0 : w46.frozen? ⟨go42, (t409 : Int).toNat * 3, none⟩ = false := hfr42 0; have hf42_1 : w46.frozen? ⟨go42, (t409 : Int).toNat * 3 + 1, none⟩ = false := hfr42 1; have hf42_2 : w46.frozen? ⟨go42, (t409 : Int).toNat * 3 + 2, none⟩ = false := hfr42 2; clear hcl42 hcc42 hfr42 hM42; replace p42 := eq_true p42; replace q42 := eq_true q42; have HX47 := AM (show Kd.S k35 35 w46 w.heap.size (fun k_ => ((fun _ => True)) k_ ∧ ¬ ((fun _ => False)) k_) (.slice (some ⟨go42, 0, none⟩) x6_3.length co44) x6_3 from (by (with_reducible repeat (first | apply Kd.S_alloc | apply Kd.S_drewN | apply Kd.S_drew)); exact Kd.S_mono HO_6.out (fun k_ hk => ⟨trivial, fun e_ => e_⟩))); obtain ⟨oki47, ce47, hcl47, hM47, hcc47, hfr47, hoki47, hH47⟩ := Kd.S_elem HX47.out z35 (t409 : Int) DT (by have h_ : (t409 : Int) < ((x6_3.length : Int) : Int) := DT; first | exact h_ | (have e_ := (Kd.S_reads' HO_6.out).1; omega) | simpa using h_); obtain ⟨ve47_2, rfl, ge47_2⟩ := k35_openM hM47; have HP47 := Kd.S_seg hH47 DT (by have h_ : (t409 : Int) < ((x6_3.length : Int) : Int) := DT; first | exact h_ | (have e_ := (Kd.S_reads' HO_6.out).1; omega) | simpa using h_) (seg := [.bool false]) (j := 1) (show 2 ≤ 3 from by decide) (x' := (⟨(rd_T35 x6_3 t409).f0, false, (rd_T35 x6_3 t409).f2⟩ : S35)) (k35_mkM _ _ _ (⟨(rd_T35 x6_3 t409).f0, false, (rd_T35 x6_3 t409).f2⟩ : S35) (Kd.R_mono ge47_2 (fun _ h_ => Or.inl h_))) (fun _ hk => hk) (fun k_ hk_ => hk_.elim); have hx47_1 := hcc47 1 _ rfl; (try simp only [show (k35).sz = 3 from rfl, Nat.mul_one, Nat.add_zero] at hx47_1); have hf47_1 := hfr47 1; (try simp only [show (k35).sz = 3 from rfl, Nat.mul_one, Nat.add_zero] at hf47_1); clear hcl47 hcc47 hfr47 hM47 hoki47 hH47) | ((with_reducible refine gate_store (t := 4) (p := 83) rfl ?_); refine store_event (t := 4) (p := 83) (v := ?vo_w48) (w1 := (w46.setCell ⟨go42, (t409 : Int).toNat * 3 + 1, none⟩ (.bool false))) ?hg ?ho ?hn ?hr ?_; (case ho => rfl); (case hg => rfl); (case hn => rfl); (case hr => first | (go_simp; done) | (go_simp; rfl)); intro w48 hw; have hg : w46.grownBy w48 (some go42) := (by rw [hw]; exact HP47.2); have hp_ : Kd.S k35 35 w48 w.heap.size (fun _ => True) (.slice (some ⟨go42, 0, none⟩) x6_3.length co44) y415 := (by rw [hw, Ny415.out]; exact HP47.1); clear HP47; have n0_ := AM (hp_); have n1_ := AM (IsS81.grown (II81 HI0.out) hg (IsS81.own_neS HI0.out HO_6.out (by decide))); have n2_ := AM ((by rw [hw]; exact below_set (HB.out) (Nat.le_trans HL.out GB42.out) : Below w0.heap.size w0 w48)); have n3_ := AM (KeepBut.trans (KK HK.out) (KeepBut.of_grown hg g) (Kd.S_base2 HO_6.out)); clear HO_6; clear HI0; clear HB; clear HK; have HO_6 := n0_; have HI0 := n1_; have HB := n2_; have HK := n3_; clear n0_ n1_ n2_ n3_; clear hg hw hp_))
           go_roundg k3
           case measure => have := HK1.out; have := HK2.out; have := HK3.out; omega
           case rel => exact ⟨(y415), (wrap64 (x14_3 + 1)), (t413), (t414), FR, H', ⟨by have := HK1.out; have := HK2.out; have := HK3.out; omega⟩, ⟨(SS HO_6.out)⟩, ⟨(II81 HI0.out)⟩, ⟨(KK HK.out)⟩, ⟨(BB1 HB.out (IsS81.ge HI0.out))⟩⟩
          ·rw [if_neg c39] at H
           have c39b0 : (t412 == 0) = false := beq_eq_false_iff_ne.mpr c39
           have c39b1 : (t412 != 0) = true := bne_iff_ne.mpr c39
           by_cases c49 : t412 = 1
           ·rw [if_pos c49] at H
            have c49b0 : (t412 == 1) = true := beq_iff_eq.mpr c49
            have c49b1 : (t412 != 1) = false := bne_eq_false_iff_eq.mpr c49
            clear c49
            obtain ⟨y416, hy416⟩ : ∃ y_ : List (S60), y_ = (([] : List (S60))) := ⟨_, rfl⟩
            replace H : (if 0 ≤ t409 then (if t409 < (x6_3.length : Int) then (spec_l15Hosts.l2 k3 (x6_3.set (t409 : Int).toNat (⟨(rd_T35 x6_3 t409).f0, (rd_T35 x6_3 t409).f1, y416⟩ : S35)) (wrap64 (1 + t389)) x9_2 (wrap64 (x14_3 + 1)) s0_0 t413 t414) else (none)) else (none)) = some (r1, r2, r3, r4, r5, r6) := by first | (rw [hy416]; first | with_reducible exact H | with_reducible exact OB H) | with_reducible exact OB H | with_reducible exact H | (rw [hy416]; exact H) | exact H
            have Ny416 := AM hy416
            clear hy416
            by_cases c50 : 0 ≤ t409
            rotate_left
            ·rw [if_neg c50] at H; exact absurd H (by simp)
            rw [if_pos c50] at H
            have c50b0 := decide_eq_true c50
            clear c50
            by_cases c51 : t409 < (x6_3.length : Int)
            rotate_left
            ·rw [if_neg c51] at H; exact absurd H (by simp)
            rw [if_pos c51] at H
            have c51b0 := decide_eq_true c51
            clear c51
            obtain ⟨y419, hy419⟩ : ∃ y_ : List (S35), y_ = (x6_3.set (t409 : Int).toNat (⟨(rd_T35 x6_3 t409).f0, (rd_T35 x6_3 t409).f1, y416⟩ : S35)) := ⟨_, rfl⟩
            replace H : (spec_l15Hosts.l2 k3 y419 (wrap64 (1 + t389)) x9_2 (wrap64 (x14_3 + 1)) s0_0 t413 t414) = some (r1, r2, r3, r4, r5, r6) := by first | (rw [hy419]; first | with_reducible exact H | with_reducible exact OB H) | with_reducible exact OB H | with_reducible exact H | (rw [hy419]; exact H) | exact H
            have Ny419 := AM hy419
            clear hy419
            have H' := AM H
            clear H
            go_wp2_with (first | ((with_reducible refine gate_callee (f := 32) rfl ?_); refine GL (some 64) rfl rfl Try.func32 #[.pointer (some ⟨g, 0, none⟩), .int .i64 4] rfl ?_; (with_reducible refine (spec_l01Below.calls g s0_0 x1001_3 x1002_3 4 t406 t407 t408 w0 _ ?side1 ?side2 A35.out).mono ?_); (case side1 => exact II81 HI0.out); (case side2 => exact BB1 HB.out (IsS81.ge HI0.out)); rintro e w53 ⟨rfl, hi, hb, hk⟩; refine ⟨_, rfl, ?_⟩; replace HO_6 := AM (Kd.S_mono (Kd.S_keep (IsS81.apartS (show IsS81 w0 _ g s0_0 x1001_3 x1002_3 from (II81 HI0.out)) (SS HO_6.out) (by decide)) hk (fun _ h => h.2)) (fun _ h => h.1)); replace HK := AM (KeepBut.trans (KK HK.out) hk (.inl rfl)); replace HB := AM (hb); replace HI0 := AM (hi); (try clear hb); (try clear hk); (try clear hi); obtain ⟨Ao54, co54, eo54⟩ := Kd.S_slice HO_6.out; subst eo54) | ((with_reducible refine gate_callee (f := 32) rfl ?_); refine GL (some 71) rfl rfl Try.func32 #[.pointer (some ⟨g, 0, none⟩), .int .i64 (x6_3.length : Int)] rfl ?_; (with_reducible refine (spec_l01Below.calls g s0_0 t407 t408 (x6_3.length : Int) t409 t410 t411 w0 _ ?side1 ?side2 A37.out).mono ?_); (case side1 => exact II81 HI0.out); (case side2 => exact BB1 HB.out (IsS81.ge HI0.out)); rintro e w55 ⟨rfl, hi, hb, hk⟩; refine ⟨_, rfl, ?_⟩; replace HO_6 := AM (Kd.S_mono (Kd.S_keep (IsS81.apartS (show IsS81 w0 _ g s0_0 t407 t408 from (II81 HI0.out)) (SS HO_6.out) (by decide)) hk (fun _ h => h.2)) (fun _ h => h.1)); replace HK := AM (KeepBut.trans (KK HK.out) hk (.inl rfl)); replace HB := AM (hb); replace HI0 := AM (hi); (try clear hb); (try clear hk); (try clear hi)) | ((with_reducible refine gate_callee (f := 32) rfl ?_); refine GL (some 73) rfl rfl Try.func32 #[.pointer (some ⟨g, 0, none⟩), .int .i64 4] rfl ?_; (with_reducible refine (spec_l01Below.calls g s0_0 t410 t411 4 t412 t413 t414 w0 _ ?side1 ?side2 A38.out).mono ?_); (case side1 => exact II81 HI0.out); (case side2 => exact BB1 HB.out (IsS81.ge HI0.out)); rintro e w56 ⟨rfl, hi, hb, hk⟩; refine ⟨_, rfl, ?_⟩; replace HO_6 := AM (Kd.S_mono (Kd.S_keep (IsS81.apartS (show IsS81 w0 _ g s0_0 t410 t411 from (II81 HI0.out)) (SS HO_6.out) (by decide)) hk (fun _ h => h.2)) (fun _ h => h.1)); replace HK := AM (KeepBut.trans (KK HK.out) hk (.inl rfl)); replace HB := AM (hb); replace HI0 := AM (hi); (try clear hb); (try clear hk); (try clear hi)) | ((with_reducible refine gate_dst (N := 88) rfl ?_); refine Kd.R_lit k60 _ 60 ?hg (N := 88) ?hd (xs := ([] : List (S60))) (inner := []) (ok := fun _ => True) (okp := fun _ => True) ?hr ?hp (fun _ hk => hk) trivial (Below.refl _ _) (Nat.le_refl _) (by simp) ?_; (case hd => rfl); (case hg => rfl); (case hr => first | (go_simp; done) | (go_simp; rfl)); (case hp => exact (Reps.none _ _)); intro v417 w57 ho58 hb hg_ hnew_; have hstv417 := store_any (P := Try.prog) (by first | exact Kd.R_slice ho58 | exact Kd.S_slice ho58); have hfv417 := AM (by first | exact Kd.R_slice ho58 | exact Kd.S_slice ho58 : ∃ A_ c_, v417 = .slice A_ _ c_); clear hg_ hnew_; (first | rw [← Ny416.out] at ho58 | (simp only [Int.reduceToNat] at ho58; rw [← Ny416.out] at ho58)); have HO418 := AM (Kd.R_lower ho58 (keep_size (w := w) (g := g) (row := none) (KK HK.out))); replace HO_6 := AM (Kd.S_elder' (SS HO_6.out) (Kd.R_base ho58) hb); replace HK := AM (KeepBut.trans (KK HK.out) (KeepBut.of_below hb g none) (.inl rfl)); replace HB := AM (below_step ((BB1 HB.out (IsS81.ge HI0.out))) hb); replace HI0 := AM (IsS81.below (II81 HI0.out) hb); clear hb ho58; have p52 : 0 ≤ (t409 : Int) := DT; have q52 : (t409 : Int) < ((x6_3.length : Int) : Int) := DT; obtain ⟨go52, co52, eo52, gb52, gl52, cl52, HG52⟩ := Kd.S_form HO_6.out (by omega); (first | cases eo52 | (injection eo52 with ea_ en_ ec_; (first | subst ea_ | (injection ea_ with ea_; subst ea_)); subst ec_; clear en_)); have GB52 := AM gb52; have GG52 := AM HG52; clear gb52 gl52 HG52; obtain ⟨_, ce52, hcl52, hM52, hcc52, hfr52, _, _⟩ := Kd.S_elem HO_6.out z35 (t409 : Int) p52 q52; obtain ⟨ve52_2, rfl, ge52_2⟩ := k35_openM hM52; have hx52_0 : w57.cell? ⟨go52, (t409 : Int).toNat * 3, none⟩ = some (.int .i64 ((rd_T35 x6_3 t409).f0)) := hcc52 0 _ rfl; have hx52_1 : w57.cell? ⟨go52, (t409 : Int).toNat * 3 + 1, none⟩ = some (.bool ((rd_T35 x6_3 t409).f1)) := hcc52 1 _ rfl; have hx52_2 : w57.cell? ⟨go52, (t409 : Int).toNat * 3 + 2, none⟩ = some (ve52_2) := hcc52 2 _ rfl; have hf52_0 : w57.frozen? ⟨go52, (t409 : Int).toNat * 3, none⟩ = false := hfr52 0; have hf52_1 : w57.frozen? ⟨go52, (t409 : Int).toNat * 3 + 1, none⟩ = false := hfr52 1; have hf52_2 : w57.frozen? ⟨go52, (t409 : Int).toNat * 3 + 2, none⟩ = false := hfr52 2; clear hcl52 hcc52 hfr52 hM52; replace p52 := eq_true p52; replace q52 := eq_true q52; have n_ := AM (Kd.S_mono (ok' := (fun k_ => some k_ ≠ (v417 : Value).ownBlock)) HO_6.out (fun k_ hk => hk.2)); clear HO_6; have HO_6 := n_; clear n_; have HX59 := AM (show Kd.S k35 35 w57 w.heap.size (fun k_ => ((fun _ => True)) k_ ∧ ¬ ((fun k_ => some k_ = (v417 : Value).ownBlock)) k_) (.slice (some ⟨go52, 0, none⟩) x6_3.length co54) x6_3 from (by (with_reducible repeat (first | apply Kd.S_alloc | apply Kd.S_drewN | apply Kd.S_drew)); exact Kd.S_mono HO_6.out (fun k_ hk => ⟨trivial, fun e_ => hk e_⟩))); obtain ⟨oki59, ce59, hcl59, hM59, hcc59, hfr59, hoki59, hH59⟩ := Kd.S_elem HX59.out z35 (t409 : Int) DT (by have h_ : (t409 : Int) < ((x6_3.length : Int) : Int) := DT; first | exact h_ | (have e_ := (Kd.S_reads' HO_6.out).1; omega) | simpa using h_); obtain ⟨ve59_2, rfl, ge59_2⟩ := k35_openM hM59; have HP59 := Kd.S_seg hH59 DT (by have h_ : (t409 : Int) < ((x6_3.length : Int) : Int) := DT; first | exact h_ | (have e_ := (Kd.S_reads' HO_6.out).1; omega) | simpa using h_) (seg := [v417]) (j := 2) (show 3 ≤ 3 from by decide) (x' := (⟨(rd_T35 x6_3 t409).f0, (rd_T35 x6_3 t409).f1, y416⟩ : S35)) (k35_mkM _ _ _ (⟨(rd_T35 x6_3 t409).f0, (rd_T35 x6_3 t409).f1, y416⟩ : S35) (Kd.R_mono (Kd.R_tight rfl (Kd.R_mono (ok' := fun k_ => ((fun _ => True)) k_ ∧ k_ ≠ go52) (Kd.R_apart' (HO418.out) (Kd.S_typed HO_6.out) (by decide)) (fun k_ hk => ⟨trivial, fun e_ => (hk.2) (by rw [e_]; rfl)⟩))) (fun _ h_ => Or.inr (h_)))) (fun _ hk => hk) (fun k_ hk_ => ((Kd.R_mono (ok' := fun k_ => ((fun _ => True)) k_ ∧ k_ ≠ go52) (Kd.R_apart' (HO418.out) (Kd.S_typed HO_6.out) (by decide)) (fun k_ hk => ⟨trivial, fun e_ => (hk.2) (by rw [e_]; rfl)⟩))).1 k_ hk_.symm); have hx59_2 := hcc59 2 _ rfl; (try simp only [show (k35).sz = 3 from rfl, Nat.mul_one, Nat.add_zero] at hx59_2); have hf59_2 := hfr59 2; (try simp only [show (k35).sz = 3 from rfl, Nat.mul_one, Nat.add_zero] at hf59_2); clear hcl59 hcc59 hfr59 hM59 hoki59 hH59) | ((with_reducible refine gate_store (t := 33) (p := 90) rfl ?_); refine store_event (t := 33) (p := 90) (v := ?vo_w60) (w1 := (w57.setCell ⟨go52, (t409 : Int).toNat * 3 + 2, none⟩ (v417))) ?hg ?ho ?hn ?hr ?_; (case ho => rfl); (case hg => rfl); (case hn => rfl); (case hr => first | (obtain ⟨A_, c_, e_⟩ := hfv417.out; rw [e_]; first | (go_simp; done) | (go_simp; rfl)) | (go_simp; done) | (go_simp; rfl)); intro w60 hw; have hg : w57.grownBy w60 (some go52) := (by rw [hw]; exact HP59.2); have hp_ : Kd.S k35 35 w60 w.heap.size (fun _ => True) (.slice (some ⟨go52, 0, none⟩) x6_3.length co54) y419 := (by rw [hw, Ny419.out]; exact HP59.1); clear HP59; have n0_ := AM (hp_); have n1_ := AM (IsS81.grown (II81 HI0.out) hg (IsS81.own_neS HI0.out HO_6.out (by decide))); have n2_ := AM ((by rw [hw]; exact below_set (HB.out) (Nat.le_trans HL.out GB52.out) : Below w0.heap.size w0 w60)); have n3_ := AM (KeepBut.trans (KK HK.out) (KeepBut.of_grown hg g) (Kd.S_base2 HO_6.out)); clear HO_6; clear HI0; clear HB; clear HK; clear HO418; have HO_6 := n0_; have HI0 := n1_; have HB := n2_; have HK := n3_; clear n0_ n1_ n2_ n3_; clear hg hw hp_))
            go_roundg k3
            case measure => have := HK1.out; have := HK2.out; have := HK3.out; omega
            case rel => exact ⟨(y419), (wrap64 (x14_3 + 1)), (t413), (t414), FR, H', ⟨by have := HK1.out; have := HK2.out; have := HK3.out; omega⟩, ⟨(SS HO_6.out)⟩, ⟨(II81 HI0.out)⟩, ⟨(KK HK.out)⟩, ⟨(BB1 HB.out (IsS81.ge HI0.out))⟩⟩
           ·rw [if_neg c49] at H
            have c49b0 : (t412 == 1) = false := beq_eq_false_iff_ne.mpr c49
            have c49b1 : (t412 != 1) = true := bne_iff_ne.mpr c49
            by_cases c61 : t412 = 2
            ·rw [if_pos c61] at H
             have c61b0 : (t412 == 2) = true := beq_iff_eq.mpr c61
             have c61b1 : (t412 != 2) = false := bne_eq_false_iff_eq.mpr c61
             clear c61
             by_cases c62 : 0 ≤ t409
             rotate_left
             ·rw [if_neg c62] at H; exact absurd H (by simp)
             rw [if_pos c62] at H
             have c62b0 := decide_eq_true c62
             clear c62
             by_cases c63 : t409 < (x6_3.length : Int)
             rotate_left
             ·rw [if_neg c63] at H; exact absurd H (by simp)
             rw [if_pos c63] at H
             have c63b0 := decide_eq_true c63
             clear c63
             by_cases c64 : (((rd_T35 x6_3 t409).f2).length : Int) > 0
             ·rw [if_pos c64] at H
              have c64b0 := decide_eq_true c64
              have c64b1 : decide (0 < ((rd_T35 x6_3 t409).f2).length) = true := decide_eq_true (by omega)
              clear c64
              by_cases c65 : 0 < (((rd_T35 x6_3 t409).f2).length : Int)
              rotate_left
              ·rw [if_neg c65] at H; exact absurd H (by simp)
              rw [if_pos c65] at H
              have c65b0 := decide_eq_true c65
              have c65b1 : decide (0 < ((rd_T35 x6_3 t409).f2).length) = true := decide_eq_true (by omega)
              clear c65
              replace H := Option.bind_eq_some_iff.mp H
              obtain ⟨⟨t425, t426, t427⟩, A660, H⟩ := H
              replace H : ((spec_Spoil.f k3 ((rd_T35 x6_3 t409).f0) ((rd_T35 x6_3 t409).f1) ((rd_T35 x6_3 t409).f2) ((rd_T60 ((rd_T35 x6_3 t409).f2) 0).f0) ((rd_T60 ((rd_T35 x6_3 t409).f2) 0).f1) t425).bind fun bt428 => (spec_l15Hosts.l2 k3 (x6_3.set (t409 : Int).toNat (⟨bt428.1, bt428.2.1, bt428.2.2.1⟩ : S35)) (wrap64 (1 + t389)) x9_2 (wrap64 (x14_3 + 1)) s0_0 t426 t427)) = some (r1, r2, r3, r4, r5, r6) := H
              have A66 := AM A660
              clear A660
              replace H := Option.bind_eq_some_iff.mp H
              obtain ⟨⟨t428, t429, t430, t433⟩, A670, H⟩ := H
              replace H : (spec_l15Hosts.l2 k3 (x6_3.set (t409 : Int).toNat (⟨t428, t429, t430⟩ : S35)) (wrap64 (1 + t389)) x9_2 (wrap64 (x14_3 + 1)) s0_0 t426 t427) = some (r1, r2, r3, r4, r5, r6) := H
              have A67 := AM A670
              clear A670
              obtain ⟨y434, hy434⟩ : ∃ y_ : List (S35), y_ = (x6_3.set (t409 : Int).toNat (⟨t428, t429, t430⟩ : S35)) := ⟨_, rfl⟩
              replace H : (spec_l15Hosts.l2 k3 y434 (wrap64 (1 + t389)) x9_2 (wrap64 (x14_3 + 1)) s0_0 t426 t427) = some (r1, r2, r3, r4, r5, r6) := by first | (rw [hy434]; first | with_reducible exact H | with_reducible exact OB H) | with_reducible exact OB H | with_reducible exact H | (rw [hy434]; exact H) | exact H
              have Ny434 := AM hy434
              clear hy434
              have H' := AM H
              clear H
              try go_wp2_with (first | ((with_reducible refine gate_callee (f := 32) rfl ?_); refine GL (some 64) rfl rfl Try.func32 #[.pointer (some ⟨g, 0, none⟩), .int .i64 4] rfl ?_; (with_reducible refine (spec_l01Below.calls g s0_0 x1001_3 x1002_3 4 t406 t407 t408 w0 _ ?side1 ?side2 A35.out).mono ?_); (case side1 => exact II81 HI0.out); (case side2 => exact BB1 HB.out (IsS81.ge HI0.out)); rintro e w69 ⟨rfl, hi, hb, hk⟩; refine ⟨_, rfl, ?_⟩; replace HO_6 := AM (Kd.S_mono (Kd.S_keep (IsS81.apartS (show IsS81 w0 _ g s0_0 x1001_3 x1002_3 from (II81 HI0.out)) (SS HO_6.out) (by decide)) hk (fun _ h => h.2)) (fun _ h => h.1)); replace HK := AM (KeepBut.trans (KK HK.out) hk (.inl rfl)); replace HB := AM (hb); replace HI0 := AM (hi); (try clear hb); (try clear hk); (try clear hi); obtain ⟨Ao70, co70, eo70⟩ := Kd.S_slice HO_6.out; subst eo70) | ((with_reducible refine gate_callee (f := 32) rfl ?_); refine GL (some 71) rfl rfl Try.func32 #[.pointer (some ⟨g, 0, none⟩), .int .i64 (x6_3.length : Int)] rfl ?_; (with_reducible refine (spec_l01Below.calls g s0_0 t407 t408 (x6_3.length : Int) t409 t410 t411 w0 _ ?side1 ?side2 A37.out).mono ?_); (case side1 => exact II81 HI0.out); (case side2 => exact BB1 HB.out (IsS81.ge HI0.out)); rintro e w71 ⟨rfl, hi, hb, hk⟩; refine ⟨_, rfl, ?_⟩; replace HO_6 := AM (Kd.S_mono (Kd.S_keep (IsS81.apartS (show IsS81 w0 _ g s0_0 t407 t408 from (II81 HI0.out)) (SS HO_6.out) (by decide)) hk (fun _ h => h.2)) (fun _ h => h.1)); replace HK := AM (KeepBut.trans (KK HK.out) hk (.inl rfl)); replace HB := AM (hb); replace HI0 := AM (hi); (try clear hb); (try clear hk); (try clear hi)) | ((with_reducible refine gate_callee (f := 32) rfl ?_); refine GL (some 73) rfl rfl Try.func32 #[.pointer (some ⟨g, 0, none⟩), .int .i64 4] rfl ?_; (with_reducible refine (spec_l01Below.calls g s0_0 t410 t411 4 t412 t413 t414 w0 _ ?side1 ?side2 A38.out).mono ?_); (case side1 => exact II81 HI0.out); (case side2 => exact BB1 HB.out (IsS81.ge HI0.out)); rintro e w72 ⟨rfl, hi, hb, hk⟩; refine ⟨_, rfl, ?_⟩; replace HO_6 := AM (Kd.S_mono (Kd.S_keep (IsS81.apartS (show IsS81 w0 _ g s0_0 t410 t411 from (II81 HI0.out)) (SS HO_6.out) (by decide)) hk (fun _ h => h.2)) (fun _ h => h.1)); replace HK := AM (KeepBut.trans (KK HK.out) hk (.inl rfl)); replace HB := AM (hb); replace HI0 := AM (hi); (try clear hb); (try clear hk); (try clear hi); have p420 : 0 ≤ (t409 : Int) := DT; have q420 : t409 < (x6_3.length : Int) := DT; obtain ⟨ad420, A420_2, c420_2, e420, hx420_0, hx420_1, hx420_2, hl420_2, hi420_2⟩ := at_T35 (Kd.S_reads' HO_6.out).2.2 t409 p420 q420; cases e420; obtain ⟨ce420, hce420, hMe420, hcc420⟩ := Kd.S_get HO_6.out z35 t409 p420 (by first | exact q420 | exact DT | (have e_ := (Kd.S_reads' HO_6.out).1; omega)); obtain ⟨ve420_2, rfl, ge420_2⟩ := k35_openM hMe420; have hv420_2 := hcc420 2 _ rfl; rw [add_field _ _ 2 (by omega)] at hv420_2; replace hv420_2 := Option.some.inj (hv420_2.symm.trans hx420_2); rw [hv420_2] at ge420_2; have HL420_2 := AM (show Kd.R k60 60 _ _ _ _ ((rd_T35 x6_3 t409).f2) from ge420_2); clear hv420_2 ge420_2; clear hcc420 hce420; have HR420_2 := AM hi420_2; have HC420_2 := AM hl420_2; clear hi420_2 hl420_2; replace p420 := eq_true p420; replace q420 := eq_true q420; have p421 : 0 ≤ (t409 : Int) := DT; have q421 : t409 < (x6_3.length : Int) := DT; obtain ⟨ad421, A421_2, c421_2, e421, hx421_0, hx421_1, hx421_2, hl421_2, hi421_2⟩ := at_T35 (Kd.S_reads' HO_6.out).2.2 t409 p421 q421; obtain rfl : ad420 = ad421 := (by injection e421); obtain ⟨ce421, hce421, hMe421, hcc421⟩ := Kd.S_get HO_6.out z35 t409 p421 (by first | exact q421 | exact DT | (have e_ := (Kd.S_reads' HO_6.out).1; omega)); obtain ⟨ve421_2, rfl, ge421_2⟩ := k35_openM hMe421; have hv421_2 := hcc421 2 _ rfl; rw [add_field _ _ 2 (by omega)] at hv421_2; replace hv421_2 := Option.some.inj (hv421_2.symm.trans hx421_2); rw [hv421_2] at ge421_2; have HL421_2 := AM (show Kd.R k60 60 _ _ _ _ ((rd_T35 x6_3 t409).f2) from ge421_2); clear hv421_2 ge421_2; clear hcc421 hce421; have HR421_2 := AM hi421_2; have HC421_2 := AM hl421_2; clear hi421_2 hl421_2; replace p421 := eq_true p421; replace q421 := eq_true q421; have ea_ := Option.some.inj (hx420_2.symm.trans hx421_2); injection ea_ with ea_ en_ ec_; subst ea_; subst ec_; clear en_; have p422 : 0 ≤ (0 : Int) := (by omega); have q422 : 0 < (((rd_T35 x6_3 t409).f2).length : Int) := DT; obtain ⟨ad422, e422, hx422_0, hx422_1, hx422_2, hx422_3⟩ := at_T60 (CC HR421_2.out) 0 p422 q422; cases e422; have qi422 : (0 < ((rd_T35 x6_3 t409).f2).length) = True := eq_true (by omega); (try rw [show ((0 : Int)).toNat = 0 from rfl] at hx422_0); (try rw [show 0 * 4 = 0 from rfl] at hx422_0); (try rw [Addr.add_zero'] at hx422_0); (try rw [show ((0 : Int)).toNat = 0 from rfl] at hx422_1); (try rw [show 0 * 4 = 0 from rfl] at hx422_1); (try rw [Addr.add_zero'] at hx422_1); (try rw [show ((0 : Int)).toNat = 0 from rfl] at hx422_2); (try rw [show 0 * 4 = 0 from rfl] at hx422_2); (try rw [Addr.add_zero'] at hx422_2); (try rw [show ((0 : Int)).toNat = 0 from rfl] at hx422_3); (try rw [show 0 * 4 = 0 from rfl] at hx422_3); (try rw [Addr.add_zero'] at hx422_3); replace p422 := eq_true p422; replace q422 := eq_true q422) | ((with_reducible refine gate_dst (N := 16) rfl ?_); refine BX 16 #[.int .i64 0, .int .i64 0, .string (⟨#[]⟩ : ByteArray), .int .i64 0] 60 ?_; intro gb423 hg w73 hbox hb; have n0_ := AM (Kd.S_below (Kd.S_elderB (SS HO_6.out) gb423 (Nat.le_of_eq hg.symm)) hb); have n1_ := AM (Kd.R_below (Kd.R_elderB (RR HL420_2.out) gb423 (Nat.le_of_eq hg.symm)) hb); have n2_ := AM (Kd.R_below (Kd.R_elderB (RR HL421_2.out) gb423 (Nat.le_of_eq hg.symm)) hb); have n3_ := AM (IsS81.below (II81 HI0.out) hb); have n4_ := AM (Kd.C_below (CC HR420_2.out) hb); have n5_ := AM (Kd.C_below (CC HR421_2.out) hb); have n6_ := AM (KeepBut.trans (KK HK.out) (KeepBut.of_below hb g none) (.inl rfl)); have n7_ := AM (below_step ((BB1 HB.out (IsS81.ge HI0.out))) hb); have n8_ := AM (hbox); have n9_ := AM ((by rw [hg]; exact (keep_size (w := w) (g := g) (row := none) (KK HK.out)) : w.heap.size ≤ gb423)); have n10_ := AM ((Nat.le_trans HW0.out (by rw [hg]; exact (keep_size (w := w) (g := g) (row := none) (KK HK.out)) : w.heap.size ≤ gb423) : w0.heap.size ≤ gb423)); have n11_ := AM ((by rw [hg]; exact Nat.ne_of_lt (IsS81.lt (show IsS81 w0 _ g s0_0 t413 t414 from (II81 HI0.out))) : g ≠ gb423)); have n12_ := AM ((by rw [hg]; exact Nat.ne_of_gt (IsS81.lt (show IsS81 w0 _ g s0_0 t413 t414 from (II81 HI0.out))) : gb423 ≠ g)); clear HO_6; clear HL420_2; clear HL421_2; clear HI0; clear HR420_2; clear HR421_2; clear HK; clear HB; have HO_6 := n0_; have HL420_2 := n1_; have HL421_2 := n2_; have HI0 := n3_; have HR420_2 := n4_; have HR421_2 := n5_; have HK := n6_; have HB := n7_; have BK423 := n8_; have GW423 := n9_; have GE423 := n10_; have NB0_423 := n11_; have NB423_0 := n12_; clear n0_ n1_ n2_ n3_ n4_ n5_ n6_ n7_ n8_ n9_ n10_ n11_ n12_; clear hb hbox hg; have hnb74 := NB423_0.out; have hnc74 := NB0_423.out; have hcz75 := blk_cell BK423.out; have hfz75 := blk_frozen BK423.out) | ((with_reducible refine gate_store (t := 60) (p := 16) rfl ?_); refine store_event (t := 60) (p := 16) (v := ?vo_w76) (w1 := ((((w73.setCell ⟨gb423, 0, none⟩ (.int .i64 ((rd_T60 ((rd_T35 x6_3 t409).f2) 0).f0))).setCell ⟨gb423, 1, none⟩ (.int .i64 ((rd_T60 ((rd_T35 x6_3 t409).f2) 0).f1))).setCell ⟨gb423, 2, none⟩ (.string ((rd_T60 ((rd_T35 x6_3 t409).f2) 0).f2))).setCell ⟨gb423, 3, none⟩ (.int .i64 ((rd_T60 ((rd_T35 x6_3 t409).f2) 0).f3)))) ?hg ?ho ?hn ?hr ?_; (case ho => rfl); (case hg => rfl); (case hn => rfl); (case hr => first | (go_simp; done) | (go_simp; rfl)); intro w76 hw; have n0_ : Aside0 (Kd.S k35 35 w76 w.heap.size (fun k_ => k_ ≠ gb423) (.slice (some ad420) x6_3.length co70) x6_3) := ⟨(by rw [hw]; exact (by (with_reducible repeat (first | apply Kd.S_alloc | apply Kd.S_drewN | apply Kd.S_drew)); exact Kd.S_mono (Kd.S_far (p := ⟨gb423, 3, none⟩) (Kd.S_far (p := ⟨gb423, 2, none⟩) (Kd.S_far (p := ⟨gb423, 1, none⟩) (Kd.S_far (p := ⟨gb423, 0, none⟩) (Kd.S_mono HO_6.out (fun k_ hk => (⟨hk, hk.2⟩ : _ ∧ k_ ≠ gb423))) (fun _ hk => hk.2) (.int .i64 ((rd_T60 ((rd_T35 x6_3 t409).f2) 0).f0))) (fun _ hk => hk.2) (.int .i64 ((rd_T60 ((rd_T35 x6_3 t409).f2) 0).f1))) (fun _ hk => hk.2) (.string ((rd_T60 ((rd_T35 x6_3 t409).f2) 0).f2))) (fun _ hk => hk.2) (.int .i64 ((rd_T60 ((rd_T35 x6_3 t409).f2) 0).f3))) (fun _ hk => hk.1.2)))⟩; have n1_ : Aside0 (Kd.R k60 60 w76 w.heap.size (fun k_ => some k_ ≠ (.slice (some ad420) x6_3.length co70 : Value).ownBlock ∧ k_ ≠ gb423) (.slice (some ad422) ((rd_T35 x6_3 t409).f2).length c420_2) ((rd_T35 x6_3 t409).f2)) := ⟨(by rw [hw]; exact (by (with_reducible repeat (first | apply Kd.R_alloc | apply Kd.R_drewN | apply Kd.R_drew)); exact Kd.R_mono (Kd.R_far (p := ⟨gb423, 3, none⟩) (Kd.R_far (p := ⟨gb423, 2, none⟩) (Kd.R_far (p := ⟨gb423, 1, none⟩) (Kd.R_far (p := ⟨gb423, 0, none⟩) (Kd.R_mono HL420_2.out (fun k_ hk => (⟨hk, hk.2⟩ : _ ∧ k_ ≠ gb423))) (fun _ hk => hk.2) (.int .i64 ((rd_T60 ((rd_T35 x6_3 t409).f2) 0).f0))) (fun _ hk => hk.2) (.int .i64 ((rd_T60 ((rd_T35 x6_3 t409).f2) 0).f1))) (fun _ hk => hk.2) (.string ((rd_T60 ((rd_T35 x6_3 t409).f2) 0).f2))) (fun _ hk => hk.2) (.int .i64 ((rd_T60 ((rd_T35 x6_3 t409).f2) 0).f3))) (fun _ hk => ⟨hk.1.1.2, hk.1.2⟩)))⟩; have n2_ : Aside0 (Kd.R k60 60 w76 w.heap.size (fun k_ => some k_ ≠ (.slice (some ad420) x6_3.length co70 : Value).ownBlock ∧ k_ ≠ gb423) (.slice (some ad422) ((rd_T35 x6_3 t409).f2).length c420_2) ((rd_T35 x6_3 t409).f2)) := ⟨(by rw [hw]; exact (by (with_reducible repeat (first | apply Kd.R_alloc | apply Kd.R_drewN | apply Kd.R_drew)); exact Kd.R_mono (Kd.R_far (p := ⟨gb423, 3, none⟩) (Kd.R_far (p := ⟨gb423, 2, none⟩) (Kd.R_far (p := ⟨gb423, 1, none⟩) (Kd.R_far (p := ⟨gb423, 0, none⟩) (Kd.R_mono HL421_2.out (fun k_ hk => (⟨hk, hk.2⟩ : _ ∧ k_ ≠ gb423))) (fun _ hk => hk.2) (.int .i64 ((rd_T60 ((rd_T35 x6_3 t409).f2) 0).f0))) (fun _ hk => hk.2) (.int .i64 ((rd_T60 ((rd_T35 x6_3 t409).f2) 0).f1))) (fun _ hk => hk.2) (.string ((rd_T60 ((rd_T35 x6_3 t409).f2) 0).f2))) (fun _ hk => hk.2) (.int .i64 ((rd_T60 ((rd_T35 x6_3 t409).f2) 0).f3))) (fun _ hk => ⟨hk.1.1.2, hk.1.2⟩)))⟩; have n3_ : Aside0 (w76.heap[gb423]? = some (.cells #[.int .i64 ((rd_T60 ((rd_T35 x6_3 t409).f2) 0).f0), .int .i64 ((rd_T60 ((rd_T35 x6_3 t409).f2) 0).f1), .string ((rd_T60 ((rd_T35 x6_3 t409).f2) 0).f2), .int .i64 ((rd_T60 ((rd_T35 x6_3 t409).f2) 0).f3)] 60 (0, 0))) := ⟨(by rw [hw]; exact (by refine BD ?_; refine blk_put (cs := #[.int .i64 ((rd_T60 ((rd_T35 x6_3 t409).f2) 0).f0), .int .i64 ((rd_T60 ((rd_T35 x6_3 t409).f2) 0).f1), .string ((rd_T60 ((rd_T35 x6_3 t409).f2) 0).f2), .int .i64 0]) ?_ 3 _ rfl; refine BD ?_; refine blk_put (cs := #[.int .i64 ((rd_T60 ((rd_T35 x6_3 t409).f2) 0).f0), .int .i64 ((rd_T60 ((rd_T35 x6_3 t409).f2) 0).f1), .string (⟨#[]⟩ : ByteArray), .int .i64 0]) ?_ 2 _ rfl; refine BD ?_; refine blk_put (cs := #[.int .i64 ((rd_T60 ((rd_T35 x6_3 t409).f2) 0).f0), .int .i64 0, .string (⟨#[]⟩ : ByteArray), .int .i64 0]) ?_ 1 _ rfl; refine BD ?_; refine blk_put (cs := #[.int .i64 0, .int .i64 0, .string (⟨#[]⟩ : ByteArray), .int .i64 0]) ?_ 0 _ rfl; refine BD ?_; exact BK423.out))⟩; have n4_ : Aside0 (IsS81 w0 w76 g s0_0 t413 t414) := ⟨(by rw [hw]; exact (II811 HI0.out NB0_423.out))⟩; have n5_ : Aside0 (KeepBut w w76 g none) := ⟨(by rw [hw]; exact (KK1 HK.out GW423.out))⟩; have n6_ : Aside0 (Below w0.heap.size w0 w76) := ⟨(by rw [hw]; exact ((BB2 HB.out (IsS81.ge HI0.out) GE423.out)))⟩; clear hw; clear HO_6; clear HL420_2; clear HL421_2; clear BK423; clear HI0; clear HK; clear HB; have HO_6 := n0_; have HL420_2 := n1_; have HL421_2 := n2_; have BK423 := n3_; have HI0 := n4_; have HK := n5_; have HB := n6_; clear n0_ n1_ n2_ n3_ n4_ n5_ n6_; have p424 : 0 ≤ (t409 : Int) := DT; have q424 : t409 < (x6_3.length : Int) := DT; obtain ⟨ad424, A424_2, c424_2, e424, hx424_0, hx424_1, hx424_2, hl424_2, hi424_2⟩ := at_T35 (Kd.S_reads' HO_6.out).2.2 t409 p424 q424; obtain rfl : ad420 = ad424 := (by injection e424); obtain ⟨ce424, hce424, hMe424, hcc424⟩ := Kd.S_get HO_6.out z35 t409 p424 (by first | exact q424 | exact DT | (have e_ := (Kd.S_reads' HO_6.out).1; omega)); obtain ⟨ve424_2, rfl, ge424_2⟩ := k35_openM hMe424; have hv424_2 := hcc424 2 _ rfl; rw [add_field _ _ 2 (by omega)] at hv424_2; replace hv424_2 := Option.some.inj (hv424_2.symm.trans hx424_2); rw [hv424_2] at ge424_2; have HL424_2 := AM (show Kd.R k60 60 _ _ _ _ ((rd_T35 x6_3 t409).f2) from ge424_2); clear hv424_2 ge424_2; clear hcc424 hce424; have HR424_2 := AM hi424_2; have HC424_2 := AM hl424_2; clear hi424_2 hl424_2; replace p424 := eq_true p424; replace q424 := eq_true q424; have hcz77 := blk_cell BK423.out; have hfz77 := blk_frozen BK423.out))
              replace HO_6 := AM (Kd.S_drew HO_6.out)
              replace HL420_2 := AM (Kd.R_drew HL420_2.out)
              replace HL421_2 := AM (Kd.R_drew HL421_2.out)
              replace HL424_2 := AM (Kd.R_drew HL424_2.out)
              replace BK423 := AM (blk_drew BK423.out)
              replace HI0 := AM (IsS81.drew HI0.out)
              replace HK := AM (keep_drew HK.out)
              replace HB := AM (below_drew1 HB.out)
              refine start_ (n := 18) (S := fun w' => w'.cell? (ad420.add (t409.toNat * 3)) = some (.int .i64 (rd_T35 x6_3 t409).f0) ∧ w'.cell? ⟨(ad420.add (t409.toNat * 3)).block, (ad420.add (t409.toNat * 3)).off + 1, none⟩ = some (.bool (rd_T35 x6_3 t409).f1) ∧ w'.cell? ⟨(ad420.add (t409.toNat * 3)).block, (ad420.add (t409.toNat * 3)).off + 2, none⟩ = some (.slice A424_2 (rd_T35 x6_3 t409).f2.length c424_2) ∧ w'.cell? ⟨gb423, 0, none⟩ = some (.int .i64 ((rd_T60 ((rd_T35 x6_3 t409).f2) 0).f0)) ∧ w'.cell? ⟨gb423, 1, none⟩ = some (.int .i64 ((rd_T60 ((rd_T35 x6_3 t409).f2) 0).f1))) (ds := [12, 17]) (.replicate 18 false) (by kernel_rfl) rfl rfl ⟨hx424_0, hx424_1, hx424_2, (blk_cell BK423.out 0).trans rfl, (blk_cell BK423.out 1).trans rfl⟩ (fun hHeld => ?_)
              generalize w76.drew = w_d at HO_6 HL420_2 HL421_2 HL424_2 BK423 HI0 HK HB hHeld ⊢
              refine PU 0 108 ?_
              refine PU 1 109 ?_
              refine PU 2 110 ?_
              refine PU 3 111 ?_
              refine PU 4 112 ?_
              refine PU 6 114 ?_
              refine PU 8 116 ?_
              refine PU 10 118 ?_
              refine TK 5 113 hHeld ?_
              refine TK 7 115 hHeld ?_
              refine TK 9 117 hHeld ?_
              refine one_ (i := 11) (N := some 119) #[true, true, true, true, true, true, true, true, true, true, true, true, false, false, false, false, false, false] rfl rfl (by kernel_rfl) (by decide) (fun K hK => ?_)
              refine GO Try.func32 #[.pointer (some ⟨g, 0, none⟩), .int .i64 9] ?_
              (with_reducible refine (spec_l01Below.calls g s0_0 t413 t414 9 t425 t426 t427 w0 _ ?side1 ?side2 A66.out).mono ?_)
              (case side1 => exact II811 HI0.out NB0_423.out)
              (case side2 => exact BB2 HB.out (IsS81.ge HI0.out) GE423.out)
              rintro e w78 ⟨rfl, hi, hb, hk⟩
              refine ⟨_, rfl, ?_⟩
              have hne_ : (ad420.add (t409.toNat * 3)).block ≠ g := fun e_ => (IsS81.own_neS HI0.out HO_6.out (by decide)) (by show some g = some ad420.block; rw [← e_, addr_block])
              have hS0 := keep_cell hk hHeld.1 hne_
              have hS1 := keep_cell hk hHeld.2.1 hne_
              have hS2 := keep_cell hk hHeld.2.2.1 hne_
              have hS3 := keep_cell hk hHeld.2.2.2.1 NB423_0.out
              have hS4 := keep_cell hk hHeld.2.2.2.2 NB423_0.out
              clear hne_
              replace HO_6 := AM (Kd.S_mono (Kd.S_keep (IsS81.apartS (show IsS81 w0 _ g s0_0 t413 t414 from (II811 HI0.out NB0_423.out)) (SS HO_6.out) (by decide)) hk (fun _ h => h.2)) (fun _ h => h.1)); replace HL420_2 := AM (Kd.R_mono (Kd.R_keep (IsS81.apart (show IsS81 w0 _ g s0_0 t413 t414 from (II811 HI0.out NB0_423.out)) (RR HL420_2.out) (by decide)) hk (fun _ h => h.2)) (fun _ h => h.1)); replace HL421_2 := AM (Kd.R_mono (Kd.R_keep (IsS81.apart (show IsS81 w0 _ g s0_0 t413 t414 from (II811 HI0.out NB0_423.out)) (RR HL421_2.out) (by decide)) hk (fun _ h => h.2)) (fun _ h => h.1)); replace BK423 := AM (KeepBut.blk hk (g' := gb423) (o := .cells #[.int .i64 ((rd_T60 ((rd_T35 x6_3 t409).f2) 0).f0), .int .i64 ((rd_T60 ((rd_T35 x6_3 t409).f2) 0).f1), .string ((rd_T60 ((rd_T35 x6_3 t409).f2) 0).f2), .int .i64 ((rd_T60 ((rd_T35 x6_3 t409).f2) 0).f3)] 60 (0, 0)) (BD BK423.out) NB423_0.out (by simp)); replace HL424_2 := AM (Kd.R_mono (Kd.R_keep (IsS81.apart (show IsS81 w0 _ g s0_0 t413 t414 from (II811 HI0.out NB0_423.out)) (RR HL424_2.out) (by decide)) hk (fun _ h => h.2)) (fun _ h => h.1)); replace HK := AM (KeepBut.trans (KK1 HK.out GW423.out) hk (.inl rfl)); replace HB := AM (hb); replace HI0 := AM (hi)
              (try clear hb)
              (try clear hk)
              (try clear hi)
              refine hK.out _ _ ⟨hS0, hS1, hS2, hS3, hS4⟩ (fun hHeld => ?_)
              clear hK K
              refine NM 119 ?_
              refine last_ (i := 12) (N := some 120) #[true, true, true, true, true, true, true, true, true, true, true, true, true, false, false, false, false, false] rfl rfl (by kernel_rfl) (by decide) (fun K hK => ?_)
              refine GO Try.func53 #[.agg #[.int .i64 ((rd_T35 x6_3 t409).f0), .bool ((rd_T35 x6_3 t409).f1), .slice A424_2 ((rd_T35 x6_3 t409).f2).length c424_2], .int .i64 ((rd_T60 ((rd_T35 x6_3 t409).f2) 0).f0), .int .i64 ((rd_T60 ((rd_T35 x6_3 t409).f2) 0).f1), .int .i64 t425] ?_
              (with_reducible refine (spec_Spoil.calls k3 ((rd_T35 x6_3 t409).f0) ((rd_T35 x6_3 t409).f1) _ _ ((rd_T35 x6_3 t409).f2) ((rd_T60 ((rd_T35 x6_3 t409).f2) 0).f0) ((rd_T60 ((rd_T35 x6_3 t409).f2) 0).f1) t425 t428 t429 t430 t433 _ ?side1 ?side2 A67.out).mono ?_)
              (case side1 => repeat (first | exact ((Kd.R_reads' (RR HL424_2.out)).2.2) | (with_reducible refine Kd.C_alloc ?_ _) | (with_reducible refine Kd.C_drewN ?_ _) | (with_reducible refine Kd.C_drew ?_)))
              (case side2 => exact HC424_2.out)
              rintro e w79 ⟨v431, rfl, ho0, hb⟩
              refine ⟨_, rfl, ?_⟩
              have hstv431 := store_any (P := Try.prog) (by first | exact Kd.R_slice ho0 | exact Kd.S_slice ho0)
              have hfv431 := AM (by first | exact Kd.R_slice ho0 | exact Kd.S_slice ho0 : ∃ A_ c_, v431 = .slice A_ _ c_)
              have HO432 := AM (Kd.R_lower (Kd.R_newB (Kd.R_new' (Kd.R_new' (Kd.R_new' ho0 (Kd.R_lt (RR HL420_2.out))) (Kd.R_lt (RR HL421_2.out))) (Kd.R_lt (RR HL424_2.out))) (g := gb423) (o := .cells #[.int .i64 ((rd_T60 ((rd_T35 x6_3 t409).f2) 0).f0), .int .i64 ((rd_T60 ((rd_T35 x6_3 t409).f2) 0).f1), .string ((rd_T60 ((rd_T35 x6_3 t409).f2) 0).f2), .int .i64 ((rd_T60 ((rd_T35 x6_3 t409).f2) 0).f3)] 60 (0, 0)) (BD BK423.out)) (keep_size (w := w) (g := g) (row := none) (KK1 HK.out GW423.out))); replace HO_6 := AM (Kd.S_elder' (SS HO_6.out) (Kd.R_base ho0) hb); replace HL420_2 := AM (Kd.R_elder' (RR HL420_2.out) (Kd.R_base ho0) hb); replace HL421_2 := AM (Kd.R_elder' (RR HL421_2.out) (Kd.R_base ho0) hb); replace HL424_2 := AM (Kd.R_elder' (RR HL424_2.out) (Kd.R_base ho0) hb); replace BK423 := AM (KB BK423.out hb); replace HK := AM (KeepBut.trans (KK1 HK.out GW423.out) (KeepBut.of_below hb g none) (.inl rfl)); replace HB := AM (below_step ((BB2 HB.out (IsS81.ge HI0.out) GE423.out)) hb); replace HI0 := AM (IsS81.below (II811 HI0.out NB0_423.out) hb)
              (try clear hb)
              (try clear ho0)
              have p68 : 0 ≤ (t409 : Int) := DT
              have q68 : (t409 : Int) < ((x6_3.length : Int) : Int) := DT
              obtain ⟨go68, co68, eo68, gb68, gl68, cl68, HG68⟩ := Kd.S_form HO_6.out (by omega)
              (first | cases eo68 | (injection eo68 with ea_ en_ ec_; (first | subst ea_ | (injection ea_ with ea_; subst ea_)); subst ec_; clear en_))
              have GB68 := AM gb68
              have GG68 := AM HG68
              clear gb68 gl68 HG68
              (first | simp only [add_plain] at hx420_0 | skip)
              (first | simp only [add_plain] at hx420_1 | skip)
              (first | simp only [add_plain] at hx420_2 | skip)
              (first | simp only [add_plain] at hx421_0 | skip)
              (first | simp only [add_plain] at hx421_1 | skip)
              (first | simp only [add_plain] at hx421_2 | skip)
              (first | simp only [add_plain] at hx424_0 | skip)
              (first | simp only [add_plain] at hx424_1 | skip)
              (first | simp only [add_plain] at hx424_2 | skip)
              obtain ⟨_, ce68, hcl68, hM68, hcc68, hfr68, _, _⟩ := Kd.S_elem HO_6.out z35 (t409 : Int) p68 q68
              obtain ⟨ve68_2, rfl, ge68_2⟩ := k35_openM hM68
              have hx68_0 : w79.cell? ⟨go68, (t409 : Int).toNat * 3, none⟩ = some (.int .i64 ((rd_T35 x6_3 t409).f0)) := hcc68 0 _ rfl
              have hx68_1 : w79.cell? ⟨go68, (t409 : Int).toNat * 3 + 1, none⟩ = some (.bool ((rd_T35 x6_3 t409).f1)) := hcc68 1 _ rfl
              have hx68_2 : w79.cell? ⟨go68, (t409 : Int).toNat * 3 + 2, none⟩ = some (ve68_2) := hcc68 2 _ rfl
              have hf68_0 : w79.frozen? ⟨go68, (t409 : Int).toNat * 3, none⟩ = false := hfr68 0
              have hf68_1 : w79.frozen? ⟨go68, (t409 : Int).toNat * 3 + 1, none⟩ = false := hfr68 1
              have hf68_2 : w79.frozen? ⟨go68, (t409 : Int).toNat * 3 + 2, none⟩ = false := hfr68 2
              clear hcl68 hcc68 hfr68 hM68
              replace p68 := eq_true p68
              replace q68 := eq_true q68
              have HX80 := AM (show Kd.S k35 35 w79 w.heap.size (fun k_ => ((fun k_ => k_ ≠ gb423)) k_ ∧ ¬ ((fun k_ => some k_ = (v431 : Value).ownBlock)) k_) (.slice (some ⟨go68, 0, none⟩) x6_3.length co70) x6_3 from (by (with_reducible repeat (first | apply Kd.S_alloc | apply Kd.S_drewN | apply Kd.S_drew)); exact Kd.S_mono HO_6.out (fun k_ hk => ⟨hk.1, fun e_ => hk.2 e_⟩)))
              obtain ⟨oki80, ce80, hcl80, hM80, hcc80, hfr80, hoki80, hH80⟩ := Kd.S_elem HX80.out z35 (t409 : Int) DT (by have h_ : (t409 : Int) < ((x6_3.length : Int) : Int) := DT; first | exact h_ | (have e_ := (Kd.S_reads' HO_6.out).1; omega) | simpa using h_)
              obtain ⟨ve80_2, rfl, ge80_2⟩ := k35_openM hM80
              have HP80 := Kd.S_seg hH80 DT (by have h_ : (t409 : Int) < ((x6_3.length : Int) : Int) := DT; first | exact h_ | (have e_ := (Kd.S_reads' HO_6.out).1; omega) | simpa using h_) (seg := [.int .i64 t428, .bool t429, v431]) (j := 0) (show 3 ≤ 3 from by decide) (x' := (⟨t428, t429, t430⟩ : S35)) (k35_mkM _ _ _ (⟨t428, t429, t430⟩ : S35) (Kd.R_mono (Kd.R_tight rfl (Kd.R_mono (ok' := fun k_ => ((fun k_ => k_ ≠ gb423)) k_ ∧ k_ ≠ go68) (Kd.R_apart' (HO432.out) (Kd.S_typed HO_6.out) (by decide)) (fun k_ hk => ⟨hk.1.2, fun e_ => (hk.2) (by rw [e_]; rfl)⟩))) (fun _ h_ => Or.inr (h_)))) (fun _ hk => hk) (fun k_ hk_ => ((Kd.R_mono (ok' := fun k_ => ((fun k_ => k_ ≠ gb423)) k_ ∧ k_ ≠ go68) (Kd.R_apart' (HO432.out) (Kd.S_typed HO_6.out) (by decide)) (fun k_ hk => ⟨hk.1.2, fun e_ => (hk.2) (by rw [e_]; rfl)⟩))).1 k_ hk_.symm)
              have hx80_0 := hcc80 0 _ rfl
              (try simp only [show (k35).sz = 3 from rfl, Nat.mul_one, Nat.add_zero] at hx80_0)
              have hf80_0 := hfr80 0
              (try simp only [show (k35).sz = 3 from rfl, Nat.mul_one, Nat.add_zero] at hf80_0)
              have hx80_1 := hcc80 1 _ rfl
              (try simp only [show (k35).sz = 3 from rfl, Nat.mul_one, Nat.add_zero] at hx80_1)
              have hf80_1 := hfr80 1
              (try simp only [show (k35).sz = 3 from rfl, Nat.mul_one, Nat.add_zero] at hf80_1)
              have hx80_2 := hcc80 2 _ rfl
              (try simp only [show (k35).sz = 3 from rfl, Nat.mul_one, Nat.add_zero] at hx80_2)
              have hf80_2 := hfr80 2
              (try simp only [show (k35).sz = 3 from rfl, Nat.mul_one, Nat.add_zero] at hf80_2)
              clear hcl80 hcc80 hfr80 hM80 hoki80 hH80
              refine hK.out _ _ ?_
              clear hK K
              refine NM 120 ?_
              refine PU 13 107 ?_
              refine PU 14 121 ?_
              refine PU 15 122 ?_
              refine PU 16 123 ?_
              refine last_ (i := 17) (N := none) #[true, true, true, true, true, true, true, true, true, true, true, true, true, true, true, true, true, true] rfl rfl (by kernel_rfl) (by decide) (fun K hK => ?_)
              refine skip_ (w1 := (((w79.setCell ⟨go68, (t409 : Int).toNat * 3, none⟩ (.int .i64 t428)).setCell ⟨go68, (t409 : Int).toNat * 3 + 1, none⟩ (.bool t429)).setCell ⟨go68, (t409 : Int).toNat * 3 + 2, none⟩ (v431))) (by rfl) rfl ?_ ?_
              ·obtain ⟨A_, c_, e_⟩ := hfv431.out
               rw [e_]
               first | (go_simp; done) | (go_simp; rfl)
              refine hK.out _ _ ?_
              clear hK K
              refine done_ (by kernel_rfl) ?_
              obtain ⟨w81, hw⟩ : ∃ w_, w_ = (((w79.setCell ⟨go68, (t409 : Int).toNat * 3, none⟩ (.int .i64 t428)).setCell ⟨go68, (t409 : Int).toNat * 3 + 1, none⟩ (.bool t429)).setCell ⟨go68, (t409 : Int).toNat * 3 + 2, none⟩ (v431)) := ⟨_, rfl⟩
              rw [← hw]
              have hg : w79.grownBy w81 (some go68) := (by rw [hw]; exact HP80.2)
              have hp_ : Kd.S k35 35 w81 w.heap.size (fun k_ => k_ ≠ gb423) (.slice (some ⟨go68, 0, none⟩) x6_3.length co70) y434 := (by rw [hw, Ny434.out]; exact HP80.1)
              clear HP80
              have n0_ := AM (hp_); have n1_ := AM (IsS81.grown (II811 HI0.out NB0_423.out) hg (IsS81.own_neS HI0.out HO_6.out (by decide))); have n2_ := AM (Kd.R_after (v := (.slice (some ⟨go68, 0, none⟩) x6_3.length co70)) (v1 := (.slice (some ⟨go68, 0, none⟩) x6_3.length co70)) (ok := (fun k_ => some k_ ≠ (v431 : Value).ownBlock ∧ k_ ≠ gb423)) (by (with_reducible repeat (first | apply Kd.R_alloc | apply Kd.R_drewN | apply Kd.R_drew)); exact Kd.R_mono HL420_2.out (by first | exact (fun _ hk => ⟨⟨hk.2, hk.1.2⟩, hk.1.1⟩) | exact (fun _ hk => PT hk))) hg (.inl rfl)); have n3_ := AM (Kd.R_after (v := (.slice (some ⟨go68, 0, none⟩) x6_3.length co70)) (v1 := (.slice (some ⟨go68, 0, none⟩) x6_3.length co70)) (ok := (fun k_ => some k_ ≠ (v431 : Value).ownBlock ∧ k_ ≠ gb423)) (by (with_reducible repeat (first | apply Kd.R_alloc | apply Kd.R_drewN | apply Kd.R_drew)); exact Kd.R_mono HL421_2.out (by first | exact (fun _ hk => ⟨⟨hk.2, hk.1.2⟩, hk.1.1⟩) | exact (fun _ hk => PT hk))) hg (.inl rfl)); have n4_ := AM (blk_grown (g := gb423) (o := .cells #[.int .i64 ((rd_T60 ((rd_T35 x6_3 t409).f2) 0).f0), .int .i64 ((rd_T60 ((rd_T35 x6_3 t409).f2) 0).f1), .string ((rd_T60 ((rd_T35 x6_3 t409).f2) 0).f2), .int .i64 ((rd_T60 ((rd_T35 x6_3 t409).f2) 0).f3)] 60 (0, 0)) (BD BK423.out) hg (Kd.S_ne HO_6.out BK423.out (by decide))); have n5_ := AM (Kd.R_after (v := (.slice (some ⟨go68, 0, none⟩) x6_3.length co70)) (v1 := (.slice (some ⟨go68, 0, none⟩) x6_3.length co70)) (ok := (fun k_ => some k_ ≠ (v431 : Value).ownBlock ∧ k_ ≠ gb423)) (by (with_reducible repeat (first | apply Kd.R_alloc | apply Kd.R_drewN | apply Kd.R_drew)); exact Kd.R_mono HL424_2.out (by first | exact (fun _ hk => ⟨⟨hk.2, hk.1.1⟩, hk.1.2⟩) | exact (fun _ hk => PT hk))) hg (.inl rfl)); have n6_ := AM ((by rw [hw]; exact below_set (below_set (below_set (HB.out) (Nat.le_trans HL.out GB68.out)) (Nat.le_trans HL.out GB68.out)) (Nat.le_trans HL.out GB68.out) : Below w0.heap.size w0 w81)); have n7_ := AM (KeepBut.trans (KK1 HK.out GW423.out) (KeepBut.of_grown hg g) (Kd.S_base2 HO_6.out)); clear HO_6; clear HI0; clear HL420_2; clear HL421_2; clear BK423; clear HL424_2; clear HB; clear HK; clear HO432; have HO_6 := n0_; have HI0 := n1_; have HL420_2 := n2_; have HL421_2 := n3_; have BK423 := n4_; have HL424_2 := n5_; have HB := n6_; have HK := n7_; clear n0_ n1_ n2_ n3_ n4_ n5_ n6_ n7_
              clear hg hw hp_
              try go_wp2
              go_roundg k3
              case measure => have := HK1.out; have := HK2.out; have := HK3.out; omega
              case rel => exact ⟨(y434), (wrap64 (x14_3 + 1)), (t426), (t427), FR, H', ⟨by have := HK1.out; have := HK2.out; have := HK3.out; omega⟩, ⟨by (with_reducible repeat (first | apply Kd.S_alloc | apply Kd.S_drewN | apply Kd.S_drew)); exact Kd.S_mono HO_6.out (fun _ hk => trivial)⟩, ⟨(II811 HI0.out NB0_423.out)⟩, ⟨(KK1 HK.out GW423.out)⟩, ⟨(BB2 HB.out (IsS81.ge HI0.out) GE423.out)⟩⟩
             ·rw [if_neg c64] at H
              have c64b0 := decide_eq_false c64
              have c64b1 : decide (0 < ((rd_T35 x6_3 t409).f2).length) = false := decide_eq_false (by omega)
              clear c64
              have H' := AM H
              clear H
              go_wp2_with (first | ((with_reducible refine gate_callee (f := 32) rfl ?_); refine GL (some 64) rfl rfl Try.func32 #[.pointer (some ⟨g, 0, none⟩), .int .i64 4] rfl ?_; (with_reducible refine (spec_l01Below.calls g s0_0 x1001_3 x1002_3 4 t406 t407 t408 w0 _ ?side1 ?side2 A35.out).mono ?_); (case side1 => exact II81 HI0.out); (case side2 => exact BB1 HB.out (IsS81.ge HI0.out)); rintro e w82 ⟨rfl, hi, hb, hk⟩; refine ⟨_, rfl, ?_⟩; replace HO_6 := AM (Kd.S_mono (Kd.S_keep (IsS81.apartS (show IsS81 w0 _ g s0_0 x1001_3 x1002_3 from (II81 HI0.out)) (SS HO_6.out) (by decide)) hk (fun _ h => h.2)) (fun _ h => h.1)); replace HK := AM (KeepBut.trans (KK HK.out) hk (.inl rfl)); replace HB := AM (hb); replace HI0 := AM (hi); (try clear hb); (try clear hk); (try clear hi); obtain ⟨Ao83, co83, eo83⟩ := Kd.S_slice HO_6.out; subst eo83) | ((with_reducible refine gate_callee (f := 32) rfl ?_); refine GL (some 71) rfl rfl Try.func32 #[.pointer (some ⟨g, 0, none⟩), .int .i64 (x6_3.length : Int)] rfl ?_; (with_reducible refine (spec_l01Below.calls g s0_0 t407 t408 (x6_3.length : Int) t409 t410 t411 w0 _ ?side1 ?side2 A37.out).mono ?_); (case side1 => exact II81 HI0.out); (case side2 => exact BB1 HB.out (IsS81.ge HI0.out)); rintro e w84 ⟨rfl, hi, hb, hk⟩; refine ⟨_, rfl, ?_⟩; replace HO_6 := AM (Kd.S_mono (Kd.S_keep (IsS81.apartS (show IsS81 w0 _ g s0_0 t407 t408 from (II81 HI0.out)) (SS HO_6.out) (by decide)) hk (fun _ h => h.2)) (fun _ h => h.1)); replace HK := AM (KeepBut.trans (KK HK.out) hk (.inl rfl)); replace HB := AM (hb); replace HI0 := AM (hi); (try clear hb); (try clear hk); (try clear hi)) | ((with_reducible refine gate_callee (f := 32) rfl ?_); refine GL (some 73) rfl rfl Try.func32 #[.pointer (some ⟨g, 0, none⟩), .int .i64 4] rfl ?_; (with_reducible refine (spec_l01Below.calls g s0_0 t410 t411 4 t412 t413 t414 w0 _ ?side1 ?side2 A38.out).mono ?_); (case side1 => exact II81 HI0.out); (case side2 => exact BB1 HB.out (IsS81.ge HI0.out)); rintro e w85 ⟨rfl, hi, hb, hk⟩; refine ⟨_, rfl, ?_⟩; replace HO_6 := AM (Kd.S_mono (Kd.S_keep (IsS81.apartS (show IsS81 w0 _ g s0_0 t410 t411 from (II81 HI0.out)) (SS HO_6.out) (by decide)) hk (fun _ h => h.2)) (fun _ h => h.1)); replace HK := AM (KeepBut.trans (KK HK.out) hk (.inl rfl)); replace HB := AM (hb); replace HI0 := AM (hi); (try clear hb); (try clear hk); (try clear hi); have p420 : 0 ≤ (t409 : Int) := DT; have q420 : t409 < (x6_3.length : Int) := DT; obtain ⟨ad420, A420_2, c420_2, e420, hx420_0, hx420_1, hx420_2, hl420_2, hi420_2⟩ := at_T35 (Kd.S_reads' HO_6.out).2.2 t409 p420 q420; cases e420; obtain ⟨ce420, hce420, hMe420, hcc420⟩ := Kd.S_get HO_6.out z35 t409 p420 (by first | exact q420 | exact DT | (have e_ := (Kd.S_reads' HO_6.out).1; omega)); obtain ⟨ve420_2, rfl, ge420_2⟩ := k35_openM hMe420; have hv420_2 := hcc420 2 _ rfl; rw [add_field _ _ 2 (by omega)] at hv420_2; replace hv420_2 := Option.some.inj (hv420_2.symm.trans hx420_2); rw [hv420_2] at ge420_2; have HL420_2 := AM (show Kd.R k60 60 _ _ _ _ ((rd_T35 x6_3 t409).f2) from ge420_2); clear hv420_2 ge420_2; clear hcc420 hce420; have HR420_2 := AM hi420_2; have HC420_2 := AM hl420_2; clear hi420_2 hl420_2; replace p420 := eq_true p420; replace q420 := eq_true q420))
              go_roundg k3
              case measure => have := HK1.out; have := HK2.out; have := HK3.out; omega
              case rel => exact ⟨(x6_3), (wrap64 (x14_3 + 1)), (t413), (t414), FR, H', ⟨by have := HK1.out; have := HK2.out; have := HK3.out; omega⟩, ⟨(SS HO_6.out)⟩, ⟨(II81 HI0.out)⟩, ⟨(KK HK.out)⟩, ⟨(BB1 HB.out (IsS81.ge HI0.out))⟩⟩
            ·rw [if_neg c61] at H
             have c61b0 : (t412 == 2) = false := beq_eq_false_iff_ne.mpr c61
             have c61b1 : (t412 != 2) = true := bne_iff_ne.mpr c61
             by_cases c86 : 0 ≤ t409
             rotate_left
             ·rw [if_neg c86] at H; exact absurd H (by simp)
             rw [if_pos c86] at H
             have c86b0 := decide_eq_true c86
             clear c86
             by_cases c87 : t409 < (x6_3.length : Int)
             rotate_left
             ·rw [if_neg c87] at H; exact absurd H (by simp)
             rw [if_pos c87] at H
             have c87b0 := decide_eq_true c87
             clear c87
             obtain ⟨y435, hy435⟩ : ∃ y_ : List (S35), y_ = (x6_3.set (t409 : Int).toNat (⟨(rd_T35 x6_3 t409).f0, true, (rd_T35 x6_3 t409).f2⟩ : S35)) := ⟨_, rfl⟩
             replace H : (spec_l15Hosts.l2 k3 y435 (wrap64 (1 + t389)) x9_2 (wrap64 (x14_3 + 1)) s0_0 t413 t414) = some (r1, r2, r3, r4, r5, r6) := by first | (rw [hy435]; first | with_reducible exact H | with_reducible exact OB H) | with_reducible exact OB H | with_reducible exact H | (rw [hy435]; exact H) | exact H
             have Ny435 := AM hy435
             clear hy435
             have H' := AM H
             clear H
             go_wp2_with (first | ((with_reducible refine gate_callee (f := 32) rfl ?_); refine GL (some 64) rfl rfl Try.func32 #[.pointer (some ⟨g, 0, none⟩), .int .i64 4] rfl ?_; (with_reducible refine (spec_l01Below.calls g s0_0 x1001_3 x1002_3 4 t406 t407 t408 w0 _ ?side1 ?side2 A35.out).mono ?_); (case side1 => exact II81 HI0.out); (case side2 => exact BB1 HB.out (IsS81.ge HI0.out)); rintro e w89 ⟨rfl, hi, hb, hk⟩; refine ⟨_, rfl, ?_⟩; replace HO_6 := AM (Kd.S_mono (Kd.S_keep (IsS81.apartS (show IsS81 w0 _ g s0_0 x1001_3 x1002_3 from (II81 HI0.out)) (SS HO_6.out) (by decide)) hk (fun _ h => h.2)) (fun _ h => h.1)); replace HK := AM (KeepBut.trans (KK HK.out) hk (.inl rfl)); replace HB := AM (hb); replace HI0 := AM (hi); (try clear hb); (try clear hk); (try clear hi); obtain ⟨Ao90, co90, eo90⟩ := Kd.S_slice HO_6.out; subst eo90) | ((with_reducible refine gate_callee (f := 32) rfl ?_); refine GL (some 71) rfl rfl Try.func32 #[.pointer (some ⟨g, 0, none⟩), .int .i64 (x6_3.length : Int)] rfl ?_; (with_reducible refine (spec_l01Below.calls g s0_0 t407 t408 (x6_3.length : Int) t409 t410 t411 w0 _ ?side1 ?side2 A37.out).mono ?_); (case side1 => exact II81 HI0.out); (case side2 => exact BB1 HB.out (IsS81.ge HI0.out)); rintro e w91 ⟨rfl, hi, hb, hk⟩; refine ⟨_, rfl, ?_⟩; replace HO_6 := AM (Kd.S_mono (Kd.S_keep (IsS81.apartS (show IsS81 w0 _ g s0_0 t407 t408 from (II81 HI0.out)) (SS HO_6.out) (by decide)) hk (fun _ h => h.2)) (fun _ h => h.1)); replace HK := AM (KeepBut.trans (KK HK.out) hk (.inl rfl)); replace HB := AM (hb); replace HI0 := AM (hi); (try clear hb); (try clear hk); (try clear hi)) | ((with_reducible refine gate_callee (f := 32) rfl ?_); refine GL (some 73) rfl rfl Try.func32 #[.pointer (some ⟨g, 0, none⟩), .int .i64 4] rfl ?_; (with_reducible refine (spec_l01Below.calls g s0_0 t410 t411 4 t412 t413 t414 w0 _ ?side1 ?side2 A38.out).mono ?_); (case side1 => exact II81 HI0.out); (case side2 => exact BB1 HB.out (IsS81.ge HI0.out)); rintro e w92 ⟨rfl, hi, hb, hk⟩; refine ⟨_, rfl, ?_⟩; replace HO_6 := AM (Kd.S_mono (Kd.S_keep (IsS81.apartS (show IsS81 w0 _ g s0_0 t410 t411 from (II81 HI0.out)) (SS HO_6.out) (by decide)) hk (fun _ h => h.2)) (fun _ h => h.1)); replace HK := AM (KeepBut.trans (KK HK.out) hk (.inl rfl)); replace HB := AM (hb); replace HI0 := AM (hi); (try clear hb); (try clear hk); (try clear hi); have p88 : 0 ≤ (t409 : Int) := DT; have q88 : (t409 : Int) < ((x6_3.length : Int) : Int) := DT; obtain ⟨go88, co88, eo88, gb88, gl88, cl88, HG88⟩ := Kd.S_form HO_6.out (by omega); (first | cases eo88 | (injection eo88 with ea_ en_ ec_; (first | subst ea_ | (injection ea_ with ea_; subst ea_)); subst ec_; clear en_)); have GB88 := AM gb88; have GG88 := AM HG88; clear gb88 gl88 HG88; obtain ⟨_, ce88, hcl88, hM88, hcc88, hfr88, _, _⟩ := Kd.S_elem HO_6.out z35 (t409 : Int) p88 q88; obtain ⟨ve88_2, rfl, ge88_2⟩ := k35_openM hM88; have hx88_0 : w92.cell? ⟨go88, (t409 : Int).toNat * 3, none⟩ = some (.int .i64 ((rd_T35 x6_3 t409).f0)) := hcc88 0 _ rfl; have hx88_1 : w92.cell? ⟨go88, (t409 : Int).toNat * 3 + 1, none⟩ = some (.bool ((rd_T35 x6_3 t409).f1)) := hcc88 1 _ rfl; have hx88_2 : w92.cell? ⟨go88, (t409 : Int).toNat * 3 + 2, none⟩ = some (ve88_2) := hcc88 2 _ rfl; have hf88_0 : w92.frozen? ⟨go88, (t409 : Int).toNat * 3, none⟩ = false := hfr88 0; have hf88_1 : w92.frozen? ⟨go88, (t409 : Int).toNat * 3 + 1, none⟩ = false := hfr88 1; have hf88_2 : w92.frozen? ⟨go88, (t409 : Int).toNat * 3 + 2, none⟩ = false := hfr88 2; clear hcl88 hcc88 hfr88 hM88; replace p88 := eq_true p88; replace q88 := eq_true q88; have HX93 := AM (show Kd.S k35 35 w92 w.heap.size (fun k_ => ((fun _ => True)) k_ ∧ ¬ ((fun _ => False)) k_) (.slice (some ⟨go88, 0, none⟩) x6_3.length co90) x6_3 from (by (with_reducible repeat (first | apply Kd.S_alloc | apply Kd.S_drewN | apply Kd.S_drew)); exact Kd.S_mono HO_6.out (fun k_ hk => ⟨trivial, fun e_ => e_⟩))); obtain ⟨oki93, ce93, hcl93, hM93, hcc93, hfr93, hoki93, hH93⟩ := Kd.S_elem HX93.out z35 (t409 : Int) DT (by have h_ : (t409 : Int) < ((x6_3.length : Int) : Int) := DT; first | exact h_ | (have e_ := (Kd.S_reads' HO_6.out).1; omega) | simpa using h_); obtain ⟨ve93_2, rfl, ge93_2⟩ := k35_openM hM93; have HP93 := Kd.S_seg hH93 DT (by have h_ : (t409 : Int) < ((x6_3.length : Int) : Int) := DT; first | exact h_ | (have e_ := (Kd.S_reads' HO_6.out).1; omega) | simpa using h_) (seg := [.bool true]) (j := 1) (show 2 ≤ 3 from by decide) (x' := (⟨(rd_T35 x6_3 t409).f0, true, (rd_T35 x6_3 t409).f2⟩ : S35)) (k35_mkM _ _ _ (⟨(rd_T35 x6_3 t409).f0, true, (rd_T35 x6_3 t409).f2⟩ : S35) (Kd.R_mono ge93_2 (fun _ h_ => Or.inl h_))) (fun _ hk => hk) (fun k_ hk_ => hk_.elim); have hx93_1 := hcc93 1 _ rfl; (try simp only [show (k35).sz = 3 from rfl, Nat.mul_one, Nat.add_zero] at hx93_1); have hf93_1 := hfr93 1; (try simp only [show (k35).sz = 3 from rfl, Nat.mul_one, Nat.add_zero] at hf93_1); clear hcl93 hcc93 hfr93 hM93 hoki93 hH93) | ((with_reducible refine gate_store (t := 4) (p := 77) rfl ?_); refine store_event (t := 4) (p := 77) (v := ?vo_w94) (w1 := (w92.setCell ⟨go88, (t409 : Int).toNat * 3 + 1, none⟩ (.bool true))) ?hg ?ho ?hn ?hr ?_; (case ho => rfl); (case hg => rfl); (case hn => rfl); (case hr => first | (go_simp; done) | (go_simp; rfl)); intro w94 hw; have hg : w92.grownBy w94 (some go88) := (by rw [hw]; exact HP93.2); have hp_ : Kd.S k35 35 w94 w.heap.size (fun _ => True) (.slice (some ⟨go88, 0, none⟩) x6_3.length co90) y435 := (by rw [hw, Ny435.out]; exact HP93.1); clear HP93; have n0_ := AM (hp_); have n1_ := AM (IsS81.grown (II81 HI0.out) hg (IsS81.own_neS HI0.out HO_6.out (by decide))); have n2_ := AM ((by rw [hw]; exact below_set (HB.out) (Nat.le_trans HL.out GB88.out) : Below w0.heap.size w0 w94)); have n3_ := AM (KeepBut.trans (KK HK.out) (KeepBut.of_grown hg g) (Kd.S_base2 HO_6.out)); clear HO_6; clear HI0; clear HB; clear HK; have HO_6 := n0_; have HI0 := n1_; have HB := n2_; have HK := n3_; clear n0_ n1_ n2_ n3_; clear hg hw hp_))
             go_roundg k3
             case measure => have := HK1.out; have := HK2.out; have := HK3.out; omega
             case rel => exact ⟨(y435), (wrap64 (x14_3 + 1)), (t413), (t414), FR, H', ⟨by have := HK1.out; have := HK2.out; have := HK3.out; omega⟩, ⟨(SS HO_6.out)⟩, ⟨(II81 HI0.out)⟩, ⟨(KK HK.out)⟩, ⟨(BB1 HB.out (IsS81.ge HI0.out))⟩⟩
         ·rw [if_neg c36] at H
          have c36b0 := decide_eq_false c36
          clear c36
          simp only [Option.some.injEq, Prod.mk.injEq] at H
          obtain ⟨rfl, rfl, rfl, rfl, rfl, rfl⟩ := H
          go_wp2_with (first | ((with_reducible refine gate_callee (f := 32) rfl ?_); refine GL (some 64) rfl rfl Try.func32 #[.pointer (some ⟨g, 0, none⟩), .int .i64 4] rfl ?_; (with_reducible refine (spec_l01Below.calls g s0_0 x1001_3 x1002_3 4 t406 t407 t408 w0 _ ?side1 ?side2 A35.out).mono ?_); (case side1 => exact II81 HI0.out); (case side2 => exact BB1 HB.out (IsS81.ge HI0.out)); rintro e w95 ⟨rfl, hi, hb, hk⟩; refine ⟨_, rfl, ?_⟩; replace HO_6 := AM (Kd.S_mono (Kd.S_keep (IsS81.apartS (show IsS81 w0 _ g s0_0 x1001_3 x1002_3 from (II81 HI0.out)) (SS HO_6.out) (by decide)) hk (fun _ h => h.2)) (fun _ h => h.1)); replace HK := AM (KeepBut.trans (KK HK.out) hk (.inl rfl)); replace HB := AM (hb); replace HI0 := AM (hi); (try clear hb); (try clear hk); (try clear hi)))
          refine bodyPost_ret (results_list (rs := [.tmp 2, .tmp 3, .tmp 4, .tmp 5]) rfl (by simp) (.tmp (.tmp (.tmp (.tmp .nil))))) rfl ?_
          exact ⟨_, ER, by (with_reducible repeat (first | apply Kd.S_alloc | apply Kd.S_drewN | apply Kd.S_drew)); exact HO_6.out, (II81 HI0.out), (BB1 HB.out (IsS81.ge HI0.out)), (KK HK.out)⟩

def spec_DrawHosts.f (k : Nat) (l0 : List Int) : Option ((List (S35)) × Int × Int × ByteArray) := (spec_l01New.f k l0).bind fun bt383 => ((spec_l15Hosts.f k bt383.1 bt383.2.1 bt383.2.2).bind fun bt387 => (some (bt387.1, bt387.2.1, bt387.2.2.1, bt387.2.2.2.1)))
set_option maxHeartbeats 8000000 in
set_option maxRecDepth 100000 in
theorem spec_DrawHosts.calls (k : Nat) (A0 : Option Addr) (c0 : Nat) (l0 : List Int) (r1 : List (S35)) (r2 : Int) (r3 : Int) (r4 : ByteArray) (w : World) (hr0 : Kd.C (Kd.int .u8) w A0 l0.length l0) (hc0 : l0.length ≤ c0) (h : spec_DrawHosts.f k l0 = some (r1, r2, r3, r4)) :
  Calls Try.prog 7 #[.slice A0 l0.length c0] w fun e w' => ∃ v0_ : Value, e = .returned (.tuple #[v0_, .int .i64 r2, .int .i64 r3, .string r4]) ∧ Kd.S k35 35 w' w.heap.size (fun _ => True) v0_ r1 ∧ Below w.heap.size w w' := by
 have HR0 := AM hr0
 have HC0 := AM hc0
 clear hr0 hc0
 have HB := AM (Below.refl w.heap.size w)
 have H : ((spec_l01New.f k l0).bind fun bt383 => ((spec_l15Hosts.f k bt383.1 bt383.2.1 bt383.2.2).bind fun bt387 => (some (bt387.1, bt387.2.1, bt387.2.2.1, bt387.2.2.2.1)))) = some (r1, r2, r3, r4) := h
 clear h
 replace H := Option.bind_eq_some_iff.mp H
 obtain ⟨⟨t383, t384, t385⟩, A20, H⟩ := H
 replace H : ((spec_l15Hosts.f k t383 t384 t385).bind fun bt387 => (some (bt387.1, bt387.2.1, bt387.2.2.1, bt387.2.2.2.1))) = some (r1, r2, r3, r4) := H
 have A2 := AM A20
 clear A20
 replace H := Option.bind_eq_some_iff.mp H
 obtain ⟨⟨t387, t390, t391, t392, t393, t394⟩, A30, H⟩ := H
 replace H : (some (t387, t390, t391, t392)) = some (r1, r2, r3, r4) := H
 have A3 := AM A30
 clear A30
 simp only [Option.some.injEq, Prod.mk.injEq] at H
 obtain ⟨rfl, rfl, rfl, rfl⟩ := H
 go_enter Try.func7, Try.ntmps7
 go_wp2_with (first | ((with_reducible refine gate_callee (f := 25) rfl ?_); refine GL (some 7) rfl rfl Try.func25 #[.slice A0 l0.length c0] rfl ?_; (with_reducible refine (spec_l01New.calls k _ _ l0 t383 t384 t385 w _ ?side1 ?side2 ?side3 A2.out).mono ?_); (case side1 => exact BB HB.out); (case side2 => exact HR0.out); (case side3 => exact HC0.out); rintro e w4 ⟨g386, rfl, hi, hb, hb2⟩; refine ⟨_, rfl, ?_⟩; have HI386 := AM (hi); replace HB := AM (hb); (try clear hb); (try clear hb2); (try clear hi)) | ((with_reducible refine gate_callee (f := 24) rfl ?_); refine GL (some 8) rfl rfl Try.func24 #[.pointer (some ⟨g386, 0, none⟩)] rfl ?_; (with_reducible refine (spec_l15Hosts.calls k g386 t383 t384 t385 t387 t390 t391 t392 t393 t394 w _ ?side1 ?side2 A3.out).mono ?_); (case side1 => exact II81 HI386.out); (case side2 => exact BB1 HB.out (IsS81.ge HI386.out)); rintro e w5 ⟨v388, rfl, ho0, hi, hb, hk⟩; refine ⟨_, rfl, ?_⟩; have HO389 := AM (Kd.S_lower ho0 (below_size ((BB1 HB.out (IsS81.ge HI386.out))))); replace HB := AM (hb); replace HI386 := AM (hi); (try clear hb); (try clear hk); (try clear hi); (try clear ho0)))
 refine bodyPost_ret (results_list (rs := [.tmp 2, .tmp 3, .tmp 4, .tmp 5]) rfl (by simp) (.tmp (.tmp (.tmp (.tmp .nil))))) rfl ?_
 exact ⟨_, ER, by (with_reducible repeat (first | apply Kd.S_alloc | apply Kd.S_drewN | apply Kd.S_drew)); exact HO389.out, (BB1 HB.out (IsS81.ge HI386.out))⟩

mutual
def spec_UnitsOf.l0 : Nat → List (S35) → Int → Int → Int → List ByteArray → List Bool → Int → Option (List ByteArray × List Bool)
 | 0, _, _, _, _, _, _, _ => none
 | k + 1, x0, x2, x8, x9, x11, x12, x13 => if x13 < (wrap64 (x8 + x9)) then (spec_UnitsOf.l1 k x0 x2 x8 x9 x11 x12 x13 0) else (some (x11, x12))
def spec_UnitsOf.l1 : Nat → List (S35) → Int → Int → Int → List ByteArray → List Bool → Int → Int → Option (List ByteArray × List Bool)
 | 0, _, _, _, _, _, _, _, _ => none
 | k + 1, x0, x2, x8, x9, x11, x12, x13, x14 => if x14 < (x0.length : Int) then (if 0 ≤ x13 then (if x13 < (x12.length : Int) then (spec_UnitsOf.j2 k x0 x2 x8 x9 x11 x12 x13 x14 (!(rdOf false x12 x13))) else (none)) else (none)) else (spec_UnitsOf.j2 k x0 x2 x8 x9 x11 x12 x13 x14 false)
def spec_UnitsOf.j2 : Nat → List (S35) → Int → Int → Int → List ByteArray → List Bool → Int → Int → Bool → Option (List ByteArray × List Bool)
 | 0, _, _, _, _, _, _, _, _, _ => none
 | k + 1, x0, x2, x8, x9, x11, x12, x13, x14, x48 => if x48 = true then (if 0 ≤ x14 then (if x14 < (x0.length : Int) then ((spec_GetUnit.f k ((rd_T35 x0 x14).f0) ((rd_T35 x0 x14).f1) ((rd_T35 x0 x14).f2) x2 x13).bind fun bt439 => (if bt439.2 = true then (if 0 ≤ x13 then (if x13 < (x11.length : Int) then (if x13 < (x12.length : Int) then (spec_UnitsOf.l1 k x0 x2 x8 x9 (x11.set (x13 : Int).toNat bt439.1) (x12.set (x13 : Int).toNat true) x13 (wrap64 (x14 + 1))) else (none)) else (none)) else (none)) else (spec_UnitsOf.l1 k x0 x2 x8 x9 x11 x12 x13 (wrap64 (x14 + 1))))) else (none)) else (none)) else (spec_UnitsOf.l0 k x0 x2 x8 x9 x11 x12 (wrap64 (x13 + 1)))
end
def spec_UnitsOf.f (k : Nat) (l0 : List (S35)) (a1 : Int) (a2 : Int) : Option (List ByteArray × List Bool) := (spec_SchemaOf.f a1).bind fun bt428 => (if 0 ≤ (wrap64 (bt428.1 + bt428.2.1)) then (if (wrap64 (bt428.1 + bt428.2.1) : Int).toNat ≤ 17592186044416 then (if (wrap64 (bt428.1 + bt428.2.1) : Int).toNat ≤ 281474976710656 then (spec_UnitsOf.l0 k l0 a2 bt428.1 bt428.2.1 (List.replicate (wrap64 (bt428.1 + bt428.2.1) : Int).toNat (⟨#[]⟩ : ByteArray)) (List.replicate (wrap64 (bt428.1 + bt428.2.1) : Int).toNat false) 0) else (none)) else (none)) else (none))
set_option maxHeartbeats 8000000 in
set_option maxRecDepth 100000 in
theorem spec_UnitsOf.calls (k : Nat) (A0 : Option Addr) (c0 : Nat) (l0 : List (S35)) (a1 : Int) (a2 : Int) (r1 : List ByteArray) (r2 : List Bool) (w : World) (hr0 : Kd.C k35 w A0 l0.length l0) (hc0 : l0.length ≤ c0) (h : spec_UnitsOf.f k l0 a1 a2 = some (r1, r2)) :
  Calls Try.prog 9 #[.slice A0 l0.length c0, .int .i64 a1, .int .i64 a2] w fun e w' => ∃ v0_ v1_ : Value, e = .returned (.tuple #[v0_, v1_]) ∧ Kd.R Kd.string 9 w' w.heap.size (fun _ => True) v0_ r1 ∧ Kd.R Kd.bool 4 w' w.heap.size (fun _ => True) v1_ r2 ∧ Below w.heap.size w w' := by
 have hu35 := Try.underlying35
 have HR0 := AM hr0
 have HC0 := AM hc0
 clear hr0 hc0
 have HB := AM (Below.refl w.heap.size w)
 have H : ((spec_SchemaOf.f a1).bind fun bt428 => (if 0 ≤ (wrap64 (bt428.1 + bt428.2.1)) then (if (wrap64 (bt428.1 + bt428.2.1) : Int).toNat ≤ 17592186044416 then (if (wrap64 (bt428.1 + bt428.2.1) : Int).toNat ≤ 281474976710656 then (spec_UnitsOf.l0 k l0 a2 bt428.1 bt428.2.1 (List.replicate (wrap64 (bt428.1 + bt428.2.1) : Int).toNat (⟨#[]⟩ : ByteArray)) (List.replicate (wrap64 (bt428.1 + bt428.2.1) : Int).toNat false) 0) else (none)) else (none)) else (none))) = some (r1, r2) := h
 clear h
 replace H := Option.bind_eq_some_iff.mp H
 obtain ⟨⟨t428, t429, t430⟩, A40, H⟩ := H
 replace H : (if 0 ≤ (wrap64 (t428 + t429)) then (if (wrap64 (t428 + t429) : Int).toNat ≤ 17592186044416 then (if (wrap64 (t428 + t429) : Int).toNat ≤ 281474976710656 then (spec_UnitsOf.l0 k l0 a2 t428 t429 (List.replicate (wrap64 (t428 + t429) : Int).toNat (⟨#[]⟩ : ByteArray)) (List.replicate (wrap64 (t428 + t429) : Int).toNat false) 0) else (none)) else (none)) else (none)) = some (r1, r2) := H
 have A4 := AM A40
 clear A40
 obtain ⟨ji5, hji5⟩ : ∃ j_ : Int, (wrap64 (t428 + t429)) = j_ := ⟨_, rfl⟩
 replace H : (if 0 ≤ (ji5) then (if (ji5 : Int).toNat ≤ 17592186044416 then (if (ji5 : Int).toNat ≤ 281474976710656 then (spec_UnitsOf.l0 k l0 a2 t428 t429 (List.replicate (ji5 : Int).toNat (⟨#[]⟩ : ByteArray)) (List.replicate (ji5 : Int).toNat false) 0) else (none)) else (none)) else (none)) = some (r1, r2) := by first | (rw [hji5] at H; exact H) | (simp only [hji5] at H ⊢; exact H)
 (try rw [hji5] at A4)
 have hji5w : (IntKind.i64.wrap (t428 + t429)) = ji5 := (i64_w _).trans hji5
 by_cases c6 : 0 ≤ (ji5)
 rotate_left
 ·rw [if_neg c6] at H; exact absurd H (by simp)
 rw [if_pos c6] at H
 have c6b0 := eq_true c6
 have c6b1 := decide_eq_true c6
 clear c6
 by_cases c7 : (ji5 : Int).toNat ≤ 17592186044416
 rotate_left
 ·rw [if_neg c7] at H; exact absurd H (by simp)
 rw [if_pos c7] at H
 have c7b0 := eq_true c7
 have c7b1 := decide_eq_true c7
 clear c7
 obtain ⟨y431, hy431⟩ : ∃ y_ : List ByteArray, y_ = (List.replicate (ji5 : Int).toNat (⟨#[]⟩ : ByteArray)) := ⟨_, rfl⟩
 replace H : (if (ji5 : Int).toNat ≤ 281474976710656 then (spec_UnitsOf.l0 k l0 a2 t428 t429 y431 (List.replicate (ji5 : Int).toNat false) 0) else (none)) = some (r1, r2) := by first | (rw [hy431]; first | with_reducible exact H | with_reducible exact OB H) | with_reducible exact OB H | with_reducible exact H | (rw [hy431]; exact H) | exact H
 have Ny431 := AM hy431
 clear hy431
 by_cases c8 : (ji5 : Int).toNat ≤ 281474976710656
 rotate_left
 ·rw [if_neg c8] at H; exact absurd H (by simp)
 rw [if_pos c8] at H
 have c8b0 := eq_true c8
 have c8b1 := decide_eq_true c8
 clear c8
 obtain ⟨y434, hy434⟩ : ∃ y_ : List Bool, y_ = (List.replicate (ji5 : Int).toNat false) := ⟨_, rfl⟩
 replace H : (spec_UnitsOf.l0 k l0 a2 t428 t429 y431 y434 0) = some (r1, r2) := by first | (rw [hy434]; first | with_reducible exact H | with_reducible exact OB H) | with_reducible exact OB H | with_reducible exact H | (rw [hy434]; exact H) | exact H
 have Ny434 := AM hy434
 clear hy434
 have H' := AM H
 clear H
 go_enter Try.func9, Try.ntmps9
 go_wp2_with (first | ((with_reducible refine gate_callee (f := 19) rfl ?_); refine GL (some 19) rfl rfl Try.func19 #[.int .i64 a1] rfl ?_; (with_reducible refine (spec_SchemaOf.calls a1 t428 t429 t430 _ A4.out).mono ?_); rintro e w' ⟨rfl, ⟨nd, rfl⟩⟩; refine ⟨_, rfl, ?_⟩) | ((with_reducible refine gate_dst (N := 26) rfl ?_); refine Kd.R_make Kd.string _ 9 rfl (N := 26) rfl 27 _ _ rfl ji5 rfl rfl Try.underlying27 (.string ⟨#[]⟩) 16 info9 rfl (by decide) (by omega) (⟨#[]⟩ : ByteArray) (ok := fun _ => True) (okp := fun _ => True) rfl (fun _ hk => hk) trivial DT (Nat.le_trans (Nat.mul_le_mul_right _ (DT : ji5.toNat ≤ 17592186044416)) (by omega)) (Below.refl _ _) (Nat.le_refl _) ?_; intro v432 w9 ho10 hb hg_ hnew_; clear hg_ hnew_; (first | rw [← Ny431.out] at ho10 | (simp only [Int.reduceToNat] at ho10; rw [← Ny431.out] at ho10)); have HO433 := AM (Kd.R_lower ho10 (below_size (BB HB.out))); replace HB := AM (below_step (BB HB.out) hb); clear hb ho10) | ((with_reducible refine gate_dst (N := 30) rfl ?_); refine Kd.R_make Kd.bool _ 4 rfl (N := 30) rfl 28 _ _ rfl ji5 rfl rfl Try.underlying28 (.bool false) 1 info4 rfl (by decide) (by omega) false (ok := fun _ => True) (okp := fun _ => True) rfl (fun _ hk => hk) trivial DT (Nat.le_trans (Nat.mul_le_mul_right _ (DT : ji5.toNat ≤ 281474976710656)) (by omega)) (Below.refl _ _) (Nat.le_refl _) ?_; intro v435 w11 ho12 hb hg_ hnew_; clear hg_ hnew_; (first | rw [← Ny434.out] at ho12 | (simp only [Int.reduceToNat] at ho12; rw [← Ny434.out] at ho12)); have HO436 := AM (Kd.R_lower ho12 (below_size (BB HB.out))); replace HO433 := AM (Kd.R_below (RR HO433.out) hb); replace HB := AM (below_step (BB HB.out) hb); clear hb ho12))
 go_loopg [13] k (fun kq v13 w' => ∃ (x11_1 : List ByteArray) (x12_1 : List Bool) (x13_1 : Int), v13 = .int .i64 x13_1 ∧ Aside0 (spec_UnitsOf.l0 kq l0 a2 t428 t429 x11_1 x12_1 x13_1 = some (r1, r2)) ∧ Aside0 (kq ≤ k) ∧ Aside0 (Kd.R Kd.string 9 w' w.heap.size (fun _ => True) v432 x11_1) ∧ Aside0 (Kd.R Kd.bool 4 w' w.heap.size (fun _ => True) v435 x12_1) ∧ Aside0 (Below w.heap.size w w'))
 case atStart => exact ⟨(y431), (y434), (0), FR, H', ⟨Nat.le_refl _⟩, ⟨(RR HO433.out)⟩, ⟨(RR HO436.out)⟩, ⟨(BB HB.out)⟩⟩
 case round =>
  clear H'
  try clear c1
  try clear p2
  try clear c6
  try clear c6b0
  try clear c6b1
  try clear p6
  try clear c7
  try clear c7b0
  try clear c7b1
  try clear c8
  try clear c8b0
  try clear c8b1
  try clear c9
  obtain ⟨x11_1, x12_1, x13_1, rfl, HA, HK1, HO_11, HO_12, HB⟩ := hrel
  cases gk with
  | zero => exact absurd HA.out (by simp [spec_UnitsOf.l0])
  | succ k1 =>
   have H := HA.out
   clear HA
   simp only [spec_UnitsOf.l0] at H
   by_cases c13 : x13_1 < (wrap64 (t428 + t429))
   ·rw [if_pos c13] at H
    have c13b0 := decide_eq_true c13
    (try simp only [hji5] at c13b0)
    clear c13
    have H' := AM H
    clear H
    go_wp2
    go_loopg [14] k1 (fun kq v14 w' => ∃ (x11_2 : List ByteArray) (x12_2 : List Bool) (x14_2 : Int), v14 = .int .i64 x14_2 ∧ Aside0 (spec_UnitsOf.l1 kq l0 a2 t428 t429 x11_2 x12_2 x13_1 x14_2 = some (r1, r2)) ∧ Aside0 (kq ≤ k1) ∧ Aside0 (Kd.R Kd.string 9 w' w.heap.size (fun _ => True) v432 x11_2) ∧ Aside0 (Kd.R Kd.bool 4 w' w.heap.size (fun _ => True) v435 x12_2) ∧ Aside0 (Below w.heap.size w w'))
    case atStart => exact ⟨(x11_1), (x12_1), (0), FR, H', ⟨Nat.le_refl _⟩, ⟨(RR HO_11.out)⟩, ⟨(RR HO_12.out)⟩, ⟨(BB HB.out)⟩⟩
    case round =>
     clear H'
     try clear c1
     try clear p2
     try clear c6
     try clear c6b0
     try clear c6b1
     try clear p6
     try clear c7
     try clear c7b0
     try clear c7b1
     try clear c8
     try clear c8b0
     try clear c8b1
     try clear c9
     try clear c13
     try clear c13b0
     try clear p2
     try clear p6
     obtain ⟨x11_2, x12_2, x14_2, rfl, HA, HK2, HO_11, HO_12, HB⟩ := hrel
     cases gk with
     | zero => exact absurd HA.out (by simp [spec_UnitsOf.l1])
     | succ k2 =>
      have H := HA.out
      clear HA
      simp only [spec_UnitsOf.l1] at H
      have HC14 := AM H
      clear H
      go_upto_region 8 with (fail)
      go_cut [48] (fun v48 wc => ∃ (kq : Nat) (x48_13 : Bool), v48 = .bool x48_13 ∧ Aside0 (spec_UnitsOf.j2 kq l0 a2 t428 t429 x11_2 x12_2 x13_1 x14_2 x48_13 = some (r1, r2)) ∧ Aside0 (kq ≤ k2) ∧ Aside0 (Kd.R Kd.string 9 wc w.heap.size (fun _ => True) v432 x11_2) ∧ Aside0 (Kd.R Kd.bool 4 wc w.heap.size (fun _ => True) v435 x12_2) ∧ Aside0 (Below w.heap.size w wc))
      case first =>
       have H := HC14.out
       clear HC14
       by_cases c15 : x14_2 < (l0.length : Int)
       ·rw [if_pos c15] at H
        have c15b0 := decide_eq_true c15
        clear c15
        (first | rw [c15b0] | (simp only [i64_w, i32_w]; rw [c15b0]) | skip)
        by_cases c16 : 0 ≤ x13_1
        rotate_left
        ·rw [if_neg c16] at H; exact absurd H (by simp)
        rw [if_pos c16] at H
        have c16b0 := decide_eq_true c16
        clear c16
        by_cases c17 : x13_1 < (x12_2.length : Int)
        rotate_left
        ·rw [if_neg c17] at H; exact absurd H (by simp)
        rw [if_pos c17] at H
        have c17b0 := decide_eq_true c17
        clear c17
        have H' := AM H
        clear H
        obtain ⟨Ao18, co18, eo18⟩ := Kd.R_slice HO_12.out
        subst eo18
        have p437 : 0 ≤ (x13_1 : Int) := DT
        have q437 : x13_1 < (x12_2.length : Int) := DT
        obtain ⟨ad437, e437, hx437_0⟩ := Kd.at_bool (Kd.R_reads' HO_12.out).2.2 x13_1 p437 q437
        cases e437
        replace p437 := eq_true p437
        replace q437 := eq_true q437
        go_wp2
        go_meet
        case rel => exact ⟨_, (!(rdOf false x12_2 x13_1)), FR, H', ⟨by have := HK1.out; have := HK2.out; first | omega | exact Nat.le_refl _⟩, ⟨(RR HO_11.out)⟩, ⟨(RR HO_12.out)⟩, ⟨(BB HB.out)⟩⟩
       ·rw [if_neg c15] at H
        have c15b0 := decide_eq_false c15
        clear c15
        (first | rw [c15b0] | (simp only [i64_w, i32_w]; rw [c15b0]) | skip)
        have H' := AM H
        clear H
        go_wp2
        go_meet
        case rel => exact ⟨_, (false), FR, H', ⟨by have := HK1.out; have := HK2.out; first | omega | exact Nat.le_refl _⟩, ⟨(RR HO_11.out)⟩, ⟨(RR HO_12.out)⟩, ⟨(BB HB.out)⟩⟩
      case rest =>
       clear HC14
       try clear c1
       try clear p2
       try clear p4
       try clear q4
       try clear hx4
       try clear c6
       try clear c6b0
       try clear c6b1
       try clear p6
       try clear c7
       try clear c7b0
       try clear c7b1
       try clear c8
       try clear c8b0
       try clear c8b1
       try clear c9
       try clear c13
       try clear c13b0
       try clear c15
       try clear c15b0
       try clear c16
       try clear c16b0
       try clear c17
       try clear c17b0
       try clear hx437_0
       try clear p2
       try clear p437
       try clear p6
       try clear q437
       obtain ⟨kq, x48_13, rfl, HA, HJ13, HO_11, HO_12, HB⟩ := hcut
       cases kq with
       | zero => exact absurd HA.out (by simp [spec_UnitsOf.j2])
       | succ kj13 =>
        have H := HA.out
        clear HA
        simp only [spec_UnitsOf.j2] at H
        by_cases c19 : x48_13 = true
        ·subst c19
         have H1 : (if 0 ≤ x14_2 then (if x14_2 < (l0.length : Int) then ((spec_GetUnit.f kj13 ((rd_T35 l0 x14_2).f0) ((rd_T35 l0 x14_2).f1) ((rd_T35 l0 x14_2).f2) a2 x13_1).bind fun bt439 => (if bt439.2 = true then (if 0 ≤ x13_1 then (if x13_1 < (x11_2.length : Int) then (if x13_1 < (x12_2.length : Int) then (spec_UnitsOf.l1 kj13 l0 a2 t428 t429 (x11_2.set (x13_1 : Int).toNat bt439.1) (x12_2.set (x13_1 : Int).toNat true) x13_1 (wrap64 (x14_2 + 1))) else (none)) else (none)) else (none)) else (spec_UnitsOf.l1 kj13 l0 a2 t428 t429 x11_2 x12_2 x13_1 (wrap64 (x14_2 + 1))))) else (none)) else (none)) = some (r1, r2) := by rw [if_pos rfl] at H; exact H
         clear H
         have H := H1
         clear H1
         by_cases c20 : 0 ≤ x14_2
         rotate_left
         ·rw [if_neg c20] at H; exact absurd H (by simp)
         rw [if_pos c20] at H
         have c20b0 := decide_eq_true c20
         clear c20
         by_cases c21 : x14_2 < (l0.length : Int)
         rotate_left
         ·rw [if_neg c21] at H; exact absurd H (by simp)
         rw [if_pos c21] at H
         have c21b0 := decide_eq_true c21
         clear c21
         replace H := Option.bind_eq_some_iff.mp H
         obtain ⟨⟨t439, t440⟩, A220, H⟩ := H
         replace H : (if t440 = true then (if 0 ≤ x13_1 then (if x13_1 < (x11_2.length : Int) then (if x13_1 < (x12_2.length : Int) then (spec_UnitsOf.l1 kj13 l0 a2 t428 t429 (x11_2.set (x13_1 : Int).toNat t439) (x12_2.set (x13_1 : Int).toNat true) x13_1 (wrap64 (x14_2 + 1))) else (none)) else (none)) else (none)) else (spec_UnitsOf.l1 kj13 l0 a2 t428 t429 x11_2 x12_2 x13_1 (wrap64 (x14_2 + 1)))) = some (r1, r2) := H
         have A22 := AM A220
         clear A220
         by_cases c23 : t440 = true
         ·subst c23
          have H1 : (if 0 ≤ x13_1 then (if x13_1 < (x11_2.length : Int) then (if x13_1 < (x12_2.length : Int) then (spec_UnitsOf.l1 kj13 l0 a2 t428 t429 (x11_2.set (x13_1 : Int).toNat t439) (x12_2.set (x13_1 : Int).toNat true) x13_1 (wrap64 (x14_2 + 1))) else (none)) else (none)) else (none)) = some (r1, r2) := by rw [if_pos rfl] at H; exact H
          clear H
          have H := H1
          clear H1
          by_cases c24 : 0 ≤ x13_1
          rotate_left
          ·rw [if_neg c24] at H; exact absurd H (by simp)
          rw [if_pos c24] at H
          have c24b0 := decide_eq_true c24
          clear c24
          by_cases c25 : x13_1 < (x11_2.length : Int)
          rotate_left
          ·rw [if_neg c25] at H; exact absurd H (by simp)
          rw [if_pos c25] at H
          have c25b0 := decide_eq_true c25
          clear c25
          obtain ⟨y441, hy441⟩ : ∃ y_ : List ByteArray, y_ = (x11_2.set (x13_1 : Int).toNat t439) := ⟨_, rfl⟩
          replace H : (if x13_1 < (x12_2.length : Int) then (spec_UnitsOf.l1 kj13 l0 a2 t428 t429 y441 (x12_2.set (x13_1 : Int).toNat true) x13_1 (wrap64 (x14_2 + 1))) else (none)) = some (r1, r2) := by first | (rw [hy441]; first | with_reducible exact H | with_reducible exact OB H) | with_reducible exact OB H | with_reducible exact H | (rw [hy441]; exact H) | exact H
          have Ny441 := AM hy441
          clear hy441
          by_cases c27 : x13_1 < (x12_2.length : Int)
          rotate_left
          ·rw [if_neg c27] at H; exact absurd H (by simp)
          rw [if_pos c27] at H
          have c27b0 := decide_eq_true c27
          clear c27
          obtain ⟨y442, hy442⟩ : ∃ y_ : List Bool, y_ = (x12_2.set (x13_1 : Int).toNat true) := ⟨_, rfl⟩
          replace H : (spec_UnitsOf.l1 kj13 l0 a2 t428 t429 y441 y442 x13_1 (wrap64 (x14_2 + 1))) = some (r1, r2) := by first | (rw [hy442]; first | with_reducible exact H | with_reducible exact OB H) | with_reducible exact OB H | with_reducible exact H | (rw [hy442]; exact H) | exact H
          have Ny442 := AM hy442
          clear hy442
          have H' := AM H
          clear H
          have p438 : 0 ≤ (x14_2 : Int) := DT
          have q438 : x14_2 < (l0.length : Int) := DT
          obtain ⟨ad438, A438_2, c438_2, e438, hx438_0, hx438_1, hx438_2, hl438_2, hi438_2⟩ := at_T35 HR0.out x14_2 p438 q438
          cases e438
          replace hx438_0 := CX HB.out hx438_0
          replace hx438_1 := CX HB.out hx438_1
          replace hx438_2 := CX HB.out hx438_2
          have HR438_2 := AM hi438_2
          have HC438_2 := AM hl438_2
          clear hi438_2 hl438_2
          replace p438 := eq_true p438
          replace q438 := eq_true q438
          go_wp2_with (first | ((with_reducible refine gate_callee (f := 10) rfl ?_); refine GL (some 58) rfl rfl Try.func10 #[.agg #[.int .i64 ((rd_T35 l0 x14_2).f0), .bool ((rd_T35 l0 x14_2).f1), .slice A438_2 ((rd_T35 l0 x14_2).f2).length c438_2], .int .i64 a2, .int .i64 x13_1] rfl ?_; (with_reducible refine (spec_GetUnit.calls kj13 ((rd_T35 l0 x14_2).f0) ((rd_T35 l0 x14_2).f1) _ _ ((rd_T35 l0 x14_2).f2) a2 x13_1 t439 true _ ?side1 ?side2 A22.out).mono ?_); (case side1 => exact CC (Kd.C_below HR438_2.out HB.out)); (case side2 => exact HC438_2.out); rintro e w29 ⟨rfl, hb⟩; refine ⟨_, rfl, ?_⟩; replace HO_11 := AM (Kd.R_below (RR HO_11.out) hb); replace HO_12 := AM (Kd.R_below (RR HO_12.out) hb); replace HB := AM (below_step (BB HB.out) hb); (try clear hb); have p26 : 0 ≤ (x13_1 : Int) := DT; have q26 : (x13_1 : Int) < ((x11_2.length : Int) : Int) := DT; obtain ⟨go26, co26, eo26, gb26, gl26, cl26, HG26⟩ := Kd.R_form HO_11.out (by omega); (first | cases eo26 | (injection eo26 with ea_ en_ ec_; (first | subst ea_ | (injection ea_ with ea_; subst ea_)); subst ec_; clear en_)); have GB26 := AM gb26; have GG26 := AM HG26; clear gb26 gl26 HG26; obtain ⟨hx26_0, hf26_0⟩ := Kd.R_celln (⟨#[]⟩ : ByteArray) HO_11.out (x13_1 : Int) p26 q26; replace p26 := eq_true p26; replace q26 := eq_true q26; obtain ⟨hy30_, hz30_⟩ := Kd.R_celln (⟨#[]⟩ : ByteArray) HO_11.out (x13_1 : Int) DT DT; have HP30 := Kd.R_putg HO_11.out (x13_1 : Int) t439) | ((with_reducible refine gate_store (t := 9) (p := 65) rfl ?_); refine store_event (t := 9) (p := 65) (v := ?vo_w31) (w1 := (w29.setCell ⟨go26, (x13_1 : Int).toNat, none⟩ (.string t439))) ?hg ?ho ?hn ?hr ?_; (case ho => rfl); (case hg => rfl); (case hn => rfl); (case hr => first | (go_simp; done) | (go_simp; rfl)); intro w31 hw; have hg : w29.grownBy w31 (some go26) := (by rw [hw]; exact HP30.2); have hp_ : Kd.R Kd.string 9 w31 w.heap.size (fun _ => True) (.slice (some ⟨go26, 0, none⟩) x11_2.length co26) y441 := (by rw [hw, Ny441.out]; exact HP30.1); clear HP30; have n0_ := AM (hp_); have n1_ := AM (Kd.R_over' (v := (.slice (some ⟨go26, 0, none⟩) x11_2.length co26)) (RR HO_12.out) (Kd.R_typed HO_11.out) (by decide) hg); have n2_ := AM ((by rw [hw]; exact below_set (HB.out) GB26.out : Below w.heap.size w w31)); clear HO_11; clear HO_12; clear HB; have HO_11 := n0_; have HO_12 := n1_; have HB := n2_; clear n0_ n1_ n2_; clear hg hw hp_; have p28 : 0 ≤ (x13_1 : Int) := DT; have q28 : (x13_1 : Int) < ((x12_2.length : Int) : Int) := DT; obtain ⟨go28, co28, eo28, gb28, gl28, cl28, HG28⟩ := Kd.R_form HO_12.out (by omega); (first | cases eo28 | (injection eo28 with ea_ en_ ec_; (first | subst ea_ | (injection ea_ with ea_; subst ea_)); subst ec_; clear en_)); have GB28 := AM gb28; have GG28 := AM HG28; clear gb28 gl28 HG28; obtain ⟨hx28_0, hf28_0⟩ := Kd.R_celln false HO_12.out (x13_1 : Int) p28 q28; replace p28 := eq_true p28; replace q28 := eq_true q28; obtain ⟨hy32_, hz32_⟩ := Kd.R_celln false HO_12.out (x13_1 : Int) DT DT; have HP32 := Kd.R_putg HO_12.out (x13_1 : Int) true) | ((with_reducible refine gate_store (t := 4) (p := 68) rfl ?_); refine store_event (t := 4) (p := 68) (v := ?vo_w33) (w1 := (w31.setCell ⟨go28, (x13_1 : Int).toNat, none⟩ (.bool true))) ?hg ?ho ?hn ?hr ?_; (case ho => rfl); (case hg => rfl); (case hn => rfl); (case hr => first | (go_simp; done) | (go_simp; rfl)); intro w33 hw; have hg : w31.grownBy w33 (some go28) := (by rw [hw]; exact HP32.2); have hp_ : Kd.R Kd.bool 4 w33 w.heap.size (fun _ => True) (.slice (some ⟨go28, 0, none⟩) x12_2.length co28) y442 := (by rw [hw, Ny442.out]; exact HP32.1); clear HP32; have n0_ := AM (Kd.R_over' (v := (.slice (some ⟨go28, 0, none⟩) x12_2.length co28)) (RR HO_11.out) (Kd.R_typed HO_12.out) (by decide) hg); have n1_ := AM (hp_); have n2_ := AM ((by rw [hw]; exact below_set (HB.out) GB28.out : Below w.heap.size w w33)); clear HO_11; clear HO_12; clear HB; have HO_11 := n0_; have HO_12 := n1_; have HB := n2_; clear n0_ n1_ n2_; clear hg hw hp_))
          go_roundg kj13
          case measure => have := HK1.out; have := HK2.out; have := HJ13.out; omega
          case rel => exact ⟨(y441), (y442), (wrap64 (x14_2 + 1)), FR, H', ⟨by have := HK1.out; have := HK2.out; have := HJ13.out; omega⟩, ⟨(RR HO_11.out)⟩, ⟨(RR HO_12.out)⟩, ⟨(BB HB.out)⟩⟩
         ·replace c23 := Bool.eq_false_iff.mpr c23
          subst c23
          have H1 : (spec_UnitsOf.l1 kj13 l0 a2 t428 t429 x11_2 x12_2 x13_1 (wrap64 (x14_2 + 1))) = some (r1, r2) := by rw [if_neg (show ¬ (false = true) by decide)] at H; exact H
          clear H
          have H := H1
          clear H1
          have H' := AM H
          clear H
          have p438 : 0 ≤ (x14_2 : Int) := DT
          have q438 : x14_2 < (l0.length : Int) := DT
          obtain ⟨ad438, A438_2, c438_2, e438, hx438_0, hx438_1, hx438_2, hl438_2, hi438_2⟩ := at_T35 HR0.out x14_2 p438 q438
          cases e438
          replace hx438_0 := CX HB.out hx438_0
          replace hx438_1 := CX HB.out hx438_1
          replace hx438_2 := CX HB.out hx438_2
          have HR438_2 := AM hi438_2
          have HC438_2 := AM hl438_2
          clear hi438_2 hl438_2
          replace p438 := eq_true p438
          replace q438 := eq_true q438
          go_wp2_with (first | ((with_reducible refine gate_callee (f := 10) rfl ?_); refine GL (some 58) rfl rfl Try.func10 #[.agg #[.int .i64 ((rd_T35 l0 x14_2).f0), .bool ((rd_T35 l0 x14_2).f1), .slice A438_2 ((rd_T35 l0 x14_2).f2).length c438_2], .int .i64 a2, .int .i64 x13_1] rfl ?_; (with_reducible refine (spec_GetUnit.calls kj13 ((rd_T35 l0 x14_2).f0) ((rd_T35 l0 x14_2).f1) _ _ ((rd_T35 l0 x14_2).f2) a2 x13_1 t439 false _ ?side1 ?side2 A22.out).mono ?_); (case side1 => exact CC (Kd.C_below HR438_2.out HB.out)); (case side2 => exact HC438_2.out); rintro e w34 ⟨rfl, hb⟩; refine ⟨_, rfl, ?_⟩; replace HO_11 := AM (Kd.R_below (RR HO_11.out) hb); replace HO_12 := AM (Kd.R_below (RR HO_12.out) hb); replace HB := AM (below_step (BB HB.out) hb); (try clear hb)))
          go_roundg kj13
          case measure => have := HK1.out; have := HK2.out; have := HJ13.out; omega
          case rel => exact ⟨(x11_2), (x12_2), (wrap64 (x14_2 + 1)), FR, H', ⟨by have := HK1.out; have := HK2.out; have := HJ13.out; omega⟩, ⟨(RR HO_11.out)⟩, ⟨(RR HO_12.out)⟩, ⟨(BB HB.out)⟩⟩
        ·replace c19 := Bool.eq_false_iff.mpr c19
         subst c19
         have H1 : (spec_UnitsOf.l0 kj13 l0 a2 t428 t429 x11_2 x12_2 (wrap64 (x13_1 + 1))) = some (r1, r2) := by rw [if_neg (show ¬ (false = true) by decide)] at H; exact H
         clear H
         have H := H1
         clear H1
         have H' := AM H
         clear H
         go_wp2
         go_roundg kj13
         case measure => have := HK1.out; have := HK2.out; have := HJ13.out; omega
         case rel => exact ⟨(x11_2), (x12_2), (wrap64 (x13_1 + 1)), FR, H', ⟨by have := HK1.out; have := HK2.out; have := HJ13.out; omega⟩, ⟨(RR HO_11.out)⟩, ⟨(RR HO_12.out)⟩, ⟨(BB HB.out)⟩⟩
   ·rw [if_neg c13] at H
    have c13b0 := decide_eq_false c13
    (try simp only [hji5] at c13b0)
    clear c13
    simp only [Option.some.injEq, Prod.mk.injEq] at H
    obtain ⟨rfl, rfl⟩ := H
    go_wp2
    go_ret2
    exact ⟨_, _, by first | rfl | (simp [errW_none, errW_some] <;> rfl) | (simp only [← hji5]; first | rfl | (simp [errW_none, errW_some] <;> rfl)) | (simp [*, errW_none, errW_some] <;> rfl), by (with_reducible repeat (first | apply Kd.R_alloc | apply Kd.R_drewN | apply Kd.R_drew)); exact HO_11.out, by (with_reducible repeat (first | apply Kd.R_alloc | apply Kd.R_drewN | apply Kd.R_drew)); exact HO_12.out, (BB HB.out)⟩

end Go.Proofs.Ytaejgompckpmfaa.Pr
