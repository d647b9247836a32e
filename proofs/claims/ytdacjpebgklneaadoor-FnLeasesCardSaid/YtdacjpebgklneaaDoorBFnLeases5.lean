/- A part of the proof of the law FnLeases: its texts, one behind the other. -/
import Derived.Laws.Cover1
import Derived.Test.YtdacjpebgklneaaDoorBFnLeases1
import Derived.Test.YtdacjpebgklneaaDoorBFnLeases2
import Derived.Test.YtdacjpebgklneaaDoorBFnLeases3
import Derived.Test.YtdacjpebgklneaaDoorBFnLeases4
namespace Go.Proofs.YtdacjpebgklneaaDoor.Pr
open Go.RowKit Go.Proofs.YtdacjpebgklneaaDoorW.PrintWords Go.Proofs.YtdacjpebgklneaaDoorW.PrintLast Go.Proofs.YtdacjpebgklneaaDoorW.PrintMore
attribute [local go_sem] max2_int min2_int max_two min_two max_three min_three max_four min_four
set_option linter.unusedVariables false
set_option linter.unusedSimpArgs false
def spec_l01Below.f (s0_0 : List Int) (s0_1 : Int) (s0_2 : Int) (a1 : Int) : Option (Int × Int × Int) := if a1 ≤ 0 then (some (0, s0_1, s0_2)) else (if a1 ≤ 256 then ((spec_l01Byte.f s0_0 s0_1 s0_2).bind fun bt102 => (if a1 = 0 then (none) else (some (Int.tmod bt102.1 a1, bt102.2.1, bt102.2.2)))) else ((spec_l01Byte.f s0_0 s0_1 s0_2).bind fun bt105 => ((spec_l01Byte.f s0_0 bt105.2.1 bt105.2.2).bind fun bt108 => ((spec_l01Byte.f s0_0 bt108.2.1 bt108.2.2).bind fun bt111 => ((spec_l01Byte.f s0_0 bt111.2.1 bt111.2.2).bind fun bt114 => (if a1 = 0 then (none) else (some (Int.tmod (wrap64 ((wrap64 ((wrap64 ((wrap64 (bt105.1 * 16777216)) + (wrap64 (bt108.1 * 65536)))) + (wrap64 (bt111.1 * 256)))) + bt114.1)) a1, bt114.2.1, bt114.2.2))))))))
set_option maxHeartbeats 8000000 in
set_option maxRecDepth 100000 in
theorem spec_l01Below.calls (g : Nat) (s0_0 : List Int) (s0_1 : Int) (s0_2 : Int) (a1 : Int) (r1 : Int) (r2 : Int) (r3 : Int) (w0 w : World) (hI : IsS56 w0 w g s0_0 s0_1 s0_2) (hB : Below w0.heap.size w0 w) (h : spec_l01Below.f s0_0 s0_1 s0_2 a1 = some (r1, r2, r3)) :
    Calls Tryd.prog 18 #[.pointer (some ⟨g, 0, none⟩), .int .i64 a1] w fun e w' => e = .returned (.int .i64 r1) ∧ IsS56 w0 w' g s0_0 r2 r3 ∧ Below w0.heap.size w0 w' ∧ KeepBut w w' g none := by
  have HI0 := Aside0.mk hI
  have HK := Aside0.mk (KeepBut.refl w g none)
  have HL := Aside0.mk hB.size
  clear hI
  have HW0 := Aside0.mk hB.size
  have HB := Aside0.mk hB
  clear hB
  have H : (if a1 ≤ 0 then (some (0, s0_1, s0_2)) else (if a1 ≤ 256 then ((spec_l01Byte.f s0_0 s0_1 s0_2).bind fun bt102 => (if a1 = 0 then (none) else (some (Int.tmod bt102.1 a1, bt102.2.1, bt102.2.2)))) else ((spec_l01Byte.f s0_0 s0_1 s0_2).bind fun bt105 => ((spec_l01Byte.f s0_0 bt105.2.1 bt105.2.2).bind fun bt108 => ((spec_l01Byte.f s0_0 bt108.2.1 bt108.2.2).bind fun bt111 => ((spec_l01Byte.f s0_0 bt111.2.1 bt111.2.2).bind fun bt114 => (if a1 = 0 then (none) else (some (Int.tmod (wrap64 ((wrap64 ((wrap64 ((wrap64 (bt105.1 * 16777216)) + (wrap64 (bt108.1 * 65536)))) + (wrap64 (bt111.1 * 256)))) + bt114.1)) a1, bt114.2.1, bt114.2.2))))))))) = some (r1, r2, r3) := h
  clear h
  by_cases c3 : a1 ≤ 0
  · rw [if_pos c3] at H
    have c3b0 : decide (a1 ≤ 0) = true := decide_eq_true c3
    clear c3
    simp only [Option.some.injEq, Prod.mk.injEq] at H
    obtain ⟨rfl, rfl, rfl⟩ := H
    go_enter Tryd.func18, Tryd.ntmps18
    go_wp2
    go_ret
    exact ⟨ER, by repeat (first | (with_reducible first | exact HI0.out | apply IsS56.alloc | apply IsS56.drewN | apply IsS56.drew | apply IsS56.set_1 | apply IsS56.set_2) | exact HI0.out), (BB1 HB.out (IsS56.ge HI0.out)), by repeat (first | (with_reducible first | exact HK.out | apply KeepBut.set_ | apply keep_drewN | apply keep_drew | apply keep_alloc) | exact HK.out)⟩
  · rw [if_neg c3] at H
    have c3b0 : decide (a1 ≤ 0) = false := decide_eq_false c3
    clear c3
    by_cases c4 : a1 ≤ 256
    · rw [if_pos c4] at H
      have c4b0 : decide (a1 ≤ 256) = true := decide_eq_true c4
      clear c4
      replace H := Option.bind_eq_some_iff.mp H
      obtain ⟨⟨t102, t103, t104⟩, A50, H⟩ := H
      replace H : (if a1 = 0 then (none) else (some (Int.tmod t102 a1, t103, t104))) = some (r1, r2, r3) := H
      have A5 := Aside0.mk A50
      clear A50
      by_cases c6 : a1 = 0
      · rw [if_pos c6] at H
        exact absurd H (by simp)
      · rw [if_neg c6] at H
        have c6b0 : (a1 == 0) = false := beq_eq_false_iff_ne.mpr c6
        have c6b1 : (a1 != 0) = true := bne_iff_ne.mpr c6
        simp only [Option.some.injEq, Prod.mk.injEq] at H
        obtain ⟨rfl, rfl, rfl⟩ := H
        go_enter Tryd.func18, Tryd.ntmps18
        go_wp2_with (first | ((with_reducible refine gate_callee (f := 17) rfl ?_); refine GL (some 14) rfl rfl Tryd.func17 #[.pointer (some ⟨g, 0, none⟩)] rfl ?_; (with_reducible refine (spec_l01Byte.calls g s0_0 s0_1 s0_2 t102 t103 t104 w0 _ ?side1 ?side2 A5.out).mono ?_); (case side1 => repeat (first | (with_reducible first | exact HI0.out | apply IsS56.alloc | apply IsS56.drewN | apply IsS56.drew | apply IsS56.set_1 | apply IsS56.set_2) | exact HI0.out)); (case side2 => repeat (first | (with_reducible first | exact HB.out | apply below_alloc | apply pw_below_drewN | apply below_drew1 | refine below_set ?_ (IsS56.ge HI0.out)) | exact HB.out)); rintro e w7 ⟨rfl, hi, hb, hk⟩; refine ⟨_, rfl, ?_⟩; replace HK := Aside0.mk (KeepBut.trans (by repeat (first | (with_reducible first | exact HK.out | apply KeepBut.set_ | apply keep_drewN | apply keep_drew | apply keep_alloc) | exact HK.out)) hk (.inl rfl)); replace HB := Aside0.mk (hb); replace HI0 := Aside0.mk (hi); (try clear hb); (try clear hk); (try clear hi)))
        go_ret
        exact ⟨ER, by repeat (first | (with_reducible first | exact HI0.out | apply IsS56.alloc | apply IsS56.drewN | apply IsS56.drew | apply IsS56.set_1 | apply IsS56.set_2) | exact HI0.out), (BB1 HB.out (IsS56.ge HI0.out)), by repeat (first | (with_reducible first | exact HK.out | apply KeepBut.set_ | apply keep_drewN | apply keep_drew | apply keep_alloc) | exact HK.out)⟩
    · rw [if_neg c4] at H
      have c4b0 : decide (a1 ≤ 256) = false := decide_eq_false c4
      clear c4
      replace H := Option.bind_eq_some_iff.mp H
      obtain ⟨⟨t105, t106, t107⟩, A80, H⟩ := H
      replace H : ((spec_l01Byte.f s0_0 t106 t107).bind fun bt108 => ((spec_l01Byte.f s0_0 bt108.2.1 bt108.2.2).bind fun bt111 => ((spec_l01Byte.f s0_0 bt111.2.1 bt111.2.2).bind fun bt114 => (if a1 = 0 then (none) else (some (Int.tmod (wrap64 ((wrap64 ((wrap64 ((wrap64 (t105 * 16777216)) + (wrap64 (bt108.1 * 65536)))) + (wrap64 (bt111.1 * 256)))) + bt114.1)) a1, bt114.2.1, bt114.2.2)))))) = some (r1, r2, r3) := H
      have A8 := Aside0.mk A80
      clear A80
      replace H := Option.bind_eq_some_iff.mp H
      obtain ⟨⟨t108, t109, t110⟩, A90, H⟩ := H
      replace H : ((spec_l01Byte.f s0_0 t109 t110).bind fun bt111 => ((spec_l01Byte.f s0_0 bt111.2.1 bt111.2.2).bind fun bt114 => (if a1 = 0 then (none) else (some (Int.tmod (wrap64 ((wrap64 ((wrap64 ((wrap64 (t105 * 16777216)) + (wrap64 (t108 * 65536)))) + (wrap64 (bt111.1 * 256)))) + bt114.1)) a1, bt114.2.1, bt114.2.2))))) = some (r1, r2, r3) := H
      have A9 := Aside0.mk A90
      clear A90
      replace H := Option.bind_eq_some_iff.mp H
      obtain ⟨⟨t111, t112, t113⟩, A100, H⟩ := H
      replace H : ((spec_l01Byte.f s0_0 t112 t113).bind fun bt114 => (if a1 = 0 then (none) else (some (Int.tmod (wrap64 ((wrap64 ((wrap64 ((wrap64 (t105 * 16777216)) + (wrap64 (t108 * 65536)))) + (wrap64 (t111 * 256)))) + bt114.1)) a1, bt114.2.1, bt114.2.2)))) = some (r1, r2, r3) := H
      have A10 := Aside0.mk A100
      clear A100
      replace H := Option.bind_eq_some_iff.mp H
      obtain ⟨⟨t114, t115, t116⟩, A110, H⟩ := H
      replace H : (if a1 = 0 then (none) else (some (Int.tmod (wrap64 ((wrap64 ((wrap64 ((wrap64 (t105 * 16777216)) + (wrap64 (t108 * 65536)))) + (wrap64 (t111 * 256)))) + t114)) a1, t115, t116))) = some (r1, r2, r3) := H
      have A11 := Aside0.mk A110
      clear A110
      by_cases c12 : a1 = 0
      · rw [if_pos c12] at H
        exact absurd H (by simp)
      · rw [if_neg c12] at H
        have c12b0 : (a1 == 0) = false := beq_eq_false_iff_ne.mpr c12
        have c12b1 : (a1 != 0) = true := bne_iff_ne.mpr c12
        simp only [Option.some.injEq, Prod.mk.injEq] at H
        obtain ⟨rfl, rfl, rfl⟩ := H
        go_enter Tryd.func18, Tryd.ntmps18
        go_wp2_with (first | ((with_reducible refine gate_callee (f := 17) rfl ?_); refine GL (some 18) rfl rfl Tryd.func17 #[.pointer (some ⟨g, 0, none⟩)] rfl ?_; (with_reducible refine (spec_l01Byte.calls g s0_0 s0_1 s0_2 t105 t106 t107 w0 _ ?side1 ?side2 A8.out).mono ?_); (case side1 => repeat (first | (with_reducible first | exact HI0.out | apply IsS56.alloc | apply IsS56.drewN | apply IsS56.drew | apply IsS56.set_1 | apply IsS56.set_2) | exact HI0.out)); (case side2 => repeat (first | (with_reducible first | exact HB.out | apply below_alloc | apply pw_below_drewN | apply below_drew1 | refine below_set ?_ (IsS56.ge HI0.out)) | exact HB.out)); rintro e w13 ⟨rfl, hi, hb, hk⟩; refine ⟨_, rfl, ?_⟩; replace HK := Aside0.mk (KeepBut.trans (by repeat (first | (with_reducible first | exact HK.out | apply KeepBut.set_ | apply keep_drewN | apply keep_drew | apply keep_alloc) | exact HK.out)) hk (.inl rfl)); replace HB := Aside0.mk (hb); replace HI0 := Aside0.mk (hi); (try clear hb); (try clear hk); (try clear hi)) | ((with_reducible refine gate_callee (f := 17) rfl ?_); refine GL (some 20) rfl rfl Tryd.func17 #[.pointer (some ⟨g, 0, none⟩)] rfl ?_; (with_reducible refine (spec_l01Byte.calls g s0_0 t106 t107 t108 t109 t110 w0 _ ?side1 ?side2 A9.out).mono ?_); (case side1 => repeat (first | (with_reducible first | exact HI0.out | apply IsS56.alloc | apply IsS56.drewN | apply IsS56.drew | apply IsS56.set_1 | apply IsS56.set_2) | exact HI0.out)); (case side2 => repeat (first | (with_reducible first | exact HB.out | apply below_alloc | apply pw_below_drewN | apply below_drew1 | refine below_set ?_ (IsS56.ge HI0.out)) | exact HB.out)); rintro e w14 ⟨rfl, hi, hb, hk⟩; refine ⟨_, rfl, ?_⟩; replace HK := Aside0.mk (KeepBut.trans (by repeat (first | (with_reducible first | exact HK.out | apply KeepBut.set_ | apply keep_drewN | apply keep_drew | apply keep_alloc) | exact HK.out)) hk (.inl rfl)); replace HB := Aside0.mk (hb); replace HI0 := Aside0.mk (hi); (try clear hb); (try clear hk); (try clear hi)) | ((with_reducible refine gate_callee (f := 17) rfl ?_); refine GL (some 22) rfl rfl Tryd.func17 #[.pointer (some ⟨g, 0, none⟩)] rfl ?_; (with_reducible refine (spec_l01Byte.calls g s0_0 t109 t110 t111 t112 t113 w0 _ ?side1 ?side2 A10.out).mono ?_); (case side1 => repeat (first | (with_reducible first | exact HI0.out | apply IsS56.alloc | apply IsS56.drewN | apply IsS56.drew | apply IsS56.set_1 | apply IsS56.set_2) | exact HI0.out)); (case side2 => repeat (first | (with_reducible first | exact HB.out | apply below_alloc | apply pw_below_drewN | apply below_drew1 | refine below_set ?_ (IsS56.ge HI0.out)) | exact HB.out)); rintro e w15 ⟨rfl, hi, hb, hk⟩; refine ⟨_, rfl, ?_⟩; replace HK := Aside0.mk (KeepBut.trans (by repeat (first | (with_reducible first | exact HK.out | apply KeepBut.set_ | apply keep_drewN | apply keep_drew | apply keep_alloc) | exact HK.out)) hk (.inl rfl)); replace HB := Aside0.mk (hb); replace HI0 := Aside0.mk (hi); (try clear hb); (try clear hk); (try clear hi)) | ((with_reducible refine gate_callee (f := 17) rfl ?_); refine GL (some 24) rfl rfl Tryd.func17 #[.pointer (some ⟨g, 0, none⟩)] rfl ?_; (with_reducible refine (spec_l01Byte.calls g s0_0 t112 t113 t114 t115 t116 w0 _ ?side1 ?side2 A11.out).mono ?_); (case side1 => repeat (first | (with_reducible first | exact HI0.out | apply IsS56.alloc | apply IsS56.drewN | apply IsS56.drew | apply IsS56.set_1 | apply IsS56.set_2) | exact HI0.out)); (case side2 => repeat (first | (with_reducible first | exact HB.out | apply below_alloc | apply pw_below_drewN | apply below_drew1 | refine below_set ?_ (IsS56.ge HI0.out)) | exact HB.out)); rintro e w16 ⟨rfl, hi, hb, hk⟩; refine ⟨_, rfl, ?_⟩; replace HK := Aside0.mk (KeepBut.trans (by repeat (first | (with_reducible first | exact HK.out | apply KeepBut.set_ | apply keep_drewN | apply keep_drew | apply keep_alloc) | exact HK.out)) hk (.inl rfl)); replace HB := Aside0.mk (hb); replace HI0 := Aside0.mk (hi); (try clear hb); (try clear hk); (try clear hi)))
        go_ret
        exact ⟨ER, by repeat (first | (with_reducible first | exact HI0.out | apply IsS56.alloc | apply IsS56.drewN | apply IsS56.drew | apply IsS56.set_1 | apply IsS56.set_2) | exact HI0.out), (BB1 HB.out (IsS56.ge HI0.out)), by repeat (first | (with_reducible first | exact HK.out | apply KeepBut.set_ | apply keep_drewN | apply keep_drew | apply keep_alloc) | exact HK.out)⟩

end Go.Proofs.YtdacjpebgklneaaDoor.Pr

namespace Go.Proofs.YtdacjpebgklneaaDoor.Pr
open Go.RowKit Go.Proofs.YtdacjpebgklneaaDoorW.PrintWords Go.Proofs.YtdacjpebgklneaaDoorW.PrintLast Go.Proofs.YtdacjpebgklneaaDoorW.PrintMore
attribute [local go_sem] max2_int min2_int max_two min_two max_three min_three max_four min_four
set_option linter.unusedVariables false
set_option linter.unusedSimpArgs false
def spec_l16Copy.f (l0 : List (S35)) : Option ((List (S35))) := (some (([] : List (S35)) : List (S35))).bind fun y117 => (if y117.length + l0.length < 4398046511104 then (some (y117 ++ l0)) else (none))
set_option maxHeartbeats 8000000 in
set_option maxRecDepth 100000 in
theorem spec_l16Copy.calls (A0 : Option Addr) (c0 : Nat) (l0 : List (S35)) (r : List (S35)) (w : World) (hr0 : Kd.C k35 w A0 l0.length l0) (hc0 : l0.length ≤ c0) (h : spec_l16Copy.f l0 = some r) :
    Calls Tryd.prog 36 #[.slice A0 l0.length c0] w fun e w' => ∃ v0_ : Value, e = .returned (v0_) ∧ Kd.R k35 35 w' w.heap.size (fun _ => True) v0_ r ∧ Below w.heap.size w w' := by
  have HR0 := Aside0.mk hr0
  have HC0 := Aside0.mk hc0
  clear hr0 hc0
  have HB := Aside0.mk (Below.refl w.heap.size w)
  have H : ((some (([] : List (S35)) : List (S35))).bind fun y117 => (if y117.length + l0.length < 4398046511104 then (some (y117 ++ l0)) else (none))) = some r := h
  clear h
  obtain ⟨y117, hy117⟩ : ∃ y_ : List (S35), y_ = (([] : List (S35))) := ⟨_, rfl⟩
  replace H : (if y117.length + l0.length < 4398046511104 then (some (y117 ++ l0)) else (none)) = some r := by first | (rw [hy117]; with_reducible exact H) | (have H2_ := (Option.bind_some _ _).symm.trans H; rw [hy117]; with_reducible exact H2_) | (have H2_ := (Option.bind_some _ _).symm.trans H; with_reducible exact H2_) | with_reducible exact H | (rw [hy117]; exact H) | exact H
  have Ny117 := Aside0.mk hy117
  clear hy117
  by_cases c2 : y117.length + l0.length < 4398046511104
  · rw [if_pos c2] at H
    have LMc2 := Aside0.mk c2
    clear c2
    obtain ⟨y120, hy120⟩ : ∃ y_ : List (S35), y_ = (y117 ++ l0) := ⟨_, rfl⟩
    replace H : (some y120) = some r := by first | (rw [hy120]; with_reducible exact H) | (have H2_ := (Option.bind_some _ _).symm.trans H; rw [hy120]; with_reducible exact H2_) | (have H2_ := (Option.bind_some _ _).symm.trans H; with_reducible exact H2_) | with_reducible exact H | (rw [hy120]; exact H) | exact H
    have Ny120 := Aside0.mk hy120
    clear hy120
    obtain rfl := Option.some.inj H
    go_enter Tryd.func36, Tryd.ntmps36
    go_wp2_with (first | ((with_reducible refine gate_dst (N := 3) rfl ?_); refine Kd.R_lit k35 _ 35 ?hg (N := 3) ?hd (xs := ([] : List (S35))) (inner := []) (ok := fun _ => True) (okp := fun _ => True) ?hr ?hp (fun _ hk => hk) trivial (Below.refl _ _) (Nat.le_refl _) (by simp) ?_; (case hd => rfl); (case hg => rfl); (case hr => first | (go_simp; done) | (go_simp; rfl)); (case hp => exact (Reps.none _ _)); intro v118 w3 ho4 hb hg_ hnew_; clear hg_ hnew_; (first | rw [← Ny117.out] at ho4 | (simp only [Int.reduceToNat] at ho4; rw [← Ny117.out] at ho4)); have HO119 := Aside0.mk (Kd.R_lower ho4 (below_size (BB HB.out))); replace HB := Aside0.mk (below_step (BB HB.out) hb); clear hb ho4) | ((with_reducible refine gate_builtin (b := .append) (xs := #[.tmp 3, .tmp 4]) rfl ?_); at_builtin; refine Kd.R_append_rows k35 (w0 := w) w.heap.size rfl (.tmp 3) (.tmp 4) 24 35 (.agg #[(.string ⟨#[]⟩), (.int .i64 0), (.int .i64 0)]) 32 rfl Tryd.underlying24 info35 rfl (by decide) (by omega) v118 y117 l0 _ _ _ (fun _ => True) (fun _ => False) rfl rfl ?aO ?aR (fun _ _ h => h) (fun _ h => h.elim) ?aF ?aB ?aS ?aL ?_; (case aR => exact CC (Kd.C_below HR0.out HB.out)); (case aB => exact (BB HB.out)); (case aF => exact (fun _ _ => trivial)); (case aO => exact (RR HO119.out)); (case aS => exact (below_size (BB HB.out))); (case aL => have := LMc2.out; omega); intro v121 w5 ho hb hg hat; rw [← Ny120.out] at ho; have HO122 := Aside0.mk (ho); replace HB := Aside0.mk (hb); clear HO119; clear ho hb hg hat))
    go_ret
    exact ⟨_, ER, by (with_reducible repeat (first | apply Kd.R_alloc | apply Kd.R_drewN | apply Kd.R_drew)); exact HO122.out, (BB HB.out)⟩
  · rw [if_neg c2] at H
    exact absurd H (by simp)

end Go.Proofs.YtdacjpebgklneaaDoor.Pr

namespace Go.Proofs.YtdacjpebgklneaaDoor.Pr
open Go.RowKit Go.Proofs.YtdacjpebgklneaaDoorW.PrintWords Go.Proofs.YtdacjpebgklneaaDoorW.PrintLast Go.Proofs.YtdacjpebgklneaaDoorW.PrintMore
attribute [local go_sem] max2_int min2_int max_two min_two max_three min_three max_four min_four
set_option linter.unusedVariables false
set_option linter.unusedSimpArgs false
open Go.Op in
theorem gtr_blPr29 : ∀ x y : List UInt8, (!(Op.bytesLess x y || x == y)) = Op.bytesLess y x
  | [], [] => rfl
  | [], _ :: _ => rfl
  | _ :: _, [] => rfl
  | a :: x, b :: y => by
    have h := gtr_blPr29 x y
    simp only [Op.bytesLess]
    rcases Nat.lt_trichotomy a.toNat b.toNat with c | c | c
    · have c1 : a < b := c
      have c2 : ¬ b < a := fun d => Nat.lt_asymm c d
      have c3 : ¬ b = a := fun d => UInt8.lt_irrefl a (d ▸ c1)
      simp [c1, c2, c3]
    · have c1 : a = b := UInt8.toNat_inj.1 c
      subst c1
      have c2 : ¬ a < a := UInt8.lt_irrefl a
      simp only [c2, decide_false, Bool.false_or, BEq.rfl, Bool.true_and, List.cons_beq_cons]
      exact h
    · have c1 : b < a := c
      have c2 : ¬ a < b := fun d => Nat.lt_asymm c d
      have c3 : ¬ a = b := fun d => UInt8.lt_irrefl b (d ▸ c1)
      simp [c1, c2, c3]
theorem gtr_strPr29 (t : TypeId) (a b : ByteArray) : binOp .gtr t (.string a) (.string b) = pure (.bool (Op.bytesLess b.toList a.toList)) := by rw [binOp_string_gtr, gtr_blPr29]
attribute [local go_sem high] gtr_strPr29
mutual
def spec_TakeLease.j0 : Nat → List (S35) → ByteArray → Int → Int → List (S35) → Bool → Option ((List (S35)) × Bool)
  | 0, _, _, _, _, _, _ => none
  | k + 1, x0, x1, x2, x3, x10, x34 => if x34 = true then (some (x10, false)) else (spec_TakeLease.l0 k x0 x1 x2 x3 x10 0)
def spec_TakeLease.l0 : Nat → List (S35) → ByteArray → Int → Int → List (S35) → Int → Option ((List (S35)) × Bool)
  | 0, _, _, _, _, _, _ => none
  | k + 1, x0, x1, x2, x3, x10, x11 => if x11 < (x10.length : Int) then (if 0 ≤ x11 then (if ((rd_T35 x10 x11).f0).toList = x1.toList then (if ((rd_T35 x10 x11).f1) = x2 then ((some (x10.set (x11 : Int).toNat (⟨(rd_T35 x10 x11).f0, x2, (rd_T35 x10 x11).f2⟩ : S35) : List (S35))).bind fun y168 => (some ((y168.set (x11 : Int).toNat (⟨(rd_T35 y168 x11).f0, (rd_T35 y168 x11).f1, x3⟩ : S35)), true))) else (if (wrap64 (x3 - ((rd_T35 x10 x11).f2))) < 5 then (some (x10, false)) else ((some (x10.set (x11 : Int).toNat (⟨(rd_T35 x10 x11).f0, x2, (rd_T35 x10 x11).f2⟩ : S35) : List (S35))).bind fun y171 => (some ((y171.set (x11 : Int).toNat (⟨(rd_T35 y171 x11).f0, (rd_T35 y171 x11).f1, x3⟩ : S35)), true))))) else (spec_TakeLease.l0 k x0 x1 x2 x3 x10 (wrap64 (x11 + 1)))) else (none)) else (if (x0.length : Int) = 8 then (some (x10, false)) else (spec_TakeLease.l1 k x0 x1 x2 x3 (([] : List (S35))) 0))
def spec_TakeLease.l1 : Nat → List (S35) → ByteArray → Int → Int → List (S35) → Int → Option ((List (S35)) × Bool)
  | 0, _, _, _, _, _, _ => none
  | k + 1, x0, x1, x2, x3, x12, x13 => if x13 < (x0.length : Int) then (if 0 ≤ x13 then (if (Op.bytesLess (((rd_T35 x0 x13).f0).toList) x1.toList) = true then (if x12.length < 4398046511104 then (spec_TakeLease.l1 k x0 x1 x2 x3 (x12 ++ [(⟨(rd_T35 x0 x13).f0, (rd_T35 x0 x13).f1, (rd_T35 x0 x13).f2⟩ : S35)]) (wrap64 (x13 + 1))) else (none)) else (spec_TakeLease.l1 k x0 x1 x2 x3 x12 (wrap64 (x13 + 1)))) else (none)) else (if x12.length < 4398046511104 then (spec_TakeLease.l2 k x0 x1 (x12 ++ [(⟨x1, x2, x3⟩ : S35)]) 0) else (none))
def spec_TakeLease.l2 : Nat → List (S35) → ByteArray → List (S35) → Int → Option ((List (S35)) × Bool)
  | 0, _, _, _, _ => none
  | k + 1, x0, x1, x12, x14 => if x14 < (x0.length : Int) then (if 0 ≤ x14 then (if (Op.bytesLess x1.toList (((rd_T35 x0 x14).f0).toList)) = true then (if x12.length < 4398046511104 then (spec_TakeLease.l2 k x0 x1 (x12 ++ [(⟨(rd_T35 x0 x14).f0, (rd_T35 x0 x14).f1, (rd_T35 x0 x14).f2⟩ : S35)]) (wrap64 (x14 + 1))) else (none)) else (spec_TakeLease.l2 k x0 x1 x12 (wrap64 (x14 + 1)))) else (none)) else (some (x12, true))
end
def spec_TakeLease.f (k : Nat) (l0 : List (S35)) (a1 : ByteArray) (a2 : Int) (a3 : Int) : Option ((List (S35)) × Bool) := (spec_l16Copy.f l0).bind fun t159 => ((spec_LeasesOk.f k l0).bind fun t162 => (if t162 = true then ((spec_l11Named.f k a1).bind fun t163 => (if t163 = true then ((spec_l01In.f a2 1 9).bind fun t164 => (if t164 = true then ((spec_l01In.f a3 0 1000000000).bind fun t165 => (spec_TakeLease.j0 k l0 a1 a2 a3 t159 (!t165))) else (spec_TakeLease.j0 k l0 a1 a2 a3 t159 true))) else (spec_TakeLease.j0 k l0 a1 a2 a3 t159 true))) else (spec_TakeLease.j0 k l0 a1 a2 a3 t159 true)))
set_option maxHeartbeats 8000000 in
set_option maxRecDepth 100000 in
theorem spec_TakeLease.calls (k : Nat) (A0 : Option Addr) (c0 : Nat) (l0 : List (S35)) (a1 : ByteArray) (a2 : Int) (a3 : Int) (r1 : List (S35)) (r2 : Bool) (w : World) (hr0 : Kd.C k35 w A0 l0.length l0) (hc0 : l0.length ≤ c0) (h : spec_TakeLease.f k l0 a1 a2 a3 = some (r1, r2)) :
    Calls Tryd.prog 29 #[.slice A0 l0.length c0, .string a1, .int .i64 a2, .int .i64 a3] w fun e w' => ∃ v0_ : Value, e = .returned (.tuple #[v0_, .bool r2]) ∧ Kd.R k35 35 w' w.heap.size (fun _ => True) v0_ r1 ∧ Below w.heap.size w w' := by
  have hu35 := Tryd.underlying35
  have HR0 := Aside0.mk hr0
  have HC0 := Aside0.mk hc0
  clear hr0 hc0
  have HB := Aside0.mk (Below.refl w.heap.size w)
  have H : ((spec_l16Copy.f l0).bind fun t159 => ((spec_LeasesOk.f k l0).bind fun t162 => (if t162 = true then ((spec_l11Named.f k a1).bind fun t163 => (if t163 = true then ((spec_l01In.f a2 1 9).bind fun t164 => (if t164 = true then ((spec_l01In.f a3 0 1000000000).bind fun t165 => (spec_TakeLease.j0 k l0 a1 a2 a3 t159 (!t165))) else (spec_TakeLease.j0 k l0 a1 a2 a3 t159 true))) else (spec_TakeLease.j0 k l0 a1 a2 a3 t159 true))) else (spec_TakeLease.j0 k l0 a1 a2 a3 t159 true)))) = some (r1, r2) := h
  clear h
  replace H := Option.bind_eq_some_iff.mp H
  obtain ⟨t159, A50, H⟩ := H
  replace H : ((spec_LeasesOk.f k l0).bind fun t162 => (if t162 = true then ((spec_l11Named.f k a1).bind fun t163 => (if t163 = true then ((spec_l01In.f a2 1 9).bind fun t164 => (if t164 = true then ((spec_l01In.f a3 0 1000000000).bind fun t165 => (spec_TakeLease.j0 k l0 a1 a2 a3 t159 (!t165))) else (spec_TakeLease.j0 k l0 a1 a2 a3 t159 true))) else (spec_TakeLease.j0 k l0 a1 a2 a3 t159 true))) else (spec_TakeLease.j0 k l0 a1 a2 a3 t159 true))) = some (r1, r2) := H
  have A5 := Aside0.mk A50
  clear A50
  have HC6 := Aside0.mk H
  clear H
  go_enter Tryd.func29, Tryd.ntmps29
  go_upto_region 2 with (first | ((with_reducible refine gate_callee (f := 36) rfl ?_); refine GL (some 16) rfl rfl Tryd.func36 #[.slice A0 l0.length c0] rfl ?_; (with_reducible refine (spec_l16Copy.calls _ _ l0 t159 _ ?side1 ?side2 A5.out).mono ?_); (case side1 => exact CC HR0.out); (case side2 => exact HC0.out); rintro e w7 ⟨v160, rfl, ho0, hb⟩; refine ⟨_, rfl, ?_⟩; have HO161 := Aside0.mk (Kd.R_lower ho0 (below_size (BB HB.out))); replace HB := Aside0.mk (below_step (BB HB.out) hb); (try clear hb); (try clear ho0)))
  (try simp only [Act.put, List.setIfInBounds_toArray, List.set_cons_zero, List.set_cons_succ])
  go_cut [34] (fun v34 wc => ∃ (kq : Nat) (x34_5 : Bool), v34 = .bool x34_5 ∧ Aside0 (spec_TakeLease.j0 kq l0 a1 a2 a3 t159 x34_5 = some (r1, r2)) ∧ Aside0 (kq ≤ k) ∧ Aside0 (Kd.R k35 35 wc w.heap.size (fun _ => True) v160 t159) ∧ Aside0 (Below w.heap.size w wc))
  case first =>
    have H := HC6.out
    clear HC6
    replace H := Option.bind_eq_some_iff.mp H
    obtain ⟨t162, A80, H⟩ := H
    replace H : (if t162 = true then ((spec_l11Named.f k a1).bind fun t163 => (if t163 = true then ((spec_l01In.f a2 1 9).bind fun t164 => (if t164 = true then ((spec_l01In.f a3 0 1000000000).bind fun t165 => (spec_TakeLease.j0 k l0 a1 a2 a3 t159 (!t165))) else (spec_TakeLease.j0 k l0 a1 a2 a3 t159 true))) else (spec_TakeLease.j0 k l0 a1 a2 a3 t159 true))) else (spec_TakeLease.j0 k l0 a1 a2 a3 t159 true)) = some (r1, r2) := H
    have A8 := Aside0.mk A80
    clear A80
    by_cases c9 : t162 = true
    · subst c9
      have H1 : ((spec_l11Named.f k a1).bind fun t163 => (if t163 = true then ((spec_l01In.f a2 1 9).bind fun t164 => (if t164 = true then ((spec_l01In.f a3 0 1000000000).bind fun t165 => (spec_TakeLease.j0 k l0 a1 a2 a3 t159 (!t165))) else (spec_TakeLease.j0 k l0 a1 a2 a3 t159 true))) else (spec_TakeLease.j0 k l0 a1 a2 a3 t159 true))) = some (r1, r2) := by rw [if_pos rfl] at H; exact H
      clear H
      have H := H1
      clear H1
      replace H := Option.bind_eq_some_iff.mp H
      obtain ⟨t163, A100, H⟩ := H
      replace H : (if t163 = true then ((spec_l01In.f a2 1 9).bind fun t164 => (if t164 = true then ((spec_l01In.f a3 0 1000000000).bind fun t165 => (spec_TakeLease.j0 k l0 a1 a2 a3 t159 (!t165))) else (spec_TakeLease.j0 k l0 a1 a2 a3 t159 true))) else (spec_TakeLease.j0 k l0 a1 a2 a3 t159 true)) = some (r1, r2) := H
      have A10 := Aside0.mk A100
      clear A100
      by_cases c11 : t163 = true
      · subst c11
        have H1 : ((spec_l01In.f a2 1 9).bind fun t164 => (if t164 = true then ((spec_l01In.f a3 0 1000000000).bind fun t165 => (spec_TakeLease.j0 k l0 a1 a2 a3 t159 (!t165))) else (spec_TakeLease.j0 k l0 a1 a2 a3 t159 true))) = some (r1, r2) := by rw [if_pos rfl] at H; exact H
        clear H
        have H := H1
        clear H1
        replace H := Option.bind_eq_some_iff.mp H
        obtain ⟨t164, A120, H⟩ := H
        replace H : (if t164 = true then ((spec_l01In.f a3 0 1000000000).bind fun t165 => (spec_TakeLease.j0 k l0 a1 a2 a3 t159 (!t165))) else (spec_TakeLease.j0 k l0 a1 a2 a3 t159 true)) = some (r1, r2) := H
        have A12 := Aside0.mk A120
        clear A120
        by_cases c13 : t164 = true
        · subst c13
          have H1 : ((spec_l01In.f a3 0 1000000000).bind fun t165 => (spec_TakeLease.j0 k l0 a1 a2 a3 t159 (!t165))) = some (r1, r2) := by rw [if_pos rfl] at H; exact H
          clear H
          have H := H1
          clear H1
          replace H := Option.bind_eq_some_iff.mp H
          obtain ⟨t165, A140, H⟩ := H
          replace H : (spec_TakeLease.j0 k l0 a1 a2 a3 t159 (!t165)) = some (r1, r2) := H
          have A14 := Aside0.mk A140
          clear A140
          have H' := Aside0.mk H
          clear H
          go_wp2_with (first | ((with_reducible refine gate_callee (f := 37) rfl ?_); refine GL (some 18) rfl rfl Tryd.func37 #[.slice A0 l0.length c0] rfl ?_; (with_reducible refine (spec_LeasesOk.calls k _ _ l0 true _ ?side1 ?side2 A8.out).mono ?_); (case side1 => exact CC (Kd.C_below HR0.out HB.out)); (case side2 => exact HC0.out); rintro e w15 ⟨rfl, hb⟩; refine ⟨_, rfl, ?_⟩; replace HO161 := Aside0.mk (Kd.R_below (RR HO161.out) hb); replace HB := Aside0.mk (below_step (BB HB.out) hb); (try clear hb)) | (go_at_call 38; (with_reducible refine (spec_l11Named.calls k a1 true _ A10.out).mono ?_); rintro e w16 ⟨rfl, hb⟩; replace HO161 := Aside0.mk (Kd.R_below (RR HO161.out) hb); replace HB := Aside0.mk (below_step (BB HB.out) hb); (try clear hb); (try clear hb2); (try clear hk); (try clear hi)) | (go_at_call 28; (with_reducible refine (spec_l01In.calls a2 1 9 true _ A12.out).mono ?_); rintro e w' ⟨rfl, ⟨nd, rfl⟩⟩) | (go_at_call 28; (with_reducible refine (spec_l01In.calls a3 0 1000000000 t165 _ A14.out).mono ?_); rintro e w' ⟨rfl, ⟨nd, rfl⟩⟩))
          go_meet
          case rel => exact ⟨_, (!t165), FR, H', ⟨by first | omega | exact Nat.le_refl _⟩, ⟨(RR HO161.out)⟩, ⟨(BB HB.out)⟩⟩
        · replace c13 := Bool.eq_false_iff.mpr c13
          subst c13
          have H1 : (spec_TakeLease.j0 k l0 a1 a2 a3 t159 true) = some (r1, r2) := by rw [if_neg (show ¬ (false = true) by decide)] at H; exact H
          clear H
          have H := H1
          clear H1
          have H' := Aside0.mk H
          clear H
          go_wp2_with (first | ((with_reducible refine gate_callee (f := 37) rfl ?_); refine GL (some 18) rfl rfl Tryd.func37 #[.slice A0 l0.length c0] rfl ?_; (with_reducible refine (spec_LeasesOk.calls k _ _ l0 true _ ?side1 ?side2 A8.out).mono ?_); (case side1 => exact CC (Kd.C_below HR0.out HB.out)); (case side2 => exact HC0.out); rintro e w17 ⟨rfl, hb⟩; refine ⟨_, rfl, ?_⟩; replace HO161 := Aside0.mk (Kd.R_below (RR HO161.out) hb); replace HB := Aside0.mk (below_step (BB HB.out) hb); (try clear hb)) | (go_at_call 38; (with_reducible refine (spec_l11Named.calls k a1 true _ A10.out).mono ?_); rintro e w18 ⟨rfl, hb⟩; replace HO161 := Aside0.mk (Kd.R_below (RR HO161.out) hb); replace HB := Aside0.mk (below_step (BB HB.out) hb); (try clear hb); (try clear hb2); (try clear hk); (try clear hi)) | (go_at_call 28; (with_reducible refine (spec_l01In.calls a2 1 9 false _ A12.out).mono ?_); rintro e w' ⟨rfl, ⟨nd, rfl⟩⟩))
          go_meet
          case rel => exact ⟨_, (true), FR, H', ⟨by first | omega | exact Nat.le_refl _⟩, ⟨(RR HO161.out)⟩, ⟨(BB HB.out)⟩⟩
      · replace c11 := Bool.eq_false_iff.mpr c11
        subst c11
        have H1 : (spec_TakeLease.j0 k l0 a1 a2 a3 t159 true) = some (r1, r2) := by rw [if_neg (show ¬ (false = true) by decide)] at H; exact H
        clear H
        have H := H1
        clear H1
        have H' := Aside0.mk H
        clear H
        go_wp2_with (first | ((with_reducible refine gate_callee (f := 37) rfl ?_); refine GL (some 18) rfl rfl Tryd.func37 #[.slice A0 l0.length c0] rfl ?_; (with_reducible refine (spec_LeasesOk.calls k _ _ l0 true _ ?side1 ?side2 A8.out).mono ?_); (case side1 => exact CC (Kd.C_below HR0.out HB.out)); (case side2 => exact HC0.out); rintro e w19 ⟨rfl, hb⟩; refine ⟨_, rfl, ?_⟩; replace HO161 := Aside0.mk (Kd.R_below (RR HO161.out) hb); replace HB := Aside0.mk (below_step (BB HB.out) hb); (try clear hb)) | (go_at_call 38; (with_reducible refine (spec_l11Named.calls k a1 false _ A10.out).mono ?_); rintro e w20 ⟨rfl, hb⟩; replace HO161 := Aside0.mk (Kd.R_below (RR HO161.out) hb); replace HB := Aside0.mk (below_step (BB HB.out) hb); (try clear hb); (try clear hb2); (try clear hk); (try clear hi)))
        go_meet
        case rel => exact ⟨_, (true), FR, H', ⟨by first | omega | exact Nat.le_refl _⟩, ⟨(RR HO161.out)⟩, ⟨(BB HB.out)⟩⟩
    · replace c9 := Bool.eq_false_iff.mpr c9
      subst c9
      have H1 : (spec_TakeLease.j0 k l0 a1 a2 a3 t159 true) = some (r1, r2) := by rw [if_neg (show ¬ (false = true) by decide)] at H; exact H
      clear H
      have H := H1
      clear H1
      have H' := Aside0.mk H
      clear H
      go_wp2_with (first | ((with_reducible refine gate_callee (f := 37) rfl ?_); refine GL (some 18) rfl rfl Tryd.func37 #[.slice A0 l0.length c0] rfl ?_; (with_reducible refine (spec_LeasesOk.calls k _ _ l0 false _ ?side1 ?side2 A8.out).mono ?_); (case side1 => exact CC (Kd.C_below HR0.out HB.out)); (case side2 => exact HC0.out); rintro e w21 ⟨rfl, hb⟩; refine ⟨_, rfl, ?_⟩; replace HO161 := Aside0.mk (Kd.R_below (RR HO161.out) hb); replace HB := Aside0.mk (below_step (BB HB.out) hb); (try clear hb)))
      go_meet
      case rel => exact ⟨_, (true), FR, H', ⟨by first | omega | exact Nat.le_refl _⟩, ⟨(RR HO161.out)⟩, ⟨(BB HB.out)⟩⟩
  case rest =>
    clear HC6
    try clear c1
    try clear c2
    try clear p2
    try clear c3
    try clear c9
    try clear c11
    try clear c13
    obtain ⟨kq, x34_5, rfl, HA, HJ5, HO_10, HB⟩ := hcut
    cases kq with
    | zero => exact absurd HA.out (by simp [spec_TakeLease.j0])
    | succ kj5 =>
      have H := HA.out
      clear HA
      simp only [spec_TakeLease.j0] at H
      by_cases c22 : x34_5 = true
      · subst c22
        have H1 : (some (t159, false)) = some (r1, r2) := by rw [if_pos rfl] at H; exact H
        clear H
        have H := H1
        clear H1
        simp only [Option.some.injEq, Prod.mk.injEq] at H
        obtain ⟨rfl, rfl⟩ := H
        go_wp2
        go_ret2
        exact ⟨_, ER, by (with_reducible repeat (first | apply Kd.R_alloc | apply Kd.R_drewN | apply Kd.R_drew)); exact HO_10.out, (BB HB.out)⟩
      · replace c22 := Bool.eq_false_iff.mpr c22
        subst c22
        have H1 : (spec_TakeLease.l0 kj5 l0 a1 a2 a3 t159 0) = some (r1, r2) := by rw [if_neg (show ¬ (false = true) by decide)] at H; exact H
        clear H
        have H := H1
        clear H1
        have H' := Aside0.mk H
        clear H
        go_wp2
        go_loopg [11] kj5 (fun kq v11 w' => ∃ (x10_2 : List (S35)) (x11_2 : Int), v11 = .int .i64 x11_2 ∧ Aside0 (spec_TakeLease.l0 kq l0 a1 a2 a3 x10_2 x11_2 = some (r1, r2)) ∧ Aside0 (kq ≤ kj5) ∧ Aside0 (Kd.R k35 35 w' w.heap.size (fun _ => True) v160 x10_2) ∧ Aside0 (Below w.heap.size w w'))
        case atStart => exact ⟨(t159), (0), FR, H', ⟨Nat.le_refl _⟩, ⟨(RR HO_10.out)⟩, ⟨(BB HB.out)⟩⟩
        case round =>
          clear H'
          try clear c1
          try clear c2
          try clear p2
          try clear c3
          try clear c9
          try clear c11
          try clear c13
          try clear c22
          try clear p2
          obtain ⟨x10_2, x11_2, rfl, HA, HK2, HO_10, HB⟩ := hrel
          cases gk with
          | zero => exact absurd HA.out (by simp [spec_TakeLease.l0])
          | succ k2 =>
            have H := HA.out
            clear HA
            simp only [spec_TakeLease.l0] at H
            by_cases c23 : x11_2 < (x10_2.length : Int)
            · rw [if_pos c23] at H
              have c23b0 : decide (x11_2 < (x10_2.length : Int)) = true := decide_eq_true c23
              clear c23
              by_cases c24 : 0 ≤ x11_2
              · rw [if_pos c24] at H
                have c24b0 : decide (0 ≤ x11_2) = true := decide_eq_true c24
                clear c24
                by_cases c25 : ((rd_T35 x10_2 x11_2).f0).toList = a1.toList
                · rw [if_pos c25] at H
                  have c25b0 : (((rd_T35 x10_2 x11_2).f0).toList == a1.toList) = true := beq_iff_eq.mpr c25
                  have c25b1 : (((rd_T35 x10_2 x11_2).f0).toList != a1.toList) = false := bne_eq_false_iff_eq.mpr c25
                  clear c25
                  by_cases c26 : ((rd_T35 x10_2 x11_2).f1) = a2
                  · rw [if_pos c26] at H
                    have c26b0 : (((rd_T35 x10_2 x11_2).f1) == a2) = true := beq_iff_eq.mpr c26
                    have c26b1 : (((rd_T35 x10_2 x11_2).f1) != a2) = false := bne_eq_false_iff_eq.mpr c26
                    clear c26
                    obtain ⟨y168, hy168⟩ : ∃ y_ : List (S35), y_ = (x10_2.set (x11_2 : Int).toNat (⟨(rd_T35 x10_2 x11_2).f0, a2, (rd_T35 x10_2 x11_2).f2⟩ : S35)) := ⟨_, rfl⟩
                    replace H : (some ((y168.set (x11_2 : Int).toNat (⟨(rd_T35 y168 x11_2).f0, (rd_T35 y168 x11_2).f1, a3⟩ : S35)), true)) = some (r1, r2) := by first | (rw [hy168]; with_reducible exact H) | (have H2_ := (Option.bind_some _ _).symm.trans H; rw [hy168]; with_reducible exact H2_) | (have H2_ := (Option.bind_some _ _).symm.trans H; with_reducible exact H2_) | with_reducible exact H | (rw [hy168]; exact H) | exact H
                    have Ny168 := Aside0.mk hy168
                    clear hy168
                    obtain ⟨y169, hy169⟩ : ∃ y_ : List (S35), y_ = (y168.set (x11_2 : Int).toNat (⟨(rd_T35 y168 x11_2).f0, (rd_T35 y168 x11_2).f1, a3⟩ : S35)) := ⟨_, rfl⟩
                    replace H : (some (y169, true)) = some (r1, r2) := by first | (rw [hy169]; with_reducible exact H) | (have H2_ := (Option.bind_some _ _).symm.trans H; rw [hy169]; with_reducible exact H2_) | (have H2_ := (Option.bind_some _ _).symm.trans H; with_reducible exact H2_) | with_reducible exact H | (rw [hy169]; exact H) | exact H
                    have Ny169 := Aside0.mk hy169
                    clear hy169
                    simp only [Option.some.injEq, Prod.mk.injEq] at H
                    obtain ⟨rfl, rfl⟩ := H
                    obtain ⟨Ao29, co29, eo29⟩ := Kd.R_slice HO_10.out
                    subst eo29
                    have p166 : 0 ≤ (x11_2 : Int) := DT
                    have q166 : x11_2 < (x10_2.length : Int) := DT
                    obtain ⟨ad166, e166, hx166_0, hx166_1, hx166_2⟩ := at_T35 (Kd.R_reads' HO_10.out).2.2 x11_2 p166 q166
                    cases e166
                    replace p166 := eq_true p166
                    replace q166 := eq_true q166
                    have p167 : 0 ≤ (x11_2 : Int) := DT
                    have q167 : x11_2 < (x10_2.length : Int) := DT
                    obtain ⟨ad167, e167, hx167_0, hx167_1, hx167_2⟩ := at_T35 (Kd.R_reads' HO_10.out).2.2 x11_2 p167 q167
                    obtain rfl : ad166 = ad167 := (by injection e167)
                    replace p167 := eq_true p167
                    replace q167 := eq_true q167
                    have p27 : 0 ≤ (x11_2 : Int) := DT
                    have q27 : (x11_2 : Int) < ((x10_2.length : Int) : Int) := DT
                    obtain ⟨go27, co27, eo27, gb27, gl27, cl27, HG27⟩ := Kd.R_form HO_10.out (by omega)
                    (first | cases eo27 | (injection eo27 with ea_ en_ ec_; (first | subst ea_ | (injection ea_ with ea_; subst ea_)); subst ec_; clear en_))
                    have GB27 := Aside0.mk gb27
                    have GG27 := Aside0.mk HG27
                    clear gb27 gl27 HG27
                    (first | simp only [add_plain] at hx166_0 | skip)
                    (first | simp only [add_plain] at hx166_1 | skip)
                    (first | simp only [add_plain] at hx166_2 | skip)
                    (first | simp only [add_plain] at hx167_0 | skip)
                    (first | simp only [add_plain] at hx167_1 | skip)
                    (first | simp only [add_plain] at hx167_2 | skip)
                    obtain ⟨ce27, hcl27, hM27, hcc27, hfr27⟩ := Kd.R_elem HO_10.out z35 (x11_2 : Int) p27 q27
                    obtain rfl := k35_openM hM27
                    have hx27_0 : wr.cell? ⟨go27, (x11_2 : Int).toNat * 3, none⟩ = some (.string ((rd_T35 x10_2 x11_2).f0)) := hcc27 0 _ rfl
                    have hx27_1 : wr.cell? ⟨go27, (x11_2 : Int).toNat * 3 + 1, none⟩ = some (.int .i64 ((rd_T35 x10_2 x11_2).f1)) := hcc27 1 _ rfl
                    have hx27_2 : wr.cell? ⟨go27, (x11_2 : Int).toNat * 3 + 2, none⟩ = some (.int .i64 ((rd_T35 x10_2 x11_2).f2)) := hcc27 2 _ rfl
                    have hf27_0 : wr.frozen? ⟨go27, (x11_2 : Int).toNat * 3, none⟩ = false := hfr27 0
                    have hf27_1 : wr.frozen? ⟨go27, (x11_2 : Int).toNat * 3 + 1, none⟩ = false := hfr27 1
                    have hf27_2 : wr.frozen? ⟨go27, (x11_2 : Int).toNat * 3 + 2, none⟩ = false := hfr27 2
                    clear hcl27 hcc27 hfr27 hM27
                    replace p27 := eq_true p27
                    replace q27 := eq_true q27
                    have HX30 := Aside0.mk (show Kd.R k35 35 wr w.heap.size (fun _ => True) (.slice (some ⟨go27, 0, none⟩) x10_2.length co29) x10_2 from (RR HO_10.out))
                    obtain ⟨ce30, hcl30, hM30, hcc30, hfr30⟩ := Kd.R_elem HX30.out z35 (x11_2 : Int) DT (by have h_ : (x11_2 : Int) < ((x10_2.length : Int) : Int) := DT; first | exact h_ | (have e_ := (Kd.R_reads' HO_10.out).1; omega) | simpa using h_)
                    obtain rfl := k35_openM hM30
                    have HP30 := Kd.R_seg HX30.out (x11_2 : Int) DT (by have h_ : (x11_2 : Int) < ((x10_2.length : Int) : Int) := DT; first | exact h_ | (have e_ := (Kd.R_reads' HO_10.out).1; omega) | simpa using h_) (seg := [.int .i64 a2]) (j := 1) hcl30 hcc30 (show 2 ≤ 3 from by decide) (x' := (⟨(rd_T35 x10_2 x11_2).f0, a2, (rd_T35 x10_2 x11_2).f2⟩ : S35)) (k35_mkM _ _ _ (⟨(rd_T35 x10_2 x11_2).f0, a2, (rd_T35 x10_2 x11_2).f2⟩ : S35) ) (fun _ hk => hk)
                    have hx30_1 := hcc30 1 _ rfl
                    (try simp only [show (k35).sz = 3 from rfl, Nat.mul_one, Nat.add_zero] at hx30_1)
                    have hf30_1 := hfr30 1
                    (try simp only [show (k35).sz = 3 from rfl, Nat.mul_one, Nat.add_zero] at hf30_1)
                    clear hcl30 hcc30 hfr30 hM30
                    go_wp2_with (first | ((with_reducible refine gate_store (t := 3) (p := 71) rfl ?_); refine store_event (t := 3) (p := 71) (v := ?vo_w31) (w1 := (wr.setCell ⟨go27, (x11_2 : Int).toNat * 3 + 1, none⟩ (.int .i64 a2))) ?hg ?ho ?hn ?hr ?_; (case ho => rfl); (case hg => rfl); (case hn => rfl); (case hr => first | (go_simp; done) | (go_simp; rfl)); intro w31 hw; have hg : wr.grownBy w31 (some go27) := (by rw [hw]; exact HP30.2); have hp_ : Kd.R k35 35 w31 w.heap.size (fun _ => True) (.slice (some ⟨go27, 0, none⟩) x10_2.length co29) y168 := (by rw [hw, Ny168.out]; exact HP30.1); clear HP30; have n0_ := Aside0.mk (hp_); have n1_ := Aside0.mk ((by rw [hw]; exact below_set (HB.out) GB27.out : Below w.heap.size w w31)); clear HO_10; clear HB; have HO_10 := n0_; have HB := n1_; clear n0_ n1_; clear hg hw hp_; have p28 : 0 ≤ (x11_2 : Int) := DT; have q28 : (x11_2 : Int) < ((x10_2.length : Int) : Int) := DT; obtain ⟨ce28, hcl28, hM28, hcc28, hfr28⟩ := Kd.R_elem HO_10.out z35 (x11_2 : Int) p28 q28; obtain rfl := k35_openM hM28; have hx28_0 : w31.cell? ⟨go27, (x11_2 : Int).toNat * 3, none⟩ = some (.string ((rd_T35 y168 x11_2).f0)) := hcc28 0 _ rfl; have hx28_1 : w31.cell? ⟨go27, (x11_2 : Int).toNat * 3 + 1, none⟩ = some (.int .i64 ((rd_T35 y168 x11_2).f1)) := hcc28 1 _ rfl; have hx28_2 : w31.cell? ⟨go27, (x11_2 : Int).toNat * 3 + 2, none⟩ = some (.int .i64 ((rd_T35 y168 x11_2).f2)) := hcc28 2 _ rfl; have hf28_0 : w31.frozen? ⟨go27, (x11_2 : Int).toNat * 3, none⟩ = false := hfr28 0; have hf28_1 : w31.frozen? ⟨go27, (x11_2 : Int).toNat * 3 + 1, none⟩ = false := hfr28 1; have hf28_2 : w31.frozen? ⟨go27, (x11_2 : Int).toNat * 3 + 2, none⟩ = false := hfr28 2; clear hcl28 hcc28 hfr28 hM28; replace p28 := eq_true p28; replace q28 := eq_true q28; have HX32 := Aside0.mk (show Kd.R k35 35 w31 w.heap.size (fun _ => True) (.slice (some ⟨go27, 0, none⟩) x10_2.length co29) y168 from (RR HO_10.out)); obtain ⟨ce32, hcl32, hM32, hcc32, hfr32⟩ := Kd.R_elem HX32.out z35 (x11_2 : Int) DT (by have h_ : (x11_2 : Int) < ((x10_2.length : Int) : Int) := DT; first | exact h_ | (have e_ := (Kd.R_reads' HO_10.out).1; omega) | simpa using h_); obtain rfl := k35_openM hM32; have HP32 := Kd.R_seg HX32.out (x11_2 : Int) DT (by have h_ : (x11_2 : Int) < ((x10_2.length : Int) : Int) := DT; first | exact h_ | (have e_ := (Kd.R_reads' HO_10.out).1; omega) | simpa using h_) (seg := [.int .i64 a3]) (j := 2) hcl32 hcc32 (show 3 ≤ 3 from by decide) (x' := (⟨(rd_T35 y168 x11_2).f0, (rd_T35 y168 x11_2).f1, a3⟩ : S35)) (k35_mkM _ _ _ (⟨(rd_T35 y168 x11_2).f0, (rd_T35 y168 x11_2).f1, a3⟩ : S35) ) (fun _ hk => hk); have hx32_2 := hcc32 2 _ rfl; (try simp only [show (k35).sz = 3 from rfl, Nat.mul_one, Nat.add_zero] at hx32_2); have hf32_2 := hfr32 2; (try simp only [show (k35).sz = 3 from rfl, Nat.mul_one, Nat.add_zero] at hf32_2); clear hcl32 hcc32 hfr32 hM32) | ((with_reducible refine gate_store (t := 3) (p := 76) rfl ?_); refine store_event (t := 3) (p := 76) (v := ?vo_w33) (w1 := (w31.setCell ⟨go27, (x11_2 : Int).toNat * 3 + 2, none⟩ (.int .i64 a3))) ?hg ?ho ?hn ?hr ?_; (case ho => rfl); (case hg => rfl); (case hn => rfl); (case hr => first | (go_simp; done) | (go_simp; rfl)); intro w33 hw; have hg : w31.grownBy w33 (some go27) := (by rw [hw]; exact HP32.2); have hp_ : Kd.R k35 35 w33 w.heap.size (fun _ => True) (.slice (some ⟨go27, 0, none⟩) x10_2.length co29) y169 := (by rw [hw, Ny169.out]; exact HP32.1); clear HP32; have n0_ := Aside0.mk (hp_); have n1_ := Aside0.mk ((by rw [hw]; exact below_set (HB.out) GB27.out : Below w.heap.size w w33)); clear HO_10; clear HB; have HO_10 := n0_; have HB := n1_; clear n0_ n1_; clear hg hw hp_))
                    go_ret2
                    exact ⟨_, ER, by (with_reducible repeat (first | apply Kd.R_alloc | apply Kd.R_drewN | apply Kd.R_drew)); exact HO_10.out, (BB HB.out)⟩
                  · rw [if_neg c26] at H
                    have c26b0 : (((rd_T35 x10_2 x11_2).f1) == a2) = false := beq_eq_false_iff_ne.mpr c26
                    have c26b1 : (((rd_T35 x10_2 x11_2).f1) != a2) = true := bne_iff_ne.mpr c26
                    by_cases c34 : (wrap64 (a3 - ((rd_T35 x10_2 x11_2).f2))) < 5
                    · rw [if_pos c34] at H
                      have c34b0 : decide ((wrap64 (a3 - ((rd_T35 x10_2 x11_2).f2))) < 5) = true := decide_eq_true c34
                      clear c34
                      simp only [Option.some.injEq, Prod.mk.injEq] at H
                      obtain ⟨rfl, rfl⟩ := H
                      obtain ⟨Ao35, co35, eo35⟩ := Kd.R_slice HO_10.out
                      subst eo35
                      have p166 : 0 ≤ (x11_2 : Int) := DT
                      have q166 : x11_2 < (x10_2.length : Int) := DT
                      obtain ⟨ad166, e166, hx166_0, hx166_1, hx166_2⟩ := at_T35 (Kd.R_reads' HO_10.out).2.2 x11_2 p166 q166
                      cases e166
                      replace p166 := eq_true p166
                      replace q166 := eq_true q166
                      have p167 : 0 ≤ (x11_2 : Int) := DT
                      have q167 : x11_2 < (x10_2.length : Int) := DT
                      obtain ⟨ad167, e167, hx167_0, hx167_1, hx167_2⟩ := at_T35 (Kd.R_reads' HO_10.out).2.2 x11_2 p167 q167
                      obtain rfl : ad166 = ad167 := (by injection e167)
                      replace p167 := eq_true p167
                      replace q167 := eq_true q167
                      have p170 : 0 ≤ (x11_2 : Int) := DT
                      have q170 : x11_2 < (x10_2.length : Int) := DT
                      obtain ⟨ad170, e170, hx170_0, hx170_1, hx170_2⟩ := at_T35 (Kd.R_reads' HO_10.out).2.2 x11_2 p170 q170
                      obtain rfl : ad166 = ad170 := (by injection e170)
                      replace p170 := eq_true p170
                      replace q170 := eq_true q170
                      go_wp2
                      go_ret2
                      exact ⟨_, ER, by (with_reducible repeat (first | apply Kd.R_alloc | apply Kd.R_drewN | apply Kd.R_drew)); exact HO_10.out, (BB HB.out)⟩
                    · rw [if_neg c34] at H
                      have c34b0 : decide ((wrap64 (a3 - ((rd_T35 x10_2 x11_2).f2))) < 5) = false := decide_eq_false c34
                      clear c34
                      obtain ⟨y171, hy171⟩ : ∃ y_ : List (S35), y_ = (x10_2.set (x11_2 : Int).toNat (⟨(rd_T35 x10_2 x11_2).f0, a2, (rd_T35 x10_2 x11_2).f2⟩ : S35)) := ⟨_, rfl⟩
                      replace H : (some ((y171.set (x11_2 : Int).toNat (⟨(rd_T35 y171 x11_2).f0, (rd_T35 y171 x11_2).f1, a3⟩ : S35)), true)) = some (r1, r2) := by first | (rw [hy171]; with_reducible exact H) | (have H2_ := (Option.bind_some _ _).symm.trans H; rw [hy171]; with_reducible exact H2_) | (have H2_ := (Option.bind_some _ _).symm.trans H; with_reducible exact H2_) | with_reducible exact H | (rw [hy171]; exact H) | exact H
                      have Ny171 := Aside0.mk hy171
                      clear hy171
                      obtain ⟨y172, hy172⟩ : ∃ y_ : List (S35), y_ = (y171.set (x11_2 : Int).toNat (⟨(rd_T35 y171 x11_2).f0, (rd_T35 y171 x11_2).f1, a3⟩ : S35)) := ⟨_, rfl⟩
                      replace H : (some (y172, true)) = some (r1, r2) := by first | (rw [hy172]; with_reducible exact H) | (have H2_ := (Option.bind_some _ _).symm.trans H; rw [hy172]; with_reducible exact H2_) | (have H2_ := (Option.bind_some _ _).symm.trans H; with_reducible exact H2_) | with_reducible exact H | (rw [hy172]; exact H) | exact H
                      have Ny172 := Aside0.mk hy172
                      clear hy172
                      simp only [Option.some.injEq, Prod.mk.injEq] at H
                      obtain ⟨rfl, rfl⟩ := H
                      obtain ⟨Ao38, co38, eo38⟩ := Kd.R_slice HO_10.out
                      subst eo38
                      have p166 : 0 ≤ (x11_2 : Int) := DT
                      have q166 : x11_2 < (x10_2.length : Int) := DT
                      obtain ⟨ad166, e166, hx166_0, hx166_1, hx166_2⟩ := at_T35 (Kd.R_reads' HO_10.out).2.2 x11_2 p166 q166
                      cases e166
                      replace p166 := eq_true p166
                      replace q166 := eq_true q166
                      have p167 : 0 ≤ (x11_2 : Int) := DT
                      have q167 : x11_2 < (x10_2.length : Int) := DT
                      obtain ⟨ad167, e167, hx167_0, hx167_1, hx167_2⟩ := at_T35 (Kd.R_reads' HO_10.out).2.2 x11_2 p167 q167
                      obtain rfl : ad166 = ad167 := (by injection e167)
                      replace p167 := eq_true p167
                      replace q167 := eq_true q167
                      have p170 : 0 ≤ (x11_2 : Int) := DT
                      have q170 : x11_2 < (x10_2.length : Int) := DT
                      obtain ⟨ad170, e170, hx170_0, hx170_1, hx170_2⟩ := at_T35 (Kd.R_reads' HO_10.out).2.2 x11_2 p170 q170
                      obtain rfl : ad166 = ad170 := (by injection e170)
                      replace p170 := eq_true p170
                      replace q170 := eq_true q170
                      have p36 : 0 ≤ (x11_2 : Int) := DT
                      have q36 : (x11_2 : Int) < ((x10_2.length : Int) : Int) := DT
                      obtain ⟨go36, co36, eo36, gb36, gl36, cl36, HG36⟩ := Kd.R_form HO_10.out (by omega)
                      (first | cases eo36 | (injection eo36 with ea_ en_ ec_; (first | subst ea_ | (injection ea_ with ea_; subst ea_)); subst ec_; clear en_))
                      have GB36 := Aside0.mk gb36
                      have GG36 := Aside0.mk HG36
                      clear gb36 gl36 HG36
                      (first | simp only [add_plain] at hx166_0 | skip)
                      (first | simp only [add_plain] at hx166_1 | skip)
                      (first | simp only [add_plain] at hx166_2 | skip)
                      (first | simp only [add_plain] at hx167_0 | skip)
                      (first | simp only [add_plain] at hx167_1 | skip)
                      (first | simp only [add_plain] at hx167_2 | skip)
                      (first | simp only [add_plain] at hx170_0 | skip)
                      (first | simp only [add_plain] at hx170_1 | skip)
                      (first | simp only [add_plain] at hx170_2 | skip)
                      obtain ⟨ce36, hcl36, hM36, hcc36, hfr36⟩ := Kd.R_elem HO_10.out z35 (x11_2 : Int) p36 q36
                      obtain rfl := k35_openM hM36
                      have hx36_0 : wr.cell? ⟨go36, (x11_2 : Int).toNat * 3, none⟩ = some (.string ((rd_T35 x10_2 x11_2).f0)) := hcc36 0 _ rfl
                      have hx36_1 : wr.cell? ⟨go36, (x11_2 : Int).toNat * 3 + 1, none⟩ = some (.int .i64 ((rd_T35 x10_2 x11_2).f1)) := hcc36 1 _ rfl
                      have hx36_2 : wr.cell? ⟨go36, (x11_2 : Int).toNat * 3 + 2, none⟩ = some (.int .i64 ((rd_T35 x10_2 x11_2).f2)) := hcc36 2 _ rfl
                      have hf36_0 : wr.frozen? ⟨go36, (x11_2 : Int).toNat * 3, none⟩ = false := hfr36 0
                      have hf36_1 : wr.frozen? ⟨go36, (x11_2 : Int).toNat * 3 + 1, none⟩ = false := hfr36 1
                      have hf36_2 : wr.frozen? ⟨go36, (x11_2 : Int).toNat * 3 + 2, none⟩ = false := hfr36 2
                      clear hcl36 hcc36 hfr36 hM36
                      replace p36 := eq_true p36
                      replace q36 := eq_true q36
                      have HX39 := Aside0.mk (show Kd.R k35 35 wr w.heap.size (fun _ => True) (.slice (some ⟨go36, 0, none⟩) x10_2.length co38) x10_2 from (RR HO_10.out))
                      obtain ⟨ce39, hcl39, hM39, hcc39, hfr39⟩ := Kd.R_elem HX39.out z35 (x11_2 : Int) DT (by have h_ : (x11_2 : Int) < ((x10_2.length : Int) : Int) := DT; first | exact h_ | (have e_ := (Kd.R_reads' HO_10.out).1; omega) | simpa using h_)
                      obtain rfl := k35_openM hM39
                      have HP39 := Kd.R_seg HX39.out (x11_2 : Int) DT (by have h_ : (x11_2 : Int) < ((x10_2.length : Int) : Int) := DT; first | exact h_ | (have e_ := (Kd.R_reads' HO_10.out).1; omega) | simpa using h_) (seg := [.int .i64 a2]) (j := 1) hcl39 hcc39 (show 2 ≤ 3 from by decide) (x' := (⟨(rd_T35 x10_2 x11_2).f0, a2, (rd_T35 x10_2 x11_2).f2⟩ : S35)) (k35_mkM _ _ _ (⟨(rd_T35 x10_2 x11_2).f0, a2, (rd_T35 x10_2 x11_2).f2⟩ : S35) ) (fun _ hk => hk)
                      have hx39_1 := hcc39 1 _ rfl
                      (try simp only [show (k35).sz = 3 from rfl, Nat.mul_one, Nat.add_zero] at hx39_1)
                      have hf39_1 := hfr39 1
                      (try simp only [show (k35).sz = 3 from rfl, Nat.mul_one, Nat.add_zero] at hf39_1)
                      clear hcl39 hcc39 hfr39 hM39
                      go_wp2_with (first | ((with_reducible refine gate_store (t := 3) (p := 71) rfl ?_); refine store_event (t := 3) (p := 71) (v := ?vo_w40) (w1 := (wr.setCell ⟨go36, (x11_2 : Int).toNat * 3 + 1, none⟩ (.int .i64 a2))) ?hg ?ho ?hn ?hr ?_; (case ho => rfl); (case hg => rfl); (case hn => rfl); (case hr => first | (go_simp; done) | (go_simp; rfl)); intro w40 hw; have hg : wr.grownBy w40 (some go36) := (by rw [hw]; exact HP39.2); have hp_ : Kd.R k35 35 w40 w.heap.size (fun _ => True) (.slice (some ⟨go36, 0, none⟩) x10_2.length co38) y171 := (by rw [hw, Ny171.out]; exact HP39.1); clear HP39; have n0_ := Aside0.mk (hp_); have n1_ := Aside0.mk ((by rw [hw]; exact below_set (HB.out) GB36.out : Below w.heap.size w w40)); clear HO_10; clear HB; have HO_10 := n0_; have HB := n1_; clear n0_ n1_; clear hg hw hp_; have p37 : 0 ≤ (x11_2 : Int) := DT; have q37 : (x11_2 : Int) < ((x10_2.length : Int) : Int) := DT; obtain ⟨ce37, hcl37, hM37, hcc37, hfr37⟩ := Kd.R_elem HO_10.out z35 (x11_2 : Int) p37 q37; obtain rfl := k35_openM hM37; have hx37_0 : w40.cell? ⟨go36, (x11_2 : Int).toNat * 3, none⟩ = some (.string ((rd_T35 y171 x11_2).f0)) := hcc37 0 _ rfl; have hx37_1 : w40.cell? ⟨go36, (x11_2 : Int).toNat * 3 + 1, none⟩ = some (.int .i64 ((rd_T35 y171 x11_2).f1)) := hcc37 1 _ rfl; have hx37_2 : w40.cell? ⟨go36, (x11_2 : Int).toNat * 3 + 2, none⟩ = some (.int .i64 ((rd_T35 y171 x11_2).f2)) := hcc37 2 _ rfl; have hf37_0 : w40.frozen? ⟨go36, (x11_2 : Int).toNat * 3, none⟩ = false := hfr37 0; have hf37_1 : w40.frozen? ⟨go36, (x11_2 : Int).toNat * 3 + 1, none⟩ = false := hfr37 1; have hf37_2 : w40.frozen? ⟨go36, (x11_2 : Int).toNat * 3 + 2, none⟩ = false := hfr37 2; clear hcl37 hcc37 hfr37 hM37; replace p37 := eq_true p37; replace q37 := eq_true q37; have HX41 := Aside0.mk (show Kd.R k35 35 w40 w.heap.size (fun _ => True) (.slice (some ⟨go36, 0, none⟩) x10_2.length co38) y171 from (RR HO_10.out)); obtain ⟨ce41, hcl41, hM41, hcc41, hfr41⟩ := Kd.R_elem HX41.out z35 (x11_2 : Int) DT (by have h_ : (x11_2 : Int) < ((x10_2.length : Int) : Int) := DT; first | exact h_ | (have e_ := (Kd.R_reads' HO_10.out).1; omega) | simpa using h_); obtain rfl := k35_openM hM41; have HP41 := Kd.R_seg HX41.out (x11_2 : Int) DT (by have h_ : (x11_2 : Int) < ((x10_2.length : Int) : Int) := DT; first | exact h_ | (have e_ := (Kd.R_reads' HO_10.out).1; omega) | simpa using h_) (seg := [.int .i64 a3]) (j := 2) hcl41 hcc41 (show 3 ≤ 3 from by decide) (x' := (⟨(rd_T35 y171 x11_2).f0, (rd_T35 y171 x11_2).f1, a3⟩ : S35)) (k35_mkM _ _ _ (⟨(rd_T35 y171 x11_2).f0, (rd_T35 y171 x11_2).f1, a3⟩ : S35) ) (fun _ hk => hk); have hx41_2 := hcc41 2 _ rfl; (try simp only [show (k35).sz = 3 from rfl, Nat.mul_one, Nat.add_zero] at hx41_2); have hf41_2 := hfr41 2; (try simp only [show (k35).sz = 3 from rfl, Nat.mul_one, Nat.add_zero] at hf41_2); clear hcl41 hcc41 hfr41 hM41) | ((with_reducible refine gate_store (t := 3) (p := 76) rfl ?_); refine store_event (t := 3) (p := 76) (v := ?vo_w42) (w1 := (w40.setCell ⟨go36, (x11_2 : Int).toNat * 3 + 2, none⟩ (.int .i64 a3))) ?hg ?ho ?hn ?hr ?_; (case ho => rfl); (case hg => rfl); (case hn => rfl); (case hr => first | (go_simp; done) | (go_simp; rfl)); intro w42 hw; have hg : w40.grownBy w42 (some go36) := (by rw [hw]; exact HP41.2); have hp_ : Kd.R k35 35 w42 w.heap.size (fun _ => True) (.slice (some ⟨go36, 0, none⟩) x10_2.length co38) y172 := (by rw [hw, Ny172.out]; exact HP41.1); clear HP41; have n0_ := Aside0.mk (hp_); have n1_ := Aside0.mk ((by rw [hw]; exact below_set (HB.out) GB36.out : Below w.heap.size w w42)); clear HO_10; clear HB; have HO_10 := n0_; have HB := n1_; clear n0_ n1_; clear hg hw hp_))
                      go_ret2
                      exact ⟨_, ER, by (with_reducible repeat (first | apply Kd.R_alloc | apply Kd.R_drewN | apply Kd.R_drew)); exact HO_10.out, (BB HB.out)⟩
                · rw [if_neg c25] at H
                  have c25b0 : (((rd_T35 x10_2 x11_2).f0).toList == a1.toList) = false := beq_eq_false_iff_ne.mpr c25
                  have c25b1 : (((rd_T35 x10_2 x11_2).f0).toList != a1.toList) = true := bne_iff_ne.mpr c25
                  have H' := Aside0.mk H
                  clear H
                  obtain ⟨Ao43, co43, eo43⟩ := Kd.R_slice HO_10.out
                  subst eo43
                  have p166 : 0 ≤ (x11_2 : Int) := DT
                  have q166 : x11_2 < (x10_2.length : Int) := DT
                  obtain ⟨ad166, e166, hx166_0, hx166_1, hx166_2⟩ := at_T35 (Kd.R_reads' HO_10.out).2.2 x11_2 p166 q166
                  cases e166
                  replace p166 := eq_true p166
                  replace q166 := eq_true q166
                  go_wp2
                  go_roundg k2
                  case measure => have := HJ5.out; have := HK2.out; omega
                  case rel => exact ⟨(x10_2), (wrap64 (x11_2 + 1)), FR, H', ⟨by have := HJ5.out; have := HK2.out; omega⟩, ⟨(RR HO_10.out)⟩, ⟨(BB HB.out)⟩⟩
              · rw [if_neg c24] at H
                exact absurd H (by simp)
            · rw [if_neg c23] at H
              have c23b0 : decide (x11_2 < (x10_2.length : Int)) = false := decide_eq_false c23
              clear c23
              by_cases c44 : (l0.length : Int) = 8
              · rw [if_pos c44] at H
                have c44b0 : ((l0.length : Int) == 8) = true := beq_iff_eq.mpr c44
                have c44b1 : ((l0.length : Int) != 8) = false := bne_eq_false_iff_eq.mpr c44
                clear c44
                simp only [Option.some.injEq, Prod.mk.injEq] at H
                obtain ⟨rfl, rfl⟩ := H
                obtain ⟨Ao45, co45, eo45⟩ := Kd.R_slice HO_10.out
                subst eo45
                go_wp2
                go_ret2
                exact ⟨_, ER, by (with_reducible repeat (first | apply Kd.R_alloc | apply Kd.R_drewN | apply Kd.R_drew)); exact HO_10.out, (BB HB.out)⟩
              · rw [if_neg c44] at H
                have c44b0 : ((l0.length : Int) == 8) = false := beq_eq_false_iff_ne.mpr c44
                have c44b1 : ((l0.length : Int) != 8) = true := bne_iff_ne.mpr c44
                obtain ⟨y173, hy173⟩ : ∃ y_ : List (S35), y_ = (([] : List (S35))) := ⟨_, rfl⟩
                replace H : (spec_TakeLease.l1 k2 l0 a1 a2 a3 y173 0) = some (r1, r2) := by first | (rw [hy173]; with_reducible exact H) | (have H2_ := (Option.bind_some _ _).symm.trans H; rw [hy173]; with_reducible exact H2_) | (have H2_ := (Option.bind_some _ _).symm.trans H; with_reducible exact H2_) | with_reducible exact H | (rw [hy173]; exact H) | exact H
                have Ny173 := Aside0.mk hy173
                clear hy173
                have H' := Aside0.mk H
                clear H
                obtain ⟨Ao46, co46, eo46⟩ := Kd.R_slice HO_10.out
                subst eo46
                go_wp2_with (first | ((with_reducible refine gate_dst (N := 82) rfl ?_); refine Kd.R_lit k35 _ 35 ?hg (N := 82) ?hd (xs := ([] : List (S35))) (inner := []) (ok := fun _ => True) (okp := fun _ => True) ?hr ?hp (fun _ hk => hk) trivial (Below.refl _ _) (Nat.le_refl _) (by simp) ?_; (case hd => rfl); (case hg => rfl); (case hr => first | (go_simp; done) | (go_simp; rfl)); (case hp => exact (Reps.none _ _)); intro v174 w47 ho48 hb hg_ hnew_; clear hg_ hnew_; (first | rw [← Ny173.out] at ho48 | (simp only [Int.reduceToNat] at ho48; rw [← Ny173.out] at ho48)); have HO175 := Aside0.mk (Kd.R_lower (Kd.R_new' ho48 (Kd.R_lt (RR HO_10.out))) (below_size (BB HB.out))); replace HO_10 := Aside0.mk (Kd.R_elder' (RR HO_10.out) (Kd.R_base ho48) hb); replace HB := Aside0.mk (below_step (BB HB.out) hb); clear hb ho48))
                go_loopg [12, 13] k2 (fun kq v12 v13 w' => ∃ (x12_3 : List (S35)) (x13_3 : Int), v13 = .int .i64 x13_3 ∧ Aside0 (spec_TakeLease.l1 kq l0 a1 a2 a3 x12_3 x13_3 = some (r1, r2)) ∧ Aside0 (kq ≤ k2) ∧ Aside0 (Kd.R k35 35 w' w.heap.size (fun _ => True) v12 x12_3) ∧ Aside0 (Below w.heap.size w w'))
                case atStart => exact ⟨(y173), (0), FR, H', ⟨Nat.le_refl _⟩, ⟨by (with_reducible repeat (first | apply Kd.R_alloc | apply Kd.R_drewN | apply Kd.R_drew)); exact Kd.R_mono HO175.out (fun _ hk => trivial)⟩, ⟨(BB HB.out)⟩⟩
                case round =>
                  clear H'
                  try clear c1
                  try clear p1
                  try clear q1
                  try clear hx1
                  try clear c2
                  try clear p2
                  try clear q2
                  try clear hx2
                  try clear c3
                  try clear p3
                  try clear q3
                  try clear hx3
                  try clear c4
                  try clear hx4
                  try clear hf4
                  try clear p6
                  try clear c9
                  try clear c11
                  try clear c13
                  try clear p16
                  try clear q16
                  try clear hx16
                  try clear p17
                  try clear q17
                  try clear hx17
                  try clear c22
                  try clear c23
                  try clear c23b0
                  try clear c24
                  try clear c24b0
                  try clear c25
                  try clear c25b0
                  try clear c25b1
                  try clear c26
                  try clear c26b0
                  try clear c26b1
                  try clear c27
                  try clear p27
                  try clear q27
                  try clear hx27
                  try clear hf27
                  try clear c28
                  try clear p28
                  try clear q28
                  try clear hx28
                  try clear hf28
                  try clear c29
                  try clear c30
                  try clear hx30
                  try clear hf30
                  try clear c32
                  try clear hx32
                  try clear hf32
                  try clear c34
                  try clear c34b0
                  try clear c36
                  try clear p36
                  try clear q36
                  try clear hx36
                  try clear hf36
                  try clear c37
                  try clear p37
                  try clear q37
                  try clear hx37
                  try clear hf37
                  try clear c39
                  try clear hx39
                  try clear hf39
                  try clear c41
                  try clear hx41
                  try clear hf41
                  try clear c44
                  try clear c44b0
                  try clear c44b1
                  try clear hx166_0
                  try clear hx166_1
                  try clear hx166_2
                  try clear hx167_0
                  try clear hx167_1
                  try clear hx167_2
                  try clear hx170_0
                  try clear hx170_1
                  try clear hx170_2
                  try clear hx27_0
                  try clear hx27_1
                  try clear hx27_2
                  try clear hx28_0
                  try clear hx28_1
                  try clear hx28_2
                  try clear hx30_1
                  try clear hx32_2
                  try clear hx36_0
                  try clear hx36_1
                  try clear hx36_2
                  try clear hx37_0
                  try clear hx37_1
                  try clear hx37_2
                  try clear hx39_1
                  try clear hx41_2
                  try clear p166
                  try clear p167
                  try clear p170
                  try clear p2
                  try clear p27
                  try clear p28
                  try clear p36
                  try clear p37
                  try clear q166
                  try clear q167
                  try clear q170
                  try clear q27
                  try clear q28
                  try clear q36
                  try clear q37
                  obtain ⟨x12_3, x13_3, rfl, HA, HK3, HO_12, HB⟩ := hrel
                  cases gk with
                  | zero => exact absurd HA.out (by simp [spec_TakeLease.l1])
                  | succ k3 =>
                    have H := HA.out
                    clear HA
                    simp only [spec_TakeLease.l1] at H
                    by_cases c49 : x13_3 < (l0.length : Int)
                    · rw [if_pos c49] at H
                      have c49b0 : decide (x13_3 < (l0.length : Int)) = true := decide_eq_true c49
                      clear c49
                      by_cases c50 : 0 ≤ x13_3
                      · rw [if_pos c50] at H
                        have c50b0 : decide (0 ≤ x13_3) = true := decide_eq_true c50
                        clear c50
                        by_cases c51 : (Op.bytesLess (((rd_T35 l0 x13_3).f0).toList) a1.toList) = true
                        · rw [if_pos c51] at H
                          have c51b0 : (Op.bytesLess (((rd_T35 l0 x13_3).f0).toList) a1.toList) = true := c51
                          clear c51
                          by_cases c52 : x12_3.length < 4398046511104
                          · rw [if_pos c52] at H
                            have LMc52 := Aside0.mk c52
                            clear c52
                            obtain ⟨y178, hy178⟩ : ∃ y_ : List (S35), y_ = (x12_3 ++ [(⟨(rd_T35 l0 x13_3).f0, (rd_T35 l0 x13_3).f1, (rd_T35 l0 x13_3).f2⟩ : S35)]) := ⟨_, rfl⟩
                            replace H : (spec_TakeLease.l1 k3 l0 a1 a2 a3 y178 (wrap64 (x13_3 + 1))) = some (r1, r2) := by first | (rw [hy178]; with_reducible exact H) | (have H2_ := (Option.bind_some _ _).symm.trans H; rw [hy178]; with_reducible exact H2_) | (have H2_ := (Option.bind_some _ _).symm.trans H; with_reducible exact H2_) | with_reducible exact H | (rw [hy178]; exact H) | exact H
                            have Ny178 := Aside0.mk hy178
                            clear hy178
                            have H' := Aside0.mk H
                            clear H
                            have p176 : 0 ≤ (x13_3 : Int) := DT
                            have q176 : x13_3 < (l0.length : Int) := DT
                            obtain ⟨ad176, e176, hx176_0, hx176_1, hx176_2⟩ := at_T35 HR0.out x13_3 p176 q176
                            cases e176
                            replace hx176_0 := (HB.out.cell (World.block_lt_of_cell? w _ hx176_0)).trans hx176_0
                            replace hx176_1 := (HB.out.cell (World.block_lt_of_cell? w _ hx176_1)).trans hx176_1
                            replace hx176_2 := (HB.out.cell (World.block_lt_of_cell? w _ hx176_2)).trans hx176_2
                            replace p176 := eq_true p176
                            replace q176 := eq_true q176
                            have p177 : 0 ≤ (x13_3 : Int) := DT
                            have q177 : x13_3 < (l0.length : Int) := DT
                            obtain ⟨ad177, e177, hx177_0, hx177_1, hx177_2⟩ := at_T35 HR0.out x13_3 p177 q177
                            obtain rfl : ad176 = ad177 := (by injection e177)
                            replace hx177_0 := (HB.out.cell (World.block_lt_of_cell? w _ hx177_0)).trans hx177_0
                            replace hx177_1 := (HB.out.cell (World.block_lt_of_cell? w _ hx177_1)).trans hx177_1
                            replace hx177_2 := (HB.out.cell (World.block_lt_of_cell? w _ hx177_2)).trans hx177_2
                            replace p177 := eq_true p177
                            replace q177 := eq_true q177
                            go_wp2_with (first | ((with_reducible refine gate_builtin (b := .append) (xs := #[.tmp 96, .tmp 101]) rfl ?_); at_builtin; refine Kd.R_append k35 (w0 := w) w.heap.size rfl (.tmp 96) (.tmp 101) 24 35 (.agg #[(.string ⟨#[]⟩), (.int .i64 0), (.int .i64 0)]) 32 rfl Tryd.underlying24 info35 rfl (by decide) (by omega) u12 x12_3 (⟨(rd_T35 l0 x13_3).f0, (rd_T35 l0 x13_3).f1, (rd_T35 l0 x13_3).f2⟩ : S35) [.string ((rd_T35 l0 x13_3).f0), .int .i64 ((rd_T35 l0 x13_3).f1), .int .i64 ((rd_T35 l0 x13_3).f2)] (fun _ => True) (fun _ => False) rfl rfl ?aP (fun _ hk => hk.elim) ?aF ?aO ?aB ?aS ?aL ?_; (case aP => exact k35_mkM _ _ _ (⟨(rd_T35 l0 x13_3).f0, (rd_T35 l0 x13_3).f1, (rd_T35 l0 x13_3).f2⟩ : S35)); (case aB => exact (BB HB.out)); (case aF => exact (fun _ _ => trivial)); (case aO => exact (RR HO_12.out)); (case aS => exact (below_size (BB HB.out))); (case aL => have := LMc52.out; omega); intro v179 w53 ho hb hg hat; rw [← Ny178.out] at ho; have HO180 := Aside0.mk (ho); replace HB := Aside0.mk (hb); clear HO_12; clear ho hb hg hat))
                            go_roundg k3
                            case measure => have := HJ5.out; have := HK2.out; have := HK3.out; omega
                            case rel => exact ⟨(y178), (wrap64 (x13_3 + 1)), FR, H', ⟨by have := HJ5.out; have := HK2.out; have := HK3.out; omega⟩, ⟨(RR HO180.out)⟩, ⟨(BB HB.out)⟩⟩
                          · rw [if_neg c52] at H
                            exact absurd H (by simp)
                        · rw [if_neg c51] at H
                          have c51b0 : (Op.bytesLess (((rd_T35 l0 x13_3).f0).toList) a1.toList) = false := by simpa using c51
                          clear c51
                          have H' := Aside0.mk H
                          clear H
                          have p176 : 0 ≤ (x13_3 : Int) := DT
                          have q176 : x13_3 < (l0.length : Int) := DT
                          obtain ⟨ad176, e176, hx176_0, hx176_1, hx176_2⟩ := at_T35 HR0.out x13_3 p176 q176
                          cases e176
                          replace hx176_0 := (HB.out.cell (World.block_lt_of_cell? w _ hx176_0)).trans hx176_0
                          replace hx176_1 := (HB.out.cell (World.block_lt_of_cell? w _ hx176_1)).trans hx176_1
                          replace hx176_2 := (HB.out.cell (World.block_lt_of_cell? w _ hx176_2)).trans hx176_2
                          replace p176 := eq_true p176
                          replace q176 := eq_true q176
                          go_wp2
                          go_roundg k3
                          case measure => have := HJ5.out; have := HK2.out; have := HK3.out; omega
                          case rel => exact ⟨(x12_3), (wrap64 (x13_3 + 1)), FR, H', ⟨by have := HJ5.out; have := HK2.out; have := HK3.out; omega⟩, ⟨(RR HO_12.out)⟩, ⟨(BB HB.out)⟩⟩
                      · rw [if_neg c50] at H
                        exact absurd H (by simp)
                    · rw [if_neg c49] at H
                      have c49b0 : decide (x13_3 < (l0.length : Int)) = false := decide_eq_false c49
                      clear c49
                      by_cases c54 : x12_3.length < 4398046511104
                      · rw [if_pos c54] at H
                        have LMc54 := Aside0.mk c54
                        clear c54
                        obtain ⟨y181, hy181⟩ : ∃ y_ : List (S35), y_ = (x12_3 ++ [(⟨a1, a2, a3⟩ : S35)]) := ⟨_, rfl⟩
                        replace H : (spec_TakeLease.l2 k3 l0 a1 y181 0) = some (r1, r2) := by first | (rw [hy181]; with_reducible exact H) | (have H2_ := (Option.bind_some _ _).symm.trans H; rw [hy181]; with_reducible exact H2_) | (have H2_ := (Option.bind_some _ _).symm.trans H; with_reducible exact H2_) | with_reducible exact H | (rw [hy181]; exact H) | exact H
                        have Ny181 := Aside0.mk hy181
                        clear hy181
                        have H' := Aside0.mk H
                        clear H
                        go_wp2_with (first | ((with_reducible refine gate_builtin (b := .append) (xs := #[.tmp 103, .tmp 108]) rfl ?_); at_builtin; refine Kd.R_append k35 (w0 := w) w.heap.size rfl (.tmp 103) (.tmp 108) 24 35 (.agg #[(.string ⟨#[]⟩), (.int .i64 0), (.int .i64 0)]) 32 rfl Tryd.underlying24 info35 rfl (by decide) (by omega) u12 x12_3 (⟨a1, a2, a3⟩ : S35) [.string a1, .int .i64 a2, .int .i64 a3] (fun _ => True) (fun _ => False) rfl rfl ?aP (fun _ hk => hk.elim) ?aF ?aO ?aB ?aS ?aL ?_; (case aP => exact k35_mkM _ _ _ (⟨a1, a2, a3⟩ : S35)); (case aB => exact (BB HB.out)); (case aF => exact (fun _ _ => trivial)); (case aO => exact (RR HO_12.out)); (case aS => exact (below_size (BB HB.out))); (case aL => have := LMc54.out; omega); intro v182 w55 ho hb hg hat; rw [← Ny181.out] at ho; have HO183 := Aside0.mk (ho); replace HB := Aside0.mk (hb); clear HO_12; clear ho hb hg hat))
                        go_loopg [12, 14] k3 (fun kq v12 v14 w' => ∃ (x12_4 : List (S35)) (x14_4 : Int), v14 = .int .i64 x14_4 ∧ Aside0 (spec_TakeLease.l2 kq l0 a1 x12_4 x14_4 = some (r1, r2)) ∧ Aside0 (kq ≤ k3) ∧ Aside0 (Kd.R k35 35 w' w.heap.size (fun _ => True) v12 x12_4) ∧ Aside0 (Below w.heap.size w w'))
                        case atStart => exact ⟨(y181), (0), FR, H', ⟨Nat.le_refl _⟩, ⟨(RR HO183.out)⟩, ⟨(BB HB.out)⟩⟩
                        case round =>
                          clear H'
                          try clear c1
                          try clear p1
                          try clear q1
                          try clear hx1
                          try clear c2
                          try clear p2
                          try clear q2
                          try clear hx2
                          try clear c3
                          try clear p3
                          try clear q3
                          try clear hx3
                          try clear c4
                          try clear hx4
                          try clear hf4
                          try clear c5
                          try clear p6
                          try clear c9
                          try clear c11
                          try clear c13
                          try clear p16
                          try clear q16
                          try clear hx16
                          try clear p17
                          try clear q17
                          try clear hx17
                          try clear c22
                          try clear c23
                          try clear c23b0
                          try clear c24
                          try clear c24b0
                          try clear c25
                          try clear c25b0
                          try clear c25b1
                          try clear c26
                          try clear c26b0
                          try clear c26b1
                          try clear c27
                          try clear p27
                          try clear q27
                          try clear hx27
                          try clear hf27
                          try clear c28
                          try clear p28
                          try clear q28
                          try clear hx28
                          try clear hf28
                          try clear c29
                          try clear c30
                          try clear hx30
                          try clear hf30
                          try clear c32
                          try clear hx32
                          try clear hf32
                          try clear c34
                          try clear c34b0
                          try clear c36
                          try clear p36
                          try clear q36
                          try clear hx36
                          try clear hf36
                          try clear c37
                          try clear p37
                          try clear q37
                          try clear hx37
                          try clear hf37
                          try clear c39
                          try clear hx39
                          try clear hf39
                          try clear c41
                          try clear hx41
                          try clear hf41
                          try clear c44
                          try clear c44b0
                          try clear c44b1
                          try clear c49
                          try clear c49b0
                          try clear c50
                          try clear c50b0
                          try clear c51
                          try clear c51b0
                          try clear c52
                          try clear c54
                          try clear hx166_0
                          try clear hx166_1
                          try clear hx166_2
                          try clear hx167_0
                          try clear hx167_1
                          try clear hx167_2
                          try clear hx170_0
                          try clear hx170_1
                          try clear hx170_2
                          try clear hx176_0
                          try clear hx176_1
                          try clear hx176_2
                          try clear hx177_0
                          try clear hx177_1
                          try clear hx177_2
                          try clear hx27_0
                          try clear hx27_1
                          try clear hx27_2
                          try clear hx28_0
                          try clear hx28_1
                          try clear hx28_2
                          try clear hx30_1
                          try clear hx32_2
                          try clear hx36_0
                          try clear hx36_1
                          try clear hx36_2
                          try clear hx37_0
                          try clear hx37_1
                          try clear hx37_2
                          try clear hx39_1
                          try clear hx41_2
                          try clear p1
                          try clear p16
                          try clear p166
                          try clear p167
                          try clear p17
                          try clear p170
                          try clear p176
                          try clear p177
                          try clear p2
                          try clear p27
                          try clear p28
                          try clear p3
                          try clear p36
                          try clear p37
                          try clear p6
                          try clear q1
                          try clear q16
                          try clear q166
                          try clear q167
                          try clear q17
                          try clear q170
                          try clear q176
                          try clear q177
                          try clear q2
                          try clear q27
                          try clear q28
                          try clear q3
                          try clear q36
                          try clear q37
                          obtain ⟨x12_4, x14_4, rfl, HA, HK4, HO_12, HB⟩ := hrel
                          cases gk with
                          | zero => exact absurd HA.out (by simp [spec_TakeLease.l2])
                          | succ k4 =>
                            have H := HA.out
                            clear HA
                            simp only [spec_TakeLease.l2] at H
                            by_cases c56 : x14_4 < (l0.length : Int)
                            · rw [if_pos c56] at H
                              have c56b0 : decide (x14_4 < (l0.length : Int)) = true := decide_eq_true c56
                              clear c56
                              by_cases c57 : 0 ≤ x14_4
                              · rw [if_pos c57] at H
                                have c57b0 : decide (0 ≤ x14_4) = true := decide_eq_true c57
                                clear c57
                                by_cases c58 : (Op.bytesLess a1.toList (((rd_T35 l0 x14_4).f0).toList)) = true
                                · rw [if_pos c58] at H
                                  have c58b0 : (Op.bytesLess a1.toList (((rd_T35 l0 x14_4).f0).toList)) = true := c58
                                  clear c58
                                  by_cases c59 : x12_4.length < 4398046511104
                                  · rw [if_pos c59] at H
                                    have LMc59 := Aside0.mk c59
                                    clear c59
                                    obtain ⟨y186, hy186⟩ : ∃ y_ : List (S35), y_ = (x12_4 ++ [(⟨(rd_T35 l0 x14_4).f0, (rd_T35 l0 x14_4).f1, (rd_T35 l0 x14_4).f2⟩ : S35)]) := ⟨_, rfl⟩
                                    replace H : (spec_TakeLease.l2 k4 l0 a1 y186 (wrap64 (x14_4 + 1))) = some (r1, r2) := by first | (rw [hy186]; with_reducible exact H) | (have H2_ := (Option.bind_some _ _).symm.trans H; rw [hy186]; with_reducible exact H2_) | (have H2_ := (Option.bind_some _ _).symm.trans H; with_reducible exact H2_) | with_reducible exact H | (rw [hy186]; exact H) | exact H
                                    have Ny186 := Aside0.mk hy186
                                    clear hy186
                                    have H' := Aside0.mk H
                                    clear H
                                    have p184 : 0 ≤ (x14_4 : Int) := DT
                                    have q184 : x14_4 < (l0.length : Int) := DT
                                    obtain ⟨ad184, e184, hx184_0, hx184_1, hx184_2⟩ := at_T35 HR0.out x14_4 p184 q184
                                    cases e184
                                    replace hx184_0 := (HB.out.cell (World.block_lt_of_cell? w _ hx184_0)).trans hx184_0
                                    replace hx184_1 := (HB.out.cell (World.block_lt_of_cell? w _ hx184_1)).trans hx184_1
                                    replace hx184_2 := (HB.out.cell (World.block_lt_of_cell? w _ hx184_2)).trans hx184_2
                                    replace p184 := eq_true p184
                                    replace q184 := eq_true q184
                                    have p185 : 0 ≤ (x14_4 : Int) := DT
                                    have q185 : x14_4 < (l0.length : Int) := DT
                                    obtain ⟨ad185, e185, hx185_0, hx185_1, hx185_2⟩ := at_T35 HR0.out x14_4 p185 q185
                                    obtain rfl : ad184 = ad185 := (by injection e185)
                                    replace hx185_0 := (HB.out.cell (World.block_lt_of_cell? w _ hx185_0)).trans hx185_0
                                    replace hx185_1 := (HB.out.cell (World.block_lt_of_cell? w _ hx185_1)).trans hx185_1
                                    replace hx185_2 := (HB.out.cell (World.block_lt_of_cell? w _ hx185_2)).trans hx185_2
                                    replace p185 := eq_true p185
                                    replace q185 := eq_true q185
                                    go_wp2_with (first | ((with_reducible refine gate_builtin (b := .append) (xs := #[.tmp 123, .tmp 128]) rfl ?_); at_builtin; refine Kd.R_append k35 (w0 := w) w.heap.size rfl (.tmp 123) (.tmp 128) 24 35 (.agg #[(.string ⟨#[]⟩), (.int .i64 0), (.int .i64 0)]) 32 rfl Tryd.underlying24 info35 rfl (by decide) (by omega) u12 x12_4 (⟨(rd_T35 l0 x14_4).f0, (rd_T35 l0 x14_4).f1, (rd_T35 l0 x14_4).f2⟩ : S35) [.string ((rd_T35 l0 x14_4).f0), .int .i64 ((rd_T35 l0 x14_4).f1), .int .i64 ((rd_T35 l0 x14_4).f2)] (fun _ => True) (fun _ => False) rfl rfl ?aP (fun _ hk => hk.elim) ?aF ?aO ?aB ?aS ?aL ?_; (case aP => exact k35_mkM _ _ _ (⟨(rd_T35 l0 x14_4).f0, (rd_T35 l0 x14_4).f1, (rd_T35 l0 x14_4).f2⟩ : S35)); (case aB => exact (BB HB.out)); (case aF => exact (fun _ _ => trivial)); (case aO => exact (RR HO_12.out)); (case aS => exact (below_size (BB HB.out))); (case aL => have := LMc59.out; omega); intro v187 w60 ho hb hg hat; rw [← Ny186.out] at ho; have HO188 := Aside0.mk (ho); replace HB := Aside0.mk (hb); clear HO_12; clear ho hb hg hat))
                                    go_roundg k4
                                    case measure => have := HJ5.out; have := HK2.out; have := HK3.out; have := HK4.out; omega
                                    case rel => exact ⟨(y186), (wrap64 (x14_4 + 1)), FR, H', ⟨by have := HJ5.out; have := HK2.out; have := HK3.out; have := HK4.out; omega⟩, ⟨(RR HO188.out)⟩, ⟨(BB HB.out)⟩⟩
                                  · rw [if_neg c59] at H
                                    exact absurd H (by simp)
                                · rw [if_neg c58] at H
                                  have c58b0 : (Op.bytesLess a1.toList (((rd_T35 l0 x14_4).f0).toList)) = false := by simpa using c58
                                  clear c58
                                  have H' := Aside0.mk H
                                  clear H
                                  have p184 : 0 ≤ (x14_4 : Int) := DT
                                  have q184 : x14_4 < (l0.length : Int) := DT
                                  obtain ⟨ad184, e184, hx184_0, hx184_1, hx184_2⟩ := at_T35 HR0.out x14_4 p184 q184
                                  cases e184
                                  replace hx184_0 := (HB.out.cell (World.block_lt_of_cell? w _ hx184_0)).trans hx184_0
                                  replace hx184_1 := (HB.out.cell (World.block_lt_of_cell? w _ hx184_1)).trans hx184_1
                                  replace hx184_2 := (HB.out.cell (World.block_lt_of_cell? w _ hx184_2)).trans hx184_2
                                  replace p184 := eq_true p184
                                  replace q184 := eq_true q184
                                  go_wp2
                                  go_roundg k4
                                  case measure => have := HJ5.out; have := HK2.out; have := HK3.out; have := HK4.out; omega
                                  case rel => exact ⟨(x12_4), (wrap64 (x14_4 + 1)), FR, H', ⟨by have := HJ5.out; have := HK2.out; have := HK3.out; have := HK4.out; omega⟩, ⟨(RR HO_12.out)⟩, ⟨(BB HB.out)⟩⟩
                              · rw [if_neg c57] at H
                                exact absurd H (by simp)
                            · rw [if_neg c56] at H
                              have c56b0 : decide (x14_4 < (l0.length : Int)) = false := decide_eq_false c56
                              clear c56
                              simp only [Option.some.injEq, Prod.mk.injEq] at H
                              obtain ⟨rfl, rfl⟩ := H
                              go_wp2
                              go_ret2
                              exact ⟨_, ER, by (with_reducible repeat (first | apply Kd.R_alloc | apply Kd.R_drewN | apply Kd.R_drew)); exact HO_12.out, (BB HB.out)⟩
                      · rw [if_neg c54] at H
                        exact absurd H (by simp)

end Go.Proofs.YtdacjpebgklneaaDoor.Pr

namespace Go.Proofs.YtdacjpebgklneaaDoor.Pr
open Go.RowKit Go.Proofs.YtdacjpebgklneaaDoorW.PrintWords Go.Proofs.YtdacjpebgklneaaDoorW.PrintLast Go.Proofs.YtdacjpebgklneaaDoorW.PrintMore
attribute [local go_sem] max2_int min2_int max_two min_two max_three min_three max_four min_four
set_option linter.unusedVariables false
set_option linter.unusedSimpArgs false
def spec_l01Pick.f (s0_0 : List Int) (s0_1 : Int) (s0_2 : Int) (l1 : List ByteArray) : Option (ByteArray × Int × Int) := (spec_l01Below.f s0_0 s0_1 s0_2 (l1.length : Int)).bind fun bt189 => (if 0 ≤ bt189.1 then (if bt189.1 < (l1.length : Int) then (some (rdOf ByteArray.empty l1 bt189.1, bt189.2.1, bt189.2.2)) else (none)) else (none))
set_option maxHeartbeats 8000000 in
set_option maxRecDepth 100000 in
theorem spec_l01Pick.calls (g : Nat) (s0_0 : List Int) (s0_1 : Int) (s0_2 : Int) (A1 : Option Addr) (c1 : Nat) (l1 : List ByteArray) (r1 : ByteArray) (r2 : Int) (r3 : Int) (w0 w : World) (hI : IsS56 w0 w g s0_0 s0_1 s0_2) (hB : Below w0.heap.size w0 w) (hr1 : Kd.C Kd.string w A1 l1.length l1) (hc1 : l1.length ≤ c1) (hf1 : ∀ ad, A1 = some ad → 0 < l1.length → ad.block ≠ g) (h : spec_l01Pick.f s0_0 s0_1 s0_2 l1 = some (r1, r2, r3)) :
    Calls Tryd.prog 39 #[.pointer (some ⟨g, 0, none⟩), .slice A1 l1.length c1] w fun e w' => e = .returned (.string r1) ∧ IsS56 w0 w' g s0_0 r2 r3 ∧ Below w0.heap.size w0 w' ∧ KeepBut w w' g none := by
  have HR1 := Aside0.mk hr1
  have HC1 := Aside0.mk hc1
  clear hr1 hc1
  have HI0 := Aside0.mk hI
  have HK := Aside0.mk (KeepBut.refl w g none)
  have HL := Aside0.mk hB.size
  clear hI
  have HW0 := Aside0.mk hB.size
  have HB := Aside0.mk hB
  clear hB
  have H : ((spec_l01Below.f s0_0 s0_1 s0_2 (l1.length : Int)).bind fun bt189 => (if 0 ≤ bt189.1 then (if bt189.1 < (l1.length : Int) then (some (rdOf ByteArray.empty l1 bt189.1, bt189.2.1, bt189.2.2)) else (none)) else (none))) = some (r1, r2, r3) := h
  clear h
  replace H := Option.bind_eq_some_iff.mp H
  obtain ⟨⟨t189, t190, t191⟩, A30, H⟩ := H
  replace H : (if 0 ≤ t189 then (if t189 < (l1.length : Int) then (some (rdOf ByteArray.empty l1 t189, t190, t191)) else (none)) else (none)) = some (r1, r2, r3) := H
  have A3 := Aside0.mk A30
  clear A30
  by_cases c4 : 0 ≤ t189
  · rw [if_pos c4] at H
    have c4b0 : decide (0 ≤ t189) = true := decide_eq_true c4
    clear c4
    by_cases c5 : t189 < (l1.length : Int)
    · rw [if_pos c5] at H
      have c5b0 : decide (t189 < (l1.length : Int)) = true := decide_eq_true c5
      clear c5
      simp only [Option.some.injEq, Prod.mk.injEq] at H
      obtain ⟨rfl, rfl, rfl⟩ := H
      go_enter Tryd.func39, Tryd.ntmps39
      go_wp2_with (first | ((with_reducible refine gate_callee (f := 18) rfl ?_); refine GL (some 9) rfl rfl Tryd.func18 #[.pointer (some ⟨g, 0, none⟩), .int .i64 (l1.length : Int)] rfl ?_; (with_reducible refine (spec_l01Below.calls g s0_0 s0_1 s0_2 (l1.length : Int) t189 t190 t191 w0 _ ?side1 ?side2 A3.out).mono ?_); (case side1 => repeat (first | (with_reducible first | exact HI0.out | apply IsS56.alloc | apply IsS56.drewN | apply IsS56.drew | apply IsS56.set_1 | apply IsS56.set_2) | exact HI0.out)); (case side2 => repeat (first | (with_reducible first | exact HB.out | apply below_alloc | apply pw_below_drewN | apply below_drew1 | refine below_set ?_ (IsS56.ge HI0.out)) | exact HB.out)); rintro e w6 ⟨rfl, hi, hb, hk⟩; refine ⟨_, rfl, ?_⟩; replace HK := Aside0.mk (KeepBut.trans (by repeat (first | (with_reducible first | exact HK.out | apply KeepBut.set_ | apply keep_drewN | apply keep_drew | apply keep_alloc) | exact HK.out)) hk (.inl rfl)); replace HB := Aside0.mk (hb); replace HI0 := Aside0.mk (hi); (try clear hb); (try clear hk); (try clear hi); have p192 : 0 ≤ (t189 : Int) := DT; have q192 : t189 < (l1.length : Int) := DT; obtain ⟨ad192, e192, hx192_0⟩ := Kd.at_string HR1.out t189 p192 q192; cases e192; replace hx192_0 := keep_cell HK.out hx192_0 (by first | (rw [add_block]; exact hf1 _ rfl (by omega)) | exact hf1 _ rfl (by omega) | exact hf1 ad192 rfl (by omega)); replace p192 := eq_true p192; replace q192 := eq_true q192))
      go_ret
      exact ⟨ER, by repeat (first | (with_reducible first | exact HI0.out | apply IsS56.alloc | apply IsS56.drewN | apply IsS56.drew | apply IsS56.set_1 | apply IsS56.set_2) | exact HI0.out), (BB1 HB.out (IsS56.ge HI0.out)), by repeat (first | (with_reducible first | exact HK.out | apply KeepBut.set_ | apply keep_drewN | apply keep_drew | apply keep_alloc) | exact HK.out)⟩
    · rw [if_neg c5] at H
      exact absurd H (by simp)
  · rw [if_neg c4] at H
    exact absurd H (by simp)

end Go.Proofs.YtdacjpebgklneaaDoor.Pr

namespace Go.Proofs.YtdacjpebgklneaaDoor.Pr
open Go.RowKit Go.Proofs.YtdacjpebgklneaaDoorW.PrintWords Go.Proofs.YtdacjpebgklneaaDoorW.PrintLast Go.Proofs.YtdacjpebgklneaaDoorW.PrintMore
attribute [local go_sem] max2_int min2_int max_two min_two max_three min_three max_four min_four
set_option linter.unusedVariables false
set_option linter.unusedSimpArgs false
def spec_l09Path.l0 : Nat → ByteArray → Int → List Int → Int → Int → Option (ByteArray × Int × Int)
  | 0, _, _, _, _, _ => none
  | k + 1, x3, x4, x1000, x1001, x1002 => (spec_l01Below.f x1000 x1001 x1002 3).bind fun bt193 => (if x4 < (wrap64 (1 + bt193.1)) then (if x3.size + 1 ≤ 9223372036854775807 then ((spec_l01Pick.f x1000 bt193.2.1 bt193.2.2 (([(⟨#[97]⟩ : ByteArray), (⟨#[98]⟩ : ByteArray), (⟨#[99]⟩ : ByteArray)] : List ByteArray))).bind fun bt199 => (if (x3 ++ (⟨#[47]⟩ : ByteArray)).size + bt199.1.size ≤ 9223372036854775807 then (spec_l09Path.l0 k ((x3 ++ (⟨#[47]⟩ : ByteArray)) ++ bt199.1) (wrap64 (x4 + 1)) x1000 bt199.2.1 bt199.2.2) else (none))) else (none)) else (some (x3, bt193.2.1, bt193.2.2)))
def spec_l09Path.f (k : Nat) (s0_0 : List Int) (s0_1 : Int) (s0_2 : Int) : Option (ByteArray × Int × Int) := spec_l09Path.l0 k (⟨#[]⟩ : ByteArray) 0 s0_0 s0_1 s0_2
set_option maxHeartbeats 8000000 in
set_option maxRecDepth 100000 in
theorem spec_l09Path.calls (k : Nat) (g : Nat) (s0_0 : List Int) (s0_1 : Int) (s0_2 : Int) (r1 : ByteArray) (r2 : Int) (r3 : Int) (w0 w : World) (hI : IsS56 w0 w g s0_0 s0_1 s0_2) (hB : Below w0.heap.size w0 w) (h : spec_l09Path.f k s0_0 s0_1 s0_2 = some (r1, r2, r3)) :
    Calls Tryd.prog 30 #[.pointer (some ⟨g, 0, none⟩)] w fun e w' => e = .returned (.string r1) ∧ IsS56 w0 w' g s0_0 r2 r3 ∧ Below w0.heap.size w0 w' ∧ KeepBut w w' g none := by
  have HI0 := Aside0.mk hI
  have HK := Aside0.mk (KeepBut.refl w g none)
  have HL := Aside0.mk hB.size
  clear hI
  have HW0 := Aside0.mk hB.size
  have HB := Aside0.mk hB
  clear hB
  have H : (spec_l09Path.l0 k (⟨#[]⟩ : ByteArray) 0 s0_0 s0_1 s0_2) = some (r1, r2, r3) := h
  clear h
  have H' := Aside0.mk H
  clear H
  go_enter Tryd.func30, Tryd.ntmps30
  go_wp2
  go_loopg [3, 4] k (fun kq v3 v4 w' => ∃ (x3_1 : ByteArray) (x4_1 : Int) (x1001_1 : Int) (x1002_1 : Int), v3 = .string x3_1 ∧ v4 = .int .i64 x4_1 ∧ Aside0 (spec_l09Path.l0 kq x3_1 x4_1 s0_0 x1001_1 x1002_1 = some (r1, r2, r3)) ∧ Aside0 (kq ≤ k) ∧ Aside0 (IsS56 w0 w' g s0_0 x1001_1 x1002_1) ∧ Aside0 (KeepBut w w' g none) ∧ Aside0 (Below w0.heap.size w0 w'))
  case atStart => exact ⟨((⟨#[]⟩ : ByteArray)), (0), (s0_1), (s0_2), FR, FR, H', ⟨Nat.le_refl _⟩, ⟨by repeat (first | (with_reducible first | exact HI0.out | apply IsS56.alloc | apply IsS56.drewN | apply IsS56.drew | apply IsS56.set_1 | apply IsS56.set_2) | exact HI0.out)⟩, ⟨by repeat (first | (with_reducible first | exact HK.out | apply KeepBut.set_ | apply keep_drewN | apply keep_drew | apply keep_alloc) | exact HK.out)⟩, ⟨(BB1 HB.out (IsS56.ge HI0.out))⟩⟩
  case round =>
    clear H'
    obtain ⟨x3_1, x4_1, x1001_1, x1002_1, rfl, rfl, HA, HK1, HI0, HK, HB⟩ := hrel
    cases gk with
    | zero => exact absurd HA.out (by simp [spec_l09Path.l0])
    | succ k1 =>
      have H := HA.out
      clear HA
      simp only [spec_l09Path.l0] at H
      replace H := Option.bind_eq_some_iff.mp H
      obtain ⟨⟨t193, t194, t195⟩, A20, H⟩ := H
      replace H : (if x4_1 < (wrap64 (1 + t193)) then (if x3_1.size + 1 ≤ 9223372036854775807 then ((spec_l01Pick.f s0_0 t194 t195 (([(⟨#[97]⟩ : ByteArray), (⟨#[98]⟩ : ByteArray), (⟨#[99]⟩ : ByteArray)] : List ByteArray))).bind fun bt199 => (if (x3_1 ++ (⟨#[47]⟩ : ByteArray)).size + bt199.1.size ≤ 9223372036854775807 then (spec_l09Path.l0 k1 ((x3_1 ++ (⟨#[47]⟩ : ByteArray)) ++ bt199.1) (wrap64 (x4_1 + 1)) s0_0 bt199.2.1 bt199.2.2) else (none))) else (none)) else (some (x3_1, t194, t195))) = some (r1, r2, r3) := H
      have A2 := Aside0.mk A20
      clear A20
      by_cases c3 : x4_1 < (wrap64 (1 + t193))
      · rw [if_pos c3] at H
        have c3b0 : decide (x4_1 < (wrap64 (1 + t193))) = true := decide_eq_true c3
        clear c3
        by_cases c4 : x3_1.size + 1 ≤ 9223372036854775807
        · rw [if_pos c4] at H
          have c4b0 := eq_true c4
          have c4b1 : decide (x3_1.size + 1 ≤ 9223372036854775807) = true := decide_eq_true c4
          try have c4b2 : (9223372036854775807 < x3_1.size + 1) = False := eq_false (Nat.not_lt.2 c4)
          obtain ⟨y196, hy196⟩ : ∃ y_ : List ByteArray, y_ = (([(⟨#[97]⟩ : ByteArray), (⟨#[98]⟩ : ByteArray), (⟨#[99]⟩ : ByteArray)] : List ByteArray)) := ⟨_, rfl⟩
          replace H : ((spec_l01Pick.f s0_0 t194 t195 y196).bind fun bt199 => (if (x3_1 ++ (⟨#[47]⟩ : ByteArray)).size + bt199.1.size ≤ 9223372036854775807 then (spec_l09Path.l0 k1 ((x3_1 ++ (⟨#[47]⟩ : ByteArray)) ++ bt199.1) (wrap64 (x4_1 + 1)) s0_0 bt199.2.1 bt199.2.2) else (none))) = some (r1, r2, r3) := by first | (rw [hy196]; with_reducible exact H) | (have H2_ := (Option.bind_some _ _).symm.trans H; rw [hy196]; with_reducible exact H2_) | (have H2_ := (Option.bind_some _ _).symm.trans H; with_reducible exact H2_) | with_reducible exact H | (rw [hy196]; exact H) | exact H
          have Ny196 := Aside0.mk hy196
          clear hy196
          replace H := Option.bind_eq_some_iff.mp H
          obtain ⟨⟨t199, t200, t201⟩, A50, H⟩ := H
          replace H : (if (x3_1 ++ (⟨#[47]⟩ : ByteArray)).size + t199.size ≤ 9223372036854775807 then (spec_l09Path.l0 k1 ((x3_1 ++ (⟨#[47]⟩ : ByteArray)) ++ t199) (wrap64 (x4_1 + 1)) s0_0 t200 t201) else (none)) = some (r1, r2, r3) := H
          have A5 := Aside0.mk A50
          clear A50
          by_cases c6 : (x3_1 ++ (⟨#[47]⟩ : ByteArray)).size + t199.size ≤ 9223372036854775807
          · rw [if_pos c6] at H
            have c6b0 := eq_true c6
            have c6b1 : decide ((x3_1 ++ (⟨#[47]⟩ : ByteArray)).size + t199.size ≤ 9223372036854775807) = true := decide_eq_true c6
            try have c6b2 : (9223372036854775807 < (x3_1 ++ (⟨#[47]⟩ : ByteArray)).size + t199.size) = False := eq_false (Nat.not_lt.2 c6)
            have c6b3 : (9223372036854775807 < x3_1.size + 1 + t199.size) = False := eq_false (by have h := c6; rw [ByteArray.size_append] at h; exact Nat.not_lt.2 h)
            have c6b4 : (x3_1.size + 1 + t199.size ≤ 9223372036854775807) = True := eq_true (by have h := c6; rw [ByteArray.size_append] at h; exact h)
            have H' := Aside0.mk H
            clear H
            go_wp2_with (first | ((with_reducible refine gate_callee (f := 18) rfl ?_); refine GL (some 7) rfl rfl Tryd.func18 #[.pointer (some ⟨g, 0, none⟩), .int .i64 3] rfl ?_; (with_reducible refine (spec_l01Below.calls g s0_0 x1001_1 x1002_1 3 t193 t194 t195 w0 _ ?side1 ?side2 A2.out).mono ?_); (case side1 => repeat (first | (with_reducible first | exact HI0.out | apply IsS56.alloc | apply IsS56.drewN | apply IsS56.drew | apply IsS56.set_1 | apply IsS56.set_2) | exact HI0.out)); (case side2 => repeat (first | (with_reducible first | exact HB.out | apply below_alloc | apply pw_below_drewN | apply below_drew1 | refine below_set ?_ (IsS56.ge HI0.out)) | exact HB.out)); rintro e w7 ⟨rfl, hi, hb, hk⟩; refine ⟨_, rfl, ?_⟩; replace HK := Aside0.mk (KeepBut.trans (by repeat (first | (with_reducible first | exact HK.out | apply KeepBut.set_ | apply keep_drewN | apply keep_drew | apply keep_alloc) | exact HK.out)) hk (.inl rfl)); replace HB := Aside0.mk (hb); replace HI0 := Aside0.mk (hi); (try clear hb); (try clear hk); (try clear hi)) | ((with_reducible refine gate_dst (N := 15) rfl ?_); refine Kd.R_lit Kd.string _ 9 ?hg (N := 15) ?hd (xs := ([(⟨#[97]⟩ : ByteArray), (⟨#[98]⟩ : ByteArray), (⟨#[99]⟩ : ByteArray)] : List ByteArray)) (inner := [.string (⟨#[97]⟩ : ByteArray), .string (⟨#[98]⟩ : ByteArray), .string (⟨#[99]⟩ : ByteArray)]) (ok := fun _ => True) (okp := fun _ => True) ?hr ?hp (fun _ hk => hk) trivial (Below.refl _ _) (Nat.le_refl _) (by simp) ?_; (case hd => rfl); (case hg => rfl); (case hr => first | (go_simp; done) | (go_simp; rfl)); (case hp => exact (Reps.one (show Kd.M Kd.string _ _ _ (⟨#[97]⟩ : ByteArray) [.string (⟨#[97]⟩ : ByteArray)] from rfl) (Reps.one (show Kd.M Kd.string _ _ _ (⟨#[98]⟩ : ByteArray) [.string (⟨#[98]⟩ : ByteArray)] from rfl) (Reps.one (show Kd.M Kd.string _ _ _ (⟨#[99]⟩ : ByteArray) [.string (⟨#[99]⟩ : ByteArray)] from rfl) (Reps.none _ _))))); intro v197 w8 ho9 hb hg_ hnew_; clear hg_ hnew_; (first | rw [← Ny196.out] at ho9 | (simp only [Int.reduceToNat] at ho9; rw [← Ny196.out] at ho9)); have HO198 := Aside0.mk (Kd.R_lower ho9 (keep_size (w := w) (g := g) (row := none) (by repeat (first | (with_reducible first | exact HK.out | apply KeepBut.set_ | apply keep_drewN | apply keep_drew | apply keep_alloc) | exact HK.out)))); replace HK := Aside0.mk (KeepBut.trans (by repeat (first | (with_reducible first | exact HK.out | apply KeepBut.set_ | apply keep_drewN | apply keep_drew | apply keep_alloc) | exact HK.out)) (KeepBut.of_below hb g none) (.inl rfl)); replace HB := Aside0.mk (below_step ((BB1 HB.out (IsS56.ge HI0.out))) hb); replace HI0 := Aside0.mk (IsS56.below (by repeat (first | (with_reducible first | exact HI0.out | apply IsS56.alloc | apply IsS56.drewN | apply IsS56.drew | apply IsS56.set_1 | apply IsS56.set_2) | exact HI0.out)) hb); clear hb ho9; obtain ⟨Ao10, co10, eo10⟩ := Kd.R_slice HO198.out; subst eo10) | ((with_reducible refine gate_callee (f := 39) rfl ?_); refine GL (some 16) rfl rfl Tryd.func39 #[.pointer (some ⟨g, 0, none⟩), .slice Ao10 y196.length co10] rfl ?_; (with_reducible refine (spec_l01Pick.calls g s0_0 t194 t195 _ _ y196 t199 t200 t201 w0 _ ?side1 ?side2 ?side3 ?side4 ?side5 A5.out).mono ?_); (case side1 => repeat (first | (with_reducible first | exact HI0.out | apply IsS56.alloc | apply IsS56.drewN | apply IsS56.drew | apply IsS56.set_1 | apply IsS56.set_2) | exact HI0.out)); (case side2 => repeat (first | (with_reducible first | exact HB.out | apply below_alloc | apply pw_below_drewN | apply below_drew1 | refine below_set ?_ (IsS56.ge HI0.out)) | exact HB.out)); (case side3 => exact CC (Kd.R_reads' HO198.out).2.2); (case side4 => exact (Kd.R_reads' HO198.out).2.1); (case side5 => exact far_slice (IsS56.own_ne HI0.out HO198.out (by decide))); rintro e w11 ⟨rfl, hi, hb, hk⟩; refine ⟨_, rfl, ?_⟩; replace HO198 := Aside0.mk (Kd.R_mono (Kd.R_keep (IsS56.apart (show IsS56 w0 _ g s0_0 t194 t195 from by repeat (first | (with_reducible first | exact HI0.out | apply IsS56.alloc | apply IsS56.drewN | apply IsS56.drew | apply IsS56.set_1 | apply IsS56.set_2) | exact HI0.out)) (RR HO198.out) (by decide)) hk (fun _ h => h.2)) (fun _ h => h.1)); replace HK := Aside0.mk (KeepBut.trans (by repeat (first | (with_reducible first | exact HK.out | apply KeepBut.set_ | apply keep_drewN | apply keep_drew | apply keep_alloc) | exact HK.out)) hk (.inl rfl)); replace HB := Aside0.mk (hb); replace HI0 := Aside0.mk (hi); (try clear hb); (try clear hk); (try clear hi)))
            go_roundg k1
            case measure => have := HK1.out; omega
            case rel => exact ⟨((x3_1 ++ (⟨#[47]⟩ : ByteArray)) ++ t199), (wrap64 (x4_1 + 1)), (t200), (t201), FR, FR, H', ⟨by have := HK1.out; omega⟩, ⟨by repeat (first | (with_reducible first | exact HI0.out | apply IsS56.alloc | apply IsS56.drewN | apply IsS56.drew | apply IsS56.set_1 | apply IsS56.set_2) | exact HI0.out)⟩, ⟨by repeat (first | (with_reducible first | exact HK.out | apply KeepBut.set_ | apply keep_drewN | apply keep_drew | apply keep_alloc) | exact HK.out)⟩, ⟨(BB1 HB.out (IsS56.ge HI0.out))⟩⟩
          · rw [if_neg c6] at H
            exact absurd H (by simp)
        · rw [if_neg c4] at H
          exact absurd H (by simp)
      · rw [if_neg c3] at H
        have c3b0 : decide (x4_1 < (wrap64 (1 + t193))) = false := decide_eq_false c3
        clear c3
        simp only [Option.some.injEq, Prod.mk.injEq] at H
        obtain ⟨rfl, rfl, rfl⟩ := H
        go_wp2_with (first | ((with_reducible refine gate_callee (f := 18) rfl ?_); refine GL (some 7) rfl rfl Tryd.func18 #[.pointer (some ⟨g, 0, none⟩), .int .i64 3] rfl ?_; (with_reducible refine (spec_l01Below.calls g s0_0 x1001_1 x1002_1 3 t193 t194 t195 w0 _ ?side1 ?side2 A2.out).mono ?_); (case side1 => repeat (first | (with_reducible first | exact HI0.out | apply IsS56.alloc | apply IsS56.drewN | apply IsS56.drew | apply IsS56.set_1 | apply IsS56.set_2) | exact HI0.out)); (case side2 => repeat (first | (with_reducible first | exact HB.out | apply below_alloc | apply pw_below_drewN | apply below_drew1 | refine below_set ?_ (IsS56.ge HI0.out)) | exact HB.out)); rintro e w12 ⟨rfl, hi, hb, hk⟩; refine ⟨_, rfl, ?_⟩; replace HK := Aside0.mk (KeepBut.trans (by repeat (first | (with_reducible first | exact HK.out | apply KeepBut.set_ | apply keep_drewN | apply keep_drew | apply keep_alloc) | exact HK.out)) hk (.inl rfl)); replace HB := Aside0.mk (hb); replace HI0 := Aside0.mk (hi); (try clear hb); (try clear hk); (try clear hi)))
        go_ret
        exact ⟨ER, by repeat (first | (with_reducible first | exact HI0.out | apply IsS56.alloc | apply IsS56.drewN | apply IsS56.drew | apply IsS56.set_1 | apply IsS56.set_2) | exact HI0.out), (BB1 HB.out (IsS56.ge HI0.out)), by repeat (first | (with_reducible first | exact HK.out | apply KeepBut.set_ | apply keep_drewN | apply keep_drew | apply keep_alloc) | exact HK.out)⟩

end Go.Proofs.YtdacjpebgklneaaDoor.Pr

namespace Go.Proofs.YtdacjpebgklneaaDoor.Pr
open Go.RowKit Go.Proofs.YtdacjpebgklneaaDoorW.PrintWords Go.Proofs.YtdacjpebgklneaaDoorW.PrintLast Go.Proofs.YtdacjpebgklneaaDoorW.PrintMore
attribute [local go_sem] max2_int min2_int max_two min_two max_three min_three max_four min_four
set_option linter.unusedVariables false
set_option linter.unusedSimpArgs false
def spec_l16Leases.l0 : Nat → List (S35) → Int → List Int → Int → Int → Option ((List (S35)) × Int × Int)
  | 0, _, _, _, _, _ => none
  | k + 1, x3, x4, x1000, x1001, x1002 => (spec_l01Below.f x1000 x1001 x1002 7).bind fun bt205 => (if x4 < bt205.1 then ((spec_l09Path.f k x1000 bt205.2.1 bt205.2.2).bind fun bt208 => ((spec_l01Below.f x1000 bt208.2.1 bt208.2.2 3).bind fun bt211 => ((spec_l01Below.f x1000 bt211.2.1 bt211.2.2 20).bind fun bt214 => ((spec_TakeLease.f k x3 bt208.1 (wrap64 (1 + bt211.1)) bt214.1).bind fun bt217 => (spec_l16Leases.l0 k bt217.1 (wrap64 (x4 + 1)) x1000 bt214.2.1 bt214.2.2))))) else (some (x3, bt205.2.1, bt205.2.2)))
def spec_l16Leases.f (k : Nat) (s0_0 : List Int) (s0_1 : Int) (s0_2 : Int) : Option ((List (S35)) × Int × Int) := spec_l16Leases.l0 k (([] : List (S35))) 0 s0_0 s0_1 s0_2
set_option maxHeartbeats 8000000 in
set_option maxRecDepth 100000 in
theorem spec_l16Leases.calls (k : Nat) (g : Nat) (s0_0 : List Int) (s0_1 : Int) (s0_2 : Int) (r1 : List (S35)) (r2 : Int) (r3 : Int) (w0 w : World) (hI : IsS56 w0 w g s0_0 s0_1 s0_2) (hB : Below w0.heap.size w0 w) (h : spec_l16Leases.f k s0_0 s0_1 s0_2 = some (r1, r2, r3)) :
    Calls Tryd.prog 15 #[.pointer (some ⟨g, 0, none⟩)] w fun e w' => ∃ v0_ : Value, e = .returned (v0_) ∧ Kd.R k35 35 w' w.heap.size (fun _ => True) v0_ r1 ∧ IsS56 w0 w' g s0_0 r2 r3 ∧ Below w0.heap.size w0 w' ∧ KeepBut w w' g none := by
  have HI0 := Aside0.mk hI
  have HK := Aside0.mk (KeepBut.refl w g none)
  have HL := Aside0.mk hB.size
  clear hI
  have HW0 := Aside0.mk hB.size
  have HB := Aside0.mk hB
  clear hB
  have H : (spec_l16Leases.l0 k (([] : List (S35))) 0 s0_0 s0_1 s0_2) = some (r1, r2, r3) := h
  clear h
  obtain ⟨y202, hy202⟩ : ∃ y_ : List (S35), y_ = (([] : List (S35))) := ⟨_, rfl⟩
  replace H : (spec_l16Leases.l0 k y202 0 s0_0 s0_1 s0_2) = some (r1, r2, r3) := by first | (rw [hy202]; with_reducible exact H) | (have H2_ := (Option.bind_some _ _).symm.trans H; rw [hy202]; with_reducible exact H2_) | (have H2_ := (Option.bind_some _ _).symm.trans H; with_reducible exact H2_) | with_reducible exact H | (rw [hy202]; exact H) | exact H
  have Ny202 := Aside0.mk hy202
  clear hy202
  have H' := Aside0.mk H
  clear H
  go_enter Tryd.func15, Tryd.ntmps15
  go_wp2_with (first | ((with_reducible refine gate_dst (N := 5) rfl ?_); refine Kd.R_lit k35 _ 35 ?hg (N := 5) ?hd (xs := ([] : List (S35))) (inner := []) (ok := fun _ => True) (okp := fun _ => True) ?hr ?hp (fun _ hk => hk) trivial (Below.refl _ _) (Nat.le_refl _) (by simp) ?_; (case hd => rfl); (case hg => rfl); (case hr => first | (go_simp; done) | (go_simp; rfl)); (case hp => exact (Reps.none _ _)); intro v203 w2 ho3 hb hg_ hnew_; clear hg_ hnew_; (first | rw [← Ny202.out] at ho3 | (simp only [Int.reduceToNat] at ho3; rw [← Ny202.out] at ho3)); have HO204 := Aside0.mk (Kd.R_lower ho3 (keep_size (w := w) (g := g) (row := none) (by repeat (first | (with_reducible first | exact HK.out | apply KeepBut.set_ | apply keep_drewN | apply keep_drew | apply keep_alloc) | exact HK.out)))); replace HK := Aside0.mk (KeepBut.trans (by repeat (first | (with_reducible first | exact HK.out | apply KeepBut.set_ | apply keep_drewN | apply keep_drew | apply keep_alloc) | exact HK.out)) (KeepBut.of_below hb g none) (.inl rfl)); replace HB := Aside0.mk (below_step ((BB1 HB.out (IsS56.ge HI0.out))) hb); replace HI0 := Aside0.mk (IsS56.below (by repeat (first | (with_reducible first | exact HI0.out | apply IsS56.alloc | apply IsS56.drewN | apply IsS56.drew | apply IsS56.set_1 | apply IsS56.set_2) | exact HI0.out)) hb); clear hb ho3))
  go_loopg [3, 4] k (fun kq v3 v4 w' => ∃ (x3_1 : List (S35)) (x4_1 : Int) (x1001_1 : Int) (x1002_1 : Int), v4 = .int .i64 x4_1 ∧ Aside0 (spec_l16Leases.l0 kq x3_1 x4_1 s0_0 x1001_1 x1002_1 = some (r1, r2, r3)) ∧ Aside0 (kq ≤ k) ∧ Aside0 (Kd.R k35 35 w' w.heap.size (fun _ => True) v3 x3_1) ∧ Aside0 (IsS56 w0 w' g s0_0 x1001_1 x1002_1) ∧ Aside0 (KeepBut w w' g none) ∧ Aside0 (Below w0.heap.size w0 w'))
  case atStart => exact ⟨(y202), (0), (s0_1), (s0_2), FR, H', ⟨Nat.le_refl _⟩, ⟨(RR HO204.out)⟩, ⟨by repeat (first | (with_reducible first | exact HI0.out | apply IsS56.alloc | apply IsS56.drewN | apply IsS56.drew | apply IsS56.set_1 | apply IsS56.set_2) | exact HI0.out)⟩, ⟨by repeat (first | (with_reducible first | exact HK.out | apply KeepBut.set_ | apply keep_drewN | apply keep_drew | apply keep_alloc) | exact HK.out)⟩, ⟨(BB1 HB.out (IsS56.ge HI0.out))⟩⟩
  case round =>
    clear H'
    try clear c1
    try clear p2
    obtain ⟨x3_1, x4_1, x1001_1, x1002_1, rfl, HA, HK1, HO_3, HI0, HK, HB⟩ := hrel
    cases gk with
    | zero => exact absurd HA.out (by simp [spec_l16Leases.l0])
    | succ k1 =>
      have H := HA.out
      clear HA
      simp only [spec_l16Leases.l0] at H
      replace H := Option.bind_eq_some_iff.mp H
      obtain ⟨⟨t205, t206, t207⟩, A40, H⟩ := H
      replace H : (if x4_1 < t205 then ((spec_l09Path.f k1 s0_0 t206 t207).bind fun bt208 => ((spec_l01Below.f s0_0 bt208.2.1 bt208.2.2 3).bind fun bt211 => ((spec_l01Below.f s0_0 bt211.2.1 bt211.2.2 20).bind fun bt214 => ((spec_TakeLease.f k1 x3_1 bt208.1 (wrap64 (1 + bt211.1)) bt214.1).bind fun bt217 => (spec_l16Leases.l0 k1 bt217.1 (wrap64 (x4_1 + 1)) s0_0 bt214.2.1 bt214.2.2))))) else (some (x3_1, t206, t207))) = some (r1, r2, r3) := H
      have A4 := Aside0.mk A40
      clear A40
      by_cases c5 : x4_1 < t205
      · rw [if_pos c5] at H
        have c5b0 : decide (x4_1 < t205) = true := decide_eq_true c5
        clear c5
        replace H := Option.bind_eq_some_iff.mp H
        obtain ⟨⟨t208, t209, t210⟩, A60, H⟩ := H
        replace H : ((spec_l01Below.f s0_0 t209 t210 3).bind fun bt211 => ((spec_l01Below.f s0_0 bt211.2.1 bt211.2.2 20).bind fun bt214 => ((spec_TakeLease.f k1 x3_1 t208 (wrap64 (1 + bt211.1)) bt214.1).bind fun bt217 => (spec_l16Leases.l0 k1 bt217.1 (wrap64 (x4_1 + 1)) s0_0 bt214.2.1 bt214.2.2)))) = some (r1, r2, r3) := H
        have A6 := Aside0.mk A60
        clear A60
        replace H := Option.bind_eq_some_iff.mp H
        obtain ⟨⟨t211, t212, t213⟩, A70, H⟩ := H
        replace H : ((spec_l01Below.f s0_0 t212 t213 20).bind fun bt214 => ((spec_TakeLease.f k1 x3_1 t208 (wrap64 (1 + t211)) bt214.1).bind fun bt217 => (spec_l16Leases.l0 k1 bt217.1 (wrap64 (x4_1 + 1)) s0_0 bt214.2.1 bt214.2.2))) = some (r1, r2, r3) := H
        have A7 := Aside0.mk A70
        clear A70
        replace H := Option.bind_eq_some_iff.mp H
        obtain ⟨⟨t214, t215, t216⟩, A80, H⟩ := H
        replace H : ((spec_TakeLease.f k1 x3_1 t208 (wrap64 (1 + t211)) t214).bind fun bt217 => (spec_l16Leases.l0 k1 bt217.1 (wrap64 (x4_1 + 1)) s0_0 t215 t216)) = some (r1, r2, r3) := H
        have A8 := Aside0.mk A80
        clear A80
        replace H := Option.bind_eq_some_iff.mp H
        obtain ⟨⟨t217, t218⟩, A90, H⟩ := H
        replace H : (spec_l16Leases.l0 k1 t217 (wrap64 (x4_1 + 1)) s0_0 t215 t216) = some (r1, r2, r3) := H
        have A9 := Aside0.mk A90
        clear A90
        have H' := Aside0.mk H
        clear H
        go_wp2_with (first | ((with_reducible refine gate_callee (f := 18) rfl ?_); refine GL (some 8) rfl rfl Tryd.func18 #[.pointer (some ⟨g, 0, none⟩), .int .i64 7] rfl ?_; (with_reducible refine (spec_l01Below.calls g s0_0 x1001_1 x1002_1 7 t205 t206 t207 w0 _ ?side1 ?side2 A4.out).mono ?_); (case side1 => repeat (first | (with_reducible first | exact HI0.out | apply IsS56.alloc | apply IsS56.drewN | apply IsS56.drew | apply IsS56.set_1 | apply IsS56.set_2) | exact HI0.out)); (case side2 => repeat (first | (with_reducible first | exact HB.out | apply below_alloc | apply pw_below_drewN | apply below_drew1 | refine below_set ?_ (IsS56.ge HI0.out)) | exact HB.out)); rintro e w10 ⟨rfl, hi, hb, hk⟩; refine ⟨_, rfl, ?_⟩; replace HO_3 := Aside0.mk (Kd.R_mono (Kd.R_keep (IsS56.apart (show IsS56 w0 _ g s0_0 x1001_1 x1002_1 from by repeat (first | (with_reducible first | exact HI0.out | apply IsS56.alloc | apply IsS56.drewN | apply IsS56.drew | apply IsS56.set_1 | apply IsS56.set_2) | exact HI0.out)) (RR HO_3.out) (by decide)) hk (fun _ h => h.2)) (fun _ h => h.1)); replace HK := Aside0.mk (KeepBut.trans (by repeat (first | (with_reducible first | exact HK.out | apply KeepBut.set_ | apply keep_drewN | apply keep_drew | apply keep_alloc) | exact HK.out)) hk (.inl rfl)); replace HB := Aside0.mk (hb); replace HI0 := Aside0.mk (hi); (try clear hb); (try clear hk); (try clear hi)) | ((with_reducible refine gate_callee (f := 30) rfl ?_); refine GL (some 15) rfl rfl Tryd.func30 #[.pointer (some ⟨g, 0, none⟩)] rfl ?_; (with_reducible refine (spec_l09Path.calls k1 g s0_0 t206 t207 t208 t209 t210 w0 _ ?side1 ?side2 A6.out).mono ?_); (case side1 => repeat (first | (with_reducible first | exact HI0.out | apply IsS56.alloc | apply IsS56.drewN | apply IsS56.drew | apply IsS56.set_1 | apply IsS56.set_2) | exact HI0.out)); (case side2 => repeat (first | (with_reducible first | exact HB.out | apply below_alloc | apply pw_below_drewN | apply below_drew1 | refine below_set ?_ (IsS56.ge HI0.out)) | exact HB.out)); rintro e w11 ⟨rfl, hi, hb, hk⟩; refine ⟨_, rfl, ?_⟩; replace HO_3 := Aside0.mk (Kd.R_mono (Kd.R_keep (IsS56.apart (show IsS56 w0 _ g s0_0 t206 t207 from by repeat (first | (with_reducible first | exact HI0.out | apply IsS56.alloc | apply IsS56.drewN | apply IsS56.drew | apply IsS56.set_1 | apply IsS56.set_2) | exact HI0.out)) (RR HO_3.out) (by decide)) hk (fun _ h => h.2)) (fun _ h => h.1)); replace HK := Aside0.mk (KeepBut.trans (by repeat (first | (with_reducible first | exact HK.out | apply KeepBut.set_ | apply keep_drewN | apply keep_drew | apply keep_alloc) | exact HK.out)) hk (.inl rfl)); replace HB := Aside0.mk (hb); replace HI0 := Aside0.mk (hi); (try clear hb); (try clear hk); (try clear hi)) | ((with_reducible refine gate_callee (f := 18) rfl ?_); refine GL (some 17) rfl rfl Tryd.func18 #[.pointer (some ⟨g, 0, none⟩), .int .i64 3] rfl ?_; (with_reducible refine (spec_l01Below.calls g s0_0 t209 t210 3 t211 t212 t213 w0 _ ?side1 ?side2 A7.out).mono ?_); (case side1 => repeat (first | (with_reducible first | exact HI0.out | apply IsS56.alloc | apply IsS56.drewN | apply IsS56.drew | apply IsS56.set_1 | apply IsS56.set_2) | exact HI0.out)); (case side2 => repeat (first | (with_reducible first | exact HB.out | apply below_alloc | apply pw_below_drewN | apply below_drew1 | refine below_set ?_ (IsS56.ge HI0.out)) | exact HB.out)); rintro e w12 ⟨rfl, hi, hb, hk⟩; refine ⟨_, rfl, ?_⟩; replace HO_3 := Aside0.mk (Kd.R_mono (Kd.R_keep (IsS56.apart (show IsS56 w0 _ g s0_0 t209 t210 from by repeat (first | (with_reducible first | exact HI0.out | apply IsS56.alloc | apply IsS56.drewN | apply IsS56.drew | apply IsS56.set_1 | apply IsS56.set_2) | exact HI0.out)) (RR HO_3.out) (by decide)) hk (fun _ h => h.2)) (fun _ h => h.1)); replace HK := Aside0.mk (KeepBut.trans (by repeat (first | (with_reducible first | exact HK.out | apply KeepBut.set_ | apply keep_drewN | apply keep_drew | apply keep_alloc) | exact HK.out)) hk (.inl rfl)); replace HB := Aside0.mk (hb); replace HI0 := Aside0.mk (hi); (try clear hb); (try clear hk); (try clear hi)) | ((with_reducible refine gate_callee (f := 18) rfl ?_); refine GL (some 20) rfl rfl Tryd.func18 #[.pointer (some ⟨g, 0, none⟩), .int .i64 20] rfl ?_; (with_reducible refine (spec_l01Below.calls g s0_0 t212 t213 20 t214 t215 t216 w0 _ ?side1 ?side2 A8.out).mono ?_); (case side1 => repeat (first | (with_reducible first | exact HI0.out | apply IsS56.alloc | apply IsS56.drewN | apply IsS56.drew | apply IsS56.set_1 | apply IsS56.set_2) | exact HI0.out)); (case side2 => repeat (first | (with_reducible first | exact HB.out | apply below_alloc | apply pw_below_drewN | apply below_drew1 | refine below_set ?_ (IsS56.ge HI0.out)) | exact HB.out)); rintro e w13 ⟨rfl, hi, hb, hk⟩; refine ⟨_, rfl, ?_⟩; replace HO_3 := Aside0.mk (Kd.R_mono (Kd.R_keep (IsS56.apart (show IsS56 w0 _ g s0_0 t212 t213 from by repeat (first | (with_reducible first | exact HI0.out | apply IsS56.alloc | apply IsS56.drewN | apply IsS56.drew | apply IsS56.set_1 | apply IsS56.set_2) | exact HI0.out)) (RR HO_3.out) (by decide)) hk (fun _ h => h.2)) (fun _ h => h.1)); replace HK := Aside0.mk (KeepBut.trans (by repeat (first | (with_reducible first | exact HK.out | apply KeepBut.set_ | apply keep_drewN | apply keep_drew | apply keep_alloc) | exact HK.out)) hk (.inl rfl)); replace HB := Aside0.mk (hb); replace HI0 := Aside0.mk (hi); (try clear hb); (try clear hk); (try clear hi); obtain ⟨Ao14, co14, eo14⟩ := Kd.R_slice HO_3.out; subst eo14) | ((with_reducible refine gate_callee (f := 29) rfl ?_); refine GL (some 21) rfl rfl Tryd.func29 #[.slice Ao14 x3_1.length co14, .string t208, .int .i64 (wrap64 (1 + t211)), .int .i64 t214] rfl ?_; (with_reducible refine (spec_TakeLease.calls k1 _ _ x3_1 t208 (wrap64 (1 + t211)) t214 t217 t218 _ ?side1 ?side2 A9.out).mono ?_); (case side1 => exact CC (Kd.R_reads' HO_3.out).2.2); (case side2 => exact (Kd.R_reads' HO_3.out).2.1); rintro e w15 ⟨v219, rfl, ho0, hb⟩; refine ⟨_, rfl, ?_⟩; have HO220 := Aside0.mk (Kd.R_lower (Kd.R_new' ho0 (Kd.R_lt (RR HO_3.out))) (keep_size (w := w) (g := g) (row := none) (by repeat (first | (with_reducible first | exact HK.out | apply KeepBut.set_ | apply keep_drewN | apply keep_drew | apply keep_alloc) | exact HK.out)))); replace HO_3 := Aside0.mk (Kd.R_elder' (RR HO_3.out) (Kd.R_base ho0) hb); replace HK := Aside0.mk (KeepBut.trans (by repeat (first | (with_reducible first | exact HK.out | apply KeepBut.set_ | apply keep_drewN | apply keep_drew | apply keep_alloc) | exact HK.out)) (KeepBut.of_below hb g none) (.inl rfl)); replace HB := Aside0.mk (below_step ((BB1 HB.out (IsS56.ge HI0.out))) hb); replace HI0 := Aside0.mk (IsS56.below (by repeat (first | (with_reducible first | exact HI0.out | apply IsS56.alloc | apply IsS56.drewN | apply IsS56.drew | apply IsS56.set_1 | apply IsS56.set_2) | exact HI0.out)) hb); (try clear hb); (try clear ho0)))
        go_roundg k1
        case measure => have := HK1.out; omega
        case rel => exact ⟨(t217), (wrap64 (x4_1 + 1)), (t215), (t216), FR, H', ⟨by have := HK1.out; omega⟩, ⟨by (with_reducible repeat (first | apply Kd.R_alloc | apply Kd.R_drewN | apply Kd.R_drew)); exact Kd.R_mono HO220.out (fun _ hk => trivial)⟩, ⟨by repeat (first | (with_reducible first | exact HI0.out | apply IsS56.alloc | apply IsS56.drewN | apply IsS56.drew | apply IsS56.set_1 | apply IsS56.set_2) | exact HI0.out)⟩, ⟨by repeat (first | (with_reducible first | exact HK.out | apply KeepBut.set_ | apply keep_drewN | apply keep_drew | apply keep_alloc) | exact HK.out)⟩, ⟨(BB1 HB.out (IsS56.ge HI0.out))⟩⟩
      · rw [if_neg c5] at H
        have c5b0 : decide (x4_1 < t205) = false := decide_eq_false c5
        clear c5
        simp only [Option.some.injEq, Prod.mk.injEq] at H
        obtain ⟨rfl, rfl, rfl⟩ := H
        go_wp2_with (first | ((with_reducible refine gate_callee (f := 18) rfl ?_); refine GL (some 8) rfl rfl Tryd.func18 #[.pointer (some ⟨g, 0, none⟩), .int .i64 7] rfl ?_; (with_reducible refine (spec_l01Below.calls g s0_0 x1001_1 x1002_1 7 t205 t206 t207 w0 _ ?side1 ?side2 A4.out).mono ?_); (case side1 => repeat (first | (with_reducible first | exact HI0.out | apply IsS56.alloc | apply IsS56.drewN | apply IsS56.drew | apply IsS56.set_1 | apply IsS56.set_2) | exact HI0.out)); (case side2 => repeat (first | (with_reducible first | exact HB.out | apply below_alloc | apply pw_below_drewN | apply below_drew1 | refine below_set ?_ (IsS56.ge HI0.out)) | exact HB.out)); rintro e w16 ⟨rfl, hi, hb, hk⟩; refine ⟨_, rfl, ?_⟩; replace HO_3 := Aside0.mk (Kd.R_mono (Kd.R_keep (IsS56.apart (show IsS56 w0 _ g s0_0 x1001_1 x1002_1 from by repeat (first | (with_reducible first | exact HI0.out | apply IsS56.alloc | apply IsS56.drewN | apply IsS56.drew | apply IsS56.set_1 | apply IsS56.set_2) | exact HI0.out)) (RR HO_3.out) (by decide)) hk (fun _ h => h.2)) (fun _ h => h.1)); replace HK := Aside0.mk (KeepBut.trans (by repeat (first | (with_reducible first | exact HK.out | apply KeepBut.set_ | apply keep_drewN | apply keep_drew | apply keep_alloc) | exact HK.out)) hk (.inl rfl)); replace HB := Aside0.mk (hb); replace HI0 := Aside0.mk (hi); (try clear hb); (try clear hk); (try clear hi)))
        go_ret
        exact ⟨_, ER, by (with_reducible repeat (first | apply Kd.R_alloc | apply Kd.R_drewN | apply Kd.R_drew)); exact HO_3.out, by repeat (first | (with_reducible first | exact HI0.out | apply IsS56.alloc | apply IsS56.drewN | apply IsS56.drew | apply IsS56.set_1 | apply IsS56.set_2) | exact HI0.out), (BB1 HB.out (IsS56.ge HI0.out)), by repeat (first | (with_reducible first | exact HK.out | apply KeepBut.set_ | apply keep_drewN | apply keep_drew | apply keep_alloc) | exact HK.out)⟩

end Go.Proofs.YtdacjpebgklneaaDoor.Pr

namespace Go.Proofs.YtdacjpebgklneaaDoor.Pr
open Go.RowKit Go.Proofs.YtdacjpebgklneaaDoorW.PrintWords Go.Proofs.YtdacjpebgklneaaDoorW.PrintLast Go.Proofs.YtdacjpebgklneaaDoorW.PrintMore
attribute [local go_sem] max2_int min2_int max_two min_two max_three min_three max_four min_four
set_option linter.unusedVariables false
set_option linter.unusedSimpArgs false
def spec_l01New.l0 : Nat → List Int → Int → Int → Option (List Int × Int × Int)
  | 0, _, _, _ => none
  | k + 1, x0, x3, x4 => if x4 < (x0.length : Int) then (if x4 < 4000 then (if 0 ≤ x4 then (spec_l01New.l0 k x0 (Go.bits .and .i64 (wrap64 ((wrap64 ((wrap64 (x3 * 131)) + (wrap64 (rd x0 x4)))) + 7)) 1073741823) (wrap64 (x4 + 1))) else (none)) else (some (x0, 0, x3))) else (some (x0, 0, x3))
def spec_l01New.f (k : Nat) (l0 : List Int) : Option (List Int × Int × Int) := spec_l01New.l0 k l0 (wrap64 (36801 + (l0.length : Int))) 0
set_option maxHeartbeats 8000000 in
set_option maxRecDepth 100000 in
theorem spec_l01New.calls (k : Nat) (A0 : Option Addr) (c0 : Nat) (l0 : List Int) (r1 : List Int) (r2 : Int) (r3 : Int) (w0 w : World) (hB : Below w0.heap.size w0 w) (hr0 : Kd.C (Kd.int .u8) w0 A0 l0.length l0) (hc0 : l0.length ≤ c0) (h : spec_l01New.f k l0 = some (r1, r2, r3)) :
    Calls Tryd.prog 16 #[.slice A0 l0.length c0] w fun e w' => ∃ g_ : Nat, e = .returned (.pointer (some ⟨g_, 0, none⟩)) ∧ IsS56 w0 w' g_ r1 r2 r3 ∧ Below w0.heap.size w0 w' ∧ Below w.heap.size w w' := by
  have hu56 := Tryd.underlying56
  have HR0 := Aside0.mk hr0
  have HC0 := Aside0.mk hc0
  clear hr0 hc0
  have HBW := Aside0.mk (Below.refl w.heap.size w)
  have HW0 := Aside0.mk hB.size
  have HB := Aside0.mk hB
  clear hB
  have H : (spec_l01New.l0 k l0 (wrap64 (36801 + (l0.length : Int))) 0) = some (r1, r2, r3) := h
  clear h
  have H' := Aside0.mk H
  clear H
  go_enter Tryd.func16, Tryd.ntmps16
  go_wp2
  go_loopg [3, 4] k (fun kq v3 v4 w' => ∃ (x3_1 : Int) (x4_1 : Int), v3 = .int .i64 x3_1 ∧ v4 = .int .i64 x4_1 ∧ Aside0 (spec_l01New.l0 kq l0 x3_1 x4_1 = some (r1, r2, r3)) ∧ Aside0 (kq ≤ k) ∧ Aside0 (Below w0.heap.size w0 w') ∧ Aside0 (Below w.heap.size w w'))
  case atStart => exact ⟨(wrap64 (36801 + (l0.length : Int))), (0), FR, FR, H', ⟨Nat.le_refl _⟩, ⟨(BB HB.out)⟩, ⟨(BB HBW.out)⟩⟩
  case round =>
    clear H'
    try clear c1
    obtain ⟨x3_1, x4_1, rfl, rfl, HA, HK1, HB, HBW⟩ := hrel
    cases gk with
    | zero => exact absurd HA.out (by simp [spec_l01New.l0])
    | succ k1 =>
      have H := HA.out
      clear HA
      simp only [spec_l01New.l0] at H
      by_cases c2 : x4_1 < (l0.length : Int)
      · rw [if_pos c2] at H
        have c2b0 : decide (x4_1 < (l0.length : Int)) = true := decide_eq_true c2
        clear c2
        by_cases c3 : x4_1 < 4000
        · rw [if_pos c3] at H
          have c3b0 : decide (x4_1 < 4000) = true := decide_eq_true c3
          clear c3
          by_cases c4 : 0 ≤ x4_1
          · rw [if_pos c4] at H
            have c4b0 : decide (0 ≤ x4_1) = true := decide_eq_true c4
            clear c4
            have H' := Aside0.mk H
            clear H
            have p221 : 0 ≤ (x4_1 : Int) := DT
            have q221 : x4_1 < (l0.length : Int) := DT
            obtain ⟨ad221, e221, hx221_0⟩ := Kd.at_int HR0.out x4_1 p221 q221
            cases e221
            replace hx221_0 := pw_cell_below HB.out hx221_0
            replace p221 := eq_true p221
            replace q221 := eq_true q221
            go_wp2
            go_roundg k1
            case measure => have := HK1.out; omega
            case rel => exact ⟨(Go.bits .and .i64 (wrap64 ((wrap64 ((wrap64 (x3_1 * 131)) + (wrap64 (rd l0 x4_1)))) + 7)) 1073741823), (wrap64 (x4_1 + 1)), FR, FR, H', ⟨by have := HK1.out; omega⟩, ⟨(BB HB.out)⟩, ⟨(BB HBW.out)⟩⟩
          · rw [if_neg c4] at H
            exact absurd H (by simp)
        · rw [if_neg c3] at H
          have c3b0 : decide (x4_1 < 4000) = false := decide_eq_false c3
          clear c3
          simp only [Option.some.injEq, Prod.mk.injEq] at H
          obtain ⟨rfl, rfl, rfl⟩ := H
          go_wp2_with (first | ((with_reducible refine gate_dst (N := 31) rfl ?_); refine BX 31 #[.slice A0 l0.length c0, .int .i64 0, .int .i64 x3_1] 56 ?_; intro gb222 hg w5 hbox hb; have n0_ := Aside0.mk (below_step HBW.out hb); have n1_ := Aside0.mk (below_step (BB HB.out) hb); have n2_ := Aside0.mk (hbox); have n3_ := Aside0.mk ((by rw [hg]; exact (below_size (BB HBW.out)) : w.heap.size ≤ gb222)); have n4_ := Aside0.mk ((Nat.le_trans HW0.out (by rw [hg]; exact (below_size (BB HBW.out)) : w.heap.size ≤ gb222) : w0.heap.size ≤ gb222)); clear HBW; clear HB; have HBW := n0_; have HB := n1_; have BK222 := n2_; have GW222 := n3_; have GE222 := n4_; clear n0_ n1_ n2_ n3_ n4_; clear hb hbox hg))
          go_ret
          exact ⟨_, rfl, (show IsS56 w0 _ gb222 l0 0 x3_1 from ⟨_, _, by (with_reducible repeat (first | refine blk_drewN ?_ _ | refine blk_drew ?_ | refine blk_alloc ?_ _)); exact BK222.out, GE222.out, HR0.out⟩), (BB1 HB.out GE222.out), (BB1 HBW.out GW222.out)⟩
      · rw [if_neg c2] at H
        have c2b0 : decide (x4_1 < (l0.length : Int)) = false := decide_eq_false c2
        clear c2
        simp only [Option.some.injEq, Prod.mk.injEq] at H
        obtain ⟨rfl, rfl, rfl⟩ := H
        go_wp2_with (first | ((with_reducible refine gate_dst (N := 31) rfl ?_); refine BX 31 #[.slice A0 l0.length c0, .int .i64 0, .int .i64 x3_1] 56 ?_; intro gb223 hg w6 hbox hb; have n0_ := Aside0.mk (below_step HBW.out hb); have n1_ := Aside0.mk (below_step (BB HB.out) hb); have n2_ := Aside0.mk (hbox); have n3_ := Aside0.mk ((by rw [hg]; exact (below_size (BB HBW.out)) : w.heap.size ≤ gb223)); have n4_ := Aside0.mk ((Nat.le_trans HW0.out (by rw [hg]; exact (below_size (BB HBW.out)) : w.heap.size ≤ gb223) : w0.heap.size ≤ gb223)); clear HBW; clear HB; have HBW := n0_; have HB := n1_; have BK223 := n2_; have GW223 := n3_; have GE223 := n4_; clear n0_ n1_ n2_ n3_ n4_; clear hb hbox hg))
        go_ret
        exact ⟨_, rfl, (show IsS56 w0 _ gb223 l0 0 x3_1 from ⟨_, _, by (with_reducible repeat (first | refine blk_drewN ?_ _ | refine blk_drew ?_ | refine blk_alloc ?_ _)); exact BK223.out, GE223.out, HR0.out⟩), (BB1 HB.out GE223.out), (BB1 HBW.out GW223.out)⟩

end Go.Proofs.YtdacjpebgklneaaDoor.Pr

namespace Go.Proofs.YtdacjpebgklneaaDoor.Pr
open Go.RowKit Go.Proofs.YtdacjpebgklneaaDoorW.PrintWords Go.Proofs.YtdacjpebgklneaaDoorW.PrintLast Go.Proofs.YtdacjpebgklneaaDoorW.PrintMore
attribute [local go_sem] max2_int min2_int max_two min_two max_three min_three max_four min_four
set_option linter.unusedVariables false
set_option linter.unusedSimpArgs false
def spec_DrawLeases.f (k : Nat) (l0 : List Int) : Option ((List (S35))) := (spec_l01New.f k l0).bind fun bt224 => ((spec_l16Leases.f k bt224.1 bt224.2.1 bt224.2.2).bind fun bt228 => (some bt228.1))
set_option maxHeartbeats 8000000 in
set_option maxRecDepth 100000 in
theorem spec_DrawLeases.calls (k : Nat) (A0 : Option Addr) (c0 : Nat) (l0 : List Int) (r : List (S35)) (w : World) (hr0 : Kd.C (Kd.int .u8) w A0 l0.length l0) (hc0 : l0.length ≤ c0) (h : spec_DrawLeases.f k l0 = some r) :
    Calls Tryd.prog 5 #[.slice A0 l0.length c0] w fun e w' => ∃ v0_ : Value, e = .returned (v0_) ∧ Kd.R k35 35 w' w.heap.size (fun _ => True) v0_ r ∧ Below w.heap.size w w' := by
  have HR0 := Aside0.mk hr0
  have HC0 := Aside0.mk hc0
  clear hr0 hc0
  have HB := Aside0.mk (Below.refl w.heap.size w)
  have H : ((spec_l01New.f k l0).bind fun bt224 => ((spec_l16Leases.f k bt224.1 bt224.2.1 bt224.2.2).bind fun bt228 => (some bt228.1))) = some r := h
  clear h
  replace H := Option.bind_eq_some_iff.mp H
  obtain ⟨⟨t224, t225, t226⟩, A20, H⟩ := H
  replace H : ((spec_l16Leases.f k t224 t225 t226).bind fun bt228 => (some bt228.1)) = some r := H
  have A2 := Aside0.mk A20
  clear A20
  replace H := Option.bind_eq_some_iff.mp H
  obtain ⟨⟨t228, t231, t232⟩, A30, H⟩ := H
  replace H : (some t228) = some r := H
  have A3 := Aside0.mk A30
  clear A30
  obtain rfl := Option.some.inj H
  go_enter Tryd.func5, Tryd.ntmps5
  go_wp2_with (first | ((with_reducible refine gate_callee (f := 16) rfl ?_); refine GL (some 4) rfl rfl Tryd.func16 #[.slice A0 l0.length c0] rfl ?_; (with_reducible refine (spec_l01New.calls k _ _ l0 t224 t225 t226 w _ ?side1 ?side2 ?side3 A2.out).mono ?_); (case side1 => repeat (first | (with_reducible first | exact HB.out | apply below_alloc | apply pw_below_drewN | apply below_drew1) | exact HB.out)); (case side2 => exact HR0.out); (case side3 => exact HC0.out); rintro e w4 ⟨g227, rfl, hi, hb, hb2⟩; refine ⟨_, rfl, ?_⟩; have HI227 := Aside0.mk (hi); replace HB := Aside0.mk (hb); (try clear hb); (try clear hb2); (try clear hi)) | ((with_reducible refine gate_callee (f := 15) rfl ?_); refine GL (some 5) rfl rfl Tryd.func15 #[.pointer (some ⟨g227, 0, none⟩)] rfl ?_; (with_reducible refine (spec_l16Leases.calls k g227 t224 t225 t226 t228 t231 t232 w _ ?side1 ?side2 A3.out).mono ?_); (case side1 => repeat (first | (with_reducible first | exact HI227.out | apply IsS56.alloc | apply IsS56.drewN | apply IsS56.drew | apply IsS56.set_1 | apply IsS56.set_2) | exact HI227.out)); (case side2 => repeat (first | (with_reducible first | exact HB.out | apply below_alloc | apply pw_below_drewN | apply below_drew1 | refine below_set ?_ (IsS56.ge HI227.out)) | exact HB.out)); rintro e w5 ⟨v229, rfl, ho0, hi, hb, hk⟩; refine ⟨_, rfl, ?_⟩; have HO230 := Aside0.mk (Kd.R_lower ho0 (below_size ((BB1 HB.out (IsS56.ge HI227.out))))); replace HB := Aside0.mk (hb); replace HI227 := Aside0.mk (hi); (try clear hb); (try clear hk); (try clear hi); (try clear ho0)))
  go_ret
  exact ⟨_, ER, by (with_reducible repeat (first | apply Kd.R_alloc | apply Kd.R_drewN | apply Kd.R_drew)); exact HO230.out, (BB1 HB.out (IsS56.ge HI227.out))⟩

end Go.Proofs.YtdacjpebgklneaaDoor.Pr

namespace Go.Proofs.YtdacjpebgklneaaDoor.Pr
open Go.RowKit Go.Proofs.YtdacjpebgklneaaDoorW.PrintWords Go.Proofs.YtdacjpebgklneaaDoorW.PrintLast Go.Proofs.YtdacjpebgklneaaDoorW.PrintMore
attribute [local go_sem] max2_int min2_int max_two min_two max_three min_three max_four min_four
set_option linter.unusedVariables false
set_option linter.unusedSimpArgs false
def spec_DrawPlaces.l0 : Nat → List Int → Int → List Int → Int → Int → Option (List Int)
  | 0, _, _, _, _, _ => none
  | k + 1, x4, x5, x237000, x237001, x237002 => if x5 < 12 then ((spec_l01Below.f x237000 x237001 x237002 10000).bind fun bt243 => (if x4.length < 17592186044416 then (spec_DrawPlaces.l0 k (x4 ++ [bt243.1]) (wrap64 (x5 + 1)) x237000 bt243.2.1 bt243.2.2) else (none))) else (some x4)
def spec_DrawPlaces.f (k : Nat) (l0 : List Int) : Option (List Int) := (spec_l01New.f k l0).bind fun bt233 => ((spec_l01Byte.f bt233.1 bt233.2.1 bt233.2.2).bind fun bt237 => (spec_DrawPlaces.l0 k (([] : List Int)) 0 bt233.1 bt237.2.1 bt237.2.2))
set_option maxHeartbeats 8000000 in
set_option maxRecDepth 100000 in
theorem spec_DrawPlaces.calls (k : Nat) (A0 : Option Addr) (c0 : Nat) (l0 : List Int) (r : List Int) (w : World) (hr0 : Kd.C (Kd.int .u8) w A0 l0.length l0) (hc0 : l0.length ≤ c0) (h : spec_DrawPlaces.f k l0 = some r) :
    Calls Tryd.prog 6 #[.slice A0 l0.length c0] w fun e w' => ∃ v0_ : Value, e = .returned (v0_) ∧ Kd.R (Kd.int .i64) 3 w' w.heap.size (fun _ => True) v0_ r ∧ Below w.heap.size w w' := by
  have HR0 := Aside0.mk hr0
  have HC0 := Aside0.mk hc0
  clear hr0 hc0
  have HB := Aside0.mk (Below.refl w.heap.size w)
  have H : ((spec_l01New.f k l0).bind fun bt233 => ((spec_l01Byte.f bt233.1 bt233.2.1 bt233.2.2).bind fun bt237 => (spec_DrawPlaces.l0 k (([] : List Int)) 0 bt233.1 bt237.2.1 bt237.2.2))) = some r := h
  clear h
  replace H := Option.bind_eq_some_iff.mp H
  obtain ⟨⟨t233, t234, t235⟩, A20, H⟩ := H
  replace H : ((spec_l01Byte.f t233 t234 t235).bind fun bt237 => (spec_DrawPlaces.l0 k (([] : List Int)) 0 t233 bt237.2.1 bt237.2.2)) = some r := H
  have A2 := Aside0.mk A20
  clear A20
  replace H := Option.bind_eq_some_iff.mp H
  obtain ⟨⟨t237, t238, t239⟩, A30, H⟩ := H
  replace H : (spec_DrawPlaces.l0 k (([] : List Int)) 0 t233 t238 t239) = some r := H
  have A3 := Aside0.mk A30
  clear A30
  obtain ⟨y240, hy240⟩ : ∃ y_ : List Int, y_ = (([] : List Int)) := ⟨_, rfl⟩
  replace H : (spec_DrawPlaces.l0 k y240 0 t233 t238 t239) = some r := by first | (rw [hy240]; with_reducible exact H) | (have H2_ := (Option.bind_some _ _).symm.trans H; rw [hy240]; with_reducible exact H2_) | (have H2_ := (Option.bind_some _ _).symm.trans H; with_reducible exact H2_) | with_reducible exact H | (rw [hy240]; exact H) | exact H
  have Ny240 := Aside0.mk hy240
  clear hy240
  have H' := Aside0.mk H
  clear H
  go_enter Tryd.func6, Tryd.ntmps6
  go_wp2_with (first | ((with_reducible refine gate_callee (f := 16) rfl ?_); refine GL (some 7) rfl rfl Tryd.func16 #[.slice A0 l0.length c0] rfl ?_; (with_reducible refine (spec_l01New.calls k _ _ l0 t233 t234 t235 w _ ?side1 ?side2 ?side3 A2.out).mono ?_); (case side1 => repeat (first | (with_reducible first | exact HB.out | apply below_alloc | apply pw_below_drewN | apply below_drew1) | exact HB.out)); (case side2 => exact HR0.out); (case side3 => exact HC0.out); rintro e w4 ⟨g236, rfl, hi, hb, hb2⟩; refine ⟨_, rfl, ?_⟩; have HI236 := Aside0.mk (hi); replace HB := Aside0.mk (hb); (try clear hb); (try clear hb2); (try clear hi)) | ((with_reducible refine gate_callee (f := 17) rfl ?_); refine GL (some 9) rfl rfl Tryd.func17 #[.pointer (some ⟨g236, 0, none⟩)] rfl ?_; (with_reducible refine (spec_l01Byte.calls g236 t233 t234 t235 t237 t238 t239 w _ ?side1 ?side2 A3.out).mono ?_); (case side1 => repeat (first | (with_reducible first | exact HI236.out | apply IsS56.alloc | apply IsS56.drewN | apply IsS56.drew | apply IsS56.set_1 | apply IsS56.set_2) | exact HI236.out)); (case side2 => repeat (first | (with_reducible first | exact HB.out | apply below_alloc | apply pw_below_drewN | apply below_drew1 | refine below_set ?_ (IsS56.ge HI236.out)) | exact HB.out)); rintro e w5 ⟨rfl, hi, hb, hk⟩; refine ⟨_, rfl, ?_⟩; replace HB := Aside0.mk (hb); replace HI236 := Aside0.mk (hi); (try clear hb); (try clear hk); (try clear hi)) | ((with_reducible refine gate_dst (N := 10) rfl ?_); refine Kd.R_lit (Kd.int .i64) _ 3 ?hg (N := 10) ?hd (xs := ([] : List Int)) (inner := []) (ok := fun _ => True) (okp := fun _ => True) ?hr ?hp (fun _ hk => hk) trivial (Below.refl _ _) (Nat.le_refl _) (by simp) ?_; (case hd => rfl); (case hg => rfl); (case hr => first | (go_simp; done) | (go_simp; rfl)); (case hp => exact (Reps.none _ _)); intro v241 w6 ho7 hb hg_ hnew_; clear hg_ hnew_; (first | rw [← Ny240.out] at ho7 | (simp only [Int.reduceToNat] at ho7; rw [← Ny240.out] at ho7)); have HO242 := Aside0.mk (Kd.R_lower ho7 (below_size ((BB1 HB.out (IsS56.ge HI236.out))))); replace HB := Aside0.mk (below_step ((BB1 HB.out (IsS56.ge HI236.out))) hb); replace HI236 := Aside0.mk (IsS56.below (by repeat (first | (with_reducible first | exact HI236.out | apply IsS56.alloc | apply IsS56.drewN | apply IsS56.drew | apply IsS56.set_1 | apply IsS56.set_2) | exact HI236.out)) hb); clear hb ho7))
  go_loopg [4, 5] k (fun kq v4 v5 w' => ∃ (x4_1 : List Int) (x5_1 : Int) (x237001_1 : Int) (x237002_1 : Int), v5 = .int .i64 x5_1 ∧ Aside0 (spec_DrawPlaces.l0 kq x4_1 x5_1 t233 x237001_1 x237002_1 = some r) ∧ Aside0 (kq ≤ k) ∧ Aside0 (Kd.R (Kd.int .i64) 3 w' w.heap.size (fun _ => True) v4 x4_1) ∧ Aside0 (IsS56 w w' g236 t233 x237001_1 x237002_1) ∧ Aside0 (Below w.heap.size w w'))
  case atStart => exact ⟨(y240), (0), (t238), (t239), FR, H', ⟨Nat.le_refl _⟩, ⟨(RR HO242.out)⟩, ⟨by repeat (first | (with_reducible first | exact HI236.out | apply IsS56.alloc | apply IsS56.drewN | apply IsS56.drew | apply IsS56.set_1 | apply IsS56.set_2) | exact HI236.out)⟩, ⟨(BB1 HB.out (IsS56.ge HI236.out))⟩⟩
  case round =>
    clear H'
    try clear c1
    try clear p2
    try clear c6
    obtain ⟨x4_1, x5_1, x237001_1, x237002_1, rfl, HA, HK1, HO_4, HI236, HB⟩ := hrel
    cases gk with
    | zero => exact absurd HA.out (by simp [spec_DrawPlaces.l0])
    | succ k1 =>
      have H := HA.out
      clear HA
      simp only [spec_DrawPlaces.l0] at H
      by_cases c8 : x5_1 < 12
      · rw [if_pos c8] at H
        have c8b0 : decide (x5_1 < 12) = true := decide_eq_true c8
        clear c8
        replace H := Option.bind_eq_some_iff.mp H
        obtain ⟨⟨t243, t244, t245⟩, A90, H⟩ := H
        replace H : (if x4_1.length < 17592186044416 then (spec_DrawPlaces.l0 k1 (x4_1 ++ [t243]) (wrap64 (x5_1 + 1)) t233 t244 t245) else (none)) = some r := H
        have A9 := Aside0.mk A90
        clear A90
        by_cases c10 : x4_1.length < 17592186044416
        · rw [if_pos c10] at H
          have LMc10 := Aside0.mk c10
          clear c10
          obtain ⟨y246, hy246⟩ : ∃ y_ : List Int, y_ = (x4_1 ++ [t243]) := ⟨_, rfl⟩
          replace H : (spec_DrawPlaces.l0 k1 y246 (wrap64 (x5_1 + 1)) t233 t244 t245) = some r := by first | (rw [hy246]; with_reducible exact H) | (have H2_ := (Option.bind_some _ _).symm.trans H; rw [hy246]; with_reducible exact H2_) | (have H2_ := (Option.bind_some _ _).symm.trans H; with_reducible exact H2_) | with_reducible exact H | (rw [hy246]; exact H) | exact H
          have Ny246 := Aside0.mk hy246
          clear hy246
          have H' := Aside0.mk H
          clear H
          go_wp2_with (first | ((with_reducible refine gate_callee (f := 18) rfl ?_); refine GL (some 17) rfl rfl Tryd.func18 #[.pointer (some ⟨g236, 0, none⟩), .int .i64 10000] rfl ?_; (with_reducible refine (spec_l01Below.calls g236 t233 x237001_1 x237002_1 10000 t243 t244 t245 w _ ?side1 ?side2 A9.out).mono ?_); (case side1 => repeat (first | (with_reducible first | exact HI236.out | apply IsS56.alloc | apply IsS56.drewN | apply IsS56.drew | apply IsS56.set_1 | apply IsS56.set_2) | exact HI236.out)); (case side2 => repeat (first | (with_reducible first | exact HB.out | apply below_alloc | apply pw_below_drewN | apply below_drew1 | refine below_set ?_ (IsS56.ge HI236.out)) | exact HB.out)); rintro e w11 ⟨rfl, hi, hb, hk⟩; refine ⟨_, rfl, ?_⟩; replace HO_4 := Aside0.mk (Kd.R_mono (Kd.R_keep (IsS56.apart (show IsS56 w _ g236 t233 x237001_1 x237002_1 from by repeat (first | (with_reducible first | exact HI236.out | apply IsS56.alloc | apply IsS56.drewN | apply IsS56.drew | apply IsS56.set_1 | apply IsS56.set_2) | exact HI236.out)) (RR HO_4.out) (by decide)) hk (fun _ h => h.2)) (fun _ h => h.1)); replace HB := Aside0.mk (hb); replace HI236 := Aside0.mk (hi); (try clear hb); (try clear hk); (try clear hi)) | ((with_reducible refine gate_builtin (b := .append) (xs := #[.tmp 15, .tmp 18]) rfl ?_); at_builtin; refine Kd.R_append (Kd.int .i64) (w0 := w) w.heap.size rfl (.tmp 15) (.tmp 18) 26 3 (.int .i64 0) 8 rfl Tryd.underlying26 info3 rfl (by decide) (by omega) u4 x4_1 t243 [.int .i64 t243] (fun _ => True) (fun _ => False) rfl rfl ?aP (fun _ hk => hk.elim) ?aF ?aO ?aB ?aS ?aL ?_; (case aP => exact rfl); (case aB => exact ((BB1 HB.out (IsS56.ge HI236.out)))); (case aF => exact (fun _ _ => trivial)); (case aO => exact (RR HO_4.out)); (case aS => exact (below_size ((BB1 HB.out (IsS56.ge HI236.out))))); (case aL => have := LMc10.out; omega); intro v247 w12 ho hb hg hat; rw [← Ny246.out] at ho; have HO248 := Aside0.mk (ho); replace HI236 := Aside0.mk (IsS56.grown (by repeat (first | (with_reducible first | exact HI236.out | apply IsS56.alloc | apply IsS56.drewN | apply IsS56.drew | apply IsS56.set_1 | apply IsS56.set_2) | exact HI236.out)) hg (IsS56.own_ne HI236.out HO_4.out (by decide))); replace HB := Aside0.mk (hb); clear HO_4; clear ho hb hg hat))
          go_roundg k1
          case measure => have := HK1.out; omega
          case rel => exact ⟨(y246), (wrap64 (x5_1 + 1)), (t244), (t245), FR, H', ⟨by have := HK1.out; omega⟩, ⟨(RR HO248.out)⟩, ⟨by repeat (first | (with_reducible first | exact HI236.out | apply IsS56.alloc | apply IsS56.drewN | apply IsS56.drew | apply IsS56.set_1 | apply IsS56.set_2) | exact HI236.out)⟩, ⟨(BB1 HB.out (IsS56.ge HI236.out))⟩⟩
        · rw [if_neg c10] at H
          exact absurd H (by simp)
      · rw [if_neg c8] at H
        have c8b0 : decide (x5_1 < 12) = false := decide_eq_false c8
        clear c8
        obtain rfl := Option.some.inj H
        go_wp2
        go_ret
        exact ⟨_, ER, by (with_reducible repeat (first | apply Kd.R_alloc | apply Kd.R_drewN | apply Kd.R_drew)); exact HO_4.out, (BB1 HB.out (IsS56.ge HI236.out))⟩

end Go.Proofs.YtdacjpebgklneaaDoor.Pr

namespace Go.Proofs.YtdacjpebgklneaaDoor.Pr
open Go.RowKit Go.Proofs.YtdacjpebgklneaaDoorW.PrintWords Go.Proofs.YtdacjpebgklneaaDoorW.PrintLast Go.Proofs.YtdacjpebgklneaaDoorW.PrintMore
attribute [local go_sem] max2_int min2_int max_two min_two max_three min_three max_four min_four
set_option linter.unusedVariables false
set_option linter.unusedSimpArgs false
def impl_RenewLeases.l0 : Nat → Int → Int → List (S35) → List (S35) → Int → Int → Option ((List (S35)))
  | 0, _, _, _, _, _, _ => none
  | k + 1, x1, x2, x7, x12, x13, x14 => if x14 < x13 then (if 0 ≤ x14 then (if x14 < (x12.length : Int) then (if ((rd_T35 x12 x14).f1) = x1 then (if x14 < (x7.length : Int) then (impl_RenewLeases.l0 k x1 x2 (x7.set (x14 : Int).toNat (⟨(rd_T35 x7 x14).f0, (rd_T35 x7 x14).f1, x2⟩ : S35)) x12 x13 (wrap64 (x14 + 1))) else (none)) else (impl_RenewLeases.l0 k x1 x2 x7 x12 x13 (wrap64 (x14 + 1)))) else (none)) else (none)) else (some x7)
def impl_RenewLeases.f (k : Nat) (l0 : List (S35)) (a1 : Int) (a2 : Int) : Option ((List (S35))) := (impl_copyLeases.f l0).bind fun t281 => (impl_RenewLeases.l0 k a1 a2 t281 l0 (l0.length : Int) 0)
set_option maxHeartbeats 8000000 in
set_option maxRecDepth 100000 in
theorem impl_RenewLeases.calls (k : Nat) (A0 : Option Addr) (c0 : Nat) (l0 : List (S35)) (a1 : Int) (a2 : Int) (r : List (S35)) (w : World) (hr0 : Kd.C k35 w A0 l0.length l0) (hc0 : l0.length ≤ c0) (h : impl_RenewLeases.f k l0 a1 a2 = some r) :
    Calls Tryd.prog 8 #[.slice A0 l0.length c0, .int .i64 a1, .int .i64 a2] w fun e w' => ∃ v0_ : Value, e = .returned (v0_) ∧ Kd.R k35 35 w' w.heap.size (fun _ => True) v0_ r ∧ Below w.heap.size w w' := by
  have hu35 := Tryd.underlying35
  have HR0 := Aside0.mk hr0
  have HC0 := Aside0.mk hc0
  clear hr0 hc0
  have HB := Aside0.mk (Below.refl w.heap.size w)
  have H : ((impl_copyLeases.f l0).bind fun t281 => (impl_RenewLeases.l0 k a1 a2 t281 l0 (l0.length : Int) 0)) = some r := h
  clear h
  replace H := Option.bind_eq_some_iff.mp H
  obtain ⟨t281, A40, H⟩ := H
  replace H : (impl_RenewLeases.l0 k a1 a2 t281 l0 (l0.length : Int) 0) = some r := H
  have A4 := Aside0.mk A40
  clear A40
  have H' := Aside0.mk H
  clear H
  go_enter Tryd.func8, Tryd.ntmps8
  go_wp2_with (first | ((with_reducible refine gate_callee (f := 19) rfl ?_); refine GL (some 11) rfl rfl Tryd.func19 #[.slice A0 l0.length c0] rfl ?_; (with_reducible refine (impl_copyLeases.calls _ _ l0 t281 _ ?side1 ?side2 A4.out).mono ?_); (case side1 => exact CC HR0.out); (case side2 => exact HC0.out); rintro e w5 ⟨v282, rfl, ho0, hb⟩; refine ⟨_, rfl, ?_⟩; have HO283 := Aside0.mk (Kd.R_lower ho0 (below_size (BB HB.out))); replace HB := Aside0.mk (below_step (BB HB.out) hb); (try clear hb); (try clear ho0)))
  go_loopg [14] k (fun kq v14 w' => ∃ (x7_1 : List (S35)) (x14_1 : Int), v14 = .int .i64 x14_1 ∧ Aside0 (impl_RenewLeases.l0 kq a1 a2 x7_1 l0 (l0.length : Int) x14_1 = some r) ∧ Aside0 (kq ≤ k) ∧ Aside0 (Kd.R k35 35 w' w.heap.size (fun _ => True) v282 x7_1) ∧ Aside0 (Below w.heap.size w w'))
  case atStart => exact ⟨(t281), (0), FR, H', ⟨Nat.le_refl _⟩, ⟨(RR HO283.out)⟩, ⟨(BB HB.out)⟩⟩
  case round =>
    clear H'
    try clear c1
    try clear p2
    obtain ⟨x7_1, x14_1, rfl, HA, HK1, HO_7, HB⟩ := hrel
    cases gk with
    | zero => exact absurd HA.out (by simp [impl_RenewLeases.l0])
    | succ k1 =>
      have H := HA.out
      clear HA
      simp only [impl_RenewLeases.l0] at H
      by_cases c6 : x14_1 < (l0.length : Int)
      · rw [if_pos c6] at H
        have c6b0 : decide (x14_1 < (l0.length : Int)) = true := decide_eq_true c6
        clear c6
        by_cases c7 : 0 ≤ x14_1
        · rw [if_pos c7] at H
          have c7b0 : decide (0 ≤ x14_1) = true := decide_eq_true c7
          clear c7
          by_cases c8 : x14_1 < (l0.length : Int)
          · rw [if_pos c8] at H
            have c8b0 : decide (x14_1 < (l0.length : Int)) = true := decide_eq_true c8
            clear c8
            by_cases c9 : ((rd_T35 l0 x14_1).f1) = a1
            · rw [if_pos c9] at H
              have c9b0 : (((rd_T35 l0 x14_1).f1) == a1) = true := beq_iff_eq.mpr c9
              have c9b1 : (((rd_T35 l0 x14_1).f1) != a1) = false := bne_eq_false_iff_eq.mpr c9
              clear c9
              by_cases c10 : x14_1 < (x7_1.length : Int)
              · rw [if_pos c10] at H
                have c10b0 : decide (x14_1 < (x7_1.length : Int)) = true := decide_eq_true c10
                clear c10
                obtain ⟨y286, hy286⟩ : ∃ y_ : List (S35), y_ = (x7_1.set (x14_1 : Int).toNat (⟨(rd_T35 x7_1 x14_1).f0, (rd_T35 x7_1 x14_1).f1, a2⟩ : S35)) := ⟨_, rfl⟩
                replace H : (impl_RenewLeases.l0 k1 a1 a2 y286 l0 (l0.length : Int) (wrap64 (x14_1 + 1))) = some r := by first | (rw [hy286]; with_reducible exact H) | (have H2_ := (Option.bind_some _ _).symm.trans H; rw [hy286]; with_reducible exact H2_) | (have H2_ := (Option.bind_some _ _).symm.trans H; with_reducible exact H2_) | with_reducible exact H | (rw [hy286]; exact H) | exact H
                have Ny286 := Aside0.mk hy286
                clear hy286
                have H' := Aside0.mk H
                clear H
                have p284 : 0 ≤ (x14_1 : Int) := DT
                have q284 : x14_1 < (l0.length : Int) := DT
                obtain ⟨ad284, e284, hx284_0, hx284_1, hx284_2⟩ := at_T35 HR0.out x14_1 p284 q284
                cases e284
                replace hx284_0 := (HB.out.cell (World.block_lt_of_cell? w _ hx284_0)).trans hx284_0
                replace hx284_1 := (HB.out.cell (World.block_lt_of_cell? w _ hx284_1)).trans hx284_1
                replace hx284_2 := (HB.out.cell (World.block_lt_of_cell? w _ hx284_2)).trans hx284_2
                replace p284 := eq_true p284
                replace q284 := eq_true q284
                go_wp2_with (first | ((with_reducible refine gate_dst (N := 9) rfl ?_); refine BX 9 #[.string (⟨#[]⟩ : ByteArray), .int .i64 0, .int .i64 0] 35 ?_; intro gb285 hg w12 hbox hb; have BK285 := Aside0.mk (hbox); have GW285 : Aside0 (w.heap.size ≤ gb285) := WG hg (BB HB.out); have GE285 := GW285; replace HO_7 := Aside0.mk (Kd.R_below (Kd.R_elderB (RR HO_7.out) gb285 (Nat.le_of_eq hg.symm)) hb); replace HB := Aside0.mk (below_step (BB HB.out) hb); clear hb hbox hg; have hcz13 := blk_cell BK285.out; have hfz13 := blk_frozen BK285.out) | ((with_reducible refine gate_store (t := 35) (p := 9) rfl ?_); refine store_event (t := 35) (p := 9) (v := ?vo_w14) (w1 := (((w12.setCell ⟨gb285, 0, none⟩ (.string ((rd_T35 l0 x14_1).f0))).setCell ⟨gb285, 1, none⟩ (.int .i64 ((rd_T35 l0 x14_1).f1))).setCell ⟨gb285, 2, none⟩ (.int .i64 ((rd_T35 l0 x14_1).f2)))) ?hg ?ho ?hn ?hr ?_; (case ho => rfl); (case hg => rfl); (case hn => rfl); (case hr => first | (go_simp; done) | (go_simp; rfl)); intro w14 hw; have n0_ : Aside0 (Kd.R k35 35 w14 w.heap.size (fun k_ => k_ ≠ gb285) v282 x7_1) := ⟨(by rw [hw]; exact (by (with_reducible repeat (first | apply Kd.R_alloc | apply Kd.R_drewN | apply Kd.R_drew)); exact Kd.R_mono (Kd.R_far (p := ⟨gb285, 2, none⟩) (Kd.R_far (p := ⟨gb285, 1, none⟩) (Kd.R_far (p := ⟨gb285, 0, none⟩) (Kd.R_mono HO_7.out (fun k_ hk => (⟨hk, hk.2⟩ : _ ∧ k_ ≠ gb285))) (fun _ hk => hk.2) (.string ((rd_T35 l0 x14_1).f0))) (fun _ hk => hk.2) (.int .i64 ((rd_T35 l0 x14_1).f1))) (fun _ hk => hk.2) (.int .i64 ((rd_T35 l0 x14_1).f2))) (fun _ hk => hk.1.2)))⟩; have n1_ : Aside0 (w14.heap[gb285]? = some (.cells #[.string ((rd_T35 l0 x14_1).f0), .int .i64 ((rd_T35 l0 x14_1).f1), .int .i64 ((rd_T35 l0 x14_1).f2)] 35 (0, 0))) := ⟨(by rw [hw]; exact (by (with_reducible repeat (first | refine blk_drewN ?_ _ | refine blk_drew ?_ | refine blk_alloc ?_ _)); refine blk_put (cs := #[.string ((rd_T35 l0 x14_1).f0), .int .i64 ((rd_T35 l0 x14_1).f1), .int .i64 0]) ?_ 2 _ rfl; (with_reducible repeat (first | refine blk_drewN ?_ _ | refine blk_drew ?_ | refine blk_alloc ?_ _)); refine blk_put (cs := #[.string ((rd_T35 l0 x14_1).f0), .int .i64 0, .int .i64 0]) ?_ 1 _ rfl; (with_reducible repeat (first | refine blk_drewN ?_ _ | refine blk_drew ?_ | refine blk_alloc ?_ _)); refine blk_put (cs := #[.string (⟨#[]⟩ : ByteArray), .int .i64 0, .int .i64 0]) ?_ 0 _ rfl; (with_reducible repeat (first | refine blk_drewN ?_ _ | refine blk_drew ?_ | refine blk_alloc ?_ _)); exact BK285.out))⟩; have n2_ : Aside0 (Below w.heap.size w w14) := ⟨(by rw [hw]; exact (BB1 HB.out GE285.out))⟩; clear hw; clear HO_7; clear BK285; clear HB; have HO_7 := n0_; have BK285 := n1_; have HB := n2_; clear n0_ n1_ n2_; have hcz15 := blk_cell BK285.out; have hfz15 := blk_frozen BK285.out; have p11 : 0 ≤ (x14_1 : Int) := DT; have q11 : (x14_1 : Int) < ((x7_1.length : Int) : Int) := DT; obtain ⟨go11, co11, eo11, gb11, gl11, cl11, HG11⟩ := Kd.R_form HO_7.out (by omega); (first | cases eo11 | (injection eo11 with ea_ en_ ec_; (first | subst ea_ | (injection ea_ with ea_; subst ea_)); subst ec_; clear en_)); have GB11 := Aside0.mk gb11; have GG11 := Aside0.mk HG11; clear gb11 gl11 HG11; obtain ⟨ce11, hcl11, hM11, hcc11, hfr11⟩ := Kd.R_elem HO_7.out z35 (x14_1 : Int) p11 q11; obtain rfl := k35_openM hM11; have hx11_0 : w14.cell? ⟨go11, (x14_1 : Int).toNat * 3, none⟩ = some (.string ((rd_T35 x7_1 x14_1).f0)) := hcc11 0 _ rfl; have hx11_1 : w14.cell? ⟨go11, (x14_1 : Int).toNat * 3 + 1, none⟩ = some (.int .i64 ((rd_T35 x7_1 x14_1).f1)) := hcc11 1 _ rfl; have hx11_2 : w14.cell? ⟨go11, (x14_1 : Int).toNat * 3 + 2, none⟩ = some (.int .i64 ((rd_T35 x7_1 x14_1).f2)) := hcc11 2 _ rfl; have hf11_0 : w14.frozen? ⟨go11, (x14_1 : Int).toNat * 3, none⟩ = false := hfr11 0; have hf11_1 : w14.frozen? ⟨go11, (x14_1 : Int).toNat * 3 + 1, none⟩ = false := hfr11 1; have hf11_2 : w14.frozen? ⟨go11, (x14_1 : Int).toNat * 3 + 2, none⟩ = false := hfr11 2; clear hcl11 hcc11 hfr11 hM11; replace p11 := eq_true p11; replace q11 := eq_true q11; have HX16 := Aside0.mk (show Kd.R k35 35 w14 w.heap.size (fun k_ => k_ ≠ gb285) (.slice (some ⟨go11, 0, none⟩) x7_1.length co11) x7_1 from (RR HO_7.out)); obtain ⟨ce16, hcl16, hM16, hcc16, hfr16⟩ := Kd.R_elem HX16.out z35 (x14_1 : Int) DT (by have h_ : (x14_1 : Int) < ((x7_1.length : Int) : Int) := DT; first | exact h_ | (have e_ := (Kd.R_reads' HO_7.out).1; omega) | simpa using h_); obtain rfl := k35_openM hM16; have HP16 := Kd.R_seg HX16.out (x14_1 : Int) DT (by have h_ : (x14_1 : Int) < ((x7_1.length : Int) : Int) := DT; first | exact h_ | (have e_ := (Kd.R_reads' HO_7.out).1; omega) | simpa using h_) (seg := [.int .i64 a2]) (j := 2) hcl16 hcc16 (show 3 ≤ 3 from by decide) (x' := (⟨(rd_T35 x7_1 x14_1).f0, (rd_T35 x7_1 x14_1).f1, a2⟩ : S35)) (k35_mkM _ _ _ (⟨(rd_T35 x7_1 x14_1).f0, (rd_T35 x7_1 x14_1).f1, a2⟩ : S35) ) (fun _ hk => hk); have hx16_2 := hcc16 2 _ rfl; (try simp only [show (k35).sz = 3 from rfl, Nat.mul_one, Nat.add_zero] at hx16_2); have hf16_2 := hfr16 2; (try simp only [show (k35).sz = 3 from rfl, Nat.mul_one, Nat.add_zero] at hf16_2); clear hcl16 hcc16 hfr16 hM16) | ((with_reducible refine gate_store (t := 3) (p := 27) rfl ?_); refine store_event (t := 3) (p := 27) (v := ?vo_w17) (w1 := (w14.setCell ⟨go11, (x14_1 : Int).toNat * 3 + 2, none⟩ (.int .i64 a2))) ?hg ?ho ?hn ?hr ?_; (case ho => rfl); (case hg => rfl); (case hn => rfl); (case hr => first | (go_simp; done) | (go_simp; rfl)); intro w17 hw; have hg : w14.grownBy w17 (some go11) := (by rw [hw]; exact HP16.2); have hp_ : Kd.R k35 35 w17 w.heap.size (fun k_ => k_ ≠ gb285) (.slice (some ⟨go11, 0, none⟩) x7_1.length co11) y286 := (by rw [hw, Ny286.out]; exact HP16.1); clear HP16; have n0_ := Aside0.mk (hp_); have n1_ := Aside0.mk (blk_grown (g := gb285) (o := .cells #[.string ((rd_T35 l0 x14_1).f0), .int .i64 ((rd_T35 l0 x14_1).f1), .int .i64 ((rd_T35 l0 x14_1).f2)] 35 (0, 0)) (by (with_reducible repeat (first | refine blk_drewN ?_ _ | refine blk_drew ?_ | refine blk_alloc ?_ _)); exact BK285.out) hg (Kd.R_away HO_7.out (fun _ hk => hk))); have n2_ := Aside0.mk ((by rw [hw]; exact below_set (HB.out) GB11.out : Below w.heap.size w w17)); clear HO_7; clear BK285; clear HB; have HO_7 := n0_; have BK285 := n1_; have HB := n2_; clear n0_ n1_ n2_; clear hg hw hp_))
                go_roundg k1
                case measure => have := HK1.out; omega
                case rel => exact ⟨(y286), (wrap64 (x14_1 + 1)), FR, H', ⟨by have := HK1.out; omega⟩, ⟨by (with_reducible repeat (first | apply Kd.R_alloc | apply Kd.R_drewN | apply Kd.R_drew)); exact Kd.R_mono HO_7.out (fun _ hk => trivial)⟩, ⟨(BB1 HB.out GE285.out)⟩⟩
              · rw [if_neg c10] at H
                exact absurd H (by simp)
            · rw [if_neg c9] at H
              have c9b0 : (((rd_T35 l0 x14_1).f1) == a1) = false := beq_eq_false_iff_ne.mpr c9
              have c9b1 : (((rd_T35 l0 x14_1).f1) != a1) = true := bne_iff_ne.mpr c9
              have H' := Aside0.mk H
              clear H
              have p284 : 0 ≤ (x14_1 : Int) := DT
              have q284 : x14_1 < (l0.length : Int) := DT
              obtain ⟨ad284, e284, hx284_0, hx284_1, hx284_2⟩ := at_T35 HR0.out x14_1 p284 q284
              cases e284
              replace hx284_0 := (HB.out.cell (World.block_lt_of_cell? w _ hx284_0)).trans hx284_0
              replace hx284_1 := (HB.out.cell (World.block_lt_of_cell? w _ hx284_1)).trans hx284_1
              replace hx284_2 := (HB.out.cell (World.block_lt_of_cell? w _ hx284_2)).trans hx284_2
              replace p284 := eq_true p284
              replace q284 := eq_true q284
              go_wp2_with (first | ((with_reducible refine gate_dst (N := 9) rfl ?_); refine BX 9 #[.string (⟨#[]⟩ : ByteArray), .int .i64 0, .int .i64 0] 35 ?_; intro gb285 hg w18 hbox hb; have BK285 := Aside0.mk (hbox); have GW285 : Aside0 (w.heap.size ≤ gb285) := WG hg (BB HB.out); have GE285 := GW285; replace HO_7 := Aside0.mk (Kd.R_below (Kd.R_elderB (RR HO_7.out) gb285 (Nat.le_of_eq hg.symm)) hb); replace HB := Aside0.mk (below_step (BB HB.out) hb); clear hb hbox hg; have hcz19 := blk_cell BK285.out; have hfz19 := blk_frozen BK285.out))
              go_roundg k1
              case measure => have := HK1.out; omega
              case rel => exact ⟨(x7_1), (wrap64 (x14_1 + 1)), FR, H', ⟨by have := HK1.out; omega⟩, ⟨by (with_reducible repeat (first | apply Kd.R_alloc | apply Kd.R_drewN | apply Kd.R_drew)); exact Kd.R_mono (Kd.R_far (p := ⟨gb285, 2, none⟩) (Kd.R_far (p := ⟨gb285, 1, none⟩) (Kd.R_far (p := ⟨gb285, 0, none⟩) (Kd.R_mono HO_7.out (fun k_ hk => (⟨hk, hk.2⟩ : _ ∧ k_ ≠ gb285))) (fun _ hk => hk.2) (.string ((rd_T35 l0 x14_1).f0))) (fun _ hk => hk.2) (.int .i64 ((rd_T35 l0 x14_1).f1))) (fun _ hk => hk.2) (.int .i64 ((rd_T35 l0 x14_1).f2))) (fun _ hk => trivial)⟩, ⟨(BB1 HB.out GE285.out)⟩⟩
          · rw [if_neg c8] at H
            exact absurd H (by simp)
        · rw [if_neg c7] at H
          exact absurd H (by simp)
      · rw [if_neg c6] at H
        have c6b0 : decide (x14_1 < (l0.length : Int)) = false := decide_eq_false c6
        clear c6
        obtain rfl := Option.some.inj H
        go_wp2
        go_ret
        exact ⟨_, ER, by (with_reducible repeat (first | apply Kd.R_alloc | apply Kd.R_drewN | apply Kd.R_drew)); exact HO_7.out, (BB HB.out)⟩

end Go.Proofs.YtdacjpebgklneaaDoor.Pr
