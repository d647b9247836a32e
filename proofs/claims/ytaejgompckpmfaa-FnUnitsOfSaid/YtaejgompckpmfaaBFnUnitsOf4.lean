/- A part of the proof of the law FnUnitsOf: its texts, one behind the other. -/
import Derived.Test.YtaejgompckpmfaaBFnUnitsOf1
import Derived.Test.YtaejgompckpmfaaBFnUnitsOf2
import Derived.Test.YtaejgompckpmfaaBFnUnitsOf3
set_option linter.unusedVariables false
set_option linter.unusedSimpArgs false
namespace Go.Proofs.Ytaejgompckpmfaa.Pr
open Go.RowKit Go.Proofs.YtaejgompckpmfaaW.PrintWords Go.Proofs.YtaejgompckpmfaaW.PrintLast Go.Proofs.YtaejgompckpmfaaW.PrintMore
attribute [local go_sem] max2_int min2_int max_two min_two max_three min_three max_four min_four
mutual
def spec_CutUnits.j0 : Nat → Int → ByteArray → Int → Bool → Option (List ByteArray × Bool)
 | 0, _, _, _, _ => none
 | k + 1, x0, x1, x6, x28 => if x28 = true then (some ((([] : List ByteArray)), false)) else (if 0 ≤ x6 then (if (x6 : Int).toNat ≤ 17592186044416 then (spec_CutUnits.l0 k x0 x1 (List.replicate (x6 : Int).toNat (⟨#[]⟩ : ByteArray)) 0) else (none)) else (none))
def spec_CutUnits.l0 : Nat → Int → ByteArray → List ByteArray → Int → Option (List ByteArray × Bool)
 | 0, _, _, _, _ => none
 | k + 1, x0, x1, x9, x10 => if x10 < (x1.size : Int) then ((spec_PlaceOf.f x0 x10).bind fun bt199 => (if 0 ≤ bt199.2.1 then (if bt199.2.1 < (x9.length : Int) then (if 0 ≤ x10 then (if x10 ≤ (wrap64 (x10 + 1)) then (if (wrap64 (x10 + 1)) ≤ (x1.size : Int) then (if (rdOf ByteArray.empty x9 bt199.2.1).size + (x1.extract (x10 : Int).toNat ((wrap64 (x10 + 1)) : Int).toNat).size ≤ 9223372036854775807 then (spec_CutUnits.l0 k x0 x1 (x9.set (bt199.2.1 : Int).toNat ((rdOf ByteArray.empty x9 bt199.2.1) ++ (x1.extract (x10 : Int).toNat ((wrap64 (x10 + 1)) : Int).toNat))) (wrap64 (x10 + 1))) else (none)) else (none)) else (none)) else (none)) else (none)) else (none))) else (some (x9, true))
end
def spec_CutUnits.f (k : Nat) (a0 : Int) (a1 : ByteArray) : Option (List ByteArray × Bool) := (spec_SchemaOf.f a0).bind fun bt189 => (if bt189.2.2 = true then ((spec_GroupSize.f a0).bind fun t192 => (spec_CutUnits.j0 k a0 a1 bt189.1 (decide ((a1.size : Int) > t192)))) else (spec_CutUnits.j0 k a0 a1 bt189.1 true))
def spec_CutUnits.T9 : Bool × List (List Nat × List Nat) := (true, [([], []), ([], []), ([], []), ([], []), ([2, 3], [2, 3]), ([4], [4]), ([], []), ([], []), ([], []), ([8], [8]), ([6, 7, 9], [6, 7, 9]), ([5, 10], [5, 10]), ([0, 1, 0, 1, 2, 3, 4, 5, 6, 7, 8, 9, 10, 11], [0, 1]), ([12, 11, 0, 1, 2, 3, 4, 5, 6, 7, 8, 9, 10, 11], [11, 12])])
def spec_CutUnits.B9 : List Nat := [0, 0, 0, 0, 12, 28, 0, 0, 0, 256, 960, 2044, 4095, 8191]
theorem spec_CutUnits.tab9 : rtab .any (opsOf Try.f74 9) = spec_CutUnits.T9 := by kernel_rfl
theorem spec_CutUnits.bits9 : waitsOk spec_CutUnits.T9.2 spec_CutUnits.B9 = true := by kernel_rfl
set_option maxHeartbeats 8000000 in
set_option maxRecDepth 100000 in
theorem spec_CutUnits.calls (k : Nat) (a0 : Int) (a1 : ByteArray) (r1 : List ByteArray) (r2 : Bool) (w : World) (h : spec_CutUnits.f k a0 a1 = some (r1, r2)) :
  Calls Try.prog 74 #[.int .i64 a0, .string a1] w fun e w' => ∃ v0_ : Value, e = .returned (.tuple #[v0_, .bool r2]) ∧ Kd.R Kd.string 9 w' w.heap.size (fun _ => True) v0_ r1 ∧ Below w.heap.size w w' := by
 have HB := AM (Below.refl w.heap.size w)
 have H : ((spec_SchemaOf.f a0).bind fun bt189 => (if bt189.2.2 = true then ((spec_GroupSize.f a0).bind fun t192 => (spec_CutUnits.j0 k a0 a1 bt189.1 (decide ((a1.size : Int) > t192)))) else (spec_CutUnits.j0 k a0 a1 bt189.1 true))) = some (r1, r2) := h
 clear h
 replace H := Option.bind_eq_some_iff.mp H
 obtain ⟨⟨t189, t190, t191⟩, A30, H⟩ := H
 replace H : (if t191 = true then ((spec_GroupSize.f a0).bind fun t192 => (spec_CutUnits.j0 k a0 a1 t189 (decide ((a1.size : Int) > t192)))) else (spec_CutUnits.j0 k a0 a1 t189 true)) = some (r1, r2) := H
 have A3 := AM A30
 clear A30
 have HC4 := AM H
 clear H
 go_enter Try.func74, Try.ntmps74
 go_upto_region 2 with (first | ((with_reducible refine gate_callee (f := 19) rfl ?_); refine GL (some 16) rfl rfl Try.func19 #[.int .i64 a0] rfl ?_; (with_reducible refine (spec_SchemaOf.calls a0 t189 t190 t191 _ A3.out).mono ?_); rintro e w' ⟨rfl, ⟨nd, rfl⟩⟩; refine ⟨_, rfl, ?_⟩))
 (try simp only [Act.put, List.setIfInBounds_toArray, List.set_cons_zero, List.set_cons_succ])
 go_cut [28] (fun v28 wc => ∃ (kq : Nat) (x28_3 : Bool), v28 = .bool x28_3 ∧ Aside0 (spec_CutUnits.j0 kq a0 a1 t189 x28_3 = some (r1, r2)) ∧ Aside0 (kq ≤ k) ∧ Aside0 (Below w.heap.size w wc))
 case first =>
  have H := HC4.out
  clear HC4
  by_cases c5 : t191 = true
  ·subst c5
   have H1 : ((spec_GroupSize.f a0).bind fun t192 => (spec_CutUnits.j0 k a0 a1 t189 (decide ((a1.size : Int) > t192)))) = some (r1, r2) := by rw [if_pos rfl] at H; exact H
   clear H
   have H := H1
   clear H1
   replace H := Option.bind_eq_some_iff.mp H
   obtain ⟨t192, A60, H⟩ := H
   replace H : (spec_CutUnits.j0 k a0 a1 t189 (decide ((a1.size : Int) > t192))) = some (r1, r2) := H
   have A6 := AM A60
   clear A60
   have H' := AM H
   clear H
   go_wp2_with (first | (go_at_call 51; (with_reducible refine (spec_GroupSize.calls a0 t192 _ A6.out).mono ?_); rintro e w' ⟨rfl, ⟨nd, rfl⟩⟩))
   go_meet
   case rel => exact ⟨_, (decide ((a1.size : Int) > t192)), FR, H', ⟨by first | omega | exact Nat.le_refl _⟩, ⟨(BB HB.out)⟩⟩
  ·replace c5 := Bool.eq_false_iff.mpr c5
   subst c5
   have H1 : (spec_CutUnits.j0 k a0 a1 t189 true) = some (r1, r2) := by rw [if_neg (show ¬ (false = true) by decide)] at H; exact H
   clear H
   have H := H1
   clear H1
   have H' := AM H
   clear H
   go_wp2
   go_meet
   case rel => exact ⟨_, (true), FR, H', ⟨by first | omega | exact Nat.le_refl _⟩, ⟨(BB HB.out)⟩⟩
 case rest =>
  clear HC4
  try clear c1
  try clear p2
  try clear c5
  obtain ⟨kq, x28_3, rfl, HA, HJ3, HB⟩ := hcut
  cases kq with
  | zero => exact absurd HA.out (by simp [spec_CutUnits.j0])
  | succ kj3 =>
   have H := HA.out
   clear HA
   simp only [spec_CutUnits.j0] at H
   by_cases c7 : x28_3 = true
   ·subst c7
    have H1 : (some ((([] : List ByteArray)), false)) = some (r1, r2) := by rw [if_pos rfl] at H; exact H
    clear H
    have H := H1
    clear H1
    obtain ⟨y193, hy193⟩ : ∃ y_ : List ByteArray, y_ = (([] : List ByteArray)) := ⟨_, rfl⟩
    replace H : (some (y193, false)) = some (r1, r2) := by first | (rw [hy193]; first | with_reducible exact H | with_reducible exact OB H) | with_reducible exact OB H | with_reducible exact H | (rw [hy193]; exact H) | exact H
    have Ny193 := AM hy193
    clear hy193
    simp only [Option.some.injEq, Prod.mk.injEq] at H
    obtain ⟨rfl, rfl⟩ := H
    go_wp2_with (first | ((with_reducible refine gate_dst (N := 29) rfl ?_); (try (refine gate_guard (by rfl) ?_; dsimp only)); refine Kd.R_lit Kd.string _ 9 ?hg (N := 29) ?hd (xs := ([] : List ByteArray)) (inner := []) (ok := fun _ => True) (okp := fun _ => True) ?hr ?hp (fun _ hk => hk) trivial (Below.refl _ _) (Nat.le_refl _) (by simp) ?_; (case hd => rfl); (case hg => rfl); (case hr => first | (go_simp; done) | (go_simp; rfl)); (case hp => exact (Reps.none _ _)); intro v194 w8 ho9 hb hg_ hnew_; clear hg_ hnew_; (first | rw [← Ny193.out] at ho9 | (simp only [Int.reduceToNat] at ho9; rw [← Ny193.out] at ho9)); have HO195 := AM (Kd.R_lower ho9 (below_size (BB HB.out))); replace HB := AM (below_step (BB HB.out) hb); clear hb ho9))
    go_ret2
    exact ⟨_, ER, by (with_reducible repeat (first | apply Kd.R_alloc | apply Kd.R_drewN | apply Kd.R_drew)); exact HO195.out, (BB HB.out)⟩
   ·replace c7 := Bool.eq_false_iff.mpr c7
    subst c7
    have H1 : (if 0 ≤ t189 then (if (t189 : Int).toNat ≤ 17592186044416 then (spec_CutUnits.l0 kj3 a0 a1 (List.replicate (t189 : Int).toNat (⟨#[]⟩ : ByteArray)) 0) else (none)) else (none)) = some (r1, r2) := by rw [if_neg (show ¬ (false = true) by decide)] at H; exact H
    clear H
    have H := H1
    clear H1
    by_cases c10 : 0 ≤ t189
    rotate_left
    ·rw [if_neg c10] at H; exact absurd H (by simp)
    rw [if_pos c10] at H
    have c10b0 := eq_true c10
    have c10b1 := decide_eq_true c10
    clear c10
    by_cases c11 : (t189 : Int).toNat ≤ 17592186044416
    rotate_left
    ·rw [if_neg c11] at H; exact absurd H (by simp)
    rw [if_pos c11] at H
    have c11b0 := eq_true c11
    have c11b1 := decide_eq_true c11
    clear c11
    obtain ⟨y196, hy196⟩ : ∃ y_ : List ByteArray, y_ = (List.replicate (t189 : Int).toNat (⟨#[]⟩ : ByteArray)) := ⟨_, rfl⟩
    replace H : (spec_CutUnits.l0 kj3 a0 a1 y196 0) = some (r1, r2) := by first | (rw [hy196]; first | with_reducible exact H | with_reducible exact OB H) | with_reducible exact OB H | with_reducible exact H | (rw [hy196]; exact H) | exact H
    have Ny196 := AM hy196
    clear hy196
    have H' := AM H
    clear H
    go_wp2_with (first | ((with_reducible refine gate_dst (N := 31) rfl ?_); (try (refine gate_guard (by rfl) ?_; dsimp only)); refine Kd.R_make Kd.string _ 9 rfl (N := 31) rfl 27 _ _ rfl t189 rfl rfl Try.underlying27 (.string ⟨#[]⟩) 16 info9 rfl (by decide) (by omega) (⟨#[]⟩ : ByteArray) (ok := fun _ => True) (okp := fun _ => True) rfl (fun _ hk => hk) trivial DT (Nat.le_trans (Nat.mul_le_mul_right _ (DT : t189.toNat ≤ 17592186044416)) (by omega)) (Below.refl _ _) (Nat.le_refl _) ?_; intro v197 w12 ho13 hb hg_ hnew_; clear hg_ hnew_; (first | rw [← Ny196.out] at ho13 | (simp only [Int.reduceToNat] at ho13; rw [← Ny196.out] at ho13)); have HO198 := AM (Kd.R_lower ho13 (below_size (BB HB.out))); replace HB := AM (below_step (BB HB.out) hb); clear hb ho13))
    go_loopg [10] kj3 (fun kq v10 w' => ∃ (x9_2 : List ByteArray) (x10_2 : Int), v10 = .int .i64 x10_2 ∧ Aside0 (spec_CutUnits.l0 kq a0 a1 x9_2 x10_2 = some (r1, r2)) ∧ Aside0 (kq ≤ kj3) ∧ Aside0 (Kd.R Kd.string 9 w' w.heap.size (fun _ => True) v197 x9_2) ∧ Aside0 (Below w.heap.size w w'))
    case atStart => exact ⟨(y196), (0), FR, H', ⟨Nat.le_refl _⟩, ⟨(RR HO198.out)⟩, ⟨(BB HB.out)⟩⟩
    case round =>
     clear H'
     try clear c1
     try clear p2
     try clear c5
     try clear c7
     try clear c10
     try clear c10b0
     try clear c10b1
     try clear c11
     try clear c11b0
     try clear c11b1
     try clear p2
     obtain ⟨x9_2, x10_2, rfl, HA, HK2, HO_9, HB⟩ := hrel
     cases gk with
     | zero => exact absurd HA.out (by simp [spec_CutUnits.l0])
     | succ k2 =>
      have H := HA.out
      clear HA
      simp only [spec_CutUnits.l0] at H
      by_cases c14 : x10_2 < (a1.size : Int)
      ·rw [if_pos c14] at H
       have c14b0 := decide_eq_true c14
       clear c14
       replace H := Option.bind_eq_some_iff.mp H
       obtain ⟨⟨t199, t200, t201⟩, A150, H⟩ := H
       replace H : (if 0 ≤ t200 then (if t200 < (x9_2.length : Int) then (if 0 ≤ x10_2 then (if x10_2 ≤ (wrap64 (x10_2 + 1)) then (if (wrap64 (x10_2 + 1)) ≤ (a1.size : Int) then (if (rdOf ByteArray.empty x9_2 t200).size + (a1.extract (x10_2 : Int).toNat ((wrap64 (x10_2 + 1)) : Int).toNat).size ≤ 9223372036854775807 then (spec_CutUnits.l0 k2 a0 a1 (x9_2.set (t200 : Int).toNat ((rdOf ByteArray.empty x9_2 t200) ++ (a1.extract (x10_2 : Int).toNat ((wrap64 (x10_2 + 1)) : Int).toNat))) (wrap64 (x10_2 + 1))) else (none)) else (none)) else (none)) else (none)) else (none)) else (none)) = some (r1, r2) := H
       have A15 := AM A150
       clear A150
       by_cases c16 : 0 ≤ t200
       rotate_left
       ·rw [if_neg c16] at H; exact absurd H (by simp)
       rw [if_pos c16] at H
       have c16b0 := decide_eq_true c16
       clear c16
       by_cases c17 : t200 < (x9_2.length : Int)
       rotate_left
       ·rw [if_neg c17] at H; exact absurd H (by simp)
       rw [if_pos c17] at H
       have c17b0 := decide_eq_true c17
       clear c17
       by_cases c18 : 0 ≤ x10_2
       rotate_left
       ·rw [if_neg c18] at H; exact absurd H (by simp)
       rw [if_pos c18] at H
       have c18b0 := eq_true c18
       have c18b1 := decide_eq_true c18
       clear c18
       by_cases c19 : x10_2 ≤ (wrap64 (x10_2 + 1))
       rotate_left
       ·rw [if_neg c19] at H; exact absurd H (by simp)
       rw [if_pos c19] at H
       have c19b0 := eq_true c19
       have c19b1 := decide_eq_true c19
       by_cases c20 : (wrap64 (x10_2 + 1)) ≤ (a1.size : Int)
       rotate_left
       ·rw [if_neg c20] at H; exact absurd H (by simp)
       rw [if_pos c20] at H
       have c20b0 := eq_true c20
       have c20b1 := decide_eq_true c20
       by_cases c21 : (rdOf ByteArray.empty x9_2 t200).size + (a1.extract (x10_2 : Int).toNat ((wrap64 (x10_2 + 1)) : Int).toNat).size ≤ 9223372036854775807
       rotate_left
       ·rw [if_neg c21] at H; exact absurd H (by simp)
       rw [if_pos c21] at H
       have c21b0 := eq_true c21
       have c21b1 := decide_eq_true c21
       try have c21b2 : (9223372036854775807 < (rdOf ByteArray.empty x9_2 t200).size + (a1.extract (x10_2 : Int).toNat ((wrap64 (x10_2 + 1)) : Int).toNat).size) = False := eq_false (Nat.not_lt.2 c21)
       try have c21b3 : (9223372036854775807 < (rdOf ByteArray.empty x9_2 t200).size + (((wrap64 (x10_2 + 1)) : Int).toNat - (x10_2 : Int).toNat)) = False := eq_false (by have h1_ := c21; rw [ByteArray.size_extract, Nat.min_eq_left (by omega)] at h1_; omega)
       obtain ⟨y203, hy203⟩ : ∃ y_ : List ByteArray, y_ = (x9_2.set (t200 : Int).toNat ((rdOf ByteArray.empty x9_2 t200) ++ (a1.extract (x10_2 : Int).toNat ((wrap64 (x10_2 + 1)) : Int).toNat))) := ⟨_, rfl⟩
       replace H : (spec_CutUnits.l0 k2 a0 a1 y203 (wrap64 (x10_2 + 1))) = some (r1, r2) := by first | (rw [hy203]; first | with_reducible exact H | with_reducible exact OB H) | with_reducible exact OB H | with_reducible exact H | (rw [hy203]; exact H) | exact H
       have Ny203 := AM hy203
       clear hy203
       have H' := AM H
       clear H
       try go_wp2_with (first | ((with_reducible refine gate_callee (f := 102) rfl ?_); refine GL (some 41) rfl rfl Try.func102 #[.int .i64 a0, .int .i64 x10_2] rfl ?_; (with_reducible refine (spec_PlaceOf.calls a0 x10_2 t199 t200 t201 _ A15.out).mono ?_); rintro e w' ⟨rfl, ⟨nd, rfl⟩⟩; refine ⟨_, rfl, ?_⟩; (try (rw [drewN_self wr]; generalize hq_ : World.drewN wr _ = wr; have n0_ : Aside0 (Kd.R Kd.string 9 wr w.heap.size (fun _ => True) v197 x9_2) := ⟨by rw [← hq_]; exact (RR HO_9.out)⟩; have n1_ : Aside0 (Below w.heap.size w wr) := ⟨by rw [← hq_]; exact (BB HB.out)⟩; clear HO_9 HB hq_; have HO_9 := n0_; have HB := n1_; clear n0_ n1_))))
       replace HO_9 := AM (Kd.R_drew HO_9.out); replace HB := AM (below_drew1 HB.out)
       obtain ⟨Ao24, co24, eo24⟩ := Kd.R_slice HO_9.out
       (first | subst eo24 | (injection eo24 with f1_ f2_ f3_; have f4_ := f1_.symm; have f5_ := f3_.symm; clear f1_ f2_ f3_; subst f4_; subst f5_))
       have p202 : 0 ≤ (t200 : Int) := DT
       have q202 : t200 < (x9_2.length : Int) := DT
       obtain ⟨ad202, e202, hx202_0⟩ := Kd.at_string (Kd.R_reads' HO_9.out).2.2 t200 p202 q202
       cases e202
       replace p202 := eq_true p202
       replace q202 := eq_true q202
       have p22 : 0 ≤ (t200 : Int) := DT
       have q22 : (t200 : Int) < ((x9_2.length : Int) : Int) := DT
       obtain ⟨go22, co22, eo22, gb22, gl22, cl22, HG22⟩ := Kd.R_form HO_9.out (by omega)
       (first | cases eo22 | (injection eo22 with ea_ en_ ec_; (first | subst ea_ | (injection ea_ with ea_; subst ea_)); subst ec_; clear en_))
       have GB22 := AM gb22
       have GG22 := AM HG22
       clear gb22 gl22 HG22
       (first | simp only [add_plain] at hx202_0 | skip)
       obtain ⟨hx22_0, hf22_0⟩ := Kd.R_celln (⟨#[]⟩ : ByteArray) HO_9.out (t200 : Int) p22 q22
       replace p22 := eq_true p22
       replace q22 := eq_true q22
       have HP25 := Kd.R_putn HO_9.out (t200 : Int) ((rdOf ByteArray.empty x9_2 t200) ++ (a1.extract (x10_2 : Int).toNat ((wrap64 (x10_2 + 1)) : Int).toNat))
       rw [← Ny203.out] at HP25
       have HQ25 := AM HP25
       clear HP25
       refine start_ (n := 14) (S := fun w' => w'.cell? ⟨go22, (t200).toNat, none⟩ = some (.string (rdOf ByteArray.empty x9_2 t200))) (ds := [13]) (.replicate 14 false) (by kernel_rfl) rfl rfl (hx202_0) (fun hHeld => ?_); refine with_tabW spec_CutUnits.tab9 spec_CutUnits.bits9 (fun HT_ HW_ => ?_)
       generalize wr.drew = w23 at HO_9 HB GG22 HQ25 hf22_0 hx202_0 hx22_0 hHeld ⊢
       refine PH 0 45 HT_.out ?_
       refine PH 1 46 HT_.out ?_
       refine PH 2 47 HT_.out ?_
       refine PH 3 48 HT_.out ?_
       refine PH 4 49 HT_.out ?_
       refine PH 6 51 HT_.out ?_
       refine PH 7 52 HT_.out ?_
       refine PH 8 53 HT_.out ?_
       refine PH 9 54 HT_.out ?_
       refine PH 10 55 HT_.out ?_
       refine TH 5 50 HT_.out HW_.out hHeld ?_
       refine PH 11 56 HT_.out ?_
       refine PH 12 57 HT_.out ?_
       refine LH 13 none HT_.out (fun K hK => ?_)
       refine skip_ (w1 := ?_) (by rfl) rfl ?_ ?_
       rotate_left
       ·go_simp
        rfl
       refine hK.out _ _ ?_
       clear hK K
       refine done_ (done_of HT_.out (by kernel_rfl)) ?_
       try go_wp2
       go_roundg k2
       case measure => have := HJ3.out; have := HK2.out; omega
       case rel => exact ⟨(y203), (wrap64 (x10_2 + 1)), FR, H', ⟨by have := HJ3.out; have := HK2.out; omega⟩, ⟨(RR HQ25.out)⟩, ⟨(BB1 HB.out GB22.out)⟩⟩
      ·rw [if_neg c14] at H
       have c14b0 := decide_eq_false c14
       clear c14
       simp only [Option.some.injEq, Prod.mk.injEq] at H
       obtain ⟨rfl, rfl⟩ := H
       go_wp2
       go_ret2
       exact ⟨_, ER, by (with_reducible repeat (first | apply Kd.R_alloc | apply Kd.R_drewN | apply Kd.R_drew)); exact HO_9.out, (BB HB.out)⟩

end Go.Proofs.Ytaejgompckpmfaa.Pr
namespace Go.Proofs.Ytaejgompckpmfaa.Pr
open Go.RowKit Go.Proofs.YtaejgompckpmfaaW.PrintWords Go.Proofs.YtaejgompckpmfaaW.PrintLast Go.Proofs.YtaejgompckpmfaaW.PrintMore
open Go.Lib Go.Shelf
def spec_AddText.f (a0 a1 : ByteArray) : Option ByteArray := if a0.size ≤ 1048576 ∧ a1.size ≤ 1048576 then some (addT a0 a1) else none
set_option maxHeartbeats 8000000 in
set_option maxRecDepth 100000 in
theorem spec_AddText.calls (a0 a1 : ByteArray) (r : ByteArray) (w : World) (h : spec_AddText.f a0 a1 = some r) :
  Calls Try.prog 103 #[.string a0, .string a1] w fun e w' => e = .returned (.string r) ∧ Below w.heap.size w w' := by
 unfold spec_AddText.f at h
 by_cases hz : a0.size ≤ 1048576 ∧ a1.size ≤ 1048576
 case neg => rw [if_neg hz] at h; cases h
 rw [if_pos hz] at h
 obtain ⟨hz0, hz1⟩ := hz
 have HR : Aside0 (r = addT a0 a1) := ⟨(Option.some.inj h).symm⟩
 clear h
 have mixed : Try.prog.follows .mixedOrders = true := by kernel_rfl
 have u58 := Try.underlying22
 go_enter Try.func103, Try.ntmps103
 go_upto_if 12 with fail
 go_cut [0, 1] (fun s0 s1 wc => ∃ x y : ByteArray, s0 = .string x ∧ s1 = .string y ∧ y.size ≤ x.size ∧ x.size ≤ 1048576 ∧ Aside0 (r = addT x y) ∧ wc = w)
 case first =>
  by_cases hlt : a0.size < a1.size
  ·have hltz : decide ((a0.size : Int) < (a1.size : Int)) = true := decide_eq_true (by omega)
   go_wp2
   go_meet
   case rel => exact ⟨a1, a0, rfl, rfl, by omega, hz1, ⟨by rw [addT_comm]; exact HR.out⟩, rfl⟩
  ·have hltz : decide ((a0.size : Int) < (a1.size : Int)) = false := decide_eq_false (by omega)
   go_wp2
   go_meet
   case rel => exact ⟨a0, a1, rfl, rfl, by omega, hz0, HR, rfl⟩
 case rest =>
  obtain ⟨x, y, rfl, rfl, hyx, hx, HR2, rfl⟩ := hcut
  have hcv := Lib.run_convert_string_bytes (P := Try.prog) wc 9 22 5 x Try.underlying9 Try.underlying22 Try.underlying5
  have HB0 := AM (below_bytes wc 5 x)
  have HU0 := AM (Buf.new wc 5 x)
  have hbz := bytesWorld_size wc 5 x
  generalize bytesWorld wc 5 x = W1 at hcv HB0 HU0 hbz
  generalize grownCap wc x.size 0 5 = cp at hcv
  go_wp2
  clear hcv
  obtain ⟨bb, hbb⟩ : ∃ q, q = wc.heap.size := ⟨_, rfl⟩
  have GE : Aside0 (wc.heap.size ≤ bb) := ⟨by omega⟩
  rw [← hbb] at HU0
  (try rw [← hbb])
  clear hbb hbz
  have HU1 : Aside0 (Buf W1 bb x.size (fun j => xB (btN x j) (if j < 0 then btN y j else 0))) := ⟨fun j hj => by
   show _ = some (Value.int .u8 (xB (btN x j) (if j < 0 then btN y j else 0))) ∧ _
   rw [if_neg (Nat.not_lt_zero _), xB_zero _ (btN_lo x j) (btN_hi x j)]
   exact HU0.out j hj⟩
  clear HU0
  go_loopg [7] y.size (fun gg s7 wr => ∃ i : Nat, s7 = .int .i64 i ∧ i ≤ y.size ∧ y.size - i ≤ gg ∧ Aside0 (Buf wr bb x.size (fun j => xB (btN x j) (if j < i then btN y j else 0))) ∧ Aside0 (Below wc.heap.size wc wr))
  case atStart => exact ⟨0, rfl, Nat.zero_le _, Nat.sub_le _ _, HU1, HB0⟩
  case round =>
   clear HU1 HB0
   obtain ⟨i, rfl, hin, hgg, HU, HB⟩ := hrel
   by_cases hlt : i < y.size
   ·have hltz : (i : Int) < (y.size : Int) := by omega
    have hixz : (i : Int) < (x.size : Int) := by omega
    obtain ⟨hc, hf⟩ := HU.out i (by omega)
    replace hc : wr.cell? ⟨bb, i, none⟩ = some (.int .u8 (xB (btN x i) (if i < i then btN y i else 0))) := hc
    rw [if_neg (Nat.lt_irrefl _), xB_zero _ (btN_lo x i) (btN_hi x i)] at hc
    have hu : btN y i = ((y[i]'hlt).toNat : Int) := btN_get y i hlt
    have HU2 : Aside0 (Buf (wr.setCell ⟨bb, i, none⟩ (.int .u8 (Go.bits .xor .u8 (btN x i) ((y[i]'hlt).toNat : Int)))).drew bb x.size (fun j => xB (btN x j) (if j < i + 1 then btN y j else 0))) := ⟨Buf.drew (HU.out.set i _ _ (by
     show xB (btN x i) (if i < i + 1 then btN y i else 0) = _
     rw [if_pos (Nat.lt_succ_self _), hu]; rfl) (fun j hj => by
     show xB (btN x j) (if j < i + 1 then btN y j else 0) = xB (btN x j) (if j < i then btN y j else 0)
     by_cases h1 : j < i
     ·rw [if_pos h1, if_pos (by omega)]
     ·rw [if_neg h1, if_neg (by omega)]))⟩
    have HB2 : Aside0 (Below wc.heap.size wc (wr.setCell ⟨bb, i, none⟩ (.int .u8 (Go.bits .xor .u8 (btN x i) ((y[i]'hlt).toNat : Int)))).drew) := ⟨(HB.out.setCell (p := ⟨bb, i, none⟩) GE.out _).drew⟩
    clear HU HB hu
    go_wp2_with fail
    go_big_region_o
    go_wp2
    go_roundg (y.size - (i + 1))
    case measure => omega
    case rel => exact ⟨i + 1, by go_num, hlt, Nat.le_refl _, HU2, HB2⟩
   ·have hltz : ¬ (i : Int) < (y.size : Int) := by omega
    obtain rfl : i = y.size := by omega
    have hcv2 := HU.out.conv 22 5 Try.underlying22 Try.underlying5 cp 9 Try.underlying9
    have e : strOfNums ((List.range x.size).map fun j => xB (btN x j) (if j < y.size then btN y j else 0)) = r := by
     rw [HR2.out]
     unfold addT
     rw [Nat.max_eq_left hyx]
     congr 1
     refine List.map_congr_left fun j _ => ?_
     by_cases h1 : j < y.size
     ·rw [if_pos h1]
     ·rw [if_neg h1, btN_end y j (by omega)]
    rw [e] at hcv2
    clear e
    go_wp2
    go_ret
    exact ⟨rfl, HB.out⟩
end Go.Proofs.Ytaejgompckpmfaa.Pr
namespace Go.Proofs.Ytaejgompckpmfaa.Pr
open Go.RowKit Go.Proofs.YtaejgompckpmfaaW.PrintWords Go.Proofs.YtaejgompckpmfaaW.PrintLast Go.Proofs.YtaejgompckpmfaaW.PrintMore
attribute [local go_sem] max2_int min2_int max_two min_two max_three min_three max_four min_four
def spec_l05Mod.f (a0 : Int) : Option (Int) := if (Int.tmod a0 256) < 0 then (some (wrap64 ((Int.tmod a0 256) + 256))) else (some (Int.tmod a0 256))
set_option maxHeartbeats 8000000 in
set_option maxRecDepth 100000 in
theorem spec_l05Mod.calls (a0 : Int) (r : Int) (w : World) (h : spec_l05Mod.f a0 = some r) :
  Calls Try.prog 130 #[.int .i64 a0] w fun e w' => e = .returned (.int .i64 r) ∧ Drawn0 w w' := by
 have H : (if (Int.tmod a0 256) < 0 then (some (wrap64 ((Int.tmod a0 256) + 256))) else (some (Int.tmod a0 256))) = some r := h
 clear h
 by_cases c2 : (Int.tmod a0 256) < 0
 ·rw [if_pos c2] at H
  have c2b0 := decide_eq_true c2
  clear c2
  obtain rfl := Option.some.inj H
  go_enter Try.func130, Try.ntmps130
  go_wp2
  go_ret
  exact ⟨FR, by repeat (first | exact Drawn0.refl _ | apply Drawn0.step)⟩
 ·rw [if_neg c2] at H
  have c2b0 := decide_eq_false c2
  clear c2
  obtain rfl := Option.some.inj H
  go_enter Try.func130, Try.ntmps130
  go_wp2
  go_ret
  exact ⟨FR, by repeat (first | exact Drawn0.refl _ | apply Drawn0.step)⟩

def spec_MulG.l0 : Nat → Int → Int → Int → Option (Int)
 | 0, _, _, _ => none
 | k + 1, x0, x1, x5 => if x1 > 0 then (if (Int.tmod x1 2) = 1 then (if (wrap64 (2 * x0)) ≥ 256 then (spec_MulG.l0 k (Go.bits .xor .i64 (wrap64 (2 * x0)) 285) (wrap64 (Int.tdiv x1 2)) (Go.bits .xor .i64 x5 x0)) else (spec_MulG.l0 k (wrap64 (2 * x0)) (wrap64 (Int.tdiv x1 2)) (Go.bits .xor .i64 x5 x0))) else (if (wrap64 (2 * x0)) ≥ 256 then (spec_MulG.l0 k (Go.bits .xor .i64 (wrap64 (2 * x0)) 285) (wrap64 (Int.tdiv x1 2)) x5) else (spec_MulG.l0 k (wrap64 (2 * x0)) (wrap64 (Int.tdiv x1 2)) x5))) else (some x5)
def spec_MulG.f (k : Nat) (a0 : Int) (a1 : Int) : Option (Int) := (spec_l05Mod.f a0).bind fun t213 => ((spec_l05Mod.f a1).bind fun t214 => (spec_MulG.l0 k t213 t214 0))
theorem spec_MulG.mono_l : ∀ k, (∀ y0 y1 y2, LeO (spec_MulG.l0 k y0 y1 y2) (spec_MulG.l0 (k + 1) y0 y1 y2))
 | 0 => fun _ _ _ r h => by simp [spec_MulG.l0] at h
 | k + 1 => by
  have ih0 := spec_MulG.mono_l k
  ·intro y0 y1 y2
   unfold spec_MulG.l0
   repeat' first
   | (with_reducible exact ih0 _ _ _)
   | (with_reducible exact LeO.refl _)
   | (with_reducible exact LeO.none _)
   | (with_reducible refine LeO.ite ?_ ?_)
   | (with_reducible refine LeO.bind ?_ (fun _ => ?_))
   | exact ih0 _ _ _
   | exact LeO.none _
   | refine LeO.ite ?_ ?_
   | refine LeO.bind ?_ (fun _ => ?_)
theorem spec_MulG.mono : ∀ a0 a1 k, LeO (spec_MulG.f k a0 a1) (spec_MulG.f (k + 1) a0 a1) := by
 intro a0 a1 k
 have ih0 := spec_MulG.mono_l k
 unfold spec_MulG.f
 repeat' first
   | (with_reducible exact ih0 _ _ _)
   | (with_reducible exact LeO.refl _)
   | (with_reducible exact LeO.none _)
   | (with_reducible refine LeO.ite ?_ ?_)
   | (with_reducible refine LeO.bind ?_ (fun _ => ?_))
   | exact ih0 _ _ _
   | exact LeO.none _
   | refine LeO.ite ?_ ?_
   | refine LeO.bind ?_ (fun _ => ?_)
set_option maxHeartbeats 8000000 in
set_option maxRecDepth 100000 in
theorem spec_MulG.calls (k : Nat) (a0 : Int) (a1 : Int) (r : Int) (w : World) (h : spec_MulG.f k a0 a1 = some r) :
  Calls Try.prog 129 #[.int .i64 a0, .int .i64 a1] w fun e w' => e = .returned (.int .i64 r) ∧ Drawn0 w w' := by
 have H : ((spec_l05Mod.f a0).bind fun t213 => ((spec_l05Mod.f a1).bind fun t214 => (spec_MulG.l0 k t213 t214 0))) = some r := h
 clear h
 replace H := Option.bind_eq_some_iff.mp H
 obtain ⟨t213, A30, H⟩ := H
 replace H : ((spec_l05Mod.f a1).bind fun t214 => (spec_MulG.l0 k t213 t214 0)) = some r := H
 have A3 := AM A30
 clear A30
 replace H := Option.bind_eq_some_iff.mp H
 obtain ⟨t214, A40, H⟩ := H
 replace H : (spec_MulG.l0 k t213 t214 0) = some r := H
 have A4 := AM A40
 clear A40
 have H' := AM H
 clear H
 go_enter Try.func129, Try.ntmps129
 go_wp2_with (first | ((with_reducible refine gate_callee (f := 130) rfl ?_); refine GL (some 7) rfl rfl Try.func130 #[.int .i64 a0] rfl ?_; (with_reducible refine (spec_l05Mod.calls a0 t213 _ A3.out).mono ?_); rintro e w' ⟨rfl, ⟨nd, rfl⟩⟩; refine ⟨_, rfl, ?_⟩) | ((with_reducible refine gate_callee (f := 130) rfl ?_); refine GL (some 9) rfl rfl Try.func130 #[.int .i64 a1] rfl ?_; (with_reducible refine (spec_l05Mod.calls a1 t214 _ A4.out).mono ?_); rintro e w' ⟨rfl, ⟨nd, rfl⟩⟩; refine ⟨_, rfl, ?_⟩))
 go_loopg [0, 1, 5] k (fun kq v0 v1 v5 w' => ∃ (x0_1 : Int) (x1_1 : Int) (x5_1 : Int), v0 = .int .i64 x0_1 ∧ v1 = .int .i64 x1_1 ∧ v5 = .int .i64 x5_1 ∧ Aside0 (spec_MulG.l0 kq x0_1 x1_1 x5_1 = some r) ∧ Aside0 (kq ≤ k) ∧ Drawn0 w w')
 case atStart => exact ⟨(t213), (t214), (0), FR, FR, FR, H', ⟨Nat.le_refl _⟩, by repeat (first | exact Drawn0.refl _ | apply Drawn0.step)⟩
 case round =>
  clear H'
  try clear c1
  try clear p2
  obtain ⟨x0_1, x1_1, x5_1, rfl, rfl, rfl, HA, HK1, ⟨m1, rfl⟩⟩ := hrel
  cases gk with
  | zero => exact absurd HA.out (by simp [spec_MulG.l0])
  | succ k1 =>
   have H := HA.out
   clear HA
   simp only [spec_MulG.l0] at H
   by_cases c5 : x1_1 > 0
   ·rw [if_pos c5] at H
    have c5b0 := decide_eq_true c5
    clear c5
    by_cases c6 : (Int.tmod x1_1 2) = 1
    ·rw [if_pos c6] at H
     have c6b0 : ((Int.tmod x1_1 2) == 1) = true := beq_iff_eq.mpr c6
     have c6b1 : ((Int.tmod x1_1 2) != 1) = false := bne_eq_false_iff_eq.mpr c6
     clear c6
     by_cases c7 : (wrap64 (2 * x0_1)) ≥ 256
     ·rw [if_pos c7] at H
      have c7b0 := decide_eq_true c7
      clear c7
      have H' := AM H
      clear H
      go_wp2
      go_roundg k1
      case measure => have := HK1.out; omega
      case rel => exact ⟨(Go.bits .xor .i64 (wrap64 (2 * x0_1)) 285), (wrap64 (Int.tdiv x1_1 2)), (Go.bits .xor .i64 x5_1 x0_1), FR, FR, FR, H', ⟨by have := HK1.out; omega⟩, by repeat (first | exact Drawn0.refl _ | apply Drawn0.step)⟩
     ·rw [if_neg c7] at H
      have c7b0 := decide_eq_false c7
      clear c7
      have H' := AM H
      clear H
      go_wp2
      go_roundg k1
      case measure => have := HK1.out; omega
      case rel => exact ⟨(wrap64 (2 * x0_1)), (wrap64 (Int.tdiv x1_1 2)), (Go.bits .xor .i64 x5_1 x0_1), FR, FR, FR, H', ⟨by have := HK1.out; omega⟩, by repeat (first | exact Drawn0.refl _ | apply Drawn0.step)⟩
    ·rw [if_neg c6] at H
     have c6b0 : ((Int.tmod x1_1 2) == 1) = false := beq_eq_false_iff_ne.mpr c6
     have c6b1 : ((Int.tmod x1_1 2) != 1) = true := bne_iff_ne.mpr c6
     by_cases c8 : (wrap64 (2 * x0_1)) ≥ 256
     ·rw [if_pos c8] at H
      have c8b0 := decide_eq_true c8
      clear c8
      have H' := AM H
      clear H
      go_wp2
      go_roundg k1
      case measure => have := HK1.out; omega
      case rel => exact ⟨(Go.bits .xor .i64 (wrap64 (2 * x0_1)) 285), (wrap64 (Int.tdiv x1_1 2)), (x5_1), FR, FR, FR, H', ⟨by have := HK1.out; omega⟩, by repeat (first | exact Drawn0.refl _ | apply Drawn0.step)⟩
     ·rw [if_neg c8] at H
      have c8b0 := decide_eq_false c8
      clear c8
      have H' := AM H
      clear H
      go_wp2
      go_roundg k1
      case measure => have := HK1.out; omega
      case rel => exact ⟨(wrap64 (2 * x0_1)), (wrap64 (Int.tdiv x1_1 2)), (x5_1), FR, FR, FR, H', ⟨by have := HK1.out; omega⟩, by repeat (first | exact Drawn0.refl _ | apply Drawn0.step)⟩
   ·rw [if_neg c5] at H
    have c5b0 := decide_eq_false c5
    clear c5
    obtain rfl := Option.some.inj H
    go_wp2
    go_ret
    exact ⟨FR, by repeat (first | exact Drawn0.refl _ | apply Drawn0.step)⟩

end Go.Proofs.Ytaejgompckpmfaa.Pr
namespace Go.Proofs.Ytaejgompckpmfaa.Pr
open Go.RowKit Go.Proofs.YtaejgompckpmfaaW.PrintWords Go.Proofs.YtaejgompckpmfaaW.PrintLast Go.Proofs.YtaejgompckpmfaaW.PrintMore
open Go.Lib Go.Shelf
def spec_MulText.f (k : Nat) (a0 : Int) (a1 : ByteArray) : Option ByteArray := if a1.size ≤ 1048576 ∧ ∀ j, j < a1.size → (spec_MulG.f k a0 (btN a1 j)).isSome = true then some (strOfNums ((List.range a1.size).map fun j => ((spec_MulG.f k a0 (btN a1 j)).getD 0) % 256)) else none
set_option maxHeartbeats 8000000 in
set_option maxRecDepth 100000 in
theorem spec_MulText.calls (k : Nat) (a0 : Int) (a1 : ByteArray) (r : ByteArray) (w : World) (h : spec_MulText.f k a0 a1 = some r) :
  Calls Try.prog 120 #[.int .i64 a0, .string a1] w fun e w' => e = .returned (.string r) ∧ Below w.heap.size w w' := by
 unfold spec_MulText.f at h
 by_cases hz : a1.size ≤ 1048576 ∧ ∀ j, j < a1.size → (spec_MulG.f k a0 (btN a1 j)).isSome = true
 case neg => rw [if_neg hz] at h; cases h
 rw [if_pos hz] at h
 obtain ⟨hz1, hsome⟩ := hz
 have HS := AM hsome
 have HR := AM (Option.some.inj h)
 clear h hsome
 have mixed : Try.prog.follows .mixedOrders = true := by kernel_rfl
 have u58 := Try.underlying22
 have hcv := Lib.run_convert_string_bytes (P := Try.prog) w 9 22 5 a1 Try.underlying9 Try.underlying22 Try.underlying5
 have HB0 := AM (below_bytes w 5 a1)
 have HU0 := AM (Buf.new w 5 a1)
 have hbz := bytesWorld_size w 5 a1
 generalize bytesWorld w 5 a1 = W1 at hcv HB0 HU0 hbz
 generalize grownCap w a1.size 0 5 = cp at hcv
 go_enter Try.func120, Try.ntmps120
 go_wp2
 clear hcv
 obtain ⟨bb, hbb⟩ : ∃ q, q = w.heap.size := ⟨_, rfl⟩
 have GE : Aside0 (w.heap.size ≤ bb) := ⟨by omega⟩
 rw [← hbb] at HU0
 (try rw [← hbb])
 clear hbb hbz
 have HU1 : Aside0 (Buf W1 bb a1.size (fun j => if j < 0 then ((spec_MulG.f k a0 (btN a1 j)).getD 0) % 256 else btN a1 j)) := ⟨fun j hj => by
  show _ = some (Value.int .u8 (if j < 0 then ((spec_MulG.f k a0 (btN a1 j)).getD 0) % 256 else btN a1 j)) ∧ _
  rw [if_neg (Nat.not_lt_zero _)]
  exact HU0.out j hj⟩
 clear HU0
 go_loopg [6] a1.size (fun gg s6 wr => ∃ i : Nat, s6 = .int .i64 i ∧ i ≤ a1.size ∧ a1.size - i ≤ gg ∧ Aside0 (Buf wr bb a1.size (fun j => if j < i then ((spec_MulG.f k a0 (btN a1 j)).getD 0) % 256 else btN a1 j)) ∧ Aside0 (Below w.heap.size w wr))
 case atStart => exact ⟨0, rfl, Nat.zero_le _, Nat.sub_le _ _, HU1, HB0⟩
 case round =>
  clear HU1 HB0
  obtain ⟨i, rfl, hin, hgg, HU, HB⟩ := hrel
  by_cases hlt : i < a1.size
  ·have hltz : (i : Int) < (a1.size : Int) := by omega
   obtain ⟨hc, hf⟩ := HU.out i (by omega)
   replace hc : wr.cell? ⟨bb, i, none⟩ = some (.int .u8 (if i < i then ((spec_MulG.f k a0 (btN a1 i)).getD 0) % 256 else btN a1 i)) := hc
   rw [if_neg (Nat.lt_irrefl _)] at hc
   obtain ⟨y, hy⟩ := Option.isSome_iff_exists.1 (HS.out i hlt)
   have hv0 := btN_lo a1 i
   have hv1 := btN_hi a1 i
   have HYi : Aside0 (((spec_MulG.f k a0 (btN a1 i)).getD 0) % 256 = y % 256) := ⟨by rw [hy]; rfl⟩
   obtain ⟨v, hv⟩ : ∃ v, v = btN a1 i := ⟨_, rfl⟩
   rw [← hv] at hc hy hv0 hv1
   have HY := AM hy
   clear hy hv
   have HU2 : ∀ nd, Aside0 (Buf ((wr.drewN nd).setCell ⟨bb, i, none⟩ (.int .u8 (y % 256))) bb a1.size (fun j => if j < i + 1 then ((spec_MulG.f k a0 (btN a1 j)).getD 0) % 256 else btN a1 j)) := fun nd => ⟨Buf.set (show Buf (wr.drewN nd) bb a1.size _ from HU.out) i _ _ (by
    show (if i < i + 1 then ((spec_MulG.f k a0 (btN a1 i)).getD 0) % 256 else btN a1 i) = _
    rw [if_pos (Nat.lt_succ_self _), HYi.out]) (fun j hj => by
    show (if j < i + 1 then ((spec_MulG.f k a0 (btN a1 j)).getD 0) % 256 else btN a1 j) = (if j < i then ((spec_MulG.f k a0 (btN a1 j)).getD 0) % 256 else btN a1 j)
    by_cases h1 : j < i
    ·rw [if_pos h1, if_pos (by omega)]
    ·rw [if_neg h1, if_neg (by omega)])⟩
   have HB2 : ∀ nd, Aside0 (Below w.heap.size w ((wr.drewN nd).setCell ⟨bb, i, none⟩ (.int .u8 (y % 256)))) := fun nd => ⟨Below.setCell (pw_below_drewN HB.out nd) (p := ⟨bb, i, none⟩) GE.out _⟩
   have HU3 := AM HU2
   have HB3 := AM HB2
   clear HU2 HB2 HU HB HYi
   go_wp2_with fail
   refine (spec_MulG.calls k a0 v y _ HY.out).mono ?_
   rintro e w3 ⟨rfl, ⟨nd, rfl⟩⟩
   have hc3 : (wr.drewN nd).cell? ⟨bb, i, none⟩ = some (.int .u8 v) := hc
   have hf3 : (wr.drewN nd).frozen? ⟨bb, i, none⟩ = false := hf
   have HU4 := HU3.out nd
   have HB4 := HB3.out nd
   clear HU3 HB3 hc hf
   generalize wr.drewN nd = w4 at hc3 hf3 HU4 HB4 ⊢
   go_wp2
   go_roundg (a1.size - (i + 1))
   case measure => omega
   case rel => exact ⟨i + 1, by go_num, hlt, Nat.le_refl _, HU4, HB4⟩
  ·have hltz : ¬ (i : Int) < (a1.size : Int) := by omega
   obtain rfl : i = a1.size := by omega
   have hcv2 := HU.out.conv 22 5 Try.underlying22 Try.underlying5 cp 9 Try.underlying9
   have e : strOfNums ((List.range a1.size).map fun j => if j < a1.size then ((spec_MulG.f k a0 (btN a1 j)).getD 0) % 256 else btN a1 j) = r := by
    rw [← HR.out]
    congr 1
    refine List.map_congr_left fun j hj => ?_
    rw [if_pos (List.mem_range.1 hj)]
   rw [e] at hcv2
   clear e
   go_wp2
   go_ret
   exact ⟨rfl, HB.out⟩
end Go.Proofs.Ytaejgompckpmfaa.Pr
namespace Go.Proofs.Ytaejgompckpmfaa.Pr
open Go.RowKit Go.Proofs.YtaejgompckpmfaaW.PrintWords Go.Proofs.YtaejgompckpmfaaW.PrintLast Go.Proofs.YtaejgompckpmfaaW.PrintMore
attribute [local go_sem] max2_int min2_int max_two min_two max_three min_three max_four min_four
mutual
def spec_MatrixOk.l0 : Nat → List (List Int) → Int → Option (Bool)
 | 0, _, _ => none
 | k + 1, x0, x3 => if x3 < (x0.length : Int) then (if 0 ≤ x3 then (if 0 < (x0.length : Int) then (if ((rd_L4 x0 x3).length : Int) = ((rd_L4 x0 0).length : Int) then ((spec_l01In.f ((rd_L4 x0 x3).length : Int) 1 8).bind fun t208 => (spec_MatrixOk.j1 k x0 x3 (!t208))) else (spec_MatrixOk.j1 k x0 x3 true)) else (none)) else (none)) else ((spec_l01In.f (x0.length : Int) 1 8).bind fun t204 => (some t204))
def spec_MatrixOk.j1 : Nat → List (List Int) → Int → Bool → Option (Bool)
 | 0, _, _, _ => none
 | k + 1, x0, x3, x29 => if x29 = true then (some false) else (spec_MatrixOk.l1 k x0 x3 0)
def spec_MatrixOk.l1 : Nat → List (List Int) → Int → Int → Option (Bool)
 | 0, _, _, _ => none
 | k + 1, x0, x3, x4 => if 0 ≤ x3 then (if x3 < (x0.length : Int) then (if x4 < ((rd_L4 x0 x3).length : Int) then (if 0 ≤ x4 then ((spec_l01In.f (rd (rd_L4 x0 x3) x4) 0 255).bind fun t212 => (if t212 = true then (spec_MatrixOk.l1 k x0 x3 (wrap64 (x4 + 1))) else (some false))) else (none)) else (spec_MatrixOk.l0 k x0 (wrap64 (x3 + 1)))) else (none)) else (none)
end
def spec_MatrixOk.f (k : Nat) (l0 : List (List Int)) : Option (Bool) := spec_MatrixOk.l0 k l0 0
theorem spec_MatrixOk.mono_l : ∀ k, (∀ y0 y1, LeO (spec_MatrixOk.l0 k y0 y1) (spec_MatrixOk.l0 (k + 1) y0 y1)) ∧ (∀ y0 y1 y2, LeO (spec_MatrixOk.j1 k y0 y1 y2) (spec_MatrixOk.j1 (k + 1) y0 y1 y2)) ∧ (∀ y0 y1 y2, LeO (spec_MatrixOk.l1 k y0 y1 y2) (spec_MatrixOk.l1 (k + 1) y0 y1 y2))
 | 0 => ⟨fun _ _ r h => by simp [spec_MatrixOk.l0] at h, fun _ _ _ r h => by simp [spec_MatrixOk.j1] at h, fun _ _ _ r h => by simp [spec_MatrixOk.l1] at h⟩
 | k + 1 => by
  obtain ⟨ih0, ih1, ih2⟩ := spec_MatrixOk.mono_l k
  refine ⟨?_, ?_, ?_⟩
  ·intro y0 y1
   unfold spec_MatrixOk.l0
   repeat' first
   | (with_reducible exact ih0 _ _)
   | (with_reducible exact ih1 _ _ _)
   | (with_reducible exact ih2 _ _ _)
   | (with_reducible exact LeO.refl _)
   | (with_reducible exact LeO.none _)
   | (with_reducible refine LeO.ite ?_ ?_)
   | (with_reducible refine LeO.bind ?_ (fun _ => ?_))
   | exact ih0 _ _
   | exact ih1 _ _ _
   | exact ih2 _ _ _
   | exact LeO.none _
   | refine LeO.ite ?_ ?_
   | refine LeO.bind ?_ (fun _ => ?_)
  ·intro y0 y1 y2
   unfold spec_MatrixOk.j1
   repeat' first
   | (with_reducible exact ih0 _ _)
   | (with_reducible exact ih1 _ _ _)
   | (with_reducible exact ih2 _ _ _)
   | (with_reducible exact LeO.refl _)
   | (with_reducible exact LeO.none _)
   | (with_reducible refine LeO.ite ?_ ?_)
   | (with_reducible refine LeO.bind ?_ (fun _ => ?_))
   | exact ih0 _ _
   | exact ih1 _ _ _
   | exact ih2 _ _ _
   | exact LeO.none _
   | refine LeO.ite ?_ ?_
   | refine LeO.bind ?_ (fun _ => ?_)
  ·intro y0 y1 y2
   unfold spec_MatrixOk.l1
   repeat' first
   | (with_reducible exact ih0 _ _)
   | (with_reducible exact ih1 _ _ _)
   | (with_reducible exact ih2 _ _ _)
   | (with_reducible exact LeO.refl _)
   | (with_reducible exact LeO.none _)
   | (with_reducible refine LeO.ite ?_ ?_)
   | (with_reducible refine LeO.bind ?_ (fun _ => ?_))
   | exact ih0 _ _
   | exact ih1 _ _ _
   | exact ih2 _ _ _
   | exact LeO.none _
   | refine LeO.ite ?_ ?_
   | refine LeO.bind ?_ (fun _ => ?_)
theorem spec_MatrixOk.mono : ∀ a0 k, LeO (spec_MatrixOk.f k a0) (spec_MatrixOk.f (k + 1) a0) := by
 intro a0 k
 obtain ⟨ih0, ih1, ih2⟩ := spec_MatrixOk.mono_l k
 unfold spec_MatrixOk.f
 repeat' first
   | (with_reducible exact ih0 _ _)
   | (with_reducible exact ih1 _ _ _)
   | (with_reducible exact ih2 _ _ _)
   | (with_reducible exact LeO.refl _)
   | (with_reducible exact LeO.none _)
   | (with_reducible refine LeO.ite ?_ ?_)
   | (with_reducible refine LeO.bind ?_ (fun _ => ?_))
   | exact ih0 _ _
   | exact ih1 _ _ _
   | exact ih2 _ _ _
   | exact LeO.none _
   | refine LeO.ite ?_ ?_
   | refine LeO.bind ?_ (fun _ => ?_)
set_option maxHeartbeats 8000000 in
set_option maxRecDepth 100000 in
theorem spec_MatrixOk.calls (k : Nat) (A0 : Option Addr) (c0 : Nat) (l0 : List (List Int)) (r : Bool) (w : World) (hr0 : Kd.C (Kd.slice 3 (Kd.int .i64)) w A0 l0.length l0) (hc0 : l0.length ≤ c0) (h : spec_MatrixOk.f k l0 = some r) :
  Calls Try.prog 119 #[.slice A0 l0.length c0] w fun e w' => e = .returned (.bool r) ∧ Drawn0 w w' := by
 have HR0 := AM hr0
 have HC0 := AM hc0
 clear hr0 hc0
 have H : (spec_MatrixOk.l0 k l0 0) = some r := h
 clear h
 have H' := AM H
 clear H
 go_enter Try.func119, Try.ntmps119
 go_wp2
 repeat (go_quiet (fail); try go_wp2)
 go_loopg [3] k (fun kq v3 w' => ∃ (x3_1 : Int), v3 = .int .i64 x3_1 ∧ Aside0 (spec_MatrixOk.l0 kq l0 x3_1 = some r) ∧ Aside0 (kq ≤ k) ∧ Drawn0 w w')
 case atStart => exact ⟨(0), FR, H', ⟨Nat.le_refl _⟩, by repeat (first | exact Drawn0.refl _ | apply Drawn0.step)⟩
 case round =>
  clear H'
  try clear c1
  obtain ⟨x3_1, rfl, HA, HK1, ⟨m1, rfl⟩⟩ := hrel
  cases gk with
  | zero => exact absurd HA.out (by simp [spec_MatrixOk.l0])
  | succ k1 =>
   have H := HA.out
   clear HA
   simp only [spec_MatrixOk.l0] at H
   by_cases c2 : x3_1 < (l0.length : Int)
   ·rw [if_pos c2] at H
    have c2b0 := decide_eq_true c2
    clear c2
    have HC3 := AM H
    clear H
    go_upto_region 4 with (fail)
    repeat (go_quiet (fail); go_upto_region 4 with (fail))
    go_cut [29] (fun v29 wc => ∃ (kq : Nat) (x29_2 : Bool), v29 = .bool x29_2 ∧ Aside0 (spec_MatrixOk.j1 kq l0 x3_1 x29_2 = some r) ∧ Aside0 (kq ≤ k1) ∧ Drawn0 w wc)
    case first =>
     have H := HC3.out
     clear HC3
     by_cases c4 : 0 ≤ x3_1
     rotate_left
     ·rw [if_neg c4] at H; exact absurd H (by simp)
     rw [if_pos c4] at H
     have c4b0 := decide_eq_true c4
     clear c4
     (first | rw [c4b0] | (simp only [i64_w, i32_w]; rw [c4b0]) | skip)
     by_cases c5 : 0 < (l0.length : Int)
     rotate_left
     ·rw [if_neg c5] at H; exact absurd H (by simp)
     rw [if_pos c5] at H
     have c5b0 := decide_eq_true c5
     have c5b1 : decide (0 < l0.length) = true := decide_eq_true (by omega)
     clear c5
     by_cases c6 : ((rd_L4 l0 x3_1).length : Int) = ((rd_L4 l0 0).length : Int)
     ·rw [if_pos c6] at H
      have c6b0 : (((rd_L4 l0 x3_1).length : Int) == ((rd_L4 l0 0).length : Int)) = true := beq_iff_eq.mpr c6
      have c6b1 : (((rd_L4 l0 x3_1).length : Int) != ((rd_L4 l0 0).length : Int)) = false := bne_eq_false_iff_eq.mpr c6
      have c6b2 : ((rd_L4 l0 x3_1).length == (rd_L4 l0 0).length) = true := by first | simpa using c6 | (simp at c6 ⊢; omega)
      clear c6
      replace H := Option.bind_eq_some_iff.mp H
      obtain ⟨t208, A70, H⟩ := H
      replace H : (spec_MatrixOk.j1 k1 l0 x3_1 (!t208)) = some r := H
      have A7 := AM A70
      clear A70
      have H' := AM H
      clear H
      have p205 : 0 ≤ (x3_1 : Int) := DT
      have q205 : x3_1 < (l0.length : Int) := DT
      obtain ⟨ad205, A205_0, c205_0, e205, hx205_0, hl205_0, hi205_0⟩ := at_L4 HR0.out x3_1 p205 q205
      cases e205
      have HR205_0 := AM hi205_0
      have HC205_0 := AM hl205_0
      clear hi205_0 hl205_0
      replace p205 := eq_true p205
      replace q205 := eq_true q205
      have p206 : 0 ≤ (0 : Int) := (by omega)
      have q206 : 0 < (l0.length : Int) := DT
      obtain ⟨ad206, A206_0, c206_0, e206, hx206_0, hl206_0, hi206_0⟩ := at_L4 HR0.out 0 p206 q206
      obtain rfl : ad205 = ad206 := (by injection e206)
      have qi206 : (0 < l0.length) = True := eq_true (by omega)
      (try rw [show ((0 : Int)).toNat = 0 from rfl] at hx206_0)
      (try rw [Addr.add_zero'] at hx206_0)
      have HR206_0 := AM hi206_0
      have HC206_0 := AM hl206_0
      clear hi206_0 hl206_0
      replace p206 := eq_true p206
      replace q206 := eq_true q206
      have p207 : 0 ≤ (x3_1 : Int) := DT
      have q207 : x3_1 < (l0.length : Int) := DT
      obtain ⟨ad207, A207_0, c207_0, e207, hx207_0, hl207_0, hi207_0⟩ := at_L4 HR0.out x3_1 p207 q207
      obtain rfl : ad205 = ad207 := (by injection e207)
      have HR207_0 := AM hi207_0
      have HC207_0 := AM hl207_0
      clear hi207_0 hl207_0
      replace p207 := eq_true p207
      replace q207 := eq_true q207
      have ea_ := Option.some.inj (hx205_0.symm.trans hx207_0)
      injection ea_ with ea_ en_ ec_
      subst ea_
      subst ec_
      clear en_
      go_wp2_with (first | (go_at_call 107; (with_reducible refine (spec_l01In.calls ((rd_L4 l0 x3_1).length : Int) 1 8 t208 _ A7.out).mono ?_); rintro e w' ⟨rfl, ⟨nd, rfl⟩⟩; (try first | exact ⟨rfl, _, World.drewN_drewN _ _ _⟩ | exact ⟨rfl, _, Eq.trans (World.drewN_drewN _ _ _) (congrArg (World.drewN _) (Nat.add_assoc _ _ _))⟩)))
      repeat (go_quiet (first | (go_at_call 107; (with_reducible refine (spec_l01In.calls ((rd_L4 l0 x3_1).length : Int) 1 8 t208 _ A7.out).mono ?_); rintro e w' ⟨rfl, ⟨nd, rfl⟩⟩; (try first | exact ⟨rfl, _, World.drewN_drewN _ _ _⟩ | exact ⟨rfl, _, Eq.trans (World.drewN_drewN _ _ _) (congrArg (World.drewN _) (Nat.add_assoc _ _ _))⟩))); try go_wp2_with (first | (go_at_call 107; (with_reducible refine (spec_l01In.calls ((rd_L4 l0 x3_1).length : Int) 1 8 t208 _ A7.out).mono ?_); rintro e w' ⟨rfl, ⟨nd, rfl⟩⟩; (try first | exact ⟨rfl, _, World.drewN_drewN _ _ _⟩ | exact ⟨rfl, _, Eq.trans (World.drewN_drewN _ _ _) (congrArg (World.drewN _) (Nat.add_assoc _ _ _))⟩))))
      go_meet
      case rel => exact ⟨_, (!t208), FR, H', ⟨by have := HK1.out; first | omega | exact Nat.le_refl _⟩, by repeat (first | exact Drawn0.refl _ | apply Drawn0.step)⟩
     ·rw [if_neg c6] at H
      have c6b0 : (((rd_L4 l0 x3_1).length : Int) == ((rd_L4 l0 0).length : Int)) = false := beq_eq_false_iff_ne.mpr c6
      have c6b1 : (((rd_L4 l0 x3_1).length : Int) != ((rd_L4 l0 0).length : Int)) = true := bne_iff_ne.mpr c6
      have c6b2 : ((rd_L4 l0 x3_1).length == (rd_L4 l0 0).length) = false := by first | simpa using c6 | (simp at c6 ⊢; omega)
      have H' := AM H
      clear H
      have p205 : 0 ≤ (x3_1 : Int) := DT
      have q205 : x3_1 < (l0.length : Int) := DT
      obtain ⟨ad205, A205_0, c205_0, e205, hx205_0, hl205_0, hi205_0⟩ := at_L4 HR0.out x3_1 p205 q205
      cases e205
      have HR205_0 := AM hi205_0
      have HC205_0 := AM hl205_0
      clear hi205_0 hl205_0
      replace p205 := eq_true p205
      replace q205 := eq_true q205
      have p206 : 0 ≤ (0 : Int) := (by omega)
      have q206 : 0 < (l0.length : Int) := DT
      obtain ⟨ad206, A206_0, c206_0, e206, hx206_0, hl206_0, hi206_0⟩ := at_L4 HR0.out 0 p206 q206
      obtain rfl : ad205 = ad206 := (by injection e206)
      have qi206 : (0 < l0.length) = True := eq_true (by omega)
      (try rw [show ((0 : Int)).toNat = 0 from rfl] at hx206_0)
      (try rw [Addr.add_zero'] at hx206_0)
      have HR206_0 := AM hi206_0
      have HC206_0 := AM hl206_0
      clear hi206_0 hl206_0
      replace p206 := eq_true p206
      replace q206 := eq_true q206
      go_wp2
      repeat (go_quiet (fail); try go_wp2)
      go_meet
      case rel => exact ⟨_, (true), FR, H', ⟨by have := HK1.out; first | omega | exact Nat.le_refl _⟩, by repeat (first | exact Drawn0.refl _ | apply Drawn0.step)⟩
    case rest =>
     clear HC3
     try clear c1
     try clear c2
     try clear c2b0
     try clear p2
     try clear q2
     try clear hx2
     try clear qi2
     try clear c4
     try clear c4b0
     try clear c5
     try clear c5b0
     try clear c5b1
     try clear c6
     try clear c6b0
     try clear c6b1
     try clear c6b2
     try clear hx205_0
     try clear hx206_0
     try clear hx207_0
     try clear p205
     try clear p206
     try clear p207
     try clear q205
     try clear q206
     try clear q207
     obtain ⟨kq, x29_2, rfl, HA, HJ2, ⟨mc2, rfl⟩⟩ := hcut
     cases kq with
     | zero => exact absurd HA.out (by simp [spec_MatrixOk.j1])
     | succ kj2 =>
      have H := HA.out
      clear HA
      simp only [spec_MatrixOk.j1] at H
      by_cases c8 : x29_2 = true
      ·subst c8
       have H1 : (some false) = some r := by rw [if_pos rfl] at H; exact H
       clear H
       have H := H1
       clear H1
       obtain rfl := Option.some.inj H
       go_wp2
       repeat (go_quiet (fail); try go_wp2)
       go_ret
       exact ⟨FR, by repeat (first | exact Drawn0.refl _ | apply Drawn0.step)⟩
      ·replace c8 := Bool.eq_false_iff.mpr c8
       subst c8
       have H1 : (spec_MatrixOk.l1 kj2 l0 x3_1 0) = some r := by rw [if_neg (show ¬ (false = true) by decide)] at H; exact H
       clear H
       have H := H1
       clear H1
       have H' := AM H
       clear H
       go_wp2
       repeat (go_quiet (fail); try go_wp2)
       go_loopg [4] kj2 (fun kq v4 w' => ∃ (x4_3 : Int), v4 = .int .i64 x4_3 ∧ Aside0 (spec_MatrixOk.l1 kq l0 x3_1 x4_3 = some r) ∧ Aside0 (kq ≤ kj2) ∧ Drawn0 w w')
       case atStart => exact ⟨(0), FR, H', ⟨Nat.le_refl _⟩, by repeat (first | exact Drawn0.refl _ | apply Drawn0.step)⟩
       case round =>
        clear H'
        try clear c1
        try clear c2
        try clear c2b0
        try clear p2
        try clear q2
        try clear hx2
        try clear qi2
        try clear c4
        try clear c4b0
        try clear c5
        try clear c5b0
        try clear c5b1
        try clear c6
        try clear c6b0
        try clear c6b1
        try clear c6b2
        try clear c8
        try clear hx205_0
        try clear hx206_0
        try clear hx207_0
        try clear p2
        try clear p205
        try clear p206
        try clear p207
        try clear q2
        try clear q205
        try clear q206
        try clear q207
        obtain ⟨x4_3, rfl, HA, HK3, ⟨m3, rfl⟩⟩ := hrel
        cases gk with
        | zero => exact absurd HA.out (by simp [spec_MatrixOk.l1])
        | succ k3 =>
         have H := HA.out
         clear HA
         simp only [spec_MatrixOk.l1] at H
         by_cases c9 : 0 ≤ x3_1
         rotate_left
         ·rw [if_neg c9] at H; exact absurd H (by simp)
         rw [if_pos c9] at H
         have c9b0 := decide_eq_true c9
         clear c9
         by_cases c10 : x3_1 < (l0.length : Int)
         rotate_left
         ·rw [if_neg c10] at H; exact absurd H (by simp)
         rw [if_pos c10] at H
         have c10b0 := decide_eq_true c10
         clear c10
         by_cases c11 : x4_3 < ((rd_L4 l0 x3_1).length : Int)
         ·rw [if_pos c11] at H
          have c11b0 := decide_eq_true c11
          clear c11
          by_cases c12 : 0 ≤ x4_3
          rotate_left
          ·rw [if_neg c12] at H; exact absurd H (by simp)
          rw [if_pos c12] at H
          have c12b0 := decide_eq_true c12
          clear c12
          replace H := Option.bind_eq_some_iff.mp H
          obtain ⟨t212, A130, H⟩ := H
          replace H : (if t212 = true then (spec_MatrixOk.l1 k3 l0 x3_1 (wrap64 (x4_3 + 1))) else (some false)) = some r := H
          have A13 := AM A130
          clear A130
          by_cases c14 : t212 = true
          ·subst c14
           have H1 : (spec_MatrixOk.l1 k3 l0 x3_1 (wrap64 (x4_3 + 1))) = some r := by rw [if_pos rfl] at H; exact H
           clear H
           have H := H1
           clear H1
           have H' := AM H
           clear H
           have p209 : 0 ≤ (x3_1 : Int) := DT
           have q209 : x3_1 < (l0.length : Int) := DT
           obtain ⟨ad209, A209_0, c209_0, e209, hx209_0, hl209_0, hi209_0⟩ := at_L4 HR0.out x3_1 p209 q209
           cases e209
           have HR209_0 := AM hi209_0
           have HC209_0 := AM hl209_0
           clear hi209_0 hl209_0
           replace p209 := eq_true p209
           replace q209 := eq_true q209
           have p210 : 0 ≤ (x3_1 : Int) := DT
           have q210 : x3_1 < (l0.length : Int) := DT
           obtain ⟨ad210, A210_0, c210_0, e210, hx210_0, hl210_0, hi210_0⟩ := at_L4 HR0.out x3_1 p210 q210
           obtain rfl : ad209 = ad210 := (by injection e210)
           have HR210_0 := AM hi210_0
           have HC210_0 := AM hl210_0
           clear hi210_0 hl210_0
           replace p210 := eq_true p210
           replace q210 := eq_true q210
           have ea_ := Option.some.inj (hx209_0.symm.trans hx210_0)
           injection ea_ with ea_ en_ ec_
           subst ea_
           subst ec_
           clear en_
           have p211 : 0 ≤ (x4_3 : Int) := DT
           have q211 : x4_3 < ((rd_L4 l0 x3_1).length : Int) := DT
           obtain ⟨ad211, e211, hx211_0⟩ := Kd.at_int HR210_0.out x4_3 p211 q211
           cases e211
           replace p211 := eq_true p211
           replace q211 := eq_true q211
           go_wp2_with (first | (go_at_call 107; (with_reducible refine (spec_l01In.calls (rd (rd_L4 l0 x3_1) x4_3) 0 255 true _ A13.out).mono ?_); rintro e w' ⟨rfl, ⟨nd, rfl⟩⟩; (try first | exact ⟨rfl, _, World.drewN_drewN _ _ _⟩ | exact ⟨rfl, _, Eq.trans (World.drewN_drewN _ _ _) (congrArg (World.drewN _) (Nat.add_assoc _ _ _))⟩)))
           repeat (go_quiet (first | (go_at_call 107; (with_reducible refine (spec_l01In.calls (rd (rd_L4 l0 x3_1) x4_3) 0 255 true _ A13.out).mono ?_); rintro e w' ⟨rfl, ⟨nd, rfl⟩⟩; (try first | exact ⟨rfl, _, World.drewN_drewN _ _ _⟩ | exact ⟨rfl, _, Eq.trans (World.drewN_drewN _ _ _) (congrArg (World.drewN _) (Nat.add_assoc _ _ _))⟩))); try go_wp2_with (first | (go_at_call 107; (with_reducible refine (spec_l01In.calls (rd (rd_L4 l0 x3_1) x4_3) 0 255 true _ A13.out).mono ?_); rintro e w' ⟨rfl, ⟨nd, rfl⟩⟩; (try first | exact ⟨rfl, _, World.drewN_drewN _ _ _⟩ | exact ⟨rfl, _, Eq.trans (World.drewN_drewN _ _ _) (congrArg (World.drewN _) (Nat.add_assoc _ _ _))⟩))))
           go_roundg k3
           case measure => have := HK1.out; have := HJ2.out; have := HK3.out; omega
           case rel => exact ⟨(wrap64 (x4_3 + 1)), FR, H', ⟨by have := HK1.out; have := HJ2.out; have := HK3.out; omega⟩, by repeat (first | exact Drawn0.refl _ | apply Drawn0.step)⟩
          ·replace c14 := Bool.eq_false_iff.mpr c14
           subst c14
           have H1 : (some false) = some r := by rw [if_neg (show ¬ (false = true) by decide)] at H; exact H
           clear H
           have H := H1
           clear H1
           obtain rfl := Option.some.inj H
           have p209 : 0 ≤ (x3_1 : Int) := DT
           have q209 : x3_1 < (l0.length : Int) := DT
           obtain ⟨ad209, A209_0, c209_0, e209, hx209_0, hl209_0, hi209_0⟩ := at_L4 HR0.out x3_1 p209 q209
           cases e209
           have HR209_0 := AM hi209_0
           have HC209_0 := AM hl209_0
           clear hi209_0 hl209_0
           replace p209 := eq_true p209
           replace q209 := eq_true q209
           have p210 : 0 ≤ (x3_1 : Int) := DT
           have q210 : x3_1 < (l0.length : Int) := DT
           obtain ⟨ad210, A210_0, c210_0, e210, hx210_0, hl210_0, hi210_0⟩ := at_L4 HR0.out x3_1 p210 q210
           obtain rfl : ad209 = ad210 := (by injection e210)
           have HR210_0 := AM hi210_0
           have HC210_0 := AM hl210_0
           clear hi210_0 hl210_0
           replace p210 := eq_true p210
           replace q210 := eq_true q210
           have ea_ := Option.some.inj (hx209_0.symm.trans hx210_0)
           injection ea_ with ea_ en_ ec_
           subst ea_
           subst ec_
           clear en_
           have p211 : 0 ≤ (x4_3 : Int) := DT
           have q211 : x4_3 < ((rd_L4 l0 x3_1).length : Int) := DT
           obtain ⟨ad211, e211, hx211_0⟩ := Kd.at_int HR210_0.out x4_3 p211 q211
           cases e211
           replace p211 := eq_true p211
           replace q211 := eq_true q211
           go_wp2_with (first | (go_at_call 107; (with_reducible refine (spec_l01In.calls (rd (rd_L4 l0 x3_1) x4_3) 0 255 false _ A13.out).mono ?_); rintro e w' ⟨rfl, ⟨nd, rfl⟩⟩; (try first | exact ⟨rfl, _, World.drewN_drewN _ _ _⟩ | exact ⟨rfl, _, Eq.trans (World.drewN_drewN _ _ _) (congrArg (World.drewN _) (Nat.add_assoc _ _ _))⟩)))
           repeat (go_quiet (first | (go_at_call 107; (with_reducible refine (spec_l01In.calls (rd (rd_L4 l0 x3_1) x4_3) 0 255 false _ A13.out).mono ?_); rintro e w' ⟨rfl, ⟨nd, rfl⟩⟩; (try first | exact ⟨rfl, _, World.drewN_drewN _ _ _⟩ | exact ⟨rfl, _, Eq.trans (World.drewN_drewN _ _ _) (congrArg (World.drewN _) (Nat.add_assoc _ _ _))⟩))); try go_wp2_with (first | (go_at_call 107; (with_reducible refine (spec_l01In.calls (rd (rd_L4 l0 x3_1) x4_3) 0 255 false _ A13.out).mono ?_); rintro e w' ⟨rfl, ⟨nd, rfl⟩⟩; (try first | exact ⟨rfl, _, World.drewN_drewN _ _ _⟩ | exact ⟨rfl, _, Eq.trans (World.drewN_drewN _ _ _) (congrArg (World.drewN _) (Nat.add_assoc _ _ _))⟩))))
           go_ret
           exact ⟨FR, by repeat (first | exact Drawn0.refl _ | apply Drawn0.step)⟩
         ·rw [if_neg c11] at H
          have c11b0 := decide_eq_false c11
          clear c11
          have H' := AM H
          clear H
          have p209 : 0 ≤ (x3_1 : Int) := DT
          have q209 : x3_1 < (l0.length : Int) := DT
          obtain ⟨ad209, A209_0, c209_0, e209, hx209_0, hl209_0, hi209_0⟩ := at_L4 HR0.out x3_1 p209 q209
          cases e209
          have HR209_0 := AM hi209_0
          have HC209_0 := AM hl209_0
          clear hi209_0 hl209_0
          replace p209 := eq_true p209
          replace q209 := eq_true q209
          go_wp2
          repeat (go_quiet (fail); try go_wp2)
          go_roundg k3
          case measure => have := HK1.out; have := HJ2.out; have := HK3.out; omega
          case rel => exact ⟨(wrap64 (x3_1 + 1)), FR, H', ⟨by have := HK1.out; have := HJ2.out; have := HK3.out; omega⟩, by repeat (first | exact Drawn0.refl _ | apply Drawn0.step)⟩
   ·rw [if_neg c2] at H
    have c2b0 := decide_eq_false c2
    clear c2
    replace H := Option.bind_eq_some_iff.mp H
    obtain ⟨t204, A150, H⟩ := H
    replace H : (some t204) = some r := H
    have A15 := AM A150
    clear A150
    obtain rfl := Option.some.inj H
    go_wp2_with (first | (go_at_call 107; (with_reducible refine (spec_l01In.calls (l0.length : Int) 1 8 t204 _ A15.out).mono ?_); rintro e w' ⟨rfl, ⟨nd, rfl⟩⟩; (try first | exact ⟨rfl, _, World.drewN_drewN _ _ _⟩ | exact ⟨rfl, _, Eq.trans (World.drewN_drewN _ _ _) (congrArg (World.drewN _) (Nat.add_assoc _ _ _))⟩)))
    repeat (go_quiet (first | (go_at_call 107; (with_reducible refine (spec_l01In.calls (l0.length : Int) 1 8 t204 _ A15.out).mono ?_); rintro e w' ⟨rfl, ⟨nd, rfl⟩⟩; (try first | exact ⟨rfl, _, World.drewN_drewN _ _ _⟩ | exact ⟨rfl, _, Eq.trans (World.drewN_drewN _ _ _) (congrArg (World.drewN _) (Nat.add_assoc _ _ _))⟩))); try go_wp2_with (first | (go_at_call 107; (with_reducible refine (spec_l01In.calls (l0.length : Int) 1 8 t204 _ A15.out).mono ?_); rintro e w' ⟨rfl, ⟨nd, rfl⟩⟩; (try first | exact ⟨rfl, _, World.drewN_drewN _ _ _⟩ | exact ⟨rfl, _, Eq.trans (World.drewN_drewN _ _ _) (congrArg (World.drewN _) (Nat.add_assoc _ _ _))⟩))))
    go_ret
    exact ⟨FR, by repeat (first | exact Drawn0.refl _ | apply Drawn0.step)⟩

mutual
def spec_ApplyM.j0 : Nat → List (List Int) → List ByteArray → List ByteArray → Bool → Option (List ByteArray)
 | 0, _, _, _, _ => none
 | k + 1, x0, x1, x5, x21 => if x21 = true then (some x5) else (spec_ApplyM.l0 k x0 x1 x5 0)
def spec_ApplyM.l0 : Nat → List (List Int) → List ByteArray → List ByteArray → Int → Option (List ByteArray)
 | 0, _, _, _, _ => none
 | k + 1, x0, x1, x5, x6 => if x6 < (x0.length : Int) then (spec_ApplyM.l1 k x0 x1 x5 x6 (⟨#[]⟩ : ByteArray) 0) else (some x5)
def spec_ApplyM.l1 : Nat → List (List Int) → List ByteArray → List ByteArray → Int → ByteArray → Int → Option (List ByteArray)
 | 0, _, _, _, _, _, _ => none
 | k + 1, x0, x1, x5, x6, x7, x8 => if x8 < (x1.length : Int) then (if 0 ≤ x6 then (if x6 < (x0.length : Int) then (if 0 ≤ x8 then (if x8 < ((rd_L4 x0 x6).length : Int) then ((spec_MulText.f k (rd (rd_L4 x0 x6) x8) (rdOf ByteArray.empty x1 x8)).bind fun t223 => ((spec_AddText.f x7 t223).bind fun t224 => (spec_ApplyM.l1 k x0 x1 x5 x6 t224 (wrap64 (x8 + 1))))) else (none)) else (none)) else (none)) else (none)) else (if x5.length < 8796093022208 then (spec_ApplyM.l0 k x0 x1 (x5 ++ [x7]) (wrap64 (x6 + 1))) else (none))
end
def spec_ApplyM.f (k : Nat) (l0 : List (List Int)) (l1 : List ByteArray) : Option (List ByteArray) := (some (([] : List ByteArray) : List ByteArray)).bind fun y215 => ((spec_MatrixOk.f k l0).bind fun t218 => (if t218 = true then (if 0 < (l0.length : Int) then (spec_ApplyM.j0 k l0 l1 y215 (((rd_L4 l0 0).length : Int) != (l1.length : Int))) else (none)) else (spec_ApplyM.j0 k l0 l1 y215 true)))
def spec_ApplyM.T11 : Bool × List (List Nat × List Nat) := (true, [([], []), ([], []), ([], []), ([1, 2], [1, 2]), ([3], [3]), ([], []), ([4, 5], [4, 5]), ([6], [6]), ([], []), ([], []), ([8, 9], [8, 9]), ([10], [10]), ([7, 11], [7, 11]), ([0, 12, 12], [0, 12]), ([13, 13, 0, 1, 2, 3, 4, 5, 6, 7, 8, 9, 10, 11, 12, 13], [0, 13])])
def spec_ApplyM.B11 : List Nat := [0, 0, 0, 6, 14, 0, 62, 126, 0, 0, 768, 1792, 4094, 8191, 16383]
theorem spec_ApplyM.tab11 : rtab .any (opsOf Try.f104 11) = spec_ApplyM.T11 := by kernel_rfl
theorem spec_ApplyM.bits11 : waitsOk spec_ApplyM.T11.2 spec_ApplyM.B11 = true := by kernel_rfl
set_option maxHeartbeats 8000000 in
set_option maxRecDepth 100000 in
theorem spec_ApplyM.calls (k : Nat) (A0 : Option Addr) (c0 : Nat) (l0 : List (List Int)) (A1 : Option Addr) (c1 : Nat) (l1 : List ByteArray) (r : List ByteArray) (w : World) (hr0 : Kd.C (Kd.slice 3 (Kd.int .i64)) w A0 l0.length l0) (hc0 : l0.length ≤ c0) (hr1 : Kd.C Kd.string w A1 l1.length l1) (hc1 : l1.length ≤ c1) (h : spec_ApplyM.f k l0 l1 = some r) :
  Calls Try.prog 104 #[.slice A0 l0.length c0, .slice A1 l1.length c1] w fun e w' => ∃ v0_ : Value, e = .returned (v0_) ∧ Kd.R Kd.string 9 w' w.heap.size (fun _ => True) v0_ r ∧ Below w.heap.size w w' := by
 have HR0 := AM hr0
 have HC0 := AM hc0
 clear hr0 hc0
 have HR1 := AM hr1
 have HC1 := AM hc1
 clear hr1 hc1
 have HB := AM (Below.refl w.heap.size w)
 have H : ((some (([] : List ByteArray) : List ByteArray)).bind fun y215 => ((spec_MatrixOk.f k l0).bind fun t218 => (if t218 = true then (if 0 < (l0.length : Int) then (spec_ApplyM.j0 k l0 l1 y215 (((rd_L4 l0 0).length : Int) != (l1.length : Int))) else (none)) else (spec_ApplyM.j0 k l0 l1 y215 true)))) = some r := h
 clear h
 obtain ⟨y215, hy215⟩ : ∃ y_ : List ByteArray, y_ = (([] : List ByteArray)) := ⟨_, rfl⟩
 replace H : ((spec_MatrixOk.f k l0).bind fun t218 => (if t218 = true then (if 0 < (l0.length : Int) then (spec_ApplyM.j0 k l0 l1 y215 (((rd_L4 l0 0).length : Int) != (l1.length : Int))) else (none)) else (spec_ApplyM.j0 k l0 l1 y215 true))) = some r := by first | (rw [hy215]; first | with_reducible exact H | with_reducible exact OB H) | with_reducible exact OB H | with_reducible exact H | (rw [hy215]; exact H) | exact H
 have Ny215 := AM hy215
 clear hy215
 have HC3 := AM H
 clear H
 go_enter Try.func104, Try.ntmps104
 go_upto_region 2 with (first | ((with_reducible refine gate_dst (N := 9) rfl ?_); (try (refine gate_guard (by rfl) ?_; dsimp only)); refine Kd.R_lit Kd.string _ 9 ?hg (N := 9) ?hd (xs := ([] : List ByteArray)) (inner := []) (ok := fun _ => True) (okp := fun _ => True) ?hr ?hp (fun _ hk => hk) trivial (Below.refl _ _) (Nat.le_refl _) (by simp) ?_; (case hd => rfl); (case hg => rfl); (case hr => first | (go_simp; done) | (go_simp; rfl)); (case hp => exact (Reps.none _ _)); intro v216 w4 ho5 hb hg_ hnew_; clear hg_ hnew_; (first | rw [← Ny215.out] at ho5 | (simp only [Int.reduceToNat] at ho5; rw [← Ny215.out] at ho5)); have HO217 := AM (Kd.R_lower ho5 (below_size (BB HB.out))); replace HB := AM (below_step (BB HB.out) hb); clear hb ho5))
 (try simp only [Act.put, List.setIfInBounds_toArray, List.set_cons_zero, List.set_cons_succ])
 go_cut [21] (fun v21 wc => ∃ (kq : Nat) (x21_2 : Bool), v21 = .bool x21_2 ∧ Aside0 (spec_ApplyM.j0 kq l0 l1 y215 x21_2 = some r) ∧ Aside0 (kq ≤ k) ∧ Aside0 (Kd.R Kd.string 9 wc w.heap.size (fun _ => True) v216 y215) ∧ Aside0 (Below w.heap.size w wc))
 case first =>
  have H := HC3.out
  clear HC3
  replace H := Option.bind_eq_some_iff.mp H
  obtain ⟨t218, A60, H⟩ := H
  replace H : (if t218 = true then (if 0 < (l0.length : Int) then (spec_ApplyM.j0 k l0 l1 y215 (((rd_L4 l0 0).length : Int) != (l1.length : Int))) else (none)) else (spec_ApplyM.j0 k l0 l1 y215 true)) = some r := H
  have A6 := AM A60
  clear A60
  by_cases c7 : t218 = true
  ·subst c7
   have H1 : (if 0 < (l0.length : Int) then (spec_ApplyM.j0 k l0 l1 y215 (((rd_L4 l0 0).length : Int) != (l1.length : Int))) else (none)) = some r := by rw [if_pos rfl] at H; exact H
   clear H
   have H := H1
   clear H1
   by_cases c8 : 0 < (l0.length : Int)
   rotate_left
   ·rw [if_neg c8] at H; exact absurd H (by simp)
   rw [if_pos c8] at H
   have c8b0 := decide_eq_true c8
   have c8b1 : decide (0 < l0.length) = true := decide_eq_true (by omega)
   clear c8
   (first | rw [c8b0] | (simp only [i64_w, i32_w]; rw [c8b0]) | skip)
   have H' := AM H
   clear H
   go_wp2_with (first | ((with_reducible refine gate_callee (f := 119) rfl ?_); refine GL (some 11) rfl rfl Try.func119 #[.slice A0 l0.length c0] rfl ?_; (with_reducible refine (spec_MatrixOk.calls k _ _ l0 true _ ?side1 ?side2 A6.out).mono ?_); (case side1 => exact CC (Kd.C_below HR0.out HB.out)); (case side2 => exact HC0.out); rintro e w' ⟨rfl, ⟨nd, rfl⟩⟩; refine ⟨_, rfl, ?_⟩; have p219 : 0 ≤ (0 : Int) := (by omega); have q219 : 0 < (l0.length : Int) := DT; obtain ⟨ad219, A219_0, c219_0, e219, hx219_0, hl219_0, hi219_0⟩ := at_L4 HR0.out 0 p219 q219; cases e219; have qi219 : (0 < l0.length) = True := eq_true (by omega); (try rw [show ((0 : Int)).toNat = 0 from rfl] at hx219_0); (try rw [Addr.add_zero'] at hx219_0); replace hx219_0 := CX HB.out hx219_0; have HR219_0 := AM hi219_0; have HC219_0 := AM hl219_0; clear hi219_0 hl219_0; replace p219 := eq_true p219; replace q219 := eq_true q219))
   go_meet
   case rel => exact ⟨_, ((((rd_L4 l0 0).length : Int) != (l1.length : Int))), FR, H', ⟨by first | omega | exact Nat.le_refl _⟩, ⟨(RR HO217.out)⟩, ⟨(BB HB.out)⟩⟩
  ·replace c7 := Bool.eq_false_iff.mpr c7
   subst c7
   have H1 : (spec_ApplyM.j0 k l0 l1 y215 true) = some r := by rw [if_neg (show ¬ (false = true) by decide)] at H; exact H
   clear H
   have H := H1
   clear H1
   have H' := AM H
   clear H
   go_wp2_with (first | ((with_reducible refine gate_callee (f := 119) rfl ?_); refine GL (some 11) rfl rfl Try.func119 #[.slice A0 l0.length c0] rfl ?_; (with_reducible refine (spec_MatrixOk.calls k _ _ l0 false _ ?side1 ?side2 A6.out).mono ?_); (case side1 => exact CC (Kd.C_below HR0.out HB.out)); (case side2 => exact HC0.out); rintro e w' ⟨rfl, ⟨nd, rfl⟩⟩; refine ⟨_, rfl, ?_⟩))
   go_meet
   case rel => exact ⟨_, (true), FR, H', ⟨by first | omega | exact Nat.le_refl _⟩, ⟨(RR HO217.out)⟩, ⟨(BB HB.out)⟩⟩
 case rest =>
  clear HC3
  try clear c1
  try clear c2
  try clear p2
  try clear q2
  try clear hx2
  try clear qi2
  try clear c7
  try clear c8
  try clear c8b0
  try clear c8b1
  try clear hx219_0
  try clear p219
  try clear q219
  obtain ⟨kq, x21_2, rfl, HA, HJ2, HO_5, HB⟩ := hcut
  cases kq with
  | zero => exact absurd HA.out (by simp [spec_ApplyM.j0])
  | succ kj2 =>
   have H := HA.out
   clear HA
   simp only [spec_ApplyM.j0] at H
   by_cases c9 : x21_2 = true
   ·subst c9
    have H1 : (some y215) = some r := by rw [if_pos rfl] at H; exact H
    clear H
    have H := H1
    clear H1
    obtain rfl := Option.some.inj H
    go_wp2
    go_ret
    exact ⟨_, ER, by (with_reducible repeat (first | apply Kd.R_alloc | apply Kd.R_drewN | apply Kd.R_drew)); exact HO_5.out, (BB HB.out)⟩
   ·replace c9 := Bool.eq_false_iff.mpr c9
    subst c9
    have H1 : (spec_ApplyM.l0 kj2 l0 l1 y215 0) = some r := by rw [if_neg (show ¬ (false = true) by decide)] at H; exact H
    clear H
    have H := H1
    clear H1
    have H' := AM H
    clear H
    go_wp2
    go_loopg [5, 6] kj2 (fun kq v5 v6 w' => ∃ (x5_2 : List ByteArray) (x6_2 : Int), v6 = .int .i64 x6_2 ∧ Aside0 (spec_ApplyM.l0 kq l0 l1 x5_2 x6_2 = some r) ∧ Aside0 (kq ≤ kj2) ∧ Aside0 (Kd.R Kd.string 9 w' w.heap.size (fun _ => True) v5 x5_2) ∧ Aside0 (Below w.heap.size w w'))
    case atStart => exact ⟨(y215), (0), FR, H', ⟨Nat.le_refl _⟩, ⟨(RR HO_5.out)⟩, ⟨(BB HB.out)⟩⟩
    case round =>
     clear H'
     try clear c1
     try clear c2
     try clear p2
     try clear q2
     try clear hx2
     try clear qi2
     try clear c7
     try clear c8
     try clear c8b0
     try clear c8b1
     try clear c9
     try clear hx219_0
     try clear p2
     try clear p219
     try clear q2
     try clear q219
     obtain ⟨x5_2, x6_2, rfl, HA, HK2, HO_5, HB⟩ := hrel
     cases gk with
     | zero => exact absurd HA.out (by simp [spec_ApplyM.l0])
     | succ k2 =>
      have H := HA.out
      clear HA
      simp only [spec_ApplyM.l0] at H
      by_cases c10 : x6_2 < (l0.length : Int)
      ·rw [if_pos c10] at H
       have c10b0 := decide_eq_true c10
       clear c10
       have H' := AM H
       clear H
       go_wp2
       go_loopg [7, 8] k2 (fun kq v7 v8 w' => ∃ (x7_3 : ByteArray) (x8_3 : Int), v7 = .string x7_3 ∧ v8 = .int .i64 x8_3 ∧ Aside0 (spec_ApplyM.l1 kq l0 l1 x5_2 x6_2 x7_3 x8_3 = some r) ∧ Aside0 (kq ≤ k2) ∧ Aside0 (Kd.R Kd.string 9 w' w.heap.size (fun _ => True) u5 x5_2) ∧ Aside0 (Below w.heap.size w w'))
       case atStart => exact ⟨((⟨#[]⟩ : ByteArray)), (0), FR, FR, H', ⟨Nat.le_refl _⟩, ⟨(RR HO_5.out)⟩, ⟨(BB HB.out)⟩⟩
       case round =>
        clear H'
        try clear c1
        try clear c2
        try clear p2
        try clear q2
        try clear hx2
        try clear qi2
        try clear c7
        try clear c8
        try clear c8b0
        try clear c8b1
        try clear c9
        try clear c10
        try clear c10b0
        try clear hx219_0
        try clear p2
        try clear p219
        try clear q2
        try clear q219
        obtain ⟨x7_3, x8_3, rfl, rfl, HA, HK3, HO_5, HB⟩ := hrel
        cases gk with
        | zero => exact absurd HA.out (by simp [spec_ApplyM.l1])
        | succ k3 =>
         have H := HA.out
         clear HA
         simp only [spec_ApplyM.l1] at H
         by_cases c11 : x8_3 < (l1.length : Int)
         ·rw [if_pos c11] at H
          have c11b0 := decide_eq_true c11
          clear c11
          by_cases c12 : 0 ≤ x6_2
          rotate_left
          ·rw [if_neg c12] at H; exact absurd H (by simp)
          rw [if_pos c12] at H
          have c12b0 := decide_eq_true c12
          clear c12
          by_cases c13 : x6_2 < (l0.length : Int)
          rotate_left
          ·rw [if_neg c13] at H; exact absurd H (by simp)
          rw [if_pos c13] at H
          have c13b0 := decide_eq_true c13
          clear c13
          by_cases c14 : 0 ≤ x8_3
          rotate_left
          ·rw [if_neg c14] at H; exact absurd H (by simp)
          rw [if_pos c14] at H
          have c14b0 := decide_eq_true c14
          clear c14
          by_cases c15 : x8_3 < ((rd_L4 l0 x6_2).length : Int)
          rotate_left
          ·rw [if_neg c15] at H; exact absurd H (by simp)
          rw [if_pos c15] at H
          have c15b0 := decide_eq_true c15
          clear c15
          replace H := Option.bind_eq_some_iff.mp H
          obtain ⟨t223, A160, H⟩ := H
          replace H : ((spec_AddText.f x7_3 t223).bind fun t224 => (spec_ApplyM.l1 k3 l0 l1 x5_2 x6_2 t224 (wrap64 (x8_3 + 1)))) = some r := H
          have A16 := AM A160
          clear A160
          replace H := Option.bind_eq_some_iff.mp H
          obtain ⟨t224, A170, H⟩ := H
          replace H : (spec_ApplyM.l1 k3 l0 l1 x5_2 x6_2 t224 (wrap64 (x8_3 + 1))) = some r := H
          have A17 := AM A170
          clear A170
          have H' := AM H
          clear H
          try go_wp2
          replace HO_5 := AM (Kd.R_drew HO_5.out); replace HB := AM (below_drew1 HB.out)
          have p220 : 0 ≤ (x6_2 : Int) := DT
          have q220 : x6_2 < (l0.length : Int) := DT
          obtain ⟨ad220, A220_0, c220_0, e220, hx220_0, hl220_0, hi220_0⟩ := at_L4 HR0.out x6_2 p220 q220
          have hw220_0 := hx220_0
          cases e220
          replace hx220_0 := CX HB.out hx220_0
          have HR220_0 := AM hi220_0
          have HC220_0 := AM hl220_0
          clear hi220_0 hl220_0
          replace p220 := eq_true p220
          replace q220 := eq_true q220
          have p221 : 0 ≤ (x8_3 : Int) := DT
          have q221 : x8_3 < ((rd_L4 l0 x6_2).length : Int) := DT
          obtain ⟨ad221, e221, hx221_0⟩ := Kd.at_int HR220_0.out x8_3 p221 q221
          have hw221_0 := hx221_0
          cases e221
          replace hx221_0 := CX HB.out hx221_0
          replace p221 := eq_true p221
          replace q221 := eq_true q221
          have p222 : 0 ≤ (x8_3 : Int) := DT
          have q222 : x8_3 < (l1.length : Int) := DT
          obtain ⟨ad222, e222, hx222_0⟩ := Kd.at_string HR1.out x8_3 p222 q222
          have hw222_0 := hx222_0
          cases e222
          replace hx222_0 := CX HB.out hx222_0
          replace p222 := eq_true p222
          replace q222 := eq_true q222
          refine start_ (n := 15) (S := fun w' => w'.cell? (ad220.add (x6_2).toNat) = some (.slice (some ad221) (rd_L4 l0 x6_2).length c220_0) ∧ w'.cell? (ad221.add (x8_3).toNat) = some (.int .i64 (rd (rd_L4 l0 x6_2) x8_3)) ∧ w'.cell? (ad222.add (x8_3).toNat) = some (.string (rdOf ByteArray.empty l1 x8_3))) (ds := []) (.replicate 15 false) (by kernel_rfl) rfl rfl ⟨(CX HB.out hw220_0), (CX HB.out hw221_0), (CX HB.out hw222_0)⟩ (fun hHeld => ?_); refine with_tabW spec_ApplyM.tab11 spec_ApplyM.bits11 (fun HT_ HW_ => ?_)
          generalize wr.drew = w18 at HO_5 HB HR220_0 hx220_0 hx221_0 hx222_0 hHeld ⊢
          refine PH 0 35 HT_.out ?_
          refine PH 1 36 HT_.out ?_
          refine PH 2 37 HT_.out ?_
          refine PH 3 38 HT_.out ?_
          refine PH 5 40 HT_.out ?_
          refine PH 8 43 HT_.out ?_
          refine PH 9 44 HT_.out ?_
          refine PH 10 45 HT_.out ?_
          refine TH 4 39 HT_.out HW_.out hHeld ?_
          refine PH 6 41 HT_.out ?_
          refine TH 7 42 HT_.out HW_.out hHeld ?_
          refine TH 11 46 HT_.out HW_.out hHeld ?_
          refine OH 12 (some 47) HT_.out (fun K hK => ?_)
          refine GO Try.func120 #[.int .i64 (rd (rd_L4 l0 x6_2) x8_3), .string (rdOf ByteArray.empty l1 x8_3)] ?_
          with_reducible refine (spec_MulText.calls k3 (rd (rd_L4 l0 x6_2) x8_3) (rdOf ByteArray.empty l1 x8_3) t223 _ A16.out).mono ?_
          rintro e w19 ⟨rfl, hb⟩
          refine ⟨_, rfl, ?_⟩
          replace HO_5 := AM (Kd.R_below (RR HO_5.out) hb); replace HB := AM (below_step (BB HB.out) hb)
          (try clear hb)
          (try clear hb2)
          (try clear hk)
          (try clear hi)
          refine hK.out _ _ ⟨(CX HB.out hw220_0), (CX HB.out hw221_0), (CX HB.out hw222_0)⟩ (fun hHeld => ?_)
          clear hK K
          refine NM 47 ?_
          refine OH 13 (some 48) HT_.out (fun K hK => ?_)
          refine GO Try.func103 #[.string x7_3, .string t223] ?_
          with_reducible refine (spec_AddText.calls x7_3 t223 t224 _ A17.out).mono ?_
          rintro e w20 ⟨rfl, hb⟩
          refine ⟨_, rfl, ?_⟩
          replace HO_5 := AM (Kd.R_below (RR HO_5.out) hb); replace HB := AM (below_step (BB HB.out) hb)
          (try clear hb)
          (try clear hb2)
          (try clear hk)
          (try clear hi)
          refine hK.out _ _ ⟨(CX HB.out hw220_0), (CX HB.out hw221_0), (CX HB.out hw222_0)⟩ (fun hHeld => ?_)
          clear hK K
          refine NM 48 ?_
          refine PH 14 7 HT_.out ?_
          refine done_ (done_of HT_.out (by kernel_rfl)) ?_
          try go_wp2
          go_roundg k3
          case measure => have := HJ2.out; have := HK2.out; have := HK3.out; omega
          case rel => exact ⟨(t224), (wrap64 (x8_3 + 1)), FR, FR, H', ⟨by have := HJ2.out; have := HK2.out; have := HK3.out; omega⟩, ⟨(RR HO_5.out)⟩, ⟨(BB HB.out)⟩⟩
         ·rw [if_neg c11] at H
          have c11b0 := decide_eq_false c11
          clear c11
          by_cases c21 : x5_2.length < 8796093022208
          rotate_left
          ·rw [if_neg c21] at H; exact absurd H (by simp)
          rw [if_pos c21] at H
          have LMc21 := AM c21
          clear c21
          obtain ⟨y225, hy225⟩ : ∃ y_ : List ByteArray, y_ = (x5_2 ++ [x7_3]) := ⟨_, rfl⟩
          replace H : (spec_ApplyM.l0 k3 l0 l1 y225 (wrap64 (x6_2 + 1))) = some r := by first | (rw [hy225]; first | with_reducible exact H | with_reducible exact OB H) | with_reducible exact OB H | with_reducible exact H | (rw [hy225]; exact H) | exact H
          have Ny225 := AM hy225
          clear hy225
          have H' := AM H
          clear H
          go_wp2_with (first | ((with_reducible refine gate_builtin (b := .append) (xs := #[.tmp 49, .tmp 51]) rfl ?_); (try (refine gate_guard (by rfl) ?_; dsimp only)); at_builtin; refine Kd.R_append Kd.string (w0 := w) w.heap.size rfl (.tmp 49) (.tmp 51) 27 9 (.string ⟨#[]⟩) 16 rfl Try.underlying27 info9 rfl (by decide) (by omega) u5 x5_2 x7_3 [.string x7_3] (fun _ => True) (fun _ => False) rfl rfl ?aP (fun _ hk => hk.elim) ?aF ?aO ?aB ?aS ?aL ?_; (case aP => exact rfl); (case aB => exact (BB HB.out)); (case aF => exact (fun _ _ => trivial)); (case aO => exact (RR HO_5.out)); (case aS => exact (below_size (BB HB.out))); (case aL => have := LMc21.out; omega); intro v226 w22 ho hb hg hat; rw [← Ny225.out] at ho; have HO227 := AM (ho); replace HB := AM (hb); clear HO_5; clear ho hb hg hat))
          go_roundg k3
          case measure => have := HJ2.out; have := HK2.out; have := HK3.out; omega
          case rel => exact ⟨(y225), (wrap64 (x6_2 + 1)), FR, H', ⟨by have := HJ2.out; have := HK2.out; have := HK3.out; omega⟩, ⟨(RR HO227.out)⟩, ⟨(BB HB.out)⟩⟩
      ·rw [if_neg c10] at H
       have c10b0 := decide_eq_false c10
       clear c10
       obtain rfl := Option.some.inj H
       go_wp2
       go_ret
       exact ⟨_, ER, by (with_reducible repeat (first | apply Kd.R_alloc | apply Kd.R_drewN | apply Kd.R_drew)); exact HO_5.out, (BB HB.out)⟩

def spec_OneM.l0 : Nat → Int → List (List Int) → Int → Option ((List (List Int)))
 | 0, _, _, _ => none
 | k + 1, x0, x3, x4 => if x4 < x0 then ((spec_l01In.f x0 1 8).bind fun t231 => (if t231 = true then (if 0 ≤ x0 then (if (x0 : Int).toNat ≤ 35184372088832 then ((some (List.replicate (x0 : Int).toNat 0 : List Int)).bind fun y232 => (if 0 ≤ x4 then (if x4 < (y232.length : Int) then (if x3.length < 5864062014805 then (spec_OneM.l0 k x0 (x3 ++ [(y232.set (x4 : Int).toNat 1)]) (wrap64 (x4 + 1))) else (none)) else (none)) else (none))) else (none)) else (none)) else (some x3))) else (some x3)
def spec_OneM.f (k : Nat) (a0 : Int) : Option ((List (List Int))) := spec_OneM.l0 k a0 (([] : List (List Int))) 0
theorem spec_OneM.mono_l : ∀ k, (∀ y0 y1 y2, LeO (spec_OneM.l0 k y0 y1 y2) (spec_OneM.l0 (k + 1) y0 y1 y2))
 | 0 => fun _ _ _ r h => by simp [spec_OneM.l0] at h
 | k + 1 => by
  have ih0 := spec_OneM.mono_l k
  ·intro y0 y1 y2
   unfold spec_OneM.l0
   repeat' first
   | (with_reducible exact ih0 _ _ _)
   | (with_reducible exact LeO.refl _)
   | (with_reducible exact LeO.none _)
   | (with_reducible refine LeO.ite ?_ ?_)
   | (with_reducible refine LeO.bind ?_ (fun _ => ?_))
   | exact ih0 _ _ _
   | exact LeO.none _
   | refine LeO.ite ?_ ?_
   | refine LeO.bind ?_ (fun _ => ?_)
theorem spec_OneM.mono : ∀ a0 k, LeO (spec_OneM.f k a0) (spec_OneM.f (k + 1) a0) := by
 intro a0 k
 have ih0 := spec_OneM.mono_l k
 unfold spec_OneM.f
 repeat' first
   | (with_reducible exact ih0 _ _ _)
   | (with_reducible exact LeO.refl _)
   | (with_reducible exact LeO.none _)
   | (with_reducible refine LeO.ite ?_ ?_)
   | (with_reducible refine LeO.bind ?_ (fun _ => ?_))
   | exact ih0 _ _ _
   | exact LeO.none _
   | refine LeO.ite ?_ ?_
   | refine LeO.bind ?_ (fun _ => ?_)
set_option maxHeartbeats 8000000 in
set_option maxRecDepth 100000 in
theorem spec_OneM.calls (k : Nat) (a0 : Int) (r : List (List Int)) (w : World) (h : spec_OneM.f k a0 = some r) :
  Calls Try.prog 121 #[.int .i64 a0] w fun e w' => ∃ v0_ : Value, e = .returned (v0_) ∧ Kd.S (Kd.slice 3 (Kd.int .i64)) 41 w' w.heap.size (fun _ => True) v0_ r ∧ Below w.heap.size w w' := by
 have HB := AM (Below.refl w.heap.size w)
 have H : (spec_OneM.l0 k a0 (([] : List (List Int))) 0) = some r := h
 clear h
 obtain ⟨y228, hy228⟩ : ∃ y_ : List (List Int), y_ = (([] : List (List Int))) := ⟨_, rfl⟩
 replace H : (spec_OneM.l0 k a0 y228 0) = some r := by first | (rw [hy228]; first | with_reducible exact H | with_reducible exact OB H) | with_reducible exact OB H | with_reducible exact H | (rw [hy228]; exact H) | exact H
 have Ny228 := AM hy228
 clear hy228
 have H' := AM H
 clear H
 go_enter Try.func121, Try.ntmps121
 go_wp2_with (first | ((with_reducible refine gate_dst (N := 6) rfl ?_); refine Kd.S_lit (Kd.slice 3 (Kd.int .i64)) _ 41 ?hg (N := 6) ?hd (xs := ([] : List (List Int))) (inner := []) (ok := fun _ => True) (okp := fun _ => True) ?hr ?hp (fun _ hk => hk) trivial (Below.refl _ _) (Nat.le_refl _) (by simp) ?_; (case hd => rfl); (case hg => rfl); (case hr => first | (go_simp; done) | (go_simp; rfl)); (case hp => exact (Reps.none _ _)); intro v229 w2 ho3 hb hg_ hnew_; clear hg_ hnew_; (first | rw [← Ny228.out] at ho3 | (simp only [Int.reduceToNat] at ho3; rw [← Ny228.out] at ho3)); have HO230 := AM (Kd.S_lower ho3 (below_size (BB HB.out))); replace HB := AM (below_step (BB HB.out) hb); clear hb ho3))
 go_loopg [3, 4] k (fun kq v3 v4 w' => ∃ (x3_1 : List (List Int)) (x4_1 : Int), v4 = .int .i64 x4_1 ∧ Aside0 (spec_OneM.l0 kq a0 x3_1 x4_1 = some r) ∧ Aside0 (kq ≤ k) ∧ Aside0 (Kd.S (Kd.slice 3 (Kd.int .i64)) 41 w' w.heap.size (fun _ => True) v3 x3_1) ∧ Aside0 (Below w.heap.size w w'))
 case atStart => exact ⟨(y228), (0), FR, H', ⟨Nat.le_refl _⟩, ⟨(SS HO230.out)⟩, ⟨(BB HB.out)⟩⟩
 case round =>
  clear H'
  try clear c1
  try clear p2
  obtain ⟨x3_1, x4_1, rfl, HA, HK1, HO_3, HB⟩ := hrel
  cases gk with
  | zero => exact absurd HA.out (by simp [spec_OneM.l0])
  | succ k1 =>
   have H := HA.out
   clear HA
   simp only [spec_OneM.l0] at H
   by_cases c4 : x4_1 < a0
   ·rw [if_pos c4] at H
    have c4b0 := decide_eq_true c4
    clear c4
    replace H := Option.bind_eq_some_iff.mp H
    obtain ⟨t231, A50, H⟩ := H
    replace H : (if t231 = true then (if 0 ≤ a0 then (if (a0 : Int).toNat ≤ 35184372088832 then ((some (List.replicate (a0 : Int).toNat 0 : List Int)).bind fun y232 => (if 0 ≤ x4_1 then (if x4_1 < (y232.length : Int) then (if x3_1.length < 5864062014805 then (spec_OneM.l0 k1 a0 (x3_1 ++ [(y232.set (x4_1 : Int).toNat 1)]) (wrap64 (x4_1 + 1))) else (none)) else (none)) else (none))) else (none)) else (none)) else (some x3_1)) = some r := H
    have A5 := AM A50
    clear A50
    by_cases c6 : t231 = true
    ·subst c6
     have H1 : (if 0 ≤ a0 then (if (a0 : Int).toNat ≤ 35184372088832 then ((some (List.replicate (a0 : Int).toNat 0 : List Int)).bind fun y232 => (if 0 ≤ x4_1 then (if x4_1 < (y232.length : Int) then (if x3_1.length < 5864062014805 then (spec_OneM.l0 k1 a0 (x3_1 ++ [(y232.set (x4_1 : Int).toNat 1)]) (wrap64 (x4_1 + 1))) else (none)) else (none)) else (none))) else (none)) else (none)) = some r := by rw [if_pos rfl] at H; exact H
     clear H
     have H := H1
     clear H1
     by_cases c7 : 0 ≤ a0
     rotate_left
     ·rw [if_neg c7] at H; exact absurd H (by simp)
     rw [if_pos c7] at H
     have c7b0 := eq_true c7
     have c7b1 := decide_eq_true c7
     clear c7
     by_cases c8 : (a0 : Int).toNat ≤ 35184372088832
     rotate_left
     ·rw [if_neg c8] at H; exact absurd H (by simp)
     rw [if_pos c8] at H
     have c8b0 := eq_true c8
     have c8b1 := decide_eq_true c8
     clear c8
     obtain ⟨y232, hy232⟩ : ∃ y_ : List Int, y_ = (List.replicate (a0 : Int).toNat 0) := ⟨_, rfl⟩
     replace H : (if 0 ≤ x4_1 then (if x4_1 < (y232.length : Int) then (if x3_1.length < 5864062014805 then (spec_OneM.l0 k1 a0 (x3_1 ++ [(y232.set (x4_1 : Int).toNat 1)]) (wrap64 (x4_1 + 1))) else (none)) else (none)) else (none)) = some r := by first | (rw [hy232]; first | with_reducible exact H | with_reducible exact OB H) | with_reducible exact OB H | with_reducible exact H | (rw [hy232]; exact H) | exact H
     have Ny232 := AM hy232
     clear hy232
     by_cases c9 : 0 ≤ x4_1
     rotate_left
     ·rw [if_neg c9] at H; exact absurd H (by simp)
     rw [if_pos c9] at H
     have c9b0 := decide_eq_true c9
     clear c9
     by_cases c10 : x4_1 < (y232.length : Int)
     rotate_left
     ·rw [if_neg c10] at H; exact absurd H (by simp)
     rw [if_pos c10] at H
     have c10b0 := decide_eq_true c10
     clear c10
     obtain ⟨y235, hy235⟩ : ∃ y_ : List Int, y_ = (y232.set (x4_1 : Int).toNat 1) := ⟨_, rfl⟩
     replace H : (if x3_1.length < 5864062014805 then (spec_OneM.l0 k1 a0 (x3_1 ++ [y235]) (wrap64 (x4_1 + 1))) else (none)) = some r := by first | (rw [hy235]; first | with_reducible exact H | with_reducible exact OB H) | with_reducible exact OB H | with_reducible exact H | (rw [hy235]; exact H) | exact H
     have Ny235 := AM hy235
     clear hy235
     by_cases c12 : x3_1.length < 5864062014805
     rotate_left
     ·rw [if_neg c12] at H; exact absurd H (by simp)
     rw [if_pos c12] at H
     have LMc12 := AM c12
     clear c12
     obtain ⟨y236, hy236⟩ : ∃ y_ : List (List Int), y_ = (x3_1 ++ [y235]) := ⟨_, rfl⟩
     replace H : (spec_OneM.l0 k1 a0 y236 (wrap64 (x4_1 + 1))) = some r := by first | (rw [hy236]; first | with_reducible exact H | with_reducible exact OB H) | with_reducible exact OB H | with_reducible exact H | (rw [hy236]; exact H) | exact H
     have Ny236 := AM hy236
     clear hy236
     have H' := AM H
     clear H
     go_wp2_with (first | (go_at_call 107; (with_reducible refine (spec_l01In.calls a0 1 8 true _ A5.out).mono ?_); rintro e w' ⟨rfl, ⟨nd, rfl⟩⟩; (try (rw [drewN_self wr]; generalize hq_ : World.drewN wr _ = wr; have n0_ : Aside0 (Kd.S (Kd.slice 3 (Kd.int .i64)) 41 wr w.heap.size (fun _ => True) u3 x3_1) := ⟨by rw [← hq_]; exact (SS HO_3.out)⟩; have n1_ : Aside0 (Below w.heap.size w wr) := ⟨by rw [← hq_]; exact (BB HB.out)⟩; clear HO_3 HB hq_; have HO_3 := n0_; have HB := n1_; clear n0_ n1_))) | ((with_reducible refine gate_dst (N := 17) rfl ?_); refine Kd.R_make (Kd.int .i64) _ 3 rfl (N := 17) rfl 41 _ _ rfl a0 rfl rfl Try.underlying41 (.int .i64 0) 8 info3 rfl (by decide) (by omega) 0 (ok := fun _ => True) (okp := fun _ => True) rfl (fun _ hk => hk) trivial DT (Nat.le_trans (Nat.mul_le_mul_right _ (DT : a0.toNat ≤ 35184372088832)) (by omega)) (Below.refl _ _) (Nat.le_refl _) ?_; intro v233 w13 ho14 hb hg_ hnew_; clear hg_ hnew_; (first | rw [← Ny232.out] at ho14 | (simp only [Int.reduceToNat] at ho14; rw [← Ny232.out] at ho14)); have HO234 := AM (Kd.R_lower ho14 (below_size (BB HB.out))); replace HO_3 := AM (Kd.S_elder' (SS HO_3.out) (Kd.R_base ho14) hb); replace HB := AM (below_step (BB HB.out) hb); clear hb ho14; have p11 : 0 ≤ (x4_1 : Int) := DT; have q11 : (x4_1 : Int) < ((y232.length : Int) : Int) := DT; obtain ⟨go11, co11, eo11, gb11, gl11, cl11, HG11⟩ := Kd.R_form HO234.out (by omega); (first | cases eo11 | (injection eo11 with ea_ en_ ec_; (first | subst ea_ | (injection ea_ with ea_; subst ea_)); subst ec_; clear en_)); have GB11 := AM gb11; have GG11 := AM HG11; clear gb11 gl11 HG11; obtain ⟨hx11_0, hf11_0⟩ := Kd.R_celln 0 HO234.out (x4_1 : Int) p11 q11; replace p11 := eq_true p11; replace q11 := eq_true q11; obtain ⟨hy15_, hz15_⟩ := Kd.R_celln 0 HO234.out (x4_1 : Int) DT DT; have HP15 := Kd.R_putg HO234.out (x4_1 : Int) 1) | ((with_reducible refine gate_store (t := 3) (p := 20) rfl ?_); refine store_event (t := 3) (p := 20) (v := ?vo_w16) (w1 := (w13.setCell ⟨go11, (x4_1 : Int).toNat, none⟩ (.int .i64 1))) ?hg ?ho ?hn ?hr ?_; (case ho => rfl); (case hg => rfl); (case hn => rfl); (case hr => first | (go_simp; done) | (go_simp; rfl)); intro w16 hw; have hg : w13.grownBy w16 (some go11) := (by rw [hw]; exact HP15.2); have hp_ : Kd.R (Kd.int .i64) 3 w16 w.heap.size (fun _ => True) (.slice (some ⟨go11, 0, none⟩) y232.length co11) y235 := (by rw [hw, Ny235.out]; exact HP15.1); clear HP15; have n0_ := AM (Kd.S_after (v := (.slice (some ⟨go11, 0, none⟩) y232.length co11)) (v1 := (.slice (some ⟨go11, 0, none⟩) y232.length co11)) (ok := (fun _ => True)) (SS HO_3.out) hg (.inl rfl)); have n1_ := AM (hp_); have n2_ := AM ((by rw [hw]; exact below_set (HB.out) GB11.out : Below w.heap.size w w16)); clear HO_3; clear HO234; clear HB; have HO_3 := n0_; have HO234 := n1_; have HB := n2_; clear n0_ n1_ n2_; clear hg hw hp_) | ((with_reducible refine gate_builtin (b := .append) (xs := #[.tmp 21, .tmp 23]) rfl ?_); at_builtin; refine Kd.S_append (Kd.slice 3 (Kd.int .i64)) (w0 := w) w.heap.size rfl (.tmp 21) (.tmp 23) 92 41 (.slice none 0 0) 24 rfl Try.underlying92 info41 rfl (by decide) (by omega) u3 x3_1 y235 [.slice (some ⟨go11, 0, none⟩) y232.length co11] (fun _ => True) (fun k_ => some k_ = (.slice (some ⟨go11, 0, none⟩) y232.length co11 : Value).ownBlock) rfl rfl ?aP (fun k_ hk_ => ((Kd.R_mono (ok' := fun k_ => ((fun _ => True)) k_ ∧ some k_ ≠ (u3 : Value).ownBlock) (Kd.R_apart' (HO234.out) (Kd.S_typed HO_3.out) (by decide)) (fun k_ hk => ⟨trivial, hk.2⟩))).1 k_ hk_.symm) ?aF ?aO ?aB ?aS ?aL ?_; (case aP => exact Kd.M_row (Kd.R_mono (Kd.R_tight rfl (Kd.R_mono (ok' := fun k_ => ((fun _ => True)) k_ ∧ some k_ ≠ (u3 : Value).ownBlock) (Kd.R_apart' (HO234.out) (Kd.S_typed HO_3.out) (by decide)) (fun k_ hk => ⟨trivial, hk.2⟩))) (fun _ h_ => h_))); (case aB => exact (BB HB.out)); (case aF => exact (fun _ _ => trivial)); (case aO => exact (by (with_reducible repeat (first | apply Kd.S_alloc | apply Kd.S_drewN | apply Kd.S_drew)); exact Kd.S_mono HO_3.out (fun k_ hk => ⟨trivial, fun e_ => hk.2 e_⟩))); (case aS => exact (below_size (BB HB.out))); (case aL => have := LMc12.out; omega); intro v237 w17 ho hb hg hat; rw [← Ny236.out] at ho; have HO238 := AM (ho); replace HB := AM (hb); clear HO_3; clear HO234; clear ho hb hg hat))
     go_roundg k1
     case measure => have := HK1.out; omega
     case rel => exact ⟨(y236), (wrap64 (x4_1 + 1)), FR, H', ⟨by have := HK1.out; omega⟩, ⟨(SS HO238.out)⟩, ⟨(BB HB.out)⟩⟩
    ·replace c6 := Bool.eq_false_iff.mpr c6
     subst c6
     have H1 : (some x3_1) = some r := by rw [if_neg (show ¬ (false = true) by decide)] at H; exact H
     clear H
     have H := H1
     clear H1
     obtain rfl := Option.some.inj H
     go_wp2_with (first | (go_at_call 107; (with_reducible refine (spec_l01In.calls a0 1 8 false _ A5.out).mono ?_); rintro e w' ⟨rfl, ⟨nd, rfl⟩⟩))
     go_ret
     exact ⟨_, ER, by (with_reducible repeat (first | apply Kd.S_alloc | apply Kd.S_drewN | apply Kd.S_drew)); exact HO_3.out, (BB HB.out)⟩
   ·rw [if_neg c4] at H
    have c4b0 := decide_eq_false c4
    clear c4
    obtain rfl := Option.some.inj H
    go_wp2
    go_ret
    exact ⟨_, ER, by (with_reducible repeat (first | apply Kd.S_alloc | apply Kd.S_drewN | apply Kd.S_drew)); exact HO_3.out, (BB HB.out)⟩

def spec_PowG.l0 : Nat → Int → Int → Int → Int → Option (Int)
 | 0, _, _, _, _ => none
 | k + 1, x0, x1, x5, x6 => if x6 < x1 then ((spec_MulG.f k x5 x0).bind fun t240 => (spec_PowG.l0 k x0 x1 t240 (wrap64 (x6 + 1)))) else (some x5)
def spec_PowG.f (k : Nat) (a0 : Int) (a1 : Int) : Option (Int) := (spec_l01In.f a1 0 1000).bind fun t239 => (if t239 = true then (spec_PowG.l0 k a0 a1 1 0) else (some 0))
theorem spec_PowG.mono_l : ∀ k, (∀ y0 y1 y2 y3, LeO (spec_PowG.l0 k y0 y1 y2 y3) (spec_PowG.l0 (k + 1) y0 y1 y2 y3))
 | 0 => fun _ _ _ _ r h => by simp [spec_PowG.l0] at h
 | k + 1 => by
  have ih0 := spec_PowG.mono_l k
  ·intro y0 y1 y2 y3
   unfold spec_PowG.l0
   repeat' first
   | (with_reducible exact ih0 _ _ _ _)
   | (with_reducible exact spec_MulG.mono _ _ _)
   | (with_reducible exact LeO.refl _)
   | (with_reducible exact LeO.none _)
   | (with_reducible refine LeO.ite ?_ ?_)
   | (with_reducible refine LeO.bind ?_ (fun _ => ?_))
   | exact ih0 _ _ _ _
   | exact spec_MulG.mono _ _ _
   | exact LeO.none _
   | refine LeO.ite ?_ ?_
   | refine LeO.bind ?_ (fun _ => ?_)
theorem spec_PowG.mono : ∀ a0 a1 k, LeO (spec_PowG.f k a0 a1) (spec_PowG.f (k + 1) a0 a1) := by
 intro a0 a1 k
 have ih0 := spec_PowG.mono_l k
 unfold spec_PowG.f
 repeat' first
   | (with_reducible exact ih0 _ _ _ _)
   | (with_reducible exact spec_MulG.mono _ _ _)
   | (with_reducible exact LeO.refl _)
   | (with_reducible exact LeO.none _)
   | (with_reducible refine LeO.ite ?_ ?_)
   | (with_reducible refine LeO.bind ?_ (fun _ => ?_))
   | exact ih0 _ _ _ _
   | exact spec_MulG.mono _ _ _
   | exact LeO.none _
   | refine LeO.ite ?_ ?_
   | refine LeO.bind ?_ (fun _ => ?_)
set_option maxHeartbeats 8000000 in
set_option maxRecDepth 100000 in
theorem spec_PowG.calls (k : Nat) (a0 : Int) (a1 : Int) (r : Int) (w : World) (h : spec_PowG.f k a0 a1 = some r) :
  Calls Try.prog 131 #[.int .i64 a0, .int .i64 a1] w fun e w' => e = .returned (.int .i64 r) ∧ Drawn0 w w' := by
 have H : ((spec_l01In.f a1 0 1000).bind fun t239 => (if t239 = true then (spec_PowG.l0 k a0 a1 1 0) else (some 0))) = some r := h
 clear h
 replace H := Option.bind_eq_some_iff.mp H
 obtain ⟨t239, A30, H⟩ := H
 replace H : (if t239 = true then (spec_PowG.l0 k a0 a1 1 0) else (some 0)) = some r := H
 have A3 := AM A30
 clear A30
 by_cases c4 : t239 = true
 ·subst c4
  have H1 : (spec_PowG.l0 k a0 a1 1 0) = some r := by rw [if_pos rfl] at H; exact H
  clear H
  have H := H1
  clear H1
  have H' := AM H
  clear H
  go_enter Try.func131, Try.ntmps131
  go_wp2_with (first | ((with_reducible refine gate_callee (f := 107) rfl ?_); refine GL (some 8) rfl rfl Try.func107 #[.int .i64 a1, .int .i64 0, .int .i64 1000] rfl ?_; (with_reducible refine (spec_l01In.calls a1 0 1000 true _ A3.out).mono ?_); rintro e w' ⟨rfl, ⟨nd, rfl⟩⟩; refine ⟨_, rfl, ?_⟩))
  go_loopg [5, 6] k (fun kq v5 v6 w' => ∃ (x5_1 : Int) (x6_1 : Int), v5 = .int .i64 x5_1 ∧ v6 = .int .i64 x6_1 ∧ Aside0 (spec_PowG.l0 kq a0 a1 x5_1 x6_1 = some r) ∧ Aside0 (kq ≤ k) ∧ Drawn0 w w')
  case atStart => exact ⟨(1), (0), FR, FR, H', ⟨Nat.le_refl _⟩, by repeat (first | exact Drawn0.refl _ | apply Drawn0.step)⟩
  case round =>
   clear H'
   try clear c1
   try clear p2
   try clear c4
   obtain ⟨x5_1, x6_1, rfl, rfl, HA, HK1, ⟨m1, rfl⟩⟩ := hrel
   cases gk with
   | zero => exact absurd HA.out (by simp [spec_PowG.l0])
   | succ k1 =>
    have H := HA.out
    clear HA
    simp only [spec_PowG.l0] at H
    by_cases c5 : x6_1 < a1
    ·rw [if_pos c5] at H
     have c5b0 := decide_eq_true c5
     clear c5
     replace H := Option.bind_eq_some_iff.mp H
     obtain ⟨t240, A60, H⟩ := H
     replace H : (spec_PowG.l0 k1 a0 a1 t240 (wrap64 (x6_1 + 1))) = some r := H
     have A6 := AM A60
     clear A60
     have H' := AM H
     clear H
     go_wp2_with (first | ((with_reducible refine gate_callee (f := 129) rfl ?_); refine GL (some 17) rfl rfl Try.func129 #[.int .i64 x5_1, .int .i64 a0] rfl ?_; (with_reducible refine (spec_MulG.calls k1 x5_1 a0 t240 _ A6.out).mono ?_); rintro e w' ⟨rfl, ⟨nd, rfl⟩⟩; refine ⟨_, rfl, ?_⟩))
     go_roundg k1
     case measure => have := HK1.out; omega
     case rel => exact ⟨(t240), (wrap64 (x6_1 + 1)), FR, FR, H', ⟨by have := HK1.out; omega⟩, by repeat (first | exact Drawn0.refl _ | apply Drawn0.step)⟩
    ·rw [if_neg c5] at H
     have c5b0 := decide_eq_false c5
     clear c5
     obtain rfl := Option.some.inj H
     go_wp2
     go_ret
     exact ⟨FR, by repeat (first | exact Drawn0.refl _ | apply Drawn0.step)⟩
 ·replace c4 := Bool.eq_false_iff.mpr c4
  subst c4
  have H1 : (some 0) = some r := by rw [if_neg (show ¬ (false = true) by decide)] at H; exact H
  clear H
  have H := H1
  clear H1
  obtain rfl := Option.some.inj H
  go_enter Try.func131, Try.ntmps131
  go_wp2_with (first | ((with_reducible refine gate_callee (f := 107) rfl ?_); refine GL (some 8) rfl rfl Try.func107 #[.int .i64 a1, .int .i64 0, .int .i64 1000] rfl ?_; (with_reducible refine (spec_l01In.calls a1 0 1000 false _ A3.out).mono ?_); rintro e w' ⟨rfl, ⟨nd, rfl⟩⟩; refine ⟨_, rfl, ?_⟩))
  go_ret
  exact ⟨FR, by repeat (first | exact Drawn0.refl _ | apply Drawn0.step)⟩

def spec_InvG.f (k : Nat) (a0 : Int) : Option (Int) := (spec_l05Mod.f a0).bind fun t241 => (if t241 = 0 then (some 0) else ((spec_PowG.f k t241 254).bind fun t242 => (some t242)))
theorem spec_InvG.mono : ∀ a0 k, LeO (spec_InvG.f k a0) (spec_InvG.f (k + 1) a0) := by
 intro a0 k
 unfold spec_InvG.f
 repeat' first
   | (with_reducible exact spec_PowG.mono _ _ _)
   | (with_reducible exact LeO.refl _)
   | (with_reducible exact LeO.none _)
   | (with_reducible refine LeO.ite ?_ ?_)
   | (with_reducible refine LeO.bind ?_ (fun _ => ?_))
   | exact spec_PowG.mono _ _ _
   | exact LeO.none _
   | refine LeO.ite ?_ ?_
   | refine LeO.bind ?_ (fun _ => ?_)
set_option maxHeartbeats 8000000 in
set_option maxRecDepth 100000 in
theorem spec_InvG.calls (k : Nat) (a0 : Int) (r : Int) (w : World) (h : spec_InvG.f k a0 = some r) :
  Calls Try.prog 122 #[.int .i64 a0] w fun e w' => e = .returned (.int .i64 r) ∧ Drawn0 w w' := by
 have H : ((spec_l05Mod.f a0).bind fun t241 => (if t241 = 0 then (some 0) else ((spec_PowG.f k t241 254).bind fun t242 => (some t242)))) = some r := h
 clear h
 replace H := Option.bind_eq_some_iff.mp H
 obtain ⟨t241, A20, H⟩ := H
 replace H : (if t241 = 0 then (some 0) else ((spec_PowG.f k t241 254).bind fun t242 => (some t242))) = some r := H
 have A2 := AM A20
 clear A20
 by_cases c3 : t241 = 0
 ·rw [if_pos c3] at H
  have c3b0 : (t241 == 0) = true := beq_iff_eq.mpr c3
  have c3b1 : (t241 != 0) = false := bne_eq_false_iff_eq.mpr c3
  clear c3
  obtain rfl := Option.some.inj H
  go_enter Try.func122, Try.ntmps122
  go_wp2_with (first | ((with_reducible refine gate_callee (f := 130) rfl ?_); refine GL (some 4) rfl rfl Try.func130 #[.int .i64 a0] rfl ?_; (with_reducible refine (spec_l05Mod.calls a0 t241 _ A2.out).mono ?_); rintro e w' ⟨rfl, ⟨nd, rfl⟩⟩; refine ⟨_, rfl, ?_⟩))
  go_ret
  exact ⟨FR, by repeat (first | exact Drawn0.refl _ | apply Drawn0.step)⟩
 ·rw [if_neg c3] at H
  have c3b0 : (t241 == 0) = false := beq_eq_false_iff_ne.mpr c3
  have c3b1 : (t241 != 0) = true := bne_iff_ne.mpr c3
  replace H := Option.bind_eq_some_iff.mp H
  obtain ⟨t242, A40, H⟩ := H
  replace H : (some t242) = some r := H
  have A4 := AM A40
  clear A40
  obtain rfl := Option.some.inj H
  go_enter Try.func122, Try.ntmps122
  go_wp2_with (first | ((with_reducible refine gate_callee (f := 130) rfl ?_); refine GL (some 4) rfl rfl Try.func130 #[.int .i64 a0] rfl ?_; (with_reducible refine (spec_l05Mod.calls a0 t241 _ A2.out).mono ?_); rintro e w' ⟨rfl, ⟨nd, rfl⟩⟩; refine ⟨_, rfl, ?_⟩) | ((with_reducible refine gate_callee (f := 131) rfl ?_); refine GL (some 8) rfl rfl Try.func131 #[.int .i64 t241, .int .i64 254] rfl ?_; (with_reducible refine (spec_PowG.calls k t241 254 t242 _ A4.out).mono ?_); rintro e w' ⟨rfl, ⟨nd, rfl⟩⟩; refine ⟨_, rfl, ?_⟩))
  go_ret
  exact ⟨FR, by repeat (first | exact Drawn0.refl _ | apply Drawn0.step)⟩

mutual
def spec_CodeOf.l0 : Nat → Int → Int → List (List Int) → Int → Option ((List (List Int)))
 | 0, _, _, _, _ => none
 | k + 1, x3, x4, x6, x7 => if x7 < x4 then (spec_CodeOf.l1 k x3 x4 x6 x7 (([] : List Int)) 0) else (some x6)
def spec_CodeOf.l1 : Nat → Int → Int → List (List Int) → Int → List Int → Int → Option ((List (List Int)))
 | 0, _, _, _, _, _, _ => none
 | k + 1, x3, x4, x6, x7, x8, x9 => if x9 < x3 then ((spec_InvG.f k (Go.bits .xor .i64 (wrap64 (x3 + x7)) x9)).bind fun t258 => (if x8.length < 17592186044416 then (spec_CodeOf.l1 k x3 x4 x6 x7 (x8 ++ [t258]) (wrap64 (x9 + 1))) else (none))) else (if x6.length < 5864062014805 then (spec_CodeOf.l0 k x3 x4 (x6 ++ [x8]) (wrap64 (x7 + 1))) else (none))
end
def spec_CodeOf.f (k : Nat) (a0 : Int) : Option ((List (List Int))) := (spec_SchemaOf.f a0).bind fun bt243 => ((some (([] : List (List Int)) : List (List Int))).bind fun y246 => (if bt243.2.2 = true then ((spec_OneM.f k bt243.1).bind fun t249 => (if y246.length + t249.length < 5864062014805 then (spec_CodeOf.l0 k bt243.1 bt243.2.1 (y246 ++ t249) 0) else (none))) else (some y246)))
theorem spec_CodeOf.mono_l : ∀ k, (∀ y0 y1 y2 y3, LeO (spec_CodeOf.l0 k y0 y1 y2 y3) (spec_CodeOf.l0 (k + 1) y0 y1 y2 y3)) ∧ (∀ y0 y1 y2 y3 y4 y5, LeO (spec_CodeOf.l1 k y0 y1 y2 y3 y4 y5) (spec_CodeOf.l1 (k + 1) y0 y1 y2 y3 y4 y5))
 | 0 => ⟨fun _ _ _ _ r h => by simp [spec_CodeOf.l0] at h, fun _ _ _ _ _ _ r h => by simp [spec_CodeOf.l1] at h⟩
 | k + 1 => by
  obtain ⟨ih0, ih1⟩ := spec_CodeOf.mono_l k
  refine ⟨?_, ?_⟩
  ·intro y0 y1 y2 y3
   unfold spec_CodeOf.l0
   repeat' first
   | (with_reducible exact ih0 _ _ _ _)
   | (with_reducible exact ih1 _ _ _ _ _ _)
   | (with_reducible exact spec_InvG.mono _ _)
   | (with_reducible exact spec_OneM.mono _ _)
   | (with_reducible exact LeO.refl _)
   | (with_reducible exact LeO.none _)
   | (with_reducible refine LeO.ite ?_ ?_)
   | (with_reducible refine LeO.bind ?_ (fun _ => ?_))
   | exact ih0 _ _ _ _
   | exact ih1 _ _ _ _ _ _
   | exact spec_InvG.mono _ _
   | exact spec_OneM.mono _ _
   | exact LeO.none _
   | refine LeO.ite ?_ ?_
   | refine LeO.bind ?_ (fun _ => ?_)
  ·intro y0 y1 y2 y3 y4 y5
   unfold spec_CodeOf.l1
   repeat' first
   | (with_reducible exact ih0 _ _ _ _)
   | (with_reducible exact ih1 _ _ _ _ _ _)
   | (with_reducible exact spec_InvG.mono _ _)
   | (with_reducible exact spec_OneM.mono _ _)
   | (with_reducible exact LeO.refl _)
   | (with_reducible exact LeO.none _)
   | (with_reducible refine LeO.ite ?_ ?_)
   | (with_reducible refine LeO.bind ?_ (fun _ => ?_))
   | exact ih0 _ _ _ _
   | exact ih1 _ _ _ _ _ _
   | exact spec_InvG.mono _ _
   | exact spec_OneM.mono _ _
   | exact LeO.none _
   | refine LeO.ite ?_ ?_
   | refine LeO.bind ?_ (fun _ => ?_)
theorem spec_CodeOf.mono : ∀ a0 k, LeO (spec_CodeOf.f k a0) (spec_CodeOf.f (k + 1) a0) := by
 intro a0 k
 obtain ⟨ih0, ih1⟩ := spec_CodeOf.mono_l k
 unfold spec_CodeOf.f
 repeat' first
   | (with_reducible exact ih0 _ _ _ _)
   | (with_reducible exact ih1 _ _ _ _ _ _)
   | (with_reducible exact spec_InvG.mono _ _)
   | (with_reducible exact spec_OneM.mono _ _)
   | (with_reducible exact LeO.refl _)
   | (with_reducible exact LeO.none _)
   | (with_reducible refine LeO.ite ?_ ?_)
   | (with_reducible refine LeO.bind ?_ (fun _ => ?_))
   | exact ih0 _ _ _ _
   | exact ih1 _ _ _ _ _ _
   | exact spec_InvG.mono _ _
   | exact spec_OneM.mono _ _
   | exact LeO.none _
   | refine LeO.ite ?_ ?_
   | refine LeO.bind ?_ (fun _ => ?_)
set_option maxHeartbeats 8000000 in
set_option maxRecDepth 100000 in
theorem spec_CodeOf.calls (k : Nat) (a0 : Int) (r : List (List Int)) (w : World) (h : spec_CodeOf.f k a0 = some r) :
  Calls Try.prog 105 #[.int .i64 a0] w fun e w' => ∃ v0_ : Value, e = .returned (v0_) ∧ Kd.N (Kd.slice 3 (Kd.int .i64)) 41 w' w.heap.size (fun k_ => (w.heap.size ≤ k_)) v0_ r ∧ Below w.heap.size w w' := by
 have HB := AM (Below.refl w.heap.size w)
 have H : ((spec_SchemaOf.f a0).bind fun bt243 => ((some (([] : List (List Int)) : List (List Int))).bind fun y246 => (if bt243.2.2 = true then ((spec_OneM.f k bt243.1).bind fun t249 => (if y246.length + t249.length < 5864062014805 then (spec_CodeOf.l0 k bt243.1 bt243.2.1 (y246 ++ t249) 0) else (none))) else (some y246)))) = some r := h
 clear h
 replace H := Option.bind_eq_some_iff.mp H
 obtain ⟨⟨t243, t244, t245⟩, A20, H⟩ := H
 replace H : ((some (([] : List (List Int)) : List (List Int))).bind fun y246 => (if t245 = true then ((spec_OneM.f k t243).bind fun t249 => (if y246.length + t249.length < 5864062014805 then (spec_CodeOf.l0 k t243 t244 (y246 ++ t249) 0) else (none))) else (some y246))) = some r := H
 have A2 := AM A20
 clear A20
 obtain ⟨y246, hy246⟩ : ∃ y_ : List (List Int), y_ = (([] : List (List Int))) := ⟨_, rfl⟩
 replace H : (if t245 = true then ((spec_OneM.f k t243).bind fun t249 => (if y246.length + t249.length < 5864062014805 then (spec_CodeOf.l0 k t243 t244 (y246 ++ t249) 0) else (none))) else (some y246)) = some r := by first | (rw [hy246]; first | with_reducible exact H | with_reducible exact OB H) | with_reducible exact OB H | with_reducible exact H | (rw [hy246]; exact H) | exact H
 have Ny246 := AM hy246
 clear hy246
 by_cases c3 : t245 = true
 ·subst c3
  have H1 : ((spec_OneM.f k t243).bind fun t249 => (if y246.length + t249.length < 5864062014805 then (spec_CodeOf.l0 k t243 t244 (y246 ++ t249) 0) else (none))) = some r := by rw [if_pos rfl] at H; exact H
  clear H
  have H := H1
  clear H1
  replace H := Option.bind_eq_some_iff.mp H
  obtain ⟨t249, A40, H⟩ := H
  replace H : (if y246.length + t249.length < 5864062014805 then (spec_CodeOf.l0 k t243 t244 (y246 ++ t249) 0) else (none)) = some r := H
  have A4 := AM A40
  clear A40
  by_cases c5 : y246.length + t249.length < 5864062014805
  rotate_left
  ·rw [if_neg c5] at H; exact absurd H (by simp)
  rw [if_pos c5] at H
  have LMc5 := AM c5
  clear c5
  obtain ⟨y252, hy252⟩ : ∃ y_ : List (List Int), y_ = (y246 ++ t249) := ⟨_, rfl⟩
  replace H : (spec_CodeOf.l0 k t243 t244 y252 0) = some r := by first | (rw [hy252]; first | with_reducible exact H | with_reducible exact OB H) | with_reducible exact OB H | with_reducible exact H | (rw [hy252]; exact H) | exact H
  have Ny252 := AM hy252
  clear hy252
  have H' := AM H
  clear H
  go_enter Try.func105, Try.ntmps105
  go_wp2_with (first | ((with_reducible refine gate_callee (f := 19) rfl ?_); refine GL (some 12) rfl rfl Try.func19 #[.int .i64 a0] rfl ?_; (with_reducible refine (spec_SchemaOf.calls a0 t243 t244 true _ A2.out).mono ?_); rintro e w' ⟨rfl, ⟨nd, rfl⟩⟩; refine ⟨_, rfl, ?_⟩) | ((with_reducible refine gate_dst (N := 16) rfl ?_); refine Kd.N_lit (Kd.slice 3 (Kd.int .i64)) _ 41 ?hg (N' := 16) ?hd (xs := ([] : List (List Int))) (inner := []) (ok := (fun k_ => (w.heap.size ≤ k_))) (okp := (fun k_ => (w.heap.size ≤ k_))) ?hr ?hp (fun _ hk => hk) ((show ∀ k_, w.heap.size ≤ k_ → (fun k_ => (w.heap.size ≤ k_)) k_ from fun k_ hk => (Nat.le_trans (below_size (BB HB.out)) hk)) _ (Nat.le_refl _)) (Below.refl _ _) (Nat.le_refl _) (by simp) ?_; (case hd => rfl); (case hg => rfl); (case hr => first | (go_simp; done) | (go_simp; rfl)); (case hp => exact (Reps.none _ _)); intro v247 w6 ho7 hb hg_ hnew_; clear hg_ hnew_; (first | rw [← Ny246.out] at ho7 | (simp only [Int.reduceToNat] at ho7; rw [← Ny246.out] at ho7)); have HO248 := AM (Kd.N_lower ho7 (below_size (BB HB.out))); replace HB := AM (below_step (BB HB.out) hb); clear hb ho7) | ((with_reducible refine gate_callee (f := 121) rfl ?_); refine GL (some 22) rfl rfl Try.func121 #[.int .i64 t243] rfl ?_; (with_reducible refine (spec_OneM.calls k t243 t249 _ A4.out).mono ?_); rintro e w8 ⟨v250, rfl, ho0, hb⟩; refine ⟨_, rfl, ?_⟩; have n0_ := AM (Kd.N_elder' (by (with_reducible repeat (first | apply Kd.N_alloc | apply Kd.N_drewN | apply Kd.N_drew)); exact HO248.out) (by first | exact Kd.N_base ho0 | exact Kd.S_base ho0) hb); have n1_ := AM (Kd.N_lower (Kd.N_mono (ok' := fun k_ => (w.heap.size ≤ k_) ∧ some k_ ≠ (v247 : Value).ownBlock) (Kd.S_N (Kd.S_bound ho0)) (fun k_ hk_ => ⟨(Nat.le_trans (below_size (BB HB.out)) hk_.2.1), (Kd.fresh' (Kd.N_lt (by (with_reducible repeat (first | apply Kd.N_alloc | apply Kd.N_drewN | apply Kd.N_drew)); exact HO248.out)) k_ hk_.2.1)⟩)) (below_size (BB HB.out))); have n2_ := AM (below_step (BB HB.out) hb); clear HO248; clear HB; have HO248 := n0_; have HO251 := n1_; have HB := n2_; clear n0_ n1_ n2_; (try clear hb); (try clear ho0); obtain ⟨Ao10, co10, eo10⟩ := Kd.N_slice HO251.out; subst eo10) | ((with_reducible refine gate_builtin (b := .append) (xs := #[.tmp 20, .tmp 22]) rfl ?_); at_builtin; refine Kd.N_append_rows (Kd.slice 3 (Kd.int .i64)) (w0 := w) w.heap.size rfl (.tmp 20) (.tmp 22) 92 41 (.slice none 0 0) 24 rfl Try.underlying92 info41 rfl (by decide) (by omega) v247 y246 t249 _ _ _ (fun k_ => (w.heap.size ≤ k_)) (fun k_ => ((fun k_ => (w.heap.size ≤ k_))) k_ ∧ some k_ ≠ (v247 : Value).ownBlock) rfl rfl ?aO ?aR (fun _ hk => hk) ?aF ?aB ?aS ?aL ?_; (case aR => exact (by skip; exact Kd.N_F (Kd.N_mono (ok' := (fun k_ => ((fun k_ => (w.heap.size ≤ k_))) k_ ∧ some k_ ≠ (v247 : Value).ownBlock)) (HO251.out) (fun k_ hk => ⟨hk.1, hk.2⟩)))); (case aB => exact (BB HB.out)); (case aF => exact (fun k_ hk => (Nat.le_trans (below_size (BB HB.out)) hk))); (case aO => exact (by (with_reducible repeat (first | apply Kd.N_alloc | apply Kd.N_drewN | apply Kd.N_drew)); exact Kd.N_mono HO248.out (fun _ hk => hk.1))); (case aS => exact (below_size (BB HB.out))); (case aL => have := LMc5.out; omega); intro v253 w9 ho hb hg hat; rw [← Ny252.out] at ho; have n0_ := AM (Kd.N_afterv (ok := (fun k_ => (w.heap.size ≤ k_))) (by (with_reducible repeat (first | apply Kd.N_alloc | apply Kd.N_drewN | apply Kd.N_drew)); exact HO251.out) hg hat); have n1_ := AM (hb); have n2_ := AM (ho); clear HO251; clear HB; clear HO248; have HO251 := n0_; have HB := n1_; have HO254 := n2_; clear n0_ n1_ n2_; clear ho hb hg hat))
  go_loopg [6, 7] k (fun kq v6 v7 w' => ∃ (x6_1 : List (List Int)) (x7_1 : Int), v7 = .int .i64 x7_1 ∧ Aside0 (spec_CodeOf.l0 kq t243 t244 x6_1 x7_1 = some r) ∧ Aside0 (kq ≤ k) ∧ Aside0 (Kd.N (Kd.slice 3 (Kd.int .i64)) 41 w' w.heap.size (fun k_ => (w.heap.size ≤ k_)) v6 x6_1) ∧ Aside0 (Below w.heap.size w w'))
  case atStart => exact ⟨(y252), (0), FR, H', ⟨Nat.le_refl _⟩, ⟨by (with_reducible repeat (first | apply Kd.N_alloc | apply Kd.N_drewN | apply Kd.N_drew)); exact HO254.out⟩, ⟨(BB HB.out)⟩⟩
  case round =>
   clear H'
   try clear c1
   try clear p2
   try clear c3
   try clear c5
   try clear c10
   obtain ⟨x6_1, x7_1, rfl, HA, HK1, HO_6, HB⟩ := hrel
   cases gk with
   | zero => exact absurd HA.out (by simp [spec_CodeOf.l0])
   | succ k1 =>
    have H := HA.out
    clear HA
    simp only [spec_CodeOf.l0] at H
    by_cases c11 : x7_1 < t244
    ·rw [if_pos c11] at H
     have c11b0 := decide_eq_true c11
     clear c11
     obtain ⟨y255, hy255⟩ : ∃ y_ : List Int, y_ = (([] : List Int)) := ⟨_, rfl⟩
     replace H : (spec_CodeOf.l1 k1 t243 t244 x6_1 x7_1 y255 0) = some r := by first | (rw [hy255]; first | with_reducible exact H | with_reducible exact OB H) | with_reducible exact OB H | with_reducible exact H | (rw [hy255]; exact H) | exact H
     have Ny255 := AM hy255
     clear hy255
     have H' := AM H
     clear H
     go_wp2_with (first | ((with_reducible refine gate_dst (N := 29) rfl ?_); refine Kd.R_lit (Kd.int .i64) _ 3 ?hg (N := 29) ?hd (xs := ([] : List Int)) (inner := []) (ok := fun _ => True) (okp := fun _ => True) ?hr ?hp (fun _ hk => hk) trivial (Below.refl _ _) (Nat.le_refl _) (by simp) ?_; (case hd => rfl); (case hg => rfl); (case hr => first | (go_simp; done) | (go_simp; rfl)); (case hp => exact (Reps.none _ _)); intro v256 w12 ho13 hb hg_ hnew_; clear hg_ hnew_; (first | rw [← Ny255.out] at ho13 | (simp only [Int.reduceToNat] at ho13; rw [← Ny255.out] at ho13)); have n0_ := AM (Kd.N_elder' (by (with_reducible repeat (first | apply Kd.N_alloc | apply Kd.N_drewN | apply Kd.N_drew)); exact HO_6.out) (Kd.R_base ho13) hb); have n1_ := AM (Kd.R_lower (Kd.R_newM (M := fun k_ => (w.heap.size ≤ k_)) ho13 (below_size (BB HB.out)) (fun k_ h_ => h_)) (below_size (BB HB.out))); have n2_ := AM (below_step (BB HB.out) hb); clear HO_6; clear HB; have HO_6 := n0_; have HO257 := n1_; have HB := n2_; clear n0_ n1_ n2_; clear hb ho13))
     go_loopg [8, 9] k1 (fun kq v8 v9 w' => ∃ (x8_2 : List Int) (x9_2 : Int), v9 = .int .i64 x9_2 ∧ Aside0 (spec_CodeOf.l1 kq t243 t244 x6_1 x7_1 x8_2 x9_2 = some r) ∧ Aside0 (kq ≤ k1) ∧ Aside0 (Kd.N (Kd.slice 3 (Kd.int .i64)) 41 w' w.heap.size (fun k_ => (w.heap.size ≤ k_) ∧ some k_ ≠ (v8 : Value).ownBlock) u6 x6_1) ∧ Aside0 (Kd.R (Kd.int .i64) 3 w' w.heap.size (fun k_ => (w.heap.size ≤ k_)) v8 x8_2) ∧ Aside0 (Below w.heap.size w w'))
     case atStart => exact ⟨(y255), (0), FR, H', ⟨Nat.le_refl _⟩, ⟨by (with_reducible repeat (first | apply Kd.N_alloc | apply Kd.N_drewN | apply Kd.N_drew)); exact HO_6.out⟩, ⟨by (with_reducible repeat (first | apply Kd.R_alloc | apply Kd.R_drewN | apply Kd.R_drew)); exact Kd.R_mono HO257.out (fun _ hk => hk.1)⟩, ⟨(BB HB.out)⟩⟩
     case round =>
      clear H'
      try clear c1
      try clear p2
      try clear c3
      try clear c5
      try clear c10
      try clear c11
      try clear c11b0
      try clear c12
      try clear p2
      obtain ⟨x8_2, x9_2, rfl, HA, HK2, HO_6, HO_8, HB⟩ := hrel
      cases gk with
      | zero => exact absurd HA.out (by simp [spec_CodeOf.l1])
      | succ k2 =>
       have H := HA.out
       clear HA
       simp only [spec_CodeOf.l1] at H
       by_cases c14 : x9_2 < t243
       ·rw [if_pos c14] at H
        have c14b0 := decide_eq_true c14
        clear c14
        replace H := Option.bind_eq_some_iff.mp H
        obtain ⟨t258, A150, H⟩ := H
        replace H : (if x8_2.length < 17592186044416 then (spec_CodeOf.l1 k2 t243 t244 x6_1 x7_1 (x8_2 ++ [t258]) (wrap64 (x9_2 + 1))) else (none)) = some r := H
        have A15 := AM A150
        clear A150
        by_cases c16 : x8_2.length < 17592186044416
        rotate_left
        ·rw [if_neg c16] at H; exact absurd H (by simp)
        rw [if_pos c16] at H
        have LMc16 := AM c16
        clear c16
        obtain ⟨y259, hy259⟩ : ∃ y_ : List Int, y_ = (x8_2 ++ [t258]) := ⟨_, rfl⟩
        replace H : (spec_CodeOf.l1 k2 t243 t244 x6_1 x7_1 y259 (wrap64 (x9_2 + 1))) = some r := by first | (rw [hy259]; first | with_reducible exact H | with_reducible exact OB H) | with_reducible exact OB H | with_reducible exact H | (rw [hy259]; exact H) | exact H
        have Ny259 := AM hy259
        clear hy259
        have H' := AM H
        clear H
        go_wp2_with (first | ((with_reducible refine gate_callee (f := 122) rfl ?_); refine GL (some 41) rfl rfl Try.func122 #[.int .i64 (Go.bits .xor .i64 (wrap64 (t243 + x7_1)) x9_2)] rfl ?_; (with_reducible refine (spec_InvG.calls k2 (Go.bits .xor .i64 (wrap64 (t243 + x7_1)) x9_2) t258 _ A15.out).mono ?_); rintro e w' ⟨rfl, ⟨nd, rfl⟩⟩; refine ⟨_, rfl, ?_⟩) | ((with_reducible refine gate_builtin (b := .append) (xs := #[.tmp 35, .tmp 42]) rfl ?_); at_builtin; refine Kd.R_append (Kd.int .i64) (w0 := w) w.heap.size rfl (.tmp 35) (.tmp 42) 41 3 (.int .i64 0) 8 rfl Try.underlying41 info3 rfl (by decide) (by omega) u8 x8_2 t258 [.int .i64 t258] (fun k_ => (w.heap.size ≤ k_)) (fun _ => False) rfl rfl ?aP (fun _ hk => hk.elim) ?aF ?aO ?aB ?aS ?aL ?_; (case aP => exact rfl); (case aB => exact (BB HB.out)); (case aF => exact (fun k_ hk => (Nat.le_trans (below_size (BB HB.out)) hk))); (case aO => exact (RR HO_8.out)); (case aS => exact (below_size (BB HB.out))); (case aL => have := LMc16.out; omega); intro v260 w17 ho hb hg hat; rw [← Ny259.out] at ho; have n0_ := AM (Kd.N_afterv (ok := (fun k_ => (w.heap.size ≤ k_))) (by (with_reducible repeat (first | apply Kd.N_alloc | apply Kd.N_drewN | apply Kd.N_drew)); exact HO_6.out) hg hat); have n1_ := AM (hb); have n2_ := AM (ho); clear HO_6; clear HB; clear HO_8; have HO_6 := n0_; have HB := n1_; have HO261 := n2_; clear n0_ n1_ n2_; clear ho hb hg hat))
        go_roundg k2
        case measure => have := HK1.out; have := HK2.out; omega
        case rel => exact ⟨(y259), (wrap64 (x9_2 + 1)), FR, H', ⟨by have := HK1.out; have := HK2.out; omega⟩, ⟨by (with_reducible repeat (first | apply Kd.N_alloc | apply Kd.N_drewN | apply Kd.N_drew)); exact HO_6.out⟩, ⟨(RR HO261.out)⟩, ⟨(BB HB.out)⟩⟩
       ·rw [if_neg c14] at H
        have c14b0 := decide_eq_false c14
        clear c14
        by_cases c18 : x6_1.length < 5864062014805
        rotate_left
        ·rw [if_neg c18] at H; exact absurd H (by simp)
        rw [if_pos c18] at H
        have LMc18 := AM c18
        clear c18
        obtain ⟨y262, hy262⟩ : ∃ y_ : List (List Int), y_ = (x6_1 ++ [x8_2]) := ⟨_, rfl⟩
        replace H : (spec_CodeOf.l0 k2 t243 t244 y262 (wrap64 (x7_1 + 1))) = some r := by first | (rw [hy262]; first | with_reducible exact H | with_reducible exact OB H) | with_reducible exact OB H | with_reducible exact H | (rw [hy262]; exact H) | exact H
        have Ny262 := AM hy262
        clear hy262
        have H' := AM H
        clear H
        obtain ⟨Ao20, co20, eo20⟩ := Kd.R_slice HO_8.out
        subst eo20
        go_wp2_with (first | ((with_reducible refine gate_builtin (b := .append) (xs := #[.tmp 44, .tmp 46]) rfl ?_); at_builtin; refine Kd.N_append (Kd.slice 3 (Kd.int .i64)) (w0 := w) w.heap.size rfl (.tmp 44) (.tmp 46) 92 41 (.slice none 0 0) 24 rfl Try.underlying92 info41 rfl (by decide) (by omega) u6 x6_1 x8_2 [.slice Ao20 x8_2.length co20] (fun k_ => (w.heap.size ≤ k_)) (fun k_ => ((fun k_ => (w.heap.size ≤ k_))) k_ ∧ some k_ ≠ (u6 : Value).ownBlock) rfl rfl ?aP (fun _ hk => hk) ?aF ?aO ?aB ?aS ?aL ?_; (case aP => exact (fk_of_R (Kd.R_mono (ok' := (fun k_ => ((fun k_ => (w.heap.size ≤ k_))) k_ ∧ some k_ ≠ (u6 : Value).ownBlock)) (Kd.R_apart' (HO_8.out) (Kd.N_typed HO_6.out) (by decide)) (fun k_ hk => ⟨hk.1, hk.2⟩)))); (case aB => exact (BB HB.out)); (case aF => exact (fun k_ hk => (Nat.le_trans (below_size (BB HB.out)) hk))); (case aO => exact (by (with_reducible repeat (first | apply Kd.N_alloc | apply Kd.N_drewN | apply Kd.N_drew)); exact Kd.N_mono HO_6.out (fun _ hk => hk.1))); (case aS => exact (below_size (BB HB.out))); (case aL => have := LMc18.out; omega); intro v263 w19 ho hb hg hat; rw [← Ny262.out] at ho; have HO264 := AM (ho); replace HB := AM (hb); clear HO_6; clear HO_8; clear ho hb hg hat))
        go_roundg k2
        case measure => have := HK1.out; have := HK2.out; omega
        case rel => exact ⟨(y262), (wrap64 (x7_1 + 1)), FR, H', ⟨by have := HK1.out; have := HK2.out; omega⟩, ⟨by (with_reducible repeat (first | apply Kd.N_alloc | apply Kd.N_drewN | apply Kd.N_drew)); exact HO264.out⟩, ⟨(BB HB.out)⟩⟩
    ·rw [if_neg c11] at H
     have c11b0 := decide_eq_false c11
     clear c11
     obtain rfl := Option.some.inj H
     go_wp2
     go_ret
     exact ⟨_, ER, by (with_reducible repeat (first | apply Kd.N_alloc | apply Kd.N_drewN | apply Kd.N_drew)); exact HO_6.out, (BB HB.out)⟩
 ·replace c3 := Bool.eq_false_iff.mpr c3
  subst c3
  have H1 : (some y246) = some r := by rw [if_neg (show ¬ (false = true) by decide)] at H; exact H
  clear H
  have H := H1
  clear H1
  obtain rfl := Option.some.inj H
  go_enter Try.func105, Try.ntmps105
  go_wp2_with (first | ((with_reducible refine gate_callee (f := 19) rfl ?_); refine GL (some 12) rfl rfl Try.func19 #[.int .i64 a0] rfl ?_; (with_reducible refine (spec_SchemaOf.calls a0 t243 t244 false _ A2.out).mono ?_); rintro e w' ⟨rfl, ⟨nd, rfl⟩⟩; refine ⟨_, rfl, ?_⟩) | ((with_reducible refine gate_dst (N := 16) rfl ?_); refine Kd.N_lit (Kd.slice 3 (Kd.int .i64)) _ 41 ?hg (N' := 16) ?hd (xs := ([] : List (List Int))) (inner := []) (ok := (fun k_ => (w.heap.size ≤ k_))) (okp := (fun k_ => (w.heap.size ≤ k_))) ?hr ?hp (fun _ hk => hk) ((show ∀ k_, w.heap.size ≤ k_ → (fun k_ => (w.heap.size ≤ k_)) k_ from fun k_ hk => (Nat.le_trans (below_size (BB HB.out)) hk)) _ (Nat.le_refl _)) (Below.refl _ _) (Nat.le_refl _) (by simp) ?_; (case hd => rfl); (case hg => rfl); (case hr => first | (go_simp; done) | (go_simp; rfl)); (case hp => exact (Reps.none _ _)); intro v247 w21 ho22 hb hg_ hnew_; clear hg_ hnew_; (first | rw [← Ny246.out] at ho22 | (simp only [Int.reduceToNat] at ho22; rw [← Ny246.out] at ho22)); have HO248 := AM (Kd.N_lower ho22 (below_size (BB HB.out))); replace HB := AM (below_step (BB HB.out) hb); clear hb ho22))
  go_ret
  exact ⟨_, ER, by (with_reducible repeat (first | apply Kd.N_alloc | apply Kd.N_drewN | apply Kd.N_drew)); exact HO248.out, (BB HB.out)⟩

mutual
def spec_Encode.j0 : Nat → Int → List ByteArray → Int → Bool → Option (List ByteArray × Bool)
 | 0, _, _, _, _ => none
 | k + 1, x0, x1, x6, x26 => if x26 = true then (some ((([] : List ByteArray)), false)) else (spec_Encode.l0 k x0 x1 x6 0 0)
def spec_Encode.l0 : Nat → Int → List ByteArray → Int → Int → Int → Option (List ByteArray × Bool)
 | 0, _, _, _, _, _ => none
 | k + 1, x0, x1, x6, x9, x10 => if x10 < x6 then (if 0 ≤ x10 then (if x10 < (x1.length : Int) then (if ((rdOf ByteArray.empty x1 x10).size : Int) > 200 then (some ((([] : List ByteArray)), false)) else (if ((rdOf ByteArray.empty x1 x10).size : Int) > x9 then (spec_Encode.l0 k x0 x1 x6 ((rdOf ByteArray.empty x1 x10).size : Int) (wrap64 (x10 + 1))) else (spec_Encode.l0 k x0 x1 x6 x9 (wrap64 (x10 + 1))))) else (none)) else (none)) else (spec_Encode.l1 k x0 x1 x6 x9 (([] : List ByteArray)) 0)
def spec_Encode.l1 : Nat → Int → List ByteArray → Int → Int → List ByteArray → Int → Option (List ByteArray × Bool)
 | 0, _, _, _, _, _, _ => none
 | k + 1, x0, x1, x6, x9, x11, x12 => if x12 < x6 then (if 0 ≤ x12 then (if x12 < (x1.length : Int) then (if 0 ≤ x9 then (if (x9 : Int).toNat ≤ 281474976710656 then ((spec_AddText.f (rdOf ByteArray.empty x1 x12) (strOfNums (List.replicate (x9 : Int).toNat 0))).bind fun t284 => (if x11.length < 8796093022208 then (spec_Encode.l1 k x0 x1 x6 x9 (x11 ++ [t284]) (wrap64 (x12 + 1))) else (none))) else (none)) else (none)) else (none)) else (none)) else ((spec_CodeOf.f k x0).bind fun t288 => ((spec_ApplyM.f k t288 x11).bind fun t291 => (some (t291, true))))
end
def spec_Encode.f (k : Nat) (a0 : Int) (l1 : List ByteArray) : Option (List ByteArray × Bool) := (spec_SchemaOf.f a0).bind fun bt265 => (if bt265.2.2 = true then (spec_Encode.j0 k a0 l1 bt265.1 ((l1.length : Int) != bt265.1)) else (spec_Encode.j0 k a0 l1 bt265.1 true))
def spec_Encode.T16 : Bool × List (List Nat × List Nat) := (true, [([], []), ([], []), ([], []), ([1, 2], [1, 2]), ([3], [3]), ([], []), ([5, 5], [5]), ([6], [6]), ([4, 7], [4, 7]), ([8], [8]), ([0, 9, 8], [0, 9]), ([10, 10, 0, 1, 2, 3, 4, 5, 6, 7, 8, 9, 10], [0, 10])])
def spec_Encode.B16 : List Nat := [0, 0, 0, 6, 14, 0, 32, 96, 254, 510, 1023, 2047]
theorem spec_Encode.tab16 : rtab .any (opsOf Try.f75 16) = spec_Encode.T16 := by kernel_rfl
theorem spec_Encode.bits16 : waitsOk spec_Encode.T16.2 spec_Encode.B16 = true := by kernel_rfl
set_option maxHeartbeats 8000000 in
set_option maxRecDepth 100000 in
theorem spec_Encode.calls (k : Nat) (a0 : Int) (A1 : Option Addr) (c1 : Nat) (l1 : List ByteArray) (r1 : List ByteArray) (r2 : Bool) (w : World) (hr1 : Kd.C Kd.string w A1 l1.length l1) (hc1 : l1.length ≤ c1) (h : spec_Encode.f k a0 l1 = some (r1, r2)) :
  Calls Try.prog 75 #[.int .i64 a0, .slice A1 l1.length c1] w fun e w' => ∃ v0_ : Value, e = .returned (.tuple #[v0_, .bool r2]) ∧ Kd.R Kd.string 9 w' w.heap.size (fun _ => True) v0_ r1 ∧ Below w.heap.size w w' := by
 have HR1 := AM hr1
 have HC1 := AM hc1
 clear hr1 hc1
 have HB := AM (Below.refl w.heap.size w)
 have H : ((spec_SchemaOf.f a0).bind fun bt265 => (if bt265.2.2 = true then (spec_Encode.j0 k a0 l1 bt265.1 ((l1.length : Int) != bt265.1)) else (spec_Encode.j0 k a0 l1 bt265.1 true))) = some (r1, r2) := h
 clear h
 replace H := Option.bind_eq_some_iff.mp H
 obtain ⟨⟨t265, t266, t267⟩, A30, H⟩ := H
 replace H : (if t267 = true then (spec_Encode.j0 k a0 l1 t265 ((l1.length : Int) != t265)) else (spec_Encode.j0 k a0 l1 t265 true)) = some (r1, r2) := H
 have A3 := AM A30
 clear A30
 have HC4 := AM H
 clear H
 go_enter Try.func75, Try.ntmps75
 go_upto_region 2 with (first | ((with_reducible refine gate_callee (f := 19) rfl ?_); refine GL (some 15) rfl rfl Try.func19 #[.int .i64 a0] rfl ?_; (with_reducible refine (spec_SchemaOf.calls a0 t265 t266 t267 _ A3.out).mono ?_); rintro e w' ⟨rfl, ⟨nd, rfl⟩⟩; refine ⟨_, rfl, ?_⟩))
 (try simp only [Act.put, List.setIfInBounds_toArray, List.set_cons_zero, List.set_cons_succ])
 go_cut [26] (fun v26 wc => ∃ (kq : Nat) (x26_3 : Bool), v26 = .bool x26_3 ∧ Aside0 (spec_Encode.j0 kq a0 l1 t265 x26_3 = some (r1, r2)) ∧ Aside0 (kq ≤ k) ∧ Aside0 (Below w.heap.size w wc))
 case first =>
  have H := HC4.out
  clear HC4
  by_cases c5 : t267 = true
  ·subst c5
   have H1 : (spec_Encode.j0 k a0 l1 t265 ((l1.length : Int) != t265)) = some (r1, r2) := by rw [if_pos rfl] at H; exact H
   clear H
   have H := H1
   clear H1
   have H' := AM H
   clear H
   go_wp2
   go_meet
   case rel => exact ⟨_, (((l1.length : Int) != t265)), FR, H', ⟨by first | omega | exact Nat.le_refl _⟩, ⟨(BB HB.out)⟩⟩
  ·replace c5 := Bool.eq_false_iff.mpr c5
   subst c5
   have H1 : (spec_Encode.j0 k a0 l1 t265 true) = some (r1, r2) := by rw [if_neg (show ¬ (false = true) by decide)] at H; exact H
   clear H
   have H := H1
   clear H1
   have H' := AM H
   clear H
   go_wp2
   go_meet
   case rel => exact ⟨_, (true), FR, H', ⟨by first | omega | exact Nat.le_refl _⟩, ⟨(BB HB.out)⟩⟩
 case rest =>
  clear HC4
  try clear c1
  try clear p2
  try clear c5
  obtain ⟨kq, x26_3, rfl, HA, HJ3, HB⟩ := hcut
  cases kq with
  | zero => exact absurd HA.out (by simp [spec_Encode.j0])
  | succ kj3 =>
   have H := HA.out
   clear HA
   simp only [spec_Encode.j0] at H
   by_cases c6 : x26_3 = true
   ·subst c6
    have H1 : (some ((([] : List ByteArray)), false)) = some (r1, r2) := by rw [if_pos rfl] at H; exact H
    clear H
    have H := H1
    clear H1
    obtain ⟨y268, hy268⟩ : ∃ y_ : List ByteArray, y_ = (([] : List ByteArray)) := ⟨_, rfl⟩
    replace H : (some (y268, false)) = some (r1, r2) := by first | (rw [hy268]; first | with_reducible exact H | with_reducible exact OB H) | with_reducible exact OB H | with_reducible exact H | (rw [hy268]; exact H) | exact H
    have Ny268 := AM hy268
    clear hy268
    simp only [Option.some.injEq, Prod.mk.injEq] at H
    obtain ⟨rfl, rfl⟩ := H
    go_wp2_with (first | ((with_reducible refine gate_dst (N := 27) rfl ?_); (try (refine gate_guard (by rfl) ?_; dsimp only)); refine Kd.R_lit Kd.string _ 9 ?hg (N := 27) ?hd (xs := ([] : List ByteArray)) (inner := []) (ok := fun _ => True) (okp := fun _ => True) ?hr ?hp (fun _ hk => hk) trivial (Below.refl _ _) (Nat.le_refl _) (by simp) ?_; (case hd => rfl); (case hg => rfl); (case hr => first | (go_simp; done) | (go_simp; rfl)); (case hp => exact (Reps.none _ _)); intro v269 w7 ho8 hb hg_ hnew_; clear hg_ hnew_; (first | rw [← Ny268.out] at ho8 | (simp only [Int.reduceToNat] at ho8; rw [← Ny268.out] at ho8)); have HO270 := AM (Kd.R_lower ho8 (below_size (BB HB.out))); replace HB := AM (below_step (BB HB.out) hb); clear hb ho8))
    go_ret2
    exact ⟨_, ER, by (with_reducible repeat (first | apply Kd.R_alloc | apply Kd.R_drewN | apply Kd.R_drew)); exact HO270.out, (BB HB.out)⟩
   ·replace c6 := Bool.eq_false_iff.mpr c6
    subst c6
    have H1 : (spec_Encode.l0 kj3 a0 l1 t265 0 0) = some (r1, r2) := by rw [if_neg (show ¬ (false = true) by decide)] at H; exact H
    clear H
    have H := H1
    clear H1
    have H' := AM H
    clear H
    go_wp2
    go_loopg [9, 10] kj3 (fun kq v9 v10 w' => ∃ (x9_2 : Int) (x10_2 : Int), v9 = .int .i64 x9_2 ∧ v10 = .int .i64 x10_2 ∧ Aside0 (spec_Encode.l0 kq a0 l1 t265 x9_2 x10_2 = some (r1, r2)) ∧ Aside0 (kq ≤ kj3) ∧ Aside0 (Below w.heap.size w w'))
    case atStart => exact ⟨(0), (0), FR, FR, H', ⟨Nat.le_refl _⟩, ⟨(BB HB.out)⟩⟩
    case round =>
     clear H'
     try clear c1
     try clear p2
     try clear c5
     try clear c6
     try clear c7
     try clear p2
     obtain ⟨x9_2, x10_2, rfl, rfl, HA, HK2, HB⟩ := hrel
     cases gk with
     | zero => exact absurd HA.out (by simp [spec_Encode.l0])
     | succ k2 =>
      have H := HA.out
      clear HA
      simp only [spec_Encode.l0] at H
      by_cases c9 : x10_2 < t265
      ·rw [if_pos c9] at H
       have c9b0 := decide_eq_true c9
       clear c9
       by_cases c10 : 0 ≤ x10_2
       rotate_left
       ·rw [if_neg c10] at H; exact absurd H (by simp)
       rw [if_pos c10] at H
       have c10b0 := decide_eq_true c10
       clear c10
       by_cases c11 : x10_2 < (l1.length : Int)
       rotate_left
       ·rw [if_neg c11] at H; exact absurd H (by simp)
       rw [if_pos c11] at H
       have c11b0 := decide_eq_true c11
       clear c11
       by_cases c12 : ((rdOf ByteArray.empty l1 x10_2).size : Int) > 200
       ·rw [if_pos c12] at H
        have c12b0 := decide_eq_true c12
        have c12b1 : decide (200 < (rdOf ByteArray.empty l1 x10_2).size) = true := decide_eq_true (by omega)
        clear c12
        obtain ⟨y272, hy272⟩ : ∃ y_ : List ByteArray, y_ = (([] : List ByteArray)) := ⟨_, rfl⟩
        replace H : (some (y272, false)) = some (r1, r2) := by first | (rw [hy272]; first | with_reducible exact H | with_reducible exact OB H) | with_reducible exact OB H | with_reducible exact H | (rw [hy272]; exact H) | exact H
        have Ny272 := AM hy272
        clear hy272
        simp only [Option.some.injEq, Prod.mk.injEq] at H
        obtain ⟨rfl, rfl⟩ := H
        have p271 : 0 ≤ (x10_2 : Int) := DT
        have q271 : x10_2 < (l1.length : Int) := DT
        obtain ⟨ad271, e271, hx271_0⟩ := Kd.at_string HR1.out x10_2 p271 q271
        cases e271
        replace hx271_0 := CX HB.out hx271_0
        replace p271 := eq_true p271
        replace q271 := eq_true q271
        go_wp2_with (first | ((with_reducible refine gate_dst (N := 39) rfl ?_); (try (refine gate_guard (by rfl) ?_; dsimp only)); refine Kd.R_lit Kd.string _ 9 ?hg (N := 39) ?hd (xs := ([] : List ByteArray)) (inner := []) (ok := fun _ => True) (okp := fun _ => True) ?hr ?hp (fun _ hk => hk) trivial (Below.refl _ _) (Nat.le_refl _) (by simp) ?_; (case hd => rfl); (case hg => rfl); (case hr => first | (go_simp; done) | (go_simp; rfl)); (case hp => exact (Reps.none _ _)); intro v273 w13 ho14 hb hg_ hnew_; clear hg_ hnew_; (first | rw [← Ny272.out] at ho14 | (simp only [Int.reduceToNat] at ho14; rw [← Ny272.out] at ho14)); have HO274 := AM (Kd.R_lower ho14 (below_size (BB HB.out))); replace HB := AM (below_step (BB HB.out) hb); clear hb ho14))
        go_ret2
        exact ⟨_, ER, by (with_reducible repeat (first | apply Kd.R_alloc | apply Kd.R_drewN | apply Kd.R_drew)); exact HO274.out, (BB HB.out)⟩
       ·rw [if_neg c12] at H
        have c12b0 := decide_eq_false c12
        have c12b1 : decide (200 < (rdOf ByteArray.empty l1 x10_2).size) = false := decide_eq_false (by omega)
        clear c12
        by_cases c15 : ((rdOf ByteArray.empty l1 x10_2).size : Int) > x9_2
        ·rw [if_pos c15] at H
         have c15b0 := decide_eq_true c15
         clear c15
         have H' := AM H
         clear H
         have p271 : 0 ≤ (x10_2 : Int) := DT
         have q271 : x10_2 < (l1.length : Int) := DT
         obtain ⟨ad271, e271, hx271_0⟩ := Kd.at_string HR1.out x10_2 p271 q271
         cases e271
         replace hx271_0 := CX HB.out hx271_0
         replace p271 := eq_true p271
         replace q271 := eq_true q271
         have p275 : 0 ≤ (x10_2 : Int) := DT
         have q275 : x10_2 < (l1.length : Int) := DT
         obtain ⟨ad275, e275, hx275_0⟩ := Kd.at_string HR1.out x10_2 p275 q275
         obtain rfl : ad271 = ad275 := (by injection e275)
         replace hx275_0 := CX HB.out hx275_0
         replace p275 := eq_true p275
         replace q275 := eq_true q275
         have p276 : 0 ≤ (x10_2 : Int) := DT
         have q276 : x10_2 < (l1.length : Int) := DT
         obtain ⟨ad276, e276, hx276_0⟩ := Kd.at_string HR1.out x10_2 p276 q276
         obtain rfl : ad271 = ad276 := (by injection e276)
         replace hx276_0 := CX HB.out hx276_0
         replace p276 := eq_true p276
         replace q276 := eq_true q276
         go_wp2
         go_roundg k2
         case measure => have := HJ3.out; have := HK2.out; omega
         case rel => exact ⟨(((rdOf ByteArray.empty l1 x10_2).size : Int)), (wrap64 (x10_2 + 1)), FR, FR, H', ⟨by have := HJ3.out; have := HK2.out; omega⟩, ⟨(BB HB.out)⟩⟩
        ·rw [if_neg c15] at H
         have c15b0 := decide_eq_false c15
         clear c15
         have H' := AM H
         clear H
         have p271 : 0 ≤ (x10_2 : Int) := DT
         have q271 : x10_2 < (l1.length : Int) := DT
         obtain ⟨ad271, e271, hx271_0⟩ := Kd.at_string HR1.out x10_2 p271 q271
         cases e271
         replace hx271_0 := CX HB.out hx271_0
         replace p271 := eq_true p271
         replace q271 := eq_true q271
         have p275 : 0 ≤ (x10_2 : Int) := DT
         have q275 : x10_2 < (l1.length : Int) := DT
         obtain ⟨ad275, e275, hx275_0⟩ := Kd.at_string HR1.out x10_2 p275 q275
         obtain rfl : ad271 = ad275 := (by injection e275)
         replace hx275_0 := CX HB.out hx275_0
         replace p275 := eq_true p275
         replace q275 := eq_true q275
         go_wp2
         go_roundg k2
         case measure => have := HJ3.out; have := HK2.out; omega
         case rel => exact ⟨(x9_2), (wrap64 (x10_2 + 1)), FR, FR, H', ⟨by have := HJ3.out; have := HK2.out; omega⟩, ⟨(BB HB.out)⟩⟩
      ·rw [if_neg c9] at H
       have c9b0 := decide_eq_false c9
       clear c9
       obtain ⟨y277, hy277⟩ : ∃ y_ : List ByteArray, y_ = (([] : List ByteArray)) := ⟨_, rfl⟩
       replace H : (spec_Encode.l1 k2 a0 l1 t265 x9_2 y277 0) = some (r1, r2) := by first | (rw [hy277]; first | with_reducible exact H | with_reducible exact OB H) | with_reducible exact OB H | with_reducible exact H | (rw [hy277]; exact H) | exact H
       have Ny277 := AM hy277
       clear hy277
       have H' := AM H
       clear H
       go_wp2_with (first | ((with_reducible refine gate_dst (N := 52) rfl ?_); (try (refine gate_guard (by rfl) ?_; dsimp only)); refine Kd.R_lit Kd.string _ 9 ?hg (N := 52) ?hd (xs := ([] : List ByteArray)) (inner := []) (ok := fun _ => True) (okp := fun _ => True) ?hr ?hp (fun _ hk => hk) trivial (Below.refl _ _) (Nat.le_refl _) (by simp) ?_; (case hd => rfl); (case hg => rfl); (case hr => first | (go_simp; done) | (go_simp; rfl)); (case hp => exact (Reps.none _ _)); intro v278 w16 ho17 hb hg_ hnew_; clear hg_ hnew_; (first | rw [← Ny277.out] at ho17 | (simp only [Int.reduceToNat] at ho17; rw [← Ny277.out] at ho17)); have HO279 := AM (Kd.R_lower ho17 (below_size (BB HB.out))); replace HB := AM (below_step (BB HB.out) hb); clear hb ho17))
       go_loopg [11, 12] k2 (fun kq v11 v12 w' => ∃ (x11_3 : List ByteArray) (x12_3 : Int), v12 = .int .i64 x12_3 ∧ Aside0 (spec_Encode.l1 kq a0 l1 t265 x9_2 x11_3 x12_3 = some (r1, r2)) ∧ Aside0 (kq ≤ k2) ∧ Aside0 (Kd.R Kd.string 9 w' w.heap.size (fun _ => True) v11 x11_3) ∧ Aside0 (Below w.heap.size w w'))
       case atStart => exact ⟨(y277), (0), FR, H', ⟨Nat.le_refl _⟩, ⟨(RR HO279.out)⟩, ⟨(BB HB.out)⟩⟩
       case round =>
        clear H'
        try clear c1
        try clear p2
        try clear q2
        try clear hx2
        try clear c5
        try clear c6
        try clear p6
        try clear c7
        try clear c9
        try clear c9b0
        try clear c10
        try clear c10b0
        try clear c11
        try clear c11b0
        try clear c12
        try clear c12b0
        try clear c12b1
        try clear c15
        try clear c15b0
        try clear hx271_0
        try clear hx275_0
        try clear hx276_0
        try clear p2
        try clear p271
        try clear p275
        try clear p276
        try clear q271
        try clear q275
        try clear q276
        obtain ⟨x11_3, x12_3, rfl, HA, HK3, HO_11, HB⟩ := hrel
        cases gk with
        | zero => exact absurd HA.out (by simp [spec_Encode.l1])
        | succ k3 =>
         have H := HA.out
         clear HA
         simp only [spec_Encode.l1] at H
         by_cases c18 : x12_3 < t265
         ·rw [if_pos c18] at H
          have c18b0 := decide_eq_true c18
          clear c18
          by_cases c19 : 0 ≤ x12_3
          rotate_left
          ·rw [if_neg c19] at H; exact absurd H (by simp)
          rw [if_pos c19] at H
          have c19b0 := decide_eq_true c19
          clear c19
          by_cases c20 : x12_3 < (l1.length : Int)
          rotate_left
          ·rw [if_neg c20] at H; exact absurd H (by simp)
          rw [if_pos c20] at H
          have c20b0 := decide_eq_true c20
          clear c20
          by_cases c21 : 0 ≤ x9_2
          rotate_left
          ·rw [if_neg c21] at H; exact absurd H (by simp)
          rw [if_pos c21] at H
          have c21b0 := eq_true c21
          have c21b1 := decide_eq_true c21
          clear c21
          by_cases c22 : (x9_2 : Int).toNat ≤ 281474976710656
          rotate_left
          ·rw [if_neg c22] at H; exact absurd H (by simp)
          rw [if_pos c22] at H
          have c22b0 := eq_true c22
          have c22b1 := decide_eq_true c22
          clear c22
          obtain ⟨y281, hy281⟩ : ∃ y_ : List Int, y_ = (List.replicate (x9_2 : Int).toNat 0) := ⟨_, rfl⟩
          replace H : ((spec_AddText.f (rdOf ByteArray.empty l1 x12_3) (strOfNums y281)).bind fun t284 => (if x11_3.length < 8796093022208 then (spec_Encode.l1 k3 a0 l1 t265 x9_2 (x11_3 ++ [t284]) (wrap64 (x12_3 + 1))) else (none))) = some (r1, r2) := by first | (rw [hy281]; first | with_reducible exact H | with_reducible exact OB H) | with_reducible exact OB H | with_reducible exact H | (rw [hy281]; exact H) | exact H
          have Ny281 := AM hy281
          clear hy281
          replace H := Option.bind_eq_some_iff.mp H
          obtain ⟨t284, A230, H⟩ := H
          replace H : (if x11_3.length < 8796093022208 then (spec_Encode.l1 k3 a0 l1 t265 x9_2 (x11_3 ++ [t284]) (wrap64 (x12_3 + 1))) else (none)) = some (r1, r2) := H
          have A23 := AM A230
          clear A230
          by_cases c24 : x11_3.length < 8796093022208
          rotate_left
          ·rw [if_neg c24] at H; exact absurd H (by simp)
          rw [if_pos c24] at H
          have LMc24 := AM c24
          clear c24
          obtain ⟨y285, hy285⟩ : ∃ y_ : List ByteArray, y_ = (x11_3 ++ [t284]) := ⟨_, rfl⟩
          replace H : (spec_Encode.l1 k3 a0 l1 t265 x9_2 y285 (wrap64 (x12_3 + 1))) = some (r1, r2) := by first | (rw [hy285]; first | with_reducible exact H | with_reducible exact OB H) | with_reducible exact OB H | with_reducible exact H | (rw [hy285]; exact H) | exact H
          have Ny285 := AM hy285
          clear hy285
          have H' := AM H
          clear H
          try go_wp2
          replace HO_11 := AM (Kd.R_drew HO_11.out); replace HB := AM (below_drew1 HB.out)
          have p280 : 0 ≤ (x12_3 : Int) := DT
          have q280 : x12_3 < (l1.length : Int) := DT
          obtain ⟨ad280, e280, hx280_0⟩ := Kd.at_string HR1.out x12_3 p280 q280
          have hw280_0 := hx280_0
          cases e280
          replace hx280_0 := CX HB.out hx280_0
          replace p280 := eq_true p280
          replace q280 := eq_true q280
          refine start_ (n := 12) (S := fun w' => w'.cell? (ad280.add (x12_3).toNat) = some (.string (rdOf ByteArray.empty l1 x12_3))) (ds := []) (.replicate 12 false) (by kernel_rfl) rfl rfl ((CX HB.out hw280_0)) (fun hHeld => ?_); refine with_tabW spec_Encode.tab16 spec_Encode.bits16 (fun HT_ HW_ => ?_)
          generalize wr.drew = w25 at HO_11 HB hx280_0 hHeld ⊢
          refine PH 0 58 HT_.out ?_
          refine PH 1 59 HT_.out ?_
          refine PH 2 60 HT_.out ?_
          refine PH 3 61 HT_.out ?_
          refine PH 5 63 HT_.out ?_
          refine TH 4 62 HT_.out HW_.out hHeld ?_
          refine OH 6 (some 64) HT_.out (fun K hK => ?_)
          refine Kd.R_make_step (Kd.int .u8) _ 5 (by rfl) (N := 64) rfl 22 _ _ rfl x9_2 rfl rfl Try.underlying22 (.int .u8 0) 1 info5 rfl (by decide) (by omega) 0 (ok := fun _ => True) (okp := fun _ => True) rfl (fun _ hk => hk) trivial DT (Nat.le_trans (Nat.mul_le_mul_right _ (DT : x9_2.toNat ≤ 281474976710656)) (by omega)) (Below.refl _ _) (Nat.le_refl _) ?_
          intro v282 w26 ho27 hb hg_ hnew_
          clear hg_ hnew_
          (first | rw [← Ny281.out] at ho27 | (simp only [Int.reduceToNat] at ho27; rw [← Ny281.out] at ho27))
          have HO283 := AM (Kd.R_lower ho27 (below_size (BB HB.out))); replace HO_11 := AM (Kd.R_below (RR HO_11.out) hb); replace HB := AM (below_step (BB HB.out) hb)
          clear hb ho27
          refine hK.out _ _ ((CX HB.out hw280_0)) (fun hHeld => ?_)
          clear hK K
          refine NM 64 ?_
          refine OH 7 (some 65) HT_.out (fun K hK => ?_)
          have hcv28 := own_string (P := Try.prog) Try.underlying22 Try.underlying5 Try.underlying9 (Kd.own_of_R HO283.out)
          refine value_ (w1 := ?_) (v := ?_) (by rfl) rfl ?_ ?_
          rotate_left 2
          ·go_simp
           constructor
           ·rfl
           ·rfl
          clear hcv28
          refine hK.out _ _ ((CX HB.out hw280_0)) (fun hHeld => ?_)
          clear hK K
          refine NM 65 ?_
          refine OH 8 (some 66) HT_.out (fun K hK => ?_)
          refine GO Try.func103 #[.string (rdOf ByteArray.empty l1 x12_3), .string (strOfNums y281)] ?_
          with_reducible refine (spec_AddText.calls (rdOf ByteArray.empty l1 x12_3) (strOfNums y281) t284 _ A23.out).mono ?_
          rintro e w29 ⟨rfl, hb⟩
          refine ⟨_, rfl, ?_⟩
          replace HO_11 := AM (Kd.R_below (RR HO_11.out) hb); replace HO283 := AM (Kd.R_below (RR HO283.out) hb); replace HB := AM (below_step (BB HB.out) hb)
          (try clear hb)
          (try clear hb2)
          (try clear hk)
          (try clear hi)
          refine hK.out _ _ ((CX HB.out hw280_0)) (fun hHeld => ?_)
          clear hK K
          refine NM 66 ?_
          refine OH 9 (some 67) HT_.out (fun K hK => ?_)
          refine value_ (w1 := ?_) (v := ?_) (by rfl) rfl ?_ ?_
          rotate_left 2
          ·go_simp
           constructor
           ·rfl
           ·rfl
          refine hK.out _ _ ((World.cell?_alloc_lt _ _ _ (World.block_lt_of_cell? _ _ ((CX HB.out hw280_0)))).trans ((CX HB.out hw280_0))) (fun hHeld => ?_)
          clear hK K
          refine NM 67 ?_
          refine OH 10 (some 68) HT_.out (fun K hK => ?_)
          refine Kd.R_append_step Kd.string (w0 := w) w.heap.size (by rfl) (.tmp 58) (.tmp 67) 27 9 (.string ⟨#[]⟩) 16 rfl Try.underlying27 info9 rfl (by decide) (by omega) u11 x11_3 t284 [.string t284] (fun _ => True) (fun _ => False) rfl rfl ?aP (fun _ hk => hk.elim) ?aF ?aO ?aB ?aS ?aL ?_
          (case aP => exact rfl)
          (case aB => exact (BB HB.out))
          (case aF => exact (fun _ _ => trivial))
          (case aO => exact (RR HO_11.out))
          (case aS => exact (below_size (BB HB.out)))
          (case aL => have := LMc24.out; omega)
          intro v286 w30 ho hb hg hat
          rw [← Ny285.out] at ho
          have HO287 := AM (ho); replace HO283 := AM (Kd.R_over' (RR HO283.out) (Kd.R_typed (RR HO_11.out)) (by decide) hg); replace HB := AM (hb); clear HO_11
          clear ho hb hg hat
          refine hK.out _ _ ((CX HB.out hw280_0)) (fun hHeld => ?_)
          clear hK K
          refine NM 68 ?_
          refine PH 11 11 HT_.out ?_
          refine done_ (done_of HT_.out (by kernel_rfl)) ?_
          try go_wp2
          go_roundg k3
          case measure => have := HJ3.out; have := HK2.out; have := HK3.out; omega
          case rel => exact ⟨(y285), (wrap64 (x12_3 + 1)), FR, H', ⟨by have := HJ3.out; have := HK2.out; have := HK3.out; omega⟩, ⟨(RR HO287.out)⟩, ⟨(BB HB.out)⟩⟩
         ·rw [if_neg c18] at H
          have c18b0 := decide_eq_false c18
          clear c18
          replace H := Option.bind_eq_some_iff.mp H
          obtain ⟨t288, A310, H⟩ := H
          replace H : ((spec_ApplyM.f k3 t288 x11_3).bind fun t291 => (some (t291, true))) = some (r1, r2) := H
          have A31 := AM A310
          clear A310
          replace H := Option.bind_eq_some_iff.mp H
          obtain ⟨t291, A320, H⟩ := H
          replace H : (some (t291, true)) = some (r1, r2) := H
          have A32 := AM A320
          clear A320
          simp only [Option.some.injEq, Prod.mk.injEq] at H
          obtain ⟨rfl, rfl⟩ := H
          go_wp2_with (first | ((with_reducible refine gate_callee (f := 105) rfl ?_); refine GL (some 70) rfl rfl Try.func105 #[.int .i64 a0] rfl ?_; (with_reducible refine (spec_CodeOf.calls k3 a0 t288 _ A31.out).mono ?_); rintro e w33 ⟨v289, rfl, ho0, hb⟩; refine ⟨_, rfl, ?_⟩; have HO290 := AM (Kd.N_lower (Kd.N_mono (ok' := fun k_ => some k_ ≠ (u11 : Value).ownBlock) ho0 (fun k_ hk_ => (Kd.fresh' (Kd.R_lt (RR HO_11.out)) k_ hk_))) (below_size (BB HB.out))); replace HO_11 := AM (Kd.R_below (RR HO_11.out) hb); replace HB := AM (below_step (BB HB.out) hb); (try clear hb); (try clear ho0); obtain ⟨Ao34, co34, eo34⟩ := Kd.N_slice HO290.out; subst eo34; obtain ⟨Ao35, co35, eo35⟩ := Kd.R_slice HO_11.out; subst eo35) | ((with_reducible refine gate_callee (f := 104) rfl ?_); refine GL (some 72) rfl rfl Try.func104 #[.slice Ao34 t288.length co34, .slice Ao35 x11_3.length co35] rfl ?_; (with_reducible refine (spec_ApplyM.calls k3 _ _ t288 _ _ x11_3 t291 _ ?side1 ?side2 ?side3 ?side4 A32.out).mono ?_); (case side1 => exact CC (Kd.N_reads' HO290.out).2.2); (case side2 => exact (Kd.N_reads' HO290.out).2.1); (case side3 => exact CC (Kd.R_reads' HO_11.out).2.2); (case side4 => exact (Kd.R_reads' HO_11.out).2.1); rintro e w36 ⟨v292, rfl, ho0, hb⟩; refine ⟨_, rfl, ?_⟩; have n0_ := AM (Kd.R_elder' (RR HO_11.out) (Kd.R_base ho0) hb); have n1_ := AM (Kd.N_elder' (by (with_reducible repeat (first | apply Kd.N_alloc | apply Kd.N_drewN | apply Kd.N_drew)); exact HO290.out) (Kd.R_base ho0) hb); have n2_ := AM (Kd.R_lower (Kd.R_new' ho0 (Kd.R_lt (RR HO_11.out))) (below_size (BB HB.out))); have n3_ := AM (below_step (BB HB.out) hb); clear HO_11; clear HO290; clear HB; have HO_11 := n0_; have HO290 := n1_; have HO293 := n2_; have HB := n3_; clear n0_ n1_ n2_ n3_; (try clear hb); (try clear ho0)))
          go_ret2
          exact ⟨_, ER, by (with_reducible repeat (first | apply Kd.R_alloc | apply Kd.R_drewN | apply Kd.R_drew)); exact Kd.R_mono HO293.out (fun _ hk => trivial), (BB HB.out)⟩

def spec_LoadOf.f (a0_0 : Int) (a0_1 : Bool) (l0_2 : List (S60)) : Option (Int) := some (l0_2.length : Int)
set_option maxHeartbeats 8000000 in
set_option maxRecDepth 100000 in
theorem spec_LoadOf.calls (a0_0 : Int) (a0_1 : Bool) (A0_2 : Option Addr) (c0_2 : Nat) (l0_2 : List (S60)) (r : Int) (w : World) (hr0_2 : Kd.C k60 w A0_2 l0_2.length l0_2) (hc0_2 : l0_2.length ≤ c0_2) (h : spec_LoadOf.f a0_0 a0_1 l0_2 = some r) :
  Calls Try.prog 123 #[.agg #[.int .i64 a0_0, .bool a0_1, .slice A0_2 l0_2.length c0_2]] w fun e w' => e = .returned (.int .i64 r) ∧ Below w.heap.size w w' := by
 have hu35 := Try.underlying35
 have HR0_2 := AM hr0_2
 have HC0_2 := AM hc0_2
 clear hr0_2 hc0_2
 have HB := AM (Below.refl w.heap.size w)
 have H : (some (l0_2.length : Int)) = some r := h
 clear h
 obtain rfl := Option.some.inj H
 go_enter Try.func123, Try.ntmps123
 go_wp2_with (first | ((with_reducible refine gate_dst (N := 1) rfl ?_); refine BX 1 #[.int .i64 a0_0, .bool a0_1, .slice A0_2 l0_2.length c0_2] 35 ?_; intro gb294 hg w2 hbox hb; have BK294 := AM (hbox); have GW294 : Aside0 (w.heap.size ≤ gb294) := WG hg (BB HB.out); have GE294 := GW294; replace HB := AM (below_step (BB HB.out) hb); clear hb hbox hg; have hcz3 := blk_cell BK294.out; have hfz3 := blk_frozen BK294.out))
 go_ret
 exact ⟨ER, (BB1 HB.out GE294.out)⟩

mutual
def spec_l15Order.l0 : Nat → List (S35) → List Int → Int → Option (List Int)
 | 0, _, _, _ => none
 | k + 1, x0, x3, x4 => if x4 < (x0.length : Int) then (if 0 ≤ x4 then (if (rd_T35 x0 x4).f1 = true then (if x3.length < 17592186044416 then (spec_l15Order.l0 k x0 (x3 ++ [x4]) (wrap64 (x4 + 1))) else (none)) else (spec_l15Order.l0 k x0 x3 (wrap64 (x4 + 1)))) else (none)) else (spec_l15Order.l1 k x0 x3 1)
def spec_l15Order.l1 : Nat → List (S35) → List Int → Int → Option (List Int)
 | 0, _, _, _ => none
 | k + 1, x0, x3, x5 => if x5 < (x3.length : Int) then (spec_l15Order.l2 k x0 x3 x5 x5) else (some x3)
def spec_l15Order.l2 : Nat → List (S35) → List Int → Int → Int → Option (List Int)
 | 0, _, _, _, _ => none
 | k + 1, x0, x3, x5, x6 => if x6 > 0 then (if 0 ≤ (wrap64 (x6 - 1)) then (if (wrap64 (x6 - 1)) < (x3.length : Int) then (if 0 ≤ (rd x3 (wrap64 (x6 - 1))) then (if (rd x3 (wrap64 (x6 - 1))) < (x0.length : Int) then (if 0 ≤ x6 then (if x6 < (x3.length : Int) then (if 0 ≤ (rd x3 x6) then (if (rd x3 x6) < (x0.length : Int) then ((spec_LoadOf.f ((rd_T35 x0 (rd x3 (wrap64 (x6 - 1)))).f0) ((rd_T35 x0 (rd x3 (wrap64 (x6 - 1)))).f1) ((rd_T35 x0 (rd x3 (wrap64 (x6 - 1)))).f2)).bind fun t308 => ((spec_LoadOf.f ((rd_T35 x0 (rd x3 x6)).f0) ((rd_T35 x0 (rd x3 x6)).f1) ((rd_T35 x0 (rd x3 x6)).f2)).bind fun t309 => (if t308 > t309 then (spec_l15Order.l2 k x0 ((x3.set (x6 : Int).toNat (rd x3 (wrap64 (x6 - 1)))).set ((wrap64 (x6 - 1)) : Int).toNat (rd x3 x6)) x5 (wrap64 (x6 - 1))) else ((spec_LoadOf.f ((rd_T35 x0 (rd x3 (wrap64 (x6 - 1)))).f0) ((rd_T35 x0 (rd x3 (wrap64 (x6 - 1)))).f1) ((rd_T35 x0 (rd x3 (wrap64 (x6 - 1)))).f2)).bind fun t314 => ((spec_LoadOf.f ((rd_T35 x0 (rd x3 x6)).f0) ((rd_T35 x0 (rd x3 x6)).f1) ((rd_T35 x0 (rd x3 x6)).f2)).bind fun t315 => (if t314 = t315 then (if ((rd_T35 x0 (rd x3 (wrap64 (x6 - 1)))).f0) > ((rd_T35 x0 (rd x3 x6)).f0) then (spec_l15Order.l2 k x0 ((x3.set (x6 : Int).toNat (rd x3 (wrap64 (x6 - 1)))).set ((wrap64 (x6 - 1)) : Int).toNat (rd x3 x6)) x5 (wrap64 (x6 - 1))) else (spec_l15Order.l2 k x0 x3 x5 (wrap64 (x6 - 1)))) else (spec_l15Order.l2 k x0 x3 x5 (wrap64 (x6 - 1))))))))) else (none)) else (none)) else (none)) else (none)) else (none)) else (none)) else (none)) else (none)) else (spec_l15Order.l1 k x0 x3 (wrap64 (x5 + 1)))
end
def spec_l15Order.f (k : Nat) (l0 : List (S35)) : Option (List Int) := spec_l15Order.l0 k l0 (([] : List Int)) 0
def spec_l15Order.T15 : Bool × List (List Nat × List Nat) := (true, [([], []), ([0], [0]), ([], []), ([2, 1], [2]), ([1, 3], [1, 3]), ([4, 3], [4]), ([5], [5]), ([6, 5, 5], [5, 6]), ([5], [5]), ([8, 7, 5], [5, 8]), ([7, 9, 5], [5, 7, 9]), ([10, 9, 5], [5, 10]), ([11], [11]), ([12, 11], [11, 12]), ([11], [11]), ([14, 11], [11, 14]), ([13, 15, 11], [11, 13, 15]), ([11, 16, 5], [5, 11, 16]), ([5, 17], [5, 17])])
def spec_l15Order.B15 : List Nat := [0, 1, 0, 7, 15, 31, 63, 127, 63, 511, 1023, 2047, 4095, 8191, 4095, 20479, 65535, 131071, 262143]
theorem spec_l15Order.tab15 : rtab .any (opsOf Try.f106 15) = spec_l15Order.T15 := by kernel_rfl
theorem spec_l15Order.bits15 : waitsOk spec_l15Order.T15.2 spec_l15Order.B15 = true := by kernel_rfl
set_option maxHeartbeats 8000000 in
set_option maxRecDepth 100000 in
theorem spec_l15Order.calls (k : Nat) (A0 : Option Addr) (c0 : Nat) (l0 : List (S35)) (r : List Int) (w : World) (hr0 : Kd.C k35 w A0 l0.length l0) (hc0 : l0.length ≤ c0) (h : spec_l15Order.f k l0 = some r) :
  Calls Try.prog 106 #[.slice A0 l0.length c0] w fun e w' => ∃ v0_ : Value, e = .returned (v0_) ∧ Kd.R (Kd.int .i64) 3 w' w.heap.size (fun _ => True) v0_ r ∧ Below w.heap.size w w' := by
 have hu35 := Try.underlying35
 have HR0 := AM hr0
 have HC0 := AM hc0
 clear hr0 hc0
 have HB := AM (Below.refl w.heap.size w)
 have H : (spec_l15Order.l0 k l0 (([] : List Int)) 0) = some r := h
 clear h
 obtain ⟨y295, hy295⟩ : ∃ y_ : List Int, y_ = (([] : List Int)) := ⟨_, rfl⟩
 replace H : (spec_l15Order.l0 k l0 y295 0) = some r := by first | (rw [hy295]; first | with_reducible exact H | with_reducible exact OB H) | with_reducible exact OB H | with_reducible exact H | (rw [hy295]; exact H) | exact H
 have Ny295 := AM hy295
 clear hy295
 have H' := AM H
 clear H
 go_enter Try.func106, Try.ntmps106
 go_wp2_with (first | ((with_reducible refine gate_dst (N := 10) rfl ?_); refine Kd.R_lit (Kd.int .i64) _ 3 ?hg (N := 10) ?hd (xs := ([] : List Int)) (inner := []) (ok := fun _ => True) (okp := fun _ => True) ?hr ?hp (fun _ hk => hk) trivial (Below.refl _ _) (Nat.le_refl _) (by simp) ?_; (case hd => rfl); (case hg => rfl); (case hr => first | (go_simp; done) | (go_simp; rfl)); (case hp => exact (Reps.none _ _)); intro v296 w2 ho3 hb hg_ hnew_; clear hg_ hnew_; (first | rw [← Ny295.out] at ho3 | (simp only [Int.reduceToNat] at ho3; rw [← Ny295.out] at ho3)); have HO297 := AM (Kd.R_lower ho3 (below_size (BB HB.out))); replace HB := AM (below_step (BB HB.out) hb); clear hb ho3))
 go_loopg [3, 4] k (fun kq v3 v4 w' => ∃ (x3_1 : List Int) (x4_1 : Int), v4 = .int .i64 x4_1 ∧ Aside0 (spec_l15Order.l0 kq l0 x3_1 x4_1 = some r) ∧ Aside0 (kq ≤ k) ∧ Aside0 (Kd.R (Kd.int .i64) 3 w' w.heap.size (fun _ => True) v3 x3_1) ∧ Aside0 (Below w.heap.size w w'))
 case atStart => exact ⟨(y295), (0), FR, H', ⟨Nat.le_refl _⟩, ⟨(RR HO297.out)⟩, ⟨(BB HB.out)⟩⟩
 case round =>
  clear H'
  try clear c1
  try clear p2
  obtain ⟨x3_1, x4_1, rfl, HA, HK1, HO_3, HB⟩ := hrel
  cases gk with
  | zero => exact absurd HA.out (by simp [spec_l15Order.l0])
  | succ k1 =>
   have H := HA.out
   clear HA
   simp only [spec_l15Order.l0] at H
   by_cases c4 : x4_1 < (l0.length : Int)
   ·rw [if_pos c4] at H
    have c4b0 := decide_eq_true c4
    clear c4
    by_cases c5 : 0 ≤ x4_1
    rotate_left
    ·rw [if_neg c5] at H; exact absurd H (by simp)
    rw [if_pos c5] at H
    have c5b0 := decide_eq_true c5
    clear c5
    obtain ⟨bq6, hbq6⟩ : ∃ b_ : Bool, b_ = ((rd_T35 l0 x4_1).f1) := ⟨_, rfl⟩
    replace H : (if bq6 = true then (if x3_1.length < 17592186044416 then (spec_l15Order.l0 k1 l0 (x3_1 ++ [x4_1]) (wrap64 (x4_1 + 1))) else (none)) else (spec_l15Order.l0 k1 l0 x3_1 (wrap64 (x4_1 + 1)))) = some r := by rw [← hbq6] at H; exact H
    have Nbq6 := AM hbq6
    clear hbq6
    by_cases c7 : bq6 = true
    ·subst c7
     have H1 : (if x3_1.length < 17592186044416 then (spec_l15Order.l0 k1 l0 (x3_1 ++ [x4_1]) (wrap64 (x4_1 + 1))) else (none)) = some r := by rw [if_pos rfl] at H; exact H
     clear H
     have H := H1
     clear H1
     by_cases c8 : x3_1.length < 17592186044416
     rotate_left
     ·rw [if_neg c8] at H; exact absurd H (by simp)
     rw [if_pos c8] at H
     have LMc8 := AM c8
     clear c8
     obtain ⟨y299, hy299⟩ : ∃ y_ : List Int, y_ = (x3_1 ++ [x4_1]) := ⟨_, rfl⟩
     replace H : (spec_l15Order.l0 k1 l0 y299 (wrap64 (x4_1 + 1))) = some r := by first | (rw [hy299]; first | with_reducible exact H | with_reducible exact OB H) | with_reducible exact OB H | with_reducible exact H | (rw [hy299]; exact H) | exact H
     have Ny299 := AM hy299
     clear hy299
     have H' := AM H
     clear H
     have p298 : 0 ≤ (x4_1 : Int) := DT
     have q298 : x4_1 < (l0.length : Int) := DT
     obtain ⟨ad298, A298_2, c298_2, e298, hx298_0, hx298_1, hx298_2, hl298_2, hi298_2⟩ := at_T35 HR0.out x4_1 p298 q298
     (try rw [← Nbq6.out] at hx298_1)
     cases e298
     replace hx298_0 := CX HB.out hx298_0
     replace hx298_1 := CX HB.out hx298_1
     replace hx298_2 := CX HB.out hx298_2
     have HR298_2 := AM hi298_2
     have HC298_2 := AM hl298_2
     clear hi298_2 hl298_2
     replace p298 := eq_true p298
     replace q298 := eq_true q298
     go_wp2_with (first | ((with_reducible refine gate_builtin (b := .append) (xs := #[.tmp 22, .tmp 24]) rfl ?_); at_builtin; refine Kd.R_append (Kd.int .i64) (w0 := w) w.heap.size rfl (.tmp 22) (.tmp 24) 41 3 (.int .i64 0) 8 rfl Try.underlying41 info3 rfl (by decide) (by omega) u3 x3_1 x4_1 [.int .i64 x4_1] (fun _ => True) (fun _ => False) rfl rfl ?aP (fun _ hk => hk.elim) ?aF ?aO ?aB ?aS ?aL ?_; (case aP => exact rfl); (case aB => exact (BB HB.out)); (case aF => exact (fun _ _ => trivial)); (case aO => exact (RR HO_3.out)); (case aS => exact (below_size (BB HB.out))); (case aL => have := LMc8.out; omega); intro v300 w9 ho hb hg hat; rw [← Ny299.out] at ho; have HO301 := AM (ho); replace HB := AM (hb); clear HO_3; clear ho hb hg hat))
     go_roundg k1
     case measure => have := HK1.out; omega
     case rel => exact ⟨(y299), (wrap64 (x4_1 + 1)), FR, H', ⟨by have := HK1.out; omega⟩, ⟨(RR HO301.out)⟩, ⟨(BB HB.out)⟩⟩
    ·replace c7 := Bool.eq_false_iff.mpr c7
     subst c7
     have H1 : (spec_l15Order.l0 k1 l0 x3_1 (wrap64 (x4_1 + 1))) = some r := by rw [if_neg (show ¬ (false = true) by decide)] at H; exact H
     clear H
     have H := H1
     clear H1
     have H' := AM H
     clear H
     have p298 : 0 ≤ (x4_1 : Int) := DT
     have q298 : x4_1 < (l0.length : Int) := DT
     obtain ⟨ad298, A298_2, c298_2, e298, hx298_0, hx298_1, hx298_2, hl298_2, hi298_2⟩ := at_T35 HR0.out x4_1 p298 q298
     (try rw [← Nbq6.out] at hx298_1)
     cases e298
     replace hx298_0 := CX HB.out hx298_0
     replace hx298_1 := CX HB.out hx298_1
     replace hx298_2 := CX HB.out hx298_2
     have HR298_2 := AM hi298_2
     have HC298_2 := AM hl298_2
     clear hi298_2 hl298_2
     replace p298 := eq_true p298
     replace q298 := eq_true q298
     go_wp2
     go_roundg k1
     case measure => have := HK1.out; omega
     case rel => exact ⟨(x3_1), (wrap64 (x4_1 + 1)), FR, H', ⟨by have := HK1.out; omega⟩, ⟨(RR HO_3.out)⟩, ⟨(BB HB.out)⟩⟩
   ·rw [if_neg c4] at H
    have c4b0 := decide_eq_false c4
    clear c4
    have H' := AM H
    clear H
    go_wp2
    go_loopg [5] k1 (fun kq v5 w' => ∃ (x3_2 : List Int) (x5_2 : Int), v5 = .int .i64 x5_2 ∧ Aside0 (spec_l15Order.l1 kq l0 x3_2 x5_2 = some r) ∧ Aside0 (kq ≤ k1) ∧ Aside0 (Kd.R (Kd.int .i64) 3 w' w.heap.size (fun _ => True) u3 x3_2) ∧ Aside0 (Below w.heap.size w w'))
    case atStart => exact ⟨(x3_1), (1), FR, H', ⟨Nat.le_refl _⟩, ⟨(RR HO_3.out)⟩, ⟨(BB HB.out)⟩⟩
    case round =>
     clear H'
     try clear c1
     try clear c2
     try clear p2
     try clear q2
     try clear hx2
     try clear c4
     try clear c4b0
     try clear c5
     try clear c5b0
     try clear p6
     try clear q6
     try clear c7
     try clear c8
     try clear hx298_0
     try clear hx298_1
     try clear hx298_2
     try clear p2
     try clear p298
     try clear q298
     obtain ⟨x3_2, x5_2, rfl, HA, HK2, HO_3, HB⟩ := hrel
     cases gk with
     | zero => exact absurd HA.out (by simp [spec_l15Order.l1])
     | succ k2 =>
      have H := HA.out
      clear HA
      simp only [spec_l15Order.l1] at H
      by_cases c10 : x5_2 < (x3_2.length : Int)
      ·rw [if_pos c10] at H
       have c10b0 := decide_eq_true c10
       clear c10
       have H' := AM H
       clear H
       obtain ⟨Ao11, co11, eo11⟩ := Kd.R_slice HO_3.out
       subst eo11
       go_wp2
       go_loopg [6] k2 (fun kq v6 w' => ∃ (x3_3 : List Int) (x6_3 : Int), v6 = .int .i64 x6_3 ∧ Aside0 (spec_l15Order.l2 kq l0 x3_3 x5_2 x6_3 = some r) ∧ Aside0 (kq ≤ k2) ∧ Aside0 (Kd.R (Kd.int .i64) 3 w' w.heap.size (fun _ => True) (.slice Ao11 x3_2.length co11) x3_3) ∧ Aside0 (Below w.heap.size w w'))
       case atStart => exact ⟨(x3_2), (x5_2), FR, H', ⟨Nat.le_refl _⟩, ⟨(RR HO_3.out)⟩, ⟨(BB HB.out)⟩⟩
       case round =>
        clear H'
        try clear c1
        try clear c2
        try clear p2
        try clear q2
        try clear hx2
        try clear c4
        try clear c4b0
        try clear c5
        try clear c5b0
        try clear p6
        try clear q6
        try clear c7
        try clear c8
        try clear c10
        try clear c10b0
        try clear hx298_0
        try clear hx298_1
        try clear hx298_2
        try clear p2
        try clear p298
        try clear p6
        try clear q2
        try clear q298
        try clear q6
        obtain ⟨x3_3, x6_3, rfl, HA, HK3, HO_3, HB⟩ := hrel
        have hl3_3 := (Kd.R_reads' HO_3.out).1
        rw [hl3_3] at HO_3
        (try simp only [hl3_3])
        cases gk with
        | zero => exact absurd HA.out (by simp [spec_l15Order.l2])
        | succ k3 =>
         have H := HA.out
         clear HA
         simp only [spec_l15Order.l2] at H
         by_cases c12 : x6_3 > 0
         ·rw [if_pos c12] at H
          have c12b0 := decide_eq_true c12
          clear c12
          obtain ⟨ji13, hji13⟩ : ∃ j_ : Int, (wrap64 (x6_3 - 1)) = j_ := ⟨_, rfl⟩
          replace H : (if 0 ≤ (ji13) then (if (ji13) < (x3_3.length : Int) then (if 0 ≤ (rd x3_3 (ji13)) then (if (rd x3_3 (ji13)) < (l0.length : Int) then (if 0 ≤ x6_3 then (if x6_3 < (x3_3.length : Int) then (if 0 ≤ (rd x3_3 x6_3) then (if (rd x3_3 x6_3) < (l0.length : Int) then ((spec_LoadOf.f ((rd_T35 l0 (rd x3_3 (ji13))).f0) ((rd_T35 l0 (rd x3_3 (ji13))).f1) ((rd_T35 l0 (rd x3_3 (ji13))).f2)).bind fun t308 => ((spec_LoadOf.f ((rd_T35 l0 (rd x3_3 x6_3)).f0) ((rd_T35 l0 (rd x3_3 x6_3)).f1) ((rd_T35 l0 (rd x3_3 x6_3)).f2)).bind fun t309 => (if t308 > t309 then (spec_l15Order.l2 k3 l0 ((x3_3.set (x6_3 : Int).toNat (rd x3_3 (ji13))).set ((ji13) : Int).toNat (rd x3_3 x6_3)) x5_2 ji13) else ((spec_LoadOf.f ((rd_T35 l0 (rd x3_3 (ji13))).f0) ((rd_T35 l0 (rd x3_3 (ji13))).f1) ((rd_T35 l0 (rd x3_3 (ji13))).f2)).bind fun t314 => ((spec_LoadOf.f ((rd_T35 l0 (rd x3_3 x6_3)).f0) ((rd_T35 l0 (rd x3_3 x6_3)).f1) ((rd_T35 l0 (rd x3_3 x6_3)).f2)).bind fun t315 => (if t314 = t315 then (if ((rd_T35 l0 (rd x3_3 (ji13))).f0) > ((rd_T35 l0 (rd x3_3 x6_3)).f0) then (spec_l15Order.l2 k3 l0 ((x3_3.set (x6_3 : Int).toNat (rd x3_3 (ji13))).set ((ji13) : Int).toNat (rd x3_3 x6_3)) x5_2 ji13) else (spec_l15Order.l2 k3 l0 x3_3 x5_2 ji13)) else (spec_l15Order.l2 k3 l0 x3_3 x5_2 ji13))))))) else (none)) else (none)) else (none)) else (none)) else (none)) else (none)) else (none)) else (none)) = some r := by first | (rw [hji13] at H; exact H) | (simp only [hji13] at H ⊢; exact H)
          have hji13w : (IntKind.i64.wrap (x6_3 - 1)) = ji13 := (i64_w _).trans hji13
          by_cases c14 : 0 ≤ (ji13)
          rotate_left
          ·rw [if_neg c14] at H; exact absurd H (by simp)
          rw [if_pos c14] at H
          have c14b0 := decide_eq_true c14
          clear c14
          by_cases c15 : (ji13) < (x3_3.length : Int)
          rotate_left
          ·rw [if_neg c15] at H; exact absurd H (by simp)
          rw [if_pos c15] at H
          have c15b0 := decide_eq_true c15
          (try (have c15b0_hl3_3 := c15b0; rw [hl3_3] at c15b0_hl3_3))
          clear c15
          by_cases c16 : 0 ≤ (rd x3_3 (ji13))
          rotate_left
          ·rw [if_neg c16] at H; exact absurd H (by simp)
          rw [if_pos c16] at H
          have c16b0 := decide_eq_true c16
          clear c16
          by_cases c17 : (rd x3_3 (ji13)) < (l0.length : Int)
          rotate_left
          ·rw [if_neg c17] at H; exact absurd H (by simp)
          rw [if_pos c17] at H
          have c17b0 := decide_eq_true c17
          (try (have c17b0_hl3_3 := c17b0; rw [hl3_3] at c17b0_hl3_3))
          clear c17
          by_cases c18 : 0 ≤ x6_3
          rotate_left
          ·rw [if_neg c18] at H; exact absurd H (by simp)
          rw [if_pos c18] at H
          have c18b0 := decide_eq_true c18
          clear c18
          by_cases c19 : x6_3 < (x3_3.length : Int)
          rotate_left
          ·rw [if_neg c19] at H; exact absurd H (by simp)
          rw [if_pos c19] at H
          have c19b0 := decide_eq_true c19
          (try (have c19b0_hl3_3 := c19b0; rw [hl3_3] at c19b0_hl3_3))
          clear c19
          by_cases c20 : 0 ≤ (rd x3_3 x6_3)
          rotate_left
          ·rw [if_neg c20] at H; exact absurd H (by simp)
          rw [if_pos c20] at H
          have c20b0 := decide_eq_true c20
          clear c20
          by_cases c21 : (rd x3_3 x6_3) < (l0.length : Int)
          rotate_left
          ·rw [if_neg c21] at H; exact absurd H (by simp)
          rw [if_pos c21] at H
          have c21b0 := decide_eq_true c21
          (try (have c21b0_hl3_3 := c21b0; rw [hl3_3] at c21b0_hl3_3))
          clear c21
          replace H := Option.bind_eq_some_iff.mp H
          obtain ⟨t308, A220, H⟩ := H
          replace H : ((spec_LoadOf.f ((rd_T35 l0 (rd x3_3 x6_3)).f0) ((rd_T35 l0 (rd x3_3 x6_3)).f1) ((rd_T35 l0 (rd x3_3 x6_3)).f2)).bind fun t309 => (if t308 > t309 then (spec_l15Order.l2 k3 l0 ((x3_3.set (x6_3 : Int).toNat (rd x3_3 (ji13))).set ((ji13) : Int).toNat (rd x3_3 x6_3)) x5_2 ji13) else ((spec_LoadOf.f ((rd_T35 l0 (rd x3_3 (ji13))).f0) ((rd_T35 l0 (rd x3_3 (ji13))).f1) ((rd_T35 l0 (rd x3_3 (ji13))).f2)).bind fun t314 => ((spec_LoadOf.f ((rd_T35 l0 (rd x3_3 x6_3)).f0) ((rd_T35 l0 (rd x3_3 x6_3)).f1) ((rd_T35 l0 (rd x3_3 x6_3)).f2)).bind fun t315 => (if t314 = t315 then (if ((rd_T35 l0 (rd x3_3 (ji13))).f0) > ((rd_T35 l0 (rd x3_3 x6_3)).f0) then (spec_l15Order.l2 k3 l0 ((x3_3.set (x6_3 : Int).toNat (rd x3_3 (ji13))).set ((ji13) : Int).toNat (rd x3_3 x6_3)) x5_2 ji13) else (spec_l15Order.l2 k3 l0 x3_3 x5_2 ji13)) else (spec_l15Order.l2 k3 l0 x3_3 x5_2 ji13)))))) = some r := H
          have A22 := AM A220
          clear A220
          replace H := Option.bind_eq_some_iff.mp H
          obtain ⟨t309, A230, H⟩ := H
          replace H : (if t308 > t309 then (spec_l15Order.l2 k3 l0 ((x3_3.set (x6_3 : Int).toNat (rd x3_3 (ji13))).set ((ji13) : Int).toNat (rd x3_3 x6_3)) x5_2 ji13) else ((spec_LoadOf.f ((rd_T35 l0 (rd x3_3 (ji13))).f0) ((rd_T35 l0 (rd x3_3 (ji13))).f1) ((rd_T35 l0 (rd x3_3 (ji13))).f2)).bind fun t314 => ((spec_LoadOf.f ((rd_T35 l0 (rd x3_3 x6_3)).f0) ((rd_T35 l0 (rd x3_3 x6_3)).f1) ((rd_T35 l0 (rd x3_3 x6_3)).f2)).bind fun t315 => (if t314 = t315 then (if ((rd_T35 l0 (rd x3_3 (ji13))).f0) > ((rd_T35 l0 (rd x3_3 x6_3)).f0) then (spec_l15Order.l2 k3 l0 ((x3_3.set (x6_3 : Int).toNat (rd x3_3 (ji13))).set ((ji13) : Int).toNat (rd x3_3 x6_3)) x5_2 ji13) else (spec_l15Order.l2 k3 l0 x3_3 x5_2 ji13)) else (spec_l15Order.l2 k3 l0 x3_3 x5_2 ji13))))) = some r := H
          have A23 := AM A230
          clear A230
          by_cases c24 : t308 > t309
          ·rw [if_pos c24] at H
           have c24b0 := decide_eq_true c24
           clear c24
           obtain ⟨y312, hy312⟩ : ∃ y_ : List Int, y_ = (x3_3.set (x6_3 : Int).toNat (rd x3_3 (ji13))) := ⟨_, rfl⟩
           replace H : (spec_l15Order.l2 k3 l0 (y312.set ((ji13) : Int).toNat (rd x3_3 x6_3)) x5_2 ji13) = some r := by first | (rw [hy312]; first | with_reducible exact H | with_reducible exact OB H) | with_reducible exact OB H | with_reducible exact H | (rw [hy312]; exact H) | exact H
           have Ny312 := AM hy312
           clear hy312
           obtain ⟨y313, hy313⟩ : ∃ y_ : List Int, y_ = (y312.set ((ji13) : Int).toNat (rd x3_3 x6_3)) := ⟨_, rfl⟩
           replace H : (spec_l15Order.l2 k3 l0 y313 x5_2 ji13) = some r := by first | (rw [hy313]; first | with_reducible exact H | with_reducible exact OB H) | with_reducible exact OB H | with_reducible exact H | (rw [hy313]; exact H) | exact H
           have Ny313 := AM hy313
           clear hy313
           have H' := AM H
           clear H
           have p302 : 0 ≤ ((ji13) : Int) := DT
           have q302 : (ji13) < (x3_3.length : Int) := DT
           obtain ⟨ad302, e302, hx302_0⟩ := Kd.at_int (Kd.R_reads' HO_3.out).2.2 (ji13) p302 q302
           cases e302
           replace p302 := eq_true p302
           replace q302 := eq_true q302
           have p303 : 0 ≤ ((rd x3_3 (ji13)) : Int) := DT
           have q303 : (rd x3_3 (ji13)) < (l0.length : Int) := DT
           obtain ⟨ad303, A303_2, c303_2, e303, hx303_0, hx303_1, hx303_2, hl303_2, hi303_2⟩ := at_T35 HR0.out (rd x3_3 (ji13)) p303 q303
           cases e303
           replace hx303_0 := CX HB.out hx303_0
           replace hx303_1 := CX HB.out hx303_1
           replace hx303_2 := CX HB.out hx303_2
           have HR303_2 := AM hi303_2
           have HC303_2 := AM hl303_2
           clear hi303_2 hl303_2
           replace p303 := eq_true p303
           replace q303 := eq_true q303
           try go_wp2_with (first | ((with_reducible refine gate_dst (N := 7) rfl ?_); refine BX 7 #[.int .i64 0, .bool false, .slice none 0 0] 35 ?_; intro gb304 hg w27 hbox hb; have BK304 := AM (hbox); have GW304 : Aside0 (w.heap.size ≤ gb304) := WG hg (BB HB.out); have GE304 := GW304; replace HO_3 := AM (Kd.R_below (RR HO_3.out) hb); replace HB := AM (below_step (BB HB.out) hb); clear hb hbox hg; have hcz28 := blk_cell BK304.out; have hfz28 := blk_frozen BK304.out; have p305 : 0 ≤ (x6_3 : Int) := DT; have q305 : x6_3 < (x3_3.length : Int) := DT; obtain ⟨ad305, e305, hx305_0⟩ := Kd.at_int (Kd.R_reads' HO_3.out).2.2 x6_3 p305 q305; obtain rfl : ad302 = ad305 := (by injection e305); have hn305_0 : ad302.block ≠ gb304 := Kd.own_blk (Kd.R_ne HO_3.out BK304.out (by decide)); have hn305_1 : ad302.block ≠ gb304 := Kd.own_blk (Kd.R_ne HO_3.out BK304.out (by decide)); have hn305_2 : ad302.block ≠ gb304 := Kd.own_blk (Kd.R_ne HO_3.out BK304.out (by decide)); replace hx305_0 := (cell_far (p := ⟨gb304, 0, none⟩) (by first | (rw [add_block]; exact hn305_0) | (show (Addr.add _ _).block ≠ _; rw [add_block]; exact hn305_0) | exact hn305_0) (.int .i64 ((rd_T35 l0 (rd x3_3 (ji13))).f0))).trans hx305_0; replace hx305_0 := (cell_far (p := ⟨gb304, 1, none⟩) (by first | (rw [add_block]; exact hn305_1) | (show (Addr.add _ _).block ≠ _; rw [add_block]; exact hn305_1) | exact hn305_1) (.bool ((rd_T35 l0 (rd x3_3 (ji13))).f1))).trans hx305_0; replace hx305_0 := (cell_far (p := ⟨gb304, 2, none⟩) (by first | (rw [add_block]; exact hn305_2) | (show (Addr.add _ _).block ≠ _; rw [add_block]; exact hn305_2) | exact hn305_2) (.slice A303_2 ((rd_T35 l0 (rd x3_3 (ji13))).f2).length c303_2)).trans hx305_0; clear hn305_0; clear hn305_1; clear hn305_2; replace p305 := eq_true p305; replace q305 := eq_true q305; have p306 : 0 ≤ ((rd x3_3 x6_3) : Int) := DT; have q306 : (rd x3_3 x6_3) < (l0.length : Int) := DT; obtain ⟨ad306, A306_2, c306_2, e306, hx306_0, hx306_1, hx306_2, hl306_2, hi306_2⟩ := at_T35 HR0.out (rd x3_3 x6_3) p306 q306; obtain rfl : ad303 = ad306 := (by injection e306); have hn306_0 : ad303.block ≠ gb304 := Nat.ne_of_lt (Nat.lt_of_lt_of_le (by have := World.block_lt_of_cell? _ _ hx306_0; first | rwa [add_block] at this | exact this) GW304.out); have hn306_1 : ad303.block ≠ gb304 := Nat.ne_of_lt (Nat.lt_of_lt_of_le (by have := World.block_lt_of_cell? _ _ hx306_0; first | rwa [add_block] at this | exact this) GW304.out); have hn306_2 : ad303.block ≠ gb304 := Nat.ne_of_lt (Nat.lt_of_lt_of_le (by have := World.block_lt_of_cell? _ _ hx306_0; first | rwa [add_block] at this | exact this) GW304.out); replace hx306_0 := CX HB.out hx306_0; replace hx306_1 := CX HB.out hx306_1; replace hx306_2 := CX HB.out hx306_2; have HR306_2 := AM hi306_2; have HC306_2 := AM hl306_2; clear hi306_2 hl306_2; replace hx306_0 := (cell_far (p := ⟨gb304, 0, none⟩) (by first | (rw [add_block]; exact hn306_0) | (show (Addr.add _ _).block ≠ _; rw [add_block]; exact hn306_0) | exact hn306_0) (.int .i64 ((rd_T35 l0 (rd x3_3 (ji13))).f0))).trans hx306_0; replace hx306_1 := (cell_far (p := ⟨gb304, 0, none⟩) (by first | (rw [add_block]; exact hn306_0) | (show (Addr.add _ _).block ≠ _; rw [add_block]; exact hn306_0) | exact hn306_0) (.int .i64 ((rd_T35 l0 (rd x3_3 (ji13))).f0))).trans hx306_1; replace hx306_2 := (cell_far (p := ⟨gb304, 0, none⟩) (by first | (rw [add_block]; exact hn306_0) | (show (Addr.add _ _).block ≠ _; rw [add_block]; exact hn306_0) | exact hn306_0) (.int .i64 ((rd_T35 l0 (rd x3_3 (ji13))).f0))).trans hx306_2; replace hx306_0 := (cell_far (p := ⟨gb304, 1, none⟩) (by first | (rw [add_block]; exact hn306_1) | (show (Addr.add _ _).block ≠ _; rw [add_block]; exact hn306_1) | exact hn306_1) (.bool ((rd_T35 l0 (rd x3_3 (ji13))).f1))).trans hx306_0; replace hx306_1 := (cell_far (p := ⟨gb304, 1, none⟩) (by first | (rw [add_block]; exact hn306_1) | (show (Addr.add _ _).block ≠ _; rw [add_block]; exact hn306_1) | exact hn306_1) (.bool ((rd_T35 l0 (rd x3_3 (ji13))).f1))).trans hx306_1; replace hx306_2 := (cell_far (p := ⟨gb304, 1, none⟩) (by first | (rw [add_block]; exact hn306_1) | (show (Addr.add _ _).block ≠ _; rw [add_block]; exact hn306_1) | exact hn306_1) (.bool ((rd_T35 l0 (rd x3_3 (ji13))).f1))).trans hx306_2; replace hx306_0 := (cell_far (p := ⟨gb304, 2, none⟩) (by first | (rw [add_block]; exact hn306_2) | (show (Addr.add _ _).block ≠ _; rw [add_block]; exact hn306_2) | exact hn306_2) (.slice A303_2 ((rd_T35 l0 (rd x3_3 (ji13))).f2).length c303_2)).trans hx306_0; replace hx306_1 := (cell_far (p := ⟨gb304, 2, none⟩) (by first | (rw [add_block]; exact hn306_2) | (show (Addr.add _ _).block ≠ _; rw [add_block]; exact hn306_2) | exact hn306_2) (.slice A303_2 ((rd_T35 l0 (rd x3_3 (ji13))).f2).length c303_2)).trans hx306_1; replace hx306_2 := (cell_far (p := ⟨gb304, 2, none⟩) (by first | (rw [add_block]; exact hn306_2) | (show (Addr.add _ _).block ≠ _; rw [add_block]; exact hn306_2) | exact hn306_2) (.slice A303_2 ((rd_T35 l0 (rd x3_3 (ji13))).f2).length c303_2)).trans hx306_2; clear hn306_0; clear hn306_1; clear hn306_2; replace p306 := eq_true p306; replace q306 := eq_true q306) | ((with_reducible refine gate_dst (N := 8) rfl ?_); refine BX 8 #[.int .i64 0, .bool false, .slice none 0 0] 35 ?_; intro gb307 hg w29 hbox hb; have n0_ := AM (Kd.R_below (by (with_reducible repeat (first | apply Kd.R_alloc | apply Kd.R_drewN | apply Kd.R_drew)); exact (Kd.R_mono (Kd.R_far (p := ⟨gb304, 2, none⟩) (Kd.R_far (p := ⟨gb304, 1, none⟩) (Kd.R_far (p := ⟨gb304, 0, none⟩) (Kd.R_types HO_3.out BK304.out (by decide)) (fun _ hk => hk.2) (.int .i64 ((rd_T35 l0 (rd x3_3 (ji13))).f0))) (fun _ hk => hk.2) (.bool ((rd_T35 l0 (rd x3_3 (ji13))).f1))) (fun _ hk => hk.2) (.slice A303_2 ((rd_T35 l0 (rd x3_3 (ji13))).f2).length c303_2)) (fun _ h_ => h_.1))) hb); have n1_ := AM (blk_below (g := gb304) (o := .cells #[.int .i64 ((rd_T35 l0 (rd x3_3 (ji13))).f0), .bool ((rd_T35 l0 (rd x3_3 (ji13))).f1), .slice A303_2 ((rd_T35 l0 (rd x3_3 (ji13))).f2).length c303_2] 35 (0, 0)) (by refine BD ?_; refine blk_put (cs := #[.int .i64 ((rd_T35 l0 (rd x3_3 (ji13))).f0), .bool ((rd_T35 l0 (rd x3_3 (ji13))).f1), .slice none 0 0]) ?_ 2 _ rfl; refine BD ?_; refine blk_put (cs := #[.int .i64 ((rd_T35 l0 (rd x3_3 (ji13))).f0), .bool false, .slice none 0 0]) ?_ 1 _ rfl; refine BD ?_; refine blk_put (cs := #[.int .i64 0, .bool false, .slice none 0 0]) ?_ 0 _ rfl; refine BD ?_; exact BK304.out) hb); have n2_ := AM (below_step (BB1 HB.out GE304.out) hb); have n3_ := AM (hbox); have n4_ : Aside0 (w.heap.size ≤ gb307) := WG hg (BB1 HB.out GE304.out); have n5_ := n4_; have n6_ := AM ((by rw [hg]; exact Nat.ne_of_lt (blk_lt (g := gb304) (o := .cells #[.int .i64 ((rd_T35 l0 (rd x3_3 (ji13))).f0), .bool ((rd_T35 l0 (rd x3_3 (ji13))).f1), .slice A303_2 ((rd_T35 l0 (rd x3_3 (ji13))).f2).length c303_2] 35 (0, 0)) (by refine BD ?_; refine blk_put (cs := #[.int .i64 ((rd_T35 l0 (rd x3_3 (ji13))).f0), .bool ((rd_T35 l0 (rd x3_3 (ji13))).f1), .slice none 0 0]) ?_ 2 _ rfl; refine BD ?_; refine blk_put (cs := #[.int .i64 ((rd_T35 l0 (rd x3_3 (ji13))).f0), .bool false, .slice none 0 0]) ?_ 1 _ rfl; refine BD ?_; refine blk_put (cs := #[.int .i64 0, .bool false, .slice none 0 0]) ?_ 0 _ rfl; refine BD ?_; exact BK304.out)) : gb304 ≠ gb307)); have n7_ := AM ((by rw [hg]; exact Nat.ne_of_gt (blk_lt (g := gb304) (o := .cells #[.int .i64 ((rd_T35 l0 (rd x3_3 (ji13))).f0), .bool ((rd_T35 l0 (rd x3_3 (ji13))).f1), .slice A303_2 ((rd_T35 l0 (rd x3_3 (ji13))).f2).length c303_2] 35 (0, 0)) (by refine BD ?_; refine blk_put (cs := #[.int .i64 ((rd_T35 l0 (rd x3_3 (ji13))).f0), .bool ((rd_T35 l0 (rd x3_3 (ji13))).f1), .slice none 0 0]) ?_ 2 _ rfl; refine BD ?_; refine blk_put (cs := #[.int .i64 ((rd_T35 l0 (rd x3_3 (ji13))).f0), .bool false, .slice none 0 0]) ?_ 1 _ rfl; refine BD ?_; refine blk_put (cs := #[.int .i64 0, .bool false, .slice none 0 0]) ?_ 0 _ rfl; refine BD ?_; exact BK304.out)) : gb307 ≠ gb304)); clear HO_3; clear BK304; clear HB; have HO_3 := n0_; have BK304 := n1_; have HB := n2_; have BK307 := n3_; have GW307 := n4_; have GE307 := n5_; have NB304_307 := n6_; have NB307_304 := n7_; clear n0_ n1_ n2_ n3_ n4_ n5_ n6_ n7_; clear hb hbox hg; have hnb30 := NB307_304.out; have hnc30 := NB304_307.out; have hcz31 := blk_cell BK307.out; have hfz31 := blk_frozen BK307.out))
           obtain ⟨w32, hw_⟩ : ∃ w_, w_ = (((w29.setCell ⟨gb307, 0, none⟩ (.int .i64 ((rd_T35 l0 (rd x3_3 x6_3)).f0))).setCell ⟨gb307, 1, none⟩ (.bool ((rd_T35 l0 (rd x3_3 x6_3)).f1))).setCell ⟨gb307, 2, none⟩ (.slice A306_2 ((rd_T35 l0 (rd x3_3 x6_3)).f2).length c306_2)) := ⟨_, rfl⟩
           rw [← hw_]
           have n0_ : Aside0 (Kd.R (Kd.int .i64) 3 w32 w.heap.size (fun _ => True) (.slice (some ad302) x3_3.length co11) x3_3) := ⟨by rw [hw_]; (with_reducible repeat (first | apply Kd.R_alloc | apply Kd.R_drewN | apply Kd.R_drew)); exact Kd.R_mono (Kd.R_far (p := ⟨gb307, 2, none⟩) (Kd.R_far (p := ⟨gb307, 1, none⟩) (Kd.R_far (p := ⟨gb307, 0, none⟩) (Kd.R_types HO_3.out BK307.out (by decide)) (fun _ hk => hk.2) (.int .i64 ((rd_T35 l0 (rd x3_3 x6_3)).f0))) (fun _ hk => hk.2) (.bool ((rd_T35 l0 (rd x3_3 x6_3)).f1))) (fun _ hk => hk.2) (.slice A306_2 ((rd_T35 l0 (rd x3_3 x6_3)).f2).length c306_2)) (fun _ hk => trivial)⟩
           have n1_ : Aside0 (w32.heap[gb304]? = some (.cells #[.int .i64 ((rd_T35 l0 (rd x3_3 (ji13))).f0), .bool ((rd_T35 l0 (rd x3_3 (ji13))).f1), .slice A303_2 ((rd_T35 l0 (rd x3_3 (ji13))).f2).length c303_2] 35 (0, 0))) := ⟨by rw [hw_]; refine BD ?_; refine blk_far ?_ NB304_307.out _; refine BD ?_; refine blk_far ?_ NB304_307.out _; refine BD ?_; refine blk_far ?_ NB304_307.out _; refine BD ?_; exact BK304.out⟩
           have n2_ : Aside0 (w32.heap[gb307]? = some (.cells #[.int .i64 ((rd_T35 l0 (rd x3_3 x6_3)).f0), .bool ((rd_T35 l0 (rd x3_3 x6_3)).f1), .slice A306_2 ((rd_T35 l0 (rd x3_3 x6_3)).f2).length c306_2] 35 (0, 0))) := ⟨by rw [hw_]; refine BD ?_; refine blk_put (cs := #[.int .i64 ((rd_T35 l0 (rd x3_3 x6_3)).f0), .bool ((rd_T35 l0 (rd x3_3 x6_3)).f1), .slice none 0 0]) ?_ 2 _ rfl; refine BD ?_; refine blk_put (cs := #[.int .i64 ((rd_T35 l0 (rd x3_3 x6_3)).f0), .bool false, .slice none 0 0]) ?_ 1 _ rfl; refine BD ?_; refine blk_put (cs := #[.int .i64 0, .bool false, .slice none 0 0]) ?_ 0 _ rfl; refine BD ?_; exact BK307.out⟩
           have n3_ : Aside0 (Below w.heap.size w w32) := ⟨by rw [hw_]; exact (BB2 HB.out GE304.out GE307.out)⟩
           (try clear HO_3)
           (try clear BK304)
           (try clear BK307)
           (try clear HB)
           clear hw_
           have HO_3 := n0_
           have BK304 := n1_
           have BK307 := n2_
           have HB := n3_
           clear n0_ n1_ n2_ n3_
           replace HO_3 := AM (Kd.R_drew HO_3.out); replace BK304 := AM (blk_drew BK304.out); replace BK307 := AM (blk_drew BK307.out); replace HB := AM (below_drew1 HB.out)
           refine start_ (n := 19) (S := fun w' => w'.cell? ⟨gb304, 0, none⟩ = some (.int .i64 ((rd_T35 l0 (rd x3_3 (ji13))).f0)) ∧ w'.cell? ⟨gb304, 1, none⟩ = some (.bool ((rd_T35 l0 (rd x3_3 (ji13))).f1)) ∧ w'.cell? ⟨gb304, 2, none⟩ = some (.slice A303_2 ((rd_T35 l0 (rd x3_3 (ji13))).f2).length c303_2) ∧ w'.cell? ⟨gb307, 0, none⟩ = some (.int .i64 ((rd_T35 l0 (rd x3_3 x6_3)).f0)) ∧ w'.cell? ⟨gb307, 1, none⟩ = some (.bool ((rd_T35 l0 (rd x3_3 x6_3)).f1)) ∧ w'.cell? ⟨gb307, 2, none⟩ = some (.slice A306_2 ((rd_T35 l0 (rd x3_3 x6_3)).f2).length c306_2)) (ds := []) (.replicate 19 false) (by kernel_rfl) rfl rfl ⟨(blk_cell BK304.out 0).trans rfl, (blk_cell BK304.out 1).trans rfl, (blk_cell BK304.out 2).trans rfl, (blk_cell BK307.out 0).trans rfl, (blk_cell BK307.out 1).trans rfl, (blk_cell BK307.out 2).trans rfl⟩ (fun hHeld => ?_); refine with_tabW spec_l15Order.tab15 spec_l15Order.bits15 (fun HT_ HW_ => ?_)
           generalize w32.drew = w33 at HO_3 BK304 BK307 HB hHeld ⊢
           refine TH 0 52 HT_.out HW_.out hHeld ?_
           refine TH 2 54 HT_.out HW_.out hHeld ?_
           refine OH 1 (some 53) HT_.out (fun K hK => ?_)
           refine goes_ Try.func123 (by kernel_rfl) rfl #[.agg #[.int .i64 ((rd_T35 l0 (rd x3_3 (ji13))).f0), .bool ((rd_T35 l0 (rd x3_3 (ji13))).f1), .slice A303_2 ((rd_T35 l0 (rd x3_3 (ji13))).f2).length c303_2]] (by rfl) rfl rfl (by (try simp only [List.map_toArray, List.map_cons, List.map_nil]); first | done | (simp only [hji13]; rfl) | rfl | (simp only [List.length_drop, List.length_take]; rfl)) ?_
           with_reducible refine (spec_LoadOf.calls ((rd_T35 l0 (rd x3_3 (ji13))).f0) ((rd_T35 l0 (rd x3_3 (ji13))).f1) _ _ ((rd_T35 l0 (rd x3_3 (ji13))).f2) t308 _ ?side1 ?side2 A22.out).mono ?_
           (case side1 => exact CC (Kd.C_below HR303_2.out HB.out))
           (case side2 => exact HC303_2.out)
           rintro e w34 ⟨rfl, hb⟩
           refine ⟨_, rfl, ?_⟩
           replace HO_3 := AM (Kd.R_below (RR HO_3.out) hb); replace BK304 := AM (KB BK304.out hb); replace BK307 := AM (KB BK307.out hb); replace HB := AM (below_step (BB2 HB.out GE304.out GE307.out) hb)
           (try clear hb)
           (try clear hb2)
           (try clear hk)
           (try clear hi)
           refine hK.out _ _ ⟨(blk_cell BK304.out 0).trans rfl, (blk_cell BK304.out 1).trans rfl, (blk_cell BK304.out 2).trans rfl, (blk_cell BK307.out 0).trans rfl, (blk_cell BK307.out 1).trans rfl, (blk_cell BK307.out 2).trans rfl⟩ (fun hHeld => ?_)
           clear hK K
           refine NM 53 ?_
           refine OH 3 (some 55) HT_.out (fun K hK => ?_)
           refine GO Try.func123 #[.agg #[.int .i64 ((rd_T35 l0 (rd x3_3 x6_3)).f0), .bool ((rd_T35 l0 (rd x3_3 x6_3)).f1), .slice A306_2 ((rd_T35 l0 (rd x3_3 x6_3)).f2).length c306_2]] ?_
           with_reducible refine (spec_LoadOf.calls ((rd_T35 l0 (rd x3_3 x6_3)).f0) ((rd_T35 l0 (rd x3_3 x6_3)).f1) _ _ ((rd_T35 l0 (rd x3_3 x6_3)).f2) t309 _ ?side1 ?side2 A23.out).mono ?_
           (case side1 => exact CC (Kd.C_below HR306_2.out HB.out))
           (case side2 => exact HC306_2.out)
           rintro e w35 ⟨rfl, hb⟩
           refine ⟨_, rfl, ?_⟩
           replace HO_3 := AM (Kd.R_below (RR HO_3.out) hb); replace BK304 := AM (KB BK304.out hb); replace BK307 := AM (KB BK307.out hb); replace HB := AM (below_step (BB2 HB.out GE304.out GE307.out) hb)
           (try clear hb)
           (try clear hb2)
           (try clear hk)
           (try clear hi)
           refine hK.out _ _ ⟨(blk_cell BK304.out 0).trans rfl, (blk_cell BK304.out 1).trans rfl, (blk_cell BK304.out 2).trans rfl, (blk_cell BK307.out 0).trans rfl, (blk_cell BK307.out 1).trans rfl, (blk_cell BK307.out 2).trans rfl⟩ (fun hHeld => ?_)
           clear hK K
           refine NM 55 ?_
           refine PH 4 56 HT_.out ?_
           refine PH 5 57 HT_.out ?_
           refine PO 6 58 HT_.out ?_
           refine PO 7 59 HT_.out ?_
           refine PO 8 60 HT_.out ?_
           refine PO 9 61 HT_.out ?_
           refine PO 10 62 HT_.out ?_
           refine PO 11 63 HT_.out ?_
           refine PO 12 64 HT_.out ?_
           refine PO 13 65 HT_.out ?_
           refine PO 14 66 HT_.out ?_
           refine PO 15 67 HT_.out ?_
           refine PO 16 68 HT_.out ?_
           refine PO 17 69 HT_.out ?_
           refine PH 18 70 HT_.out ?_
           refine done_ (done_of HT_.out (by kernel_rfl)) ?_
           have p310 : 0 ≤ (x6_3 : Int) := DT
           have q310 : x6_3 < (x3_3.length : Int) := DT
           obtain ⟨ad310, e310, hx310_0⟩ := Kd.at_int (Kd.R_reads' HO_3.out).2.2 x6_3 p310 q310
           obtain rfl : ad302 = ad310 := (by injection e310)
           replace p310 := eq_true p310
           replace q310 := eq_true q310
           have p311 : 0 ≤ ((ji13) : Int) := DT
           have q311 : (ji13) < (x3_3.length : Int) := DT
           obtain ⟨ad311, e311, hx311_0⟩ := Kd.at_int (Kd.R_reads' HO_3.out).2.2 (ji13) p311 q311
           obtain rfl : ad302 = ad311 := (by injection e311)
           replace p311 := eq_true p311
           replace q311 := eq_true q311
           have p25 : 0 ≤ (x6_3 : Int) := DT
           have q25 : (x6_3 : Int) < ((x3_3.length : Int) : Int) := DT
           obtain ⟨go25, co25, eo25, gb25, gl25, cl25, HG25⟩ := Kd.R_form HO_3.out (by omega)
           (first | cases eo25 | (injection eo25 with ea_ en_ ec_; (first | subst ea_ | (injection ea_ with ea_; subst ea_)); subst ec_; clear en_))
           have GB25 := AM gb25
           have GG25 := AM HG25
           clear gb25 gl25 HG25
           (first | simp only [add_plain] at hx302_0 | skip)
           (first | simp only [add_plain] at hx305_0 | skip)
           (first | simp only [add_plain] at hx310_0 | skip)
           (first | simp only [add_plain] at hx311_0 | skip)
           obtain ⟨hx25_0, hf25_0⟩ := Kd.R_celln 0 HO_3.out (x6_3 : Int) p25 q25
           replace p25 := eq_true p25
           replace q25 := eq_true q25
           obtain ⟨hy36_, hz36_⟩ := Kd.R_celln 0 HO_3.out (x6_3 : Int) DT DT
           have HP36 := Kd.R_putg HO_3.out (x6_3 : Int) (rd x3_3 (ji13))
           try go_wp2_with (first | ((with_reducible refine gate_store (t := 3) (p := 82) rfl ?_); refine store_event (t := 3) (p := 82) (v := ?vo_w37) (w1 := (w35.setCell ⟨go25, (x6_3 : Int).toNat, none⟩ (.int .i64 (rd x3_3 (ji13))))) ?hg ?ho ?hn ?hr ?_; (case ho => rfl); (case hg => rfl); (case hn => rfl); (case hr => first | (go_simp; done) | (go_simp; rfl)); intro w37 hw; have hg : w35.grownBy w37 (some go25) := (by rw [hw]; exact HP36.2); have hp_ : Kd.R (Kd.int .i64) 3 w37 w.heap.size (fun _ => True) (.slice (some ⟨go25, 0, none⟩) x3_3.length co11) y312 := (by rw [hw, Ny312.out]; exact HP36.1); clear HP36; have n0_ := AM (hp_); have n1_ := AM (blk_grown (g := gb304) (o := .cells #[.int .i64 ((rd_T35 l0 (rd x3_3 (ji13))).f0), .bool ((rd_T35 l0 (rd x3_3 (ji13))).f1), .slice A303_2 ((rd_T35 l0 (rd x3_3 (ji13))).f2).length c303_2] 35 (0, 0)) (BD BK304.out) hg (Kd.R_ne HO_3.out BK304.out (by decide))); have n2_ := AM (blk_grown (g := gb307) (o := .cells #[.int .i64 ((rd_T35 l0 (rd x3_3 x6_3)).f0), .bool ((rd_T35 l0 (rd x3_3 x6_3)).f1), .slice A306_2 ((rd_T35 l0 (rd x3_3 x6_3)).f2).length c306_2] 35 (0, 0)) (BD BK307.out) hg (Kd.R_ne HO_3.out BK307.out (by decide))); have n3_ := AM ((by rw [hw]; exact below_set (HB.out) GB25.out : Below w.heap.size w w37)); clear HO_3; clear BK304; clear BK307; clear HB; have HO_3 := n0_; have BK304 := n1_; have BK307 := n2_; have HB := n3_; clear n0_ n1_ n2_ n3_; clear hg hw hp_; have p26 : 0 ≤ ((ji13) : Int) := DT; have q26 : ((ji13) : Int) < ((x3_3.length : Int) : Int) := DT; obtain ⟨hx26_0, hf26_0⟩ := Kd.R_celln 0 HO_3.out ((ji13) : Int) p26 q26; replace p26 := eq_true p26; replace q26 := eq_true q26; obtain ⟨hy38_, hz38_⟩ := Kd.R_celln 0 HO_3.out ((ji13) : Int) DT DT; have HP38 := Kd.R_putg HO_3.out ((ji13) : Int) (rd x3_3 x6_3)) | ((with_reducible refine gate_store (t := 3) (p := 87) rfl ?_); refine store_event (t := 3) (p := 87) (v := ?vo_w39) (w1 := (w37.setCell ⟨go25, ((ji13) : Int).toNat, none⟩ (.int .i64 (rd x3_3 x6_3)))) ?hg ?ho ?hn ?hr ?_; (case ho => rfl); (case hg => rfl); (case hn => rfl); (case hr => first | (go_simp; done) | (go_simp; rfl)); intro w39 hw; have hg : w37.grownBy w39 (some go25) := (by rw [hw]; exact HP38.2); have hp_ : Kd.R (Kd.int .i64) 3 w39 w.heap.size (fun _ => True) (.slice (some ⟨go25, 0, none⟩) x3_3.length co11) y313 := (by rw [hw, Ny313.out]; exact HP38.1); clear HP38; have n0_ := AM (hp_); have n1_ := AM (blk_grown (g := gb304) (o := .cells #[.int .i64 ((rd_T35 l0 (rd x3_3 (ji13))).f0), .bool ((rd_T35 l0 (rd x3_3 (ji13))).f1), .slice A303_2 ((rd_T35 l0 (rd x3_3 (ji13))).f2).length c303_2] 35 (0, 0)) (BD BK304.out) hg (Kd.R_ne HO_3.out BK304.out (by decide))); have n2_ := AM (blk_grown (g := gb307) (o := .cells #[.int .i64 ((rd_T35 l0 (rd x3_3 x6_3)).f0), .bool ((rd_T35 l0 (rd x3_3 x6_3)).f1), .slice A306_2 ((rd_T35 l0 (rd x3_3 x6_3)).f2).length c306_2] 35 (0, 0)) (BD BK307.out) hg (Kd.R_ne HO_3.out BK307.out (by decide))); have n3_ := AM ((by rw [hw]; exact below_set (HB.out) GB25.out : Below w.heap.size w w39)); clear HO_3; clear BK304; clear BK307; clear HB; have HO_3 := n0_; have BK304 := n1_; have BK307 := n2_; have HB := n3_; clear n0_ n1_ n2_ n3_; clear hg hw hp_))
           (try simp only [← hl3_3])
           go_roundg k3
           case measure => have := HK1.out; have := HK2.out; have := HK3.out; omega
           case rel => exact ⟨(y313), (ji13), (by first | rfl | (simp; done) | (simp only [← hji13] <;> (first | rfl | simp)) | (simp [*]; done)), H', ⟨by have := HK1.out; have := HK2.out; have := HK3.out; omega⟩, ⟨by (try simp only [hl3_3]); (with_reducible repeat (first | apply Kd.R_alloc | apply Kd.R_drewN | apply Kd.R_drew)); exact HO_3.out⟩, ⟨(BB2 HB.out GE304.out GE307.out)⟩⟩
          ·rw [if_neg c24] at H
           have c24b0 := decide_eq_false c24
           clear c24
           replace H := Option.bind_eq_some_iff.mp H
           obtain ⟨t314, A400, H⟩ := H
           replace H : ((spec_LoadOf.f ((rd_T35 l0 (rd x3_3 x6_3)).f0) ((rd_T35 l0 (rd x3_3 x6_3)).f1) ((rd_T35 l0 (rd x3_3 x6_3)).f2)).bind fun t315 => (if t314 = t315 then (if ((rd_T35 l0 (rd x3_3 (ji13))).f0) > ((rd_T35 l0 (rd x3_3 x6_3)).f0) then (spec_l15Order.l2 k3 l0 ((x3_3.set (x6_3 : Int).toNat (rd x3_3 (ji13))).set ((ji13) : Int).toNat (rd x3_3 x6_3)) x5_2 ji13) else (spec_l15Order.l2 k3 l0 x3_3 x5_2 ji13)) else (spec_l15Order.l2 k3 l0 x3_3 x5_2 ji13))) = some r := H
           have A40 := AM A400
           clear A400
           replace H := Option.bind_eq_some_iff.mp H
           obtain ⟨t315, A410, H⟩ := H
           replace H : (if t314 = t315 then (if ((rd_T35 l0 (rd x3_3 (ji13))).f0) > ((rd_T35 l0 (rd x3_3 x6_3)).f0) then (spec_l15Order.l2 k3 l0 ((x3_3.set (x6_3 : Int).toNat (rd x3_3 (ji13))).set ((ji13) : Int).toNat (rd x3_3 x6_3)) x5_2 ji13) else (spec_l15Order.l2 k3 l0 x3_3 x5_2 ji13)) else (spec_l15Order.l2 k3 l0 x3_3 x5_2 ji13)) = some r := H
           have A41 := AM A410
           clear A410
           by_cases c42 : t314 = t315
           ·rw [if_pos c42] at H
            have c42b0 : (t314 == t315) = true := beq_iff_eq.mpr c42
            have c42b1 : (t314 != t315) = false := bne_eq_false_iff_eq.mpr c42
            clear c42
            by_cases c43 : ((rd_T35 l0 (rd x3_3 (ji13))).f0) > ((rd_T35 l0 (rd x3_3 x6_3)).f0)
            ·rw [if_pos c43] at H
             have c43b0 := decide_eq_true c43
             clear c43
             obtain ⟨y318, hy318⟩ : ∃ y_ : List Int, y_ = (x3_3.set (x6_3 : Int).toNat (rd x3_3 (ji13))) := ⟨_, rfl⟩
             replace H : (spec_l15Order.l2 k3 l0 (y318.set ((ji13) : Int).toNat (rd x3_3 x6_3)) x5_2 ji13) = some r := by first | (rw [hy318]; first | with_reducible exact H | with_reducible exact OB H) | with_reducible exact OB H | with_reducible exact H | (rw [hy318]; exact H) | exact H
             have Ny318 := AM hy318
             clear hy318
             obtain ⟨y319, hy319⟩ : ∃ y_ : List Int, y_ = (y318.set ((ji13) : Int).toNat (rd x3_3 x6_3)) := ⟨_, rfl⟩
             replace H : (spec_l15Order.l2 k3 l0 y319 x5_2 ji13) = some r := by first | (rw [hy319]; first | with_reducible exact H | with_reducible exact OB H) | with_reducible exact OB H | with_reducible exact H | (rw [hy319]; exact H) | exact H
             have Ny319 := AM hy319
             clear hy319
             have H' := AM H
             clear H
             have p302 : 0 ≤ ((ji13) : Int) := DT
             have q302 : (ji13) < (x3_3.length : Int) := DT
             obtain ⟨ad302, e302, hx302_0⟩ := Kd.at_int (Kd.R_reads' HO_3.out).2.2 (ji13) p302 q302
             cases e302
             replace p302 := eq_true p302
             replace q302 := eq_true q302
             have p303 : 0 ≤ ((rd x3_3 (ji13)) : Int) := DT
             have q303 : (rd x3_3 (ji13)) < (l0.length : Int) := DT
             obtain ⟨ad303, A303_2, c303_2, e303, hx303_0, hx303_1, hx303_2, hl303_2, hi303_2⟩ := at_T35 HR0.out (rd x3_3 (ji13)) p303 q303
             cases e303
             replace hx303_0 := CX HB.out hx303_0
             replace hx303_1 := CX HB.out hx303_1
             replace hx303_2 := CX HB.out hx303_2
             have HR303_2 := AM hi303_2
             have HC303_2 := AM hl303_2
             clear hi303_2 hl303_2
             replace p303 := eq_true p303
             replace q303 := eq_true q303
             try go_wp2_with (first | ((with_reducible refine gate_dst (N := 7) rfl ?_); refine BX 7 #[.int .i64 0, .bool false, .slice none 0 0] 35 ?_; intro gb304 hg w46 hbox hb; have BK304 := AM (hbox); have GW304 : Aside0 (w.heap.size ≤ gb304) := WG hg (BB HB.out); have GE304 := GW304; replace HO_3 := AM (Kd.R_below (RR HO_3.out) hb); replace HB := AM (below_step (BB HB.out) hb); clear hb hbox hg; have hcz47 := blk_cell BK304.out; have hfz47 := blk_frozen BK304.out; have p305 : 0 ≤ (x6_3 : Int) := DT; have q305 : x6_3 < (x3_3.length : Int) := DT; obtain ⟨ad305, e305, hx305_0⟩ := Kd.at_int (Kd.R_reads' HO_3.out).2.2 x6_3 p305 q305; obtain rfl : ad302 = ad305 := (by injection e305); have hn305_0 : ad302.block ≠ gb304 := Kd.own_blk (Kd.R_ne HO_3.out BK304.out (by decide)); have hn305_1 : ad302.block ≠ gb304 := Kd.own_blk (Kd.R_ne HO_3.out BK304.out (by decide)); have hn305_2 : ad302.block ≠ gb304 := Kd.own_blk (Kd.R_ne HO_3.out BK304.out (by decide)); replace hx305_0 := (cell_far (p := ⟨gb304, 0, none⟩) (by first | (rw [add_block]; exact hn305_0) | (show (Addr.add _ _).block ≠ _; rw [add_block]; exact hn305_0) | exact hn305_0) (.int .i64 ((rd_T35 l0 (rd x3_3 (ji13))).f0))).trans hx305_0; replace hx305_0 := (cell_far (p := ⟨gb304, 1, none⟩) (by first | (rw [add_block]; exact hn305_1) | (show (Addr.add _ _).block ≠ _; rw [add_block]; exact hn305_1) | exact hn305_1) (.bool ((rd_T35 l0 (rd x3_3 (ji13))).f1))).trans hx305_0; replace hx305_0 := (cell_far (p := ⟨gb304, 2, none⟩) (by first | (rw [add_block]; exact hn305_2) | (show (Addr.add _ _).block ≠ _; rw [add_block]; exact hn305_2) | exact hn305_2) (.slice A303_2 ((rd_T35 l0 (rd x3_3 (ji13))).f2).length c303_2)).trans hx305_0; clear hn305_0; clear hn305_1; clear hn305_2; replace p305 := eq_true p305; replace q305 := eq_true q305; have p306 : 0 ≤ ((rd x3_3 x6_3) : Int) := DT; have q306 : (rd x3_3 x6_3) < (l0.length : Int) := DT; obtain ⟨ad306, A306_2, c306_2, e306, hx306_0, hx306_1, hx306_2, hl306_2, hi306_2⟩ := at_T35 HR0.out (rd x3_3 x6_3) p306 q306; obtain rfl : ad303 = ad306 := (by injection e306); have hn306_0 : ad303.block ≠ gb304 := Nat.ne_of_lt (Nat.lt_of_lt_of_le (by have := World.block_lt_of_cell? _ _ hx306_0; first | rwa [add_block] at this | exact this) GW304.out); have hn306_1 : ad303.block ≠ gb304 := Nat.ne_of_lt (Nat.lt_of_lt_of_le (by have := World.block_lt_of_cell? _ _ hx306_0; first | rwa [add_block] at this | exact this) GW304.out); have hn306_2 : ad303.block ≠ gb304 := Nat.ne_of_lt (Nat.lt_of_lt_of_le (by have := World.block_lt_of_cell? _ _ hx306_0; first | rwa [add_block] at this | exact this) GW304.out); replace hx306_0 := CX HB.out hx306_0; replace hx306_1 := CX HB.out hx306_1; replace hx306_2 := CX HB.out hx306_2; have HR306_2 := AM hi306_2; have HC306_2 := AM hl306_2; clear hi306_2 hl306_2; replace hx306_0 := (cell_far (p := ⟨gb304, 0, none⟩) (by first | (rw [add_block]; exact hn306_0) | (show (Addr.add _ _).block ≠ _; rw [add_block]; exact hn306_0) | exact hn306_0) (.int .i64 ((rd_T35 l0 (rd x3_3 (ji13))).f0))).trans hx306_0; replace hx306_1 := (cell_far (p := ⟨gb304, 0, none⟩) (by first | (rw [add_block]; exact hn306_0) | (show (Addr.add _ _).block ≠ _; rw [add_block]; exact hn306_0) | exact hn306_0) (.int .i64 ((rd_T35 l0 (rd x3_3 (ji13))).f0))).trans hx306_1; replace hx306_2 := (cell_far (p := ⟨gb304, 0, none⟩) (by first | (rw [add_block]; exact hn306_0) | (show (Addr.add _ _).block ≠ _; rw [add_block]; exact hn306_0) | exact hn306_0) (.int .i64 ((rd_T35 l0 (rd x3_3 (ji13))).f0))).trans hx306_2; replace hx306_0 := (cell_far (p := ⟨gb304, 1, none⟩) (by first | (rw [add_block]; exact hn306_1) | (show (Addr.add _ _).block ≠ _; rw [add_block]; exact hn306_1) | exact hn306_1) (.bool ((rd_T35 l0 (rd x3_3 (ji13))).f1))).trans hx306_0; replace hx306_1 := (cell_far (p := ⟨gb304, 1, none⟩) (by first | (rw [add_block]; exact hn306_1) | (show (Addr.add _ _).block ≠ _; rw [add_block]; exact hn306_1) | exact hn306_1) (.bool ((rd_T35 l0 (rd x3_3 (ji13))).f1))).trans hx306_1; replace hx306_2 := (cell_far (p := ⟨gb304, 1, none⟩) (by first | (rw [add_block]; exact hn306_1) | (show (Addr.add _ _).block ≠ _; rw [add_block]; exact hn306_1) | exact hn306_1) (.bool ((rd_T35 l0 (rd x3_3 (ji13))).f1))).trans hx306_2; replace hx306_0 := (cell_far (p := ⟨gb304, 2, none⟩) (by first | (rw [add_block]; exact hn306_2) | (show (Addr.add _ _).block ≠ _; rw [add_block]; exact hn306_2) | exact hn306_2) (.slice A303_2 ((rd_T35 l0 (rd x3_3 (ji13))).f2).length c303_2)).trans hx306_0; replace hx306_1 := (cell_far (p := ⟨gb304, 2, none⟩) (by first | (rw [add_block]; exact hn306_2) | (show (Addr.add _ _).block ≠ _; rw [add_block]; exact hn306_2) | exact hn306_2) (.slice A303_2 ((rd_T35 l0 (rd x3_3 (ji13))).f2).length c303_2)).trans hx306_1; replace hx306_2 := (cell_far (p := ⟨gb304, 2, none⟩) (by first | (rw [add_block]; exact hn306_2) | (show (Addr.add _ _).block ≠ _; rw [add_block]; exact hn306_2) | exact hn306_2) (.slice A303_2 ((rd_T35 l0 (rd x3_3 (ji13))).f2).length c303_2)).trans hx306_2; clear hn306_0; clear hn306_1; clear hn306_2; replace p306 := eq_true p306; replace q306 := eq_true q306) | ((with_reducible refine gate_dst (N := 8) rfl ?_); refine BX 8 #[.int .i64 0, .bool false, .slice none 0 0] 35 ?_; intro gb307 hg w48 hbox hb; have n0_ := AM (Kd.R_below (by (with_reducible repeat (first | apply Kd.R_alloc | apply Kd.R_drewN | apply Kd.R_drew)); exact (Kd.R_mono (Kd.R_far (p := ⟨gb304, 2, none⟩) (Kd.R_far (p := ⟨gb304, 1, none⟩) (Kd.R_far (p := ⟨gb304, 0, none⟩) (Kd.R_types HO_3.out BK304.out (by decide)) (fun _ hk => hk.2) (.int .i64 ((rd_T35 l0 (rd x3_3 (ji13))).f0))) (fun _ hk => hk.2) (.bool ((rd_T35 l0 (rd x3_3 (ji13))).f1))) (fun _ hk => hk.2) (.slice A303_2 ((rd_T35 l0 (rd x3_3 (ji13))).f2).length c303_2)) (fun _ h_ => h_.1))) hb); have n1_ := AM (blk_below (g := gb304) (o := .cells #[.int .i64 ((rd_T35 l0 (rd x3_3 (ji13))).f0), .bool ((rd_T35 l0 (rd x3_3 (ji13))).f1), .slice A303_2 ((rd_T35 l0 (rd x3_3 (ji13))).f2).length c303_2] 35 (0, 0)) (by refine BD ?_; refine blk_put (cs := #[.int .i64 ((rd_T35 l0 (rd x3_3 (ji13))).f0), .bool ((rd_T35 l0 (rd x3_3 (ji13))).f1), .slice none 0 0]) ?_ 2 _ rfl; refine BD ?_; refine blk_put (cs := #[.int .i64 ((rd_T35 l0 (rd x3_3 (ji13))).f0), .bool false, .slice none 0 0]) ?_ 1 _ rfl; refine BD ?_; refine blk_put (cs := #[.int .i64 0, .bool false, .slice none 0 0]) ?_ 0 _ rfl; refine BD ?_; exact BK304.out) hb); have n2_ := AM (below_step (BB1 HB.out GE304.out) hb); have n3_ := AM (hbox); have n4_ : Aside0 (w.heap.size ≤ gb307) := WG hg (BB1 HB.out GE304.out); have n5_ := n4_; have n6_ := AM ((by rw [hg]; exact Nat.ne_of_lt (blk_lt (g := gb304) (o := .cells #[.int .i64 ((rd_T35 l0 (rd x3_3 (ji13))).f0), .bool ((rd_T35 l0 (rd x3_3 (ji13))).f1), .slice A303_2 ((rd_T35 l0 (rd x3_3 (ji13))).f2).length c303_2] 35 (0, 0)) (by refine BD ?_; refine blk_put (cs := #[.int .i64 ((rd_T35 l0 (rd x3_3 (ji13))).f0), .bool ((rd_T35 l0 (rd x3_3 (ji13))).f1), .slice none 0 0]) ?_ 2 _ rfl; refine BD ?_; refine blk_put (cs := #[.int .i64 ((rd_T35 l0 (rd x3_3 (ji13))).f0), .bool false, .slice none 0 0]) ?_ 1 _ rfl; refine BD ?_; refine blk_put (cs := #[.int .i64 0, .bool false, .slice none 0 0]) ?_ 0 _ rfl; refine BD ?_; exact BK304.out)) : gb304 ≠ gb307)); have n7_ := AM ((by rw [hg]; exact Nat.ne_of_gt (blk_lt (g := gb304) (o := .cells #[.int .i64 ((rd_T35 l0 (rd x3_3 (ji13))).f0), .bool ((rd_T35 l0 (rd x3_3 (ji13))).f1), .slice A303_2 ((rd_T35 l0 (rd x3_3 (ji13))).f2).length c303_2] 35 (0, 0)) (by refine BD ?_; refine blk_put (cs := #[.int .i64 ((rd_T35 l0 (rd x3_3 (ji13))).f0), .bool ((rd_T35 l0 (rd x3_3 (ji13))).f1), .slice none 0 0]) ?_ 2 _ rfl; refine BD ?_; refine blk_put (cs := #[.int .i64 ((rd_T35 l0 (rd x3_3 (ji13))).f0), .bool false, .slice none 0 0]) ?_ 1 _ rfl; refine BD ?_; refine blk_put (cs := #[.int .i64 0, .bool false, .slice none 0 0]) ?_ 0 _ rfl; refine BD ?_; exact BK304.out)) : gb307 ≠ gb304)); clear HO_3; clear BK304; clear HB; have HO_3 := n0_; have BK304 := n1_; have HB := n2_; have BK307 := n3_; have GW307 := n4_; have GE307 := n5_; have NB304_307 := n6_; have NB307_304 := n7_; clear n0_ n1_ n2_ n3_ n4_ n5_ n6_ n7_; clear hb hbox hg; have hnb49 := NB307_304.out; have hnc49 := NB304_307.out; have hcz50 := blk_cell BK307.out; have hfz50 := blk_frozen BK307.out))
             obtain ⟨w51, hw_⟩ : ∃ w_, w_ = (((w48.setCell ⟨gb307, 0, none⟩ (.int .i64 ((rd_T35 l0 (rd x3_3 x6_3)).f0))).setCell ⟨gb307, 1, none⟩ (.bool ((rd_T35 l0 (rd x3_3 x6_3)).f1))).setCell ⟨gb307, 2, none⟩ (.slice A306_2 ((rd_T35 l0 (rd x3_3 x6_3)).f2).length c306_2)) := ⟨_, rfl⟩
             rw [← hw_]
             have n0_ : Aside0 (Kd.R (Kd.int .i64) 3 w51 w.heap.size (fun _ => True) (.slice (some ad302) x3_3.length co11) x3_3) := ⟨by rw [hw_]; (with_reducible repeat (first | apply Kd.R_alloc | apply Kd.R_drewN | apply Kd.R_drew)); exact Kd.R_mono (Kd.R_far (p := ⟨gb307, 2, none⟩) (Kd.R_far (p := ⟨gb307, 1, none⟩) (Kd.R_far (p := ⟨gb307, 0, none⟩) (Kd.R_types HO_3.out BK307.out (by decide)) (fun _ hk => hk.2) (.int .i64 ((rd_T35 l0 (rd x3_3 x6_3)).f0))) (fun _ hk => hk.2) (.bool ((rd_T35 l0 (rd x3_3 x6_3)).f1))) (fun _ hk => hk.2) (.slice A306_2 ((rd_T35 l0 (rd x3_3 x6_3)).f2).length c306_2)) (fun _ hk => trivial)⟩
             have n1_ : Aside0 (w51.heap[gb304]? = some (.cells #[.int .i64 ((rd_T35 l0 (rd x3_3 (ji13))).f0), .bool ((rd_T35 l0 (rd x3_3 (ji13))).f1), .slice A303_2 ((rd_T35 l0 (rd x3_3 (ji13))).f2).length c303_2] 35 (0, 0))) := ⟨by rw [hw_]; refine BD ?_; refine blk_far ?_ NB304_307.out _; refine BD ?_; refine blk_far ?_ NB304_307.out _; refine BD ?_; refine blk_far ?_ NB304_307.out _; refine BD ?_; exact BK304.out⟩
             have n2_ : Aside0 (w51.heap[gb307]? = some (.cells #[.int .i64 ((rd_T35 l0 (rd x3_3 x6_3)).f0), .bool ((rd_T35 l0 (rd x3_3 x6_3)).f1), .slice A306_2 ((rd_T35 l0 (rd x3_3 x6_3)).f2).length c306_2] 35 (0, 0))) := ⟨by rw [hw_]; refine BD ?_; refine blk_put (cs := #[.int .i64 ((rd_T35 l0 (rd x3_3 x6_3)).f0), .bool ((rd_T35 l0 (rd x3_3 x6_3)).f1), .slice none 0 0]) ?_ 2 _ rfl; refine BD ?_; refine blk_put (cs := #[.int .i64 ((rd_T35 l0 (rd x3_3 x6_3)).f0), .bool false, .slice none 0 0]) ?_ 1 _ rfl; refine BD ?_; refine blk_put (cs := #[.int .i64 0, .bool false, .slice none 0 0]) ?_ 0 _ rfl; refine BD ?_; exact BK307.out⟩
             have n3_ : Aside0 (Below w.heap.size w w51) := ⟨by rw [hw_]; exact (BB2 HB.out GE304.out GE307.out)⟩
             (try clear HO_3)
             (try clear BK304)
             (try clear BK307)
             (try clear HB)
             clear hw_
             have HO_3 := n0_
             have BK304 := n1_
             have BK307 := n2_
             have HB := n3_
             clear n0_ n1_ n2_ n3_
             replace HO_3 := AM (Kd.R_drew HO_3.out); replace BK304 := AM (blk_drew BK304.out); replace BK307 := AM (blk_drew BK307.out); replace HB := AM (below_drew1 HB.out)
             refine start_ (n := 19) (S := fun w' => w'.cell? ⟨gb304, 0, none⟩ = some (.int .i64 ((rd_T35 l0 (rd x3_3 (ji13))).f0)) ∧ w'.cell? ⟨gb304, 1, none⟩ = some (.bool ((rd_T35 l0 (rd x3_3 (ji13))).f1)) ∧ w'.cell? ⟨gb304, 2, none⟩ = some (.slice A303_2 ((rd_T35 l0 (rd x3_3 (ji13))).f2).length c303_2) ∧ w'.cell? ⟨gb307, 0, none⟩ = some (.int .i64 ((rd_T35 l0 (rd x3_3 x6_3)).f0)) ∧ w'.cell? ⟨gb307, 1, none⟩ = some (.bool ((rd_T35 l0 (rd x3_3 x6_3)).f1)) ∧ w'.cell? ⟨gb307, 2, none⟩ = some (.slice A306_2 ((rd_T35 l0 (rd x3_3 x6_3)).f2).length c306_2)) (ds := []) (.replicate 19 false) (by kernel_rfl) rfl rfl ⟨(blk_cell BK304.out 0).trans rfl, (blk_cell BK304.out 1).trans rfl, (blk_cell BK304.out 2).trans rfl, (blk_cell BK307.out 0).trans rfl, (blk_cell BK307.out 1).trans rfl, (blk_cell BK307.out 2).trans rfl⟩ (fun hHeld => ?_); refine with_tabW spec_l15Order.tab15 spec_l15Order.bits15 (fun HT_ HW_ => ?_)
             generalize w51.drew = w52 at HO_3 BK304 BK307 HB hHeld ⊢
             refine TH 0 52 HT_.out HW_.out hHeld ?_
             refine TH 2 54 HT_.out HW_.out hHeld ?_
             refine OH 1 (some 53) HT_.out (fun K hK => ?_)
             refine goes_ Try.func123 (by kernel_rfl) rfl #[.agg #[.int .i64 ((rd_T35 l0 (rd x3_3 (ji13))).f0), .bool ((rd_T35 l0 (rd x3_3 (ji13))).f1), .slice A303_2 ((rd_T35 l0 (rd x3_3 (ji13))).f2).length c303_2]] (by rfl) rfl rfl (by (try simp only [List.map_toArray, List.map_cons, List.map_nil]); first | done | (simp only [hji13]; rfl) | rfl | (simp only [List.length_drop, List.length_take]; rfl)) ?_
             with_reducible refine (spec_LoadOf.calls ((rd_T35 l0 (rd x3_3 (ji13))).f0) ((rd_T35 l0 (rd x3_3 (ji13))).f1) _ _ ((rd_T35 l0 (rd x3_3 (ji13))).f2) t308 _ ?side1 ?side2 A22.out).mono ?_
             (case side1 => exact CC (Kd.C_below HR303_2.out HB.out))
             (case side2 => exact HC303_2.out)
             rintro e w53 ⟨rfl, hb⟩
             refine ⟨_, rfl, ?_⟩
             replace HO_3 := AM (Kd.R_below (RR HO_3.out) hb); replace BK304 := AM (KB BK304.out hb); replace BK307 := AM (KB BK307.out hb); replace HB := AM (below_step (BB2 HB.out GE304.out GE307.out) hb)
             (try clear hb)
             (try clear hb2)
             (try clear hk)
             (try clear hi)
             refine hK.out _ _ ⟨(blk_cell BK304.out 0).trans rfl, (blk_cell BK304.out 1).trans rfl, (blk_cell BK304.out 2).trans rfl, (blk_cell BK307.out 0).trans rfl, (blk_cell BK307.out 1).trans rfl, (blk_cell BK307.out 2).trans rfl⟩ (fun hHeld => ?_)
             clear hK K
             refine NM 53 ?_
             refine OH 3 (some 55) HT_.out (fun K hK => ?_)
             refine GO Try.func123 #[.agg #[.int .i64 ((rd_T35 l0 (rd x3_3 x6_3)).f0), .bool ((rd_T35 l0 (rd x3_3 x6_3)).f1), .slice A306_2 ((rd_T35 l0 (rd x3_3 x6_3)).f2).length c306_2]] ?_
             with_reducible refine (spec_LoadOf.calls ((rd_T35 l0 (rd x3_3 x6_3)).f0) ((rd_T35 l0 (rd x3_3 x6_3)).f1) _ _ ((rd_T35 l0 (rd x3_3 x6_3)).f2) t309 _ ?side1 ?side2 A23.out).mono ?_
             (case side1 => exact CC (Kd.C_below HR306_2.out HB.out))
             (case side2 => exact HC306_2.out)
             rintro e w54 ⟨rfl, hb⟩
             refine ⟨_, rfl, ?_⟩
             replace HO_3 := AM (Kd.R_below (RR HO_3.out) hb); replace BK304 := AM (KB BK304.out hb); replace BK307 := AM (KB BK307.out hb); replace HB := AM (below_step (BB2 HB.out GE304.out GE307.out) hb)
             (try clear hb)
             (try clear hb2)
             (try clear hk)
             (try clear hi)
             refine hK.out _ _ ⟨(blk_cell BK304.out 0).trans rfl, (blk_cell BK304.out 1).trans rfl, (blk_cell BK304.out 2).trans rfl, (blk_cell BK307.out 0).trans rfl, (blk_cell BK307.out 1).trans rfl, (blk_cell BK307.out 2).trans rfl⟩ (fun hHeld => ?_)
             clear hK K
             refine NM 55 ?_
             refine PH 4 56 HT_.out ?_
             refine PH 5 57 HT_.out ?_
             refine TH 6 58 HT_.out HW_.out hHeld ?_
             refine TH 8 60 HT_.out HW_.out hHeld ?_
             refine OH 7 (some 59) HT_.out (fun K hK => ?_)
             refine goes_ Try.func123 (by kernel_rfl) rfl #[.agg #[.int .i64 ((rd_T35 l0 (rd x3_3 (ji13))).f0), .bool ((rd_T35 l0 (rd x3_3 (ji13))).f1), .slice A303_2 ((rd_T35 l0 (rd x3_3 (ji13))).f2).length c303_2]] (by rfl) rfl rfl (by (try simp only [List.map_toArray, List.map_cons, List.map_nil]); first | done | (simp only [hji13]; rfl) | rfl | (simp only [List.length_drop, List.length_take]; rfl)) ?_
             with_reducible refine (spec_LoadOf.calls ((rd_T35 l0 (rd x3_3 (ji13))).f0) ((rd_T35 l0 (rd x3_3 (ji13))).f1) _ _ ((rd_T35 l0 (rd x3_3 (ji13))).f2) t314 _ ?side1 ?side2 A40.out).mono ?_
             (case side1 => exact CC (Kd.C_below HR303_2.out HB.out))
             (case side2 => exact HC303_2.out)
             rintro e w55 ⟨rfl, hb⟩
             refine ⟨_, rfl, ?_⟩
             replace HO_3 := AM (Kd.R_below (RR HO_3.out) hb); replace BK304 := AM (KB BK304.out hb); replace BK307 := AM (KB BK307.out hb); replace HB := AM (below_step (BB2 HB.out GE304.out GE307.out) hb)
             (try clear hb)
             (try clear hb2)
             (try clear hk)
             (try clear hi)
             refine hK.out _ _ ⟨(blk_cell BK304.out 0).trans rfl, (blk_cell BK304.out 1).trans rfl, (blk_cell BK304.out 2).trans rfl, (blk_cell BK307.out 0).trans rfl, (blk_cell BK307.out 1).trans rfl, (blk_cell BK307.out 2).trans rfl⟩ (fun hHeld => ?_)
             clear hK K
             refine NM 59 ?_
             refine OH 9 (some 61) HT_.out (fun K hK => ?_)
             refine GO Try.func123 #[.agg #[.int .i64 ((rd_T35 l0 (rd x3_3 x6_3)).f0), .bool ((rd_T35 l0 (rd x3_3 x6_3)).f1), .slice A306_2 ((rd_T35 l0 (rd x3_3 x6_3)).f2).length c306_2]] ?_
             with_reducible refine (spec_LoadOf.calls ((rd_T35 l0 (rd x3_3 x6_3)).f0) ((rd_T35 l0 (rd x3_3 x6_3)).f1) _ _ ((rd_T35 l0 (rd x3_3 x6_3)).f2) t315 _ ?side1 ?side2 A41.out).mono ?_
             (case side1 => exact CC (Kd.C_below HR306_2.out HB.out))
             (case side2 => exact HC306_2.out)
             rintro e w56 ⟨rfl, hb⟩
             refine ⟨_, rfl, ?_⟩
             replace HO_3 := AM (Kd.R_below (RR HO_3.out) hb); replace BK304 := AM (KB BK304.out hb); replace BK307 := AM (KB BK307.out hb); replace HB := AM (below_step (BB2 HB.out GE304.out GE307.out) hb)
             (try clear hb)
             (try clear hb2)
             (try clear hk)
             (try clear hi)
             refine hK.out _ _ ⟨(blk_cell BK304.out 0).trans rfl, (blk_cell BK304.out 1).trans rfl, (blk_cell BK304.out 2).trans rfl, (blk_cell BK307.out 0).trans rfl, (blk_cell BK307.out 1).trans rfl, (blk_cell BK307.out 2).trans rfl⟩ (fun hHeld => ?_)
             clear hK K
             refine NM 61 ?_
             refine PH 10 62 HT_.out ?_
             refine PH 11 63 HT_.out ?_
             refine PH 12 64 HT_.out ?_
             refine PH 14 66 HT_.out ?_
             refine TH 13 65 HT_.out HW_.out hHeld ?_
             refine TH 15 67 HT_.out HW_.out hHeld ?_
             refine PH 16 68 HT_.out ?_
             refine PH 17 69 HT_.out ?_
             refine PH 18 70 HT_.out ?_
             refine done_ (done_of HT_.out (by kernel_rfl)) ?_
             have p316 : 0 ≤ (x6_3 : Int) := DT
             have q316 : x6_3 < (x3_3.length : Int) := DT
             obtain ⟨ad316, e316, hx316_0⟩ := Kd.at_int (Kd.R_reads' HO_3.out).2.2 x6_3 p316 q316
             obtain rfl : ad302 = ad316 := (by injection e316)
             replace p316 := eq_true p316
             replace q316 := eq_true q316
             have p317 : 0 ≤ ((ji13) : Int) := DT
             have q317 : (ji13) < (x3_3.length : Int) := DT
             obtain ⟨ad317, e317, hx317_0⟩ := Kd.at_int (Kd.R_reads' HO_3.out).2.2 (ji13) p317 q317
             obtain rfl : ad302 = ad317 := (by injection e317)
             replace p317 := eq_true p317
             replace q317 := eq_true q317
             have p44 : 0 ≤ (x6_3 : Int) := DT
             have q44 : (x6_3 : Int) < ((x3_3.length : Int) : Int) := DT
             obtain ⟨go44, co44, eo44, gb44, gl44, cl44, HG44⟩ := Kd.R_form HO_3.out (by omega)
             (first | cases eo44 | (injection eo44 with ea_ en_ ec_; (first | subst ea_ | (injection ea_ with ea_; subst ea_)); subst ec_; clear en_))
             have GB44 := AM gb44
             have GG44 := AM HG44
             clear gb44 gl44 HG44
             (first | simp only [add_plain] at hx302_0 | skip)
             (first | simp only [add_plain] at hx305_0 | skip)
             (first | simp only [add_plain] at hx316_0 | skip)
             (first | simp only [add_plain] at hx317_0 | skip)
             obtain ⟨hx44_0, hf44_0⟩ := Kd.R_celln 0 HO_3.out (x6_3 : Int) p44 q44
             replace p44 := eq_true p44
             replace q44 := eq_true q44
             obtain ⟨hy57_, hz57_⟩ := Kd.R_celln 0 HO_3.out (x6_3 : Int) DT DT
             have HP57 := Kd.R_putg HO_3.out (x6_3 : Int) (rd x3_3 (ji13))
             try go_wp2_with (first | ((with_reducible refine gate_store (t := 3) (p := 82) rfl ?_); refine store_event (t := 3) (p := 82) (v := ?vo_w58) (w1 := (w56.setCell ⟨go44, (x6_3 : Int).toNat, none⟩ (.int .i64 (rd x3_3 (ji13))))) ?hg ?ho ?hn ?hr ?_; (case ho => rfl); (case hg => rfl); (case hn => rfl); (case hr => first | (go_simp; done) | (go_simp; rfl)); intro w58 hw; have hg : w56.grownBy w58 (some go44) := (by rw [hw]; exact HP57.2); have hp_ : Kd.R (Kd.int .i64) 3 w58 w.heap.size (fun _ => True) (.slice (some ⟨go44, 0, none⟩) x3_3.length co11) y318 := (by rw [hw, Ny318.out]; exact HP57.1); clear HP57; have n0_ := AM (hp_); have n1_ := AM (blk_grown (g := gb304) (o := .cells #[.int .i64 ((rd_T35 l0 (rd x3_3 (ji13))).f0), .bool ((rd_T35 l0 (rd x3_3 (ji13))).f1), .slice A303_2 ((rd_T35 l0 (rd x3_3 (ji13))).f2).length c303_2] 35 (0, 0)) (BD BK304.out) hg (Kd.R_ne HO_3.out BK304.out (by decide))); have n2_ := AM (blk_grown (g := gb307) (o := .cells #[.int .i64 ((rd_T35 l0 (rd x3_3 x6_3)).f0), .bool ((rd_T35 l0 (rd x3_3 x6_3)).f1), .slice A306_2 ((rd_T35 l0 (rd x3_3 x6_3)).f2).length c306_2] 35 (0, 0)) (BD BK307.out) hg (Kd.R_ne HO_3.out BK307.out (by decide))); have n3_ := AM ((by rw [hw]; exact below_set (HB.out) GB44.out : Below w.heap.size w w58)); clear HO_3; clear BK304; clear BK307; clear HB; have HO_3 := n0_; have BK304 := n1_; have BK307 := n2_; have HB := n3_; clear n0_ n1_ n2_ n3_; clear hg hw hp_; have p45 : 0 ≤ ((ji13) : Int) := DT; have q45 : ((ji13) : Int) < ((x3_3.length : Int) : Int) := DT; obtain ⟨hx45_0, hf45_0⟩ := Kd.R_celln 0 HO_3.out ((ji13) : Int) p45 q45; replace p45 := eq_true p45; replace q45 := eq_true q45; obtain ⟨hy59_, hz59_⟩ := Kd.R_celln 0 HO_3.out ((ji13) : Int) DT DT; have HP59 := Kd.R_putg HO_3.out ((ji13) : Int) (rd x3_3 x6_3)) | ((with_reducible refine gate_store (t := 3) (p := 87) rfl ?_); refine store_event (t := 3) (p := 87) (v := ?vo_w60) (w1 := (w58.setCell ⟨go44, ((ji13) : Int).toNat, none⟩ (.int .i64 (rd x3_3 x6_3)))) ?hg ?ho ?hn ?hr ?_; (case ho => rfl); (case hg => rfl); (case hn => rfl); (case hr => first | (go_simp; done) | (go_simp; rfl)); intro w60 hw; have hg : w58.grownBy w60 (some go44) := (by rw [hw]; exact HP59.2); have hp_ : Kd.R (Kd.int .i64) 3 w60 w.heap.size (fun _ => True) (.slice (some ⟨go44, 0, none⟩) x3_3.length co11) y319 := (by rw [hw, Ny319.out]; exact HP59.1); clear HP59; have n0_ := AM (hp_); have n1_ := AM (blk_grown (g := gb304) (o := .cells #[.int .i64 ((rd_T35 l0 (rd x3_3 (ji13))).f0), .bool ((rd_T35 l0 (rd x3_3 (ji13))).f1), .slice A303_2 ((rd_T35 l0 (rd x3_3 (ji13))).f2).length c303_2] 35 (0, 0)) (BD BK304.out) hg (Kd.R_ne HO_3.out BK304.out (by decide))); have n2_ := AM (blk_grown (g := gb307) (o := .cells #[.int .i64 ((rd_T35 l0 (rd x3_3 x6_3)).f0), .bool ((rd_T35 l0 (rd x3_3 x6_3)).f1), .slice A306_2 ((rd_T35 l0 (rd x3_3 x6_3)).f2).length c306_2] 35 (0, 0)) (BD BK307.out) hg (Kd.R_ne HO_3.out BK307.out (by decide))); have n3_ := AM ((by rw [hw]; exact below_set (HB.out) GB44.out : Below w.heap.size w w60)); clear HO_3; clear BK304; clear BK307; clear HB; have HO_3 := n0_; have BK304 := n1_; have BK307 := n2_; have HB := n3_; clear n0_ n1_ n2_ n3_; clear hg hw hp_))
             (try simp only [← hl3_3])
             go_roundg k3
             case measure => have := HK1.out; have := HK2.out; have := HK3.out; omega
             case rel => exact ⟨(y319), (ji13), (by first | rfl | (simp; done) | (simp only [← hji13] <;> (first | rfl | simp)) | (simp [*]; done)), H', ⟨by have := HK1.out; have := HK2.out; have := HK3.out; omega⟩, ⟨by (try simp only [hl3_3]); (with_reducible repeat (first | apply Kd.R_alloc | apply Kd.R_drewN | apply Kd.R_drew)); exact HO_3.out⟩, ⟨(BB2 HB.out GE304.out GE307.out)⟩⟩
            ·rw [if_neg c43] at H
             have c43b0 := decide_eq_false c43
             clear c43
             have H' := AM H
             clear H
             have p302 : 0 ≤ ((ji13) : Int) := DT
             have q302 : (ji13) < (x3_3.length : Int) := DT
             obtain ⟨ad302, e302, hx302_0⟩ := Kd.at_int (Kd.R_reads' HO_3.out).2.2 (ji13) p302 q302
             cases e302
             replace p302 := eq_true p302
             replace q302 := eq_true q302
             have p303 : 0 ≤ ((rd x3_3 (ji13)) : Int) := DT
             have q303 : (rd x3_3 (ji13)) < (l0.length : Int) := DT
             obtain ⟨ad303, A303_2, c303_2, e303, hx303_0, hx303_1, hx303_2, hl303_2, hi303_2⟩ := at_T35 HR0.out (rd x3_3 (ji13)) p303 q303
             cases e303
             replace hx303_0 := CX HB.out hx303_0
             replace hx303_1 := CX HB.out hx303_1
             replace hx303_2 := CX HB.out hx303_2
             have HR303_2 := AM hi303_2
             have HC303_2 := AM hl303_2
             clear hi303_2 hl303_2
             replace p303 := eq_true p303
             replace q303 := eq_true q303
             try go_wp2_with (first | ((with_reducible refine gate_dst (N := 7) rfl ?_); refine BX 7 #[.int .i64 0, .bool false, .slice none 0 0] 35 ?_; intro gb304 hg w61 hbox hb; have BK304 := AM (hbox); have GW304 : Aside0 (w.heap.size ≤ gb304) := WG hg (BB HB.out); have GE304 := GW304; replace HO_3 := AM (Kd.R_below (RR HO_3.out) hb); replace HB := AM (below_step (BB HB.out) hb); clear hb hbox hg; have hcz62 := blk_cell BK304.out; have hfz62 := blk_frozen BK304.out; have p305 : 0 ≤ (x6_3 : Int) := DT; have q305 : x6_3 < (x3_3.length : Int) := DT; obtain ⟨ad305, e305, hx305_0⟩ := Kd.at_int (Kd.R_reads' HO_3.out).2.2 x6_3 p305 q305; obtain rfl : ad302 = ad305 := (by injection e305); have hn305_0 : ad302.block ≠ gb304 := Kd.own_blk (Kd.R_ne HO_3.out BK304.out (by decide)); have hn305_1 : ad302.block ≠ gb304 := Kd.own_blk (Kd.R_ne HO_3.out BK304.out (by decide)); have hn305_2 : ad302.block ≠ gb304 := Kd.own_blk (Kd.R_ne HO_3.out BK304.out (by decide)); replace hx305_0 := (cell_far (p := ⟨gb304, 0, none⟩) (by first | (rw [add_block]; exact hn305_0) | (show (Addr.add _ _).block ≠ _; rw [add_block]; exact hn305_0) | exact hn305_0) (.int .i64 ((rd_T35 l0 (rd x3_3 (ji13))).f0))).trans hx305_0; replace hx305_0 := (cell_far (p := ⟨gb304, 1, none⟩) (by first | (rw [add_block]; exact hn305_1) | (show (Addr.add _ _).block ≠ _; rw [add_block]; exact hn305_1) | exact hn305_1) (.bool ((rd_T35 l0 (rd x3_3 (ji13))).f1))).trans hx305_0; replace hx305_0 := (cell_far (p := ⟨gb304, 2, none⟩) (by first | (rw [add_block]; exact hn305_2) | (show (Addr.add _ _).block ≠ _; rw [add_block]; exact hn305_2) | exact hn305_2) (.slice A303_2 ((rd_T35 l0 (rd x3_3 (ji13))).f2).length c303_2)).trans hx305_0; clear hn305_0; clear hn305_1; clear hn305_2; replace p305 := eq_true p305; replace q305 := eq_true q305; have p306 : 0 ≤ ((rd x3_3 x6_3) : Int) := DT; have q306 : (rd x3_3 x6_3) < (l0.length : Int) := DT; obtain ⟨ad306, A306_2, c306_2, e306, hx306_0, hx306_1, hx306_2, hl306_2, hi306_2⟩ := at_T35 HR0.out (rd x3_3 x6_3) p306 q306; obtain rfl : ad303 = ad306 := (by injection e306); have hn306_0 : ad303.block ≠ gb304 := Nat.ne_of_lt (Nat.lt_of_lt_of_le (by have := World.block_lt_of_cell? _ _ hx306_0; first | rwa [add_block] at this | exact this) GW304.out); have hn306_1 : ad303.block ≠ gb304 := Nat.ne_of_lt (Nat.lt_of_lt_of_le (by have := World.block_lt_of_cell? _ _ hx306_0; first | rwa [add_block] at this | exact this) GW304.out); have hn306_2 : ad303.block ≠ gb304 := Nat.ne_of_lt (Nat.lt_of_lt_of_le (by have := World.block_lt_of_cell? _ _ hx306_0; first | rwa [add_block] at this | exact this) GW304.out); replace hx306_0 := CX HB.out hx306_0; replace hx306_1 := CX HB.out hx306_1; replace hx306_2 := CX HB.out hx306_2; have HR306_2 := AM hi306_2; have HC306_2 := AM hl306_2; clear hi306_2 hl306_2; replace hx306_0 := (cell_far (p := ⟨gb304, 0, none⟩) (by first | (rw [add_block]; exact hn306_0) | (show (Addr.add _ _).block ≠ _; rw [add_block]; exact hn306_0) | exact hn306_0) (.int .i64 ((rd_T35 l0 (rd x3_3 (ji13))).f0))).trans hx306_0; replace hx306_1 := (cell_far (p := ⟨gb304, 0, none⟩) (by first | (rw [add_block]; exact hn306_0) | (show (Addr.add _ _).block ≠ _; rw [add_block]; exact hn306_0) | exact hn306_0) (.int .i64 ((rd_T35 l0 (rd x3_3 (ji13))).f0))).trans hx306_1; replace hx306_2 := (cell_far (p := ⟨gb304, 0, none⟩) (by first | (rw [add_block]; exact hn306_0) | (show (Addr.add _ _).block ≠ _; rw [add_block]; exact hn306_0) | exact hn306_0) (.int .i64 ((rd_T35 l0 (rd x3_3 (ji13))).f0))).trans hx306_2; replace hx306_0 := (cell_far (p := ⟨gb304, 1, none⟩) (by first | (rw [add_block]; exact hn306_1) | (show (Addr.add _ _).block ≠ _; rw [add_block]; exact hn306_1) | exact hn306_1) (.bool ((rd_T35 l0 (rd x3_3 (ji13))).f1))).trans hx306_0; replace hx306_1 := (cell_far (p := ⟨gb304, 1, none⟩) (by first | (rw [add_block]; exact hn306_1) | (show (Addr.add _ _).block ≠ _; rw [add_block]; exact hn306_1) | exact hn306_1) (.bool ((rd_T35 l0 (rd x3_3 (ji13))).f1))).trans hx306_1; replace hx306_2 := (cell_far (p := ⟨gb304, 1, none⟩) (by first | (rw [add_block]; exact hn306_1) | (show (Addr.add _ _).block ≠ _; rw [add_block]; exact hn306_1) | exact hn306_1) (.bool ((rd_T35 l0 (rd x3_3 (ji13))).f1))).trans hx306_2; replace hx306_0 := (cell_far (p := ⟨gb304, 2, none⟩) (by first | (rw [add_block]; exact hn306_2) | (show (Addr.add _ _).block ≠ _; rw [add_block]; exact hn306_2) | exact hn306_2) (.slice A303_2 ((rd_T35 l0 (rd x3_3 (ji13))).f2).length c303_2)).trans hx306_0; replace hx306_1 := (cell_far (p := ⟨gb304, 2, none⟩) (by first | (rw [add_block]; exact hn306_2) | (show (Addr.add _ _).block ≠ _; rw [add_block]; exact hn306_2) | exact hn306_2) (.slice A303_2 ((rd_T35 l0 (rd x3_3 (ji13))).f2).length c303_2)).trans hx306_1; replace hx306_2 := (cell_far (p := ⟨gb304, 2, none⟩) (by first | (rw [add_block]; exact hn306_2) | (show (Addr.add _ _).block ≠ _; rw [add_block]; exact hn306_2) | exact hn306_2) (.slice A303_2 ((rd_T35 l0 (rd x3_3 (ji13))).f2).length c303_2)).trans hx306_2; clear hn306_0; clear hn306_1; clear hn306_2; replace p306 := eq_true p306; replace q306 := eq_true q306) | ((with_reducible refine gate_dst (N := 8) rfl ?_); refine BX 8 #[.int .i64 0, .bool false, .slice none 0 0] 35 ?_; intro gb307 hg w63 hbox hb; have n0_ := AM (Kd.R_below (by (with_reducible repeat (first | apply Kd.R_alloc | apply Kd.R_drewN | apply Kd.R_drew)); exact (Kd.R_mono (Kd.R_far (p := ⟨gb304, 2, none⟩) (Kd.R_far (p := ⟨gb304, 1, none⟩) (Kd.R_far (p := ⟨gb304, 0, none⟩) (Kd.R_types HO_3.out BK304.out (by decide)) (fun _ hk => hk.2) (.int .i64 ((rd_T35 l0 (rd x3_3 (ji13))).f0))) (fun _ hk => hk.2) (.bool ((rd_T35 l0 (rd x3_3 (ji13))).f1))) (fun _ hk => hk.2) (.slice A303_2 ((rd_T35 l0 (rd x3_3 (ji13))).f2).length c303_2)) (fun _ h_ => h_.1))) hb); have n1_ := AM (blk_below (g := gb304) (o := .cells #[.int .i64 ((rd_T35 l0 (rd x3_3 (ji13))).f0), .bool ((rd_T35 l0 (rd x3_3 (ji13))).f1), .slice A303_2 ((rd_T35 l0 (rd x3_3 (ji13))).f2).length c303_2] 35 (0, 0)) (by refine BD ?_; refine blk_put (cs := #[.int .i64 ((rd_T35 l0 (rd x3_3 (ji13))).f0), .bool ((rd_T35 l0 (rd x3_3 (ji13))).f1), .slice none 0 0]) ?_ 2 _ rfl; refine BD ?_; refine blk_put (cs := #[.int .i64 ((rd_T35 l0 (rd x3_3 (ji13))).f0), .bool false, .slice none 0 0]) ?_ 1 _ rfl; refine BD ?_; refine blk_put (cs := #[.int .i64 0, .bool false, .slice none 0 0]) ?_ 0 _ rfl; refine BD ?_; exact BK304.out) hb); have n2_ := AM (below_step (BB1 HB.out GE304.out) hb); have n3_ := AM (hbox); have n4_ : Aside0 (w.heap.size ≤ gb307) := WG hg (BB1 HB.out GE304.out); have n5_ := n4_; have n6_ := AM ((by rw [hg]; exact Nat.ne_of_lt (blk_lt (g := gb304) (o := .cells #[.int .i64 ((rd_T35 l0 (rd x3_3 (ji13))).f0), .bool ((rd_T35 l0 (rd x3_3 (ji13))).f1), .slice A303_2 ((rd_T35 l0 (rd x3_3 (ji13))).f2).length c303_2] 35 (0, 0)) (by refine BD ?_; refine blk_put (cs := #[.int .i64 ((rd_T35 l0 (rd x3_3 (ji13))).f0), .bool ((rd_T35 l0 (rd x3_3 (ji13))).f1), .slice none 0 0]) ?_ 2 _ rfl; refine BD ?_; refine blk_put (cs := #[.int .i64 ((rd_T35 l0 (rd x3_3 (ji13))).f0), .bool false, .slice none 0 0]) ?_ 1 _ rfl; refine BD ?_; refine blk_put (cs := #[.int .i64 0, .bool false, .slice none 0 0]) ?_ 0 _ rfl; refine BD ?_; exact BK304.out)) : gb304 ≠ gb307)); have n7_ := AM ((by rw [hg]; exact Nat.ne_of_gt (blk_lt (g := gb304) (o := .cells #[.int .i64 ((rd_T35 l0 (rd x3_3 (ji13))).f0), .bool ((rd_T35 l0 (rd x3_3 (ji13))).f1), .slice A303_2 ((rd_T35 l0 (rd x3_3 (ji13))).f2).length c303_2] 35 (0, 0)) (by refine BD ?_; refine blk_put (cs := #[.int .i64 ((rd_T35 l0 (rd x3_3 (ji13))).f0), .bool ((rd_T35 l0 (rd x3_3 (ji13))).f1), .slice none 0 0]) ?_ 2 _ rfl; refine BD ?_; refine blk_put (cs := #[.int .i64 ((rd_T35 l0 (rd x3_3 (ji13))).f0), .bool false, .slice none 0 0]) ?_ 1 _ rfl; refine BD ?_; refine blk_put (cs := #[.int .i64 0, .bool false, .slice none 0 0]) ?_ 0 _ rfl; refine BD ?_; exact BK304.out)) : gb307 ≠ gb304)); clear HO_3; clear BK304; clear HB; have HO_3 := n0_; have BK304 := n1_; have HB := n2_; have BK307 := n3_; have GW307 := n4_; have GE307 := n5_; have NB304_307 := n6_; have NB307_304 := n7_; clear n0_ n1_ n2_ n3_ n4_ n5_ n6_ n7_; clear hb hbox hg; have hnb64 := NB307_304.out; have hnc64 := NB304_307.out; have hcz65 := blk_cell BK307.out; have hfz65 := blk_frozen BK307.out))
             obtain ⟨w66, hw_⟩ : ∃ w_, w_ = (((w63.setCell ⟨gb307, 0, none⟩ (.int .i64 ((rd_T35 l0 (rd x3_3 x6_3)).f0))).setCell ⟨gb307, 1, none⟩ (.bool ((rd_T35 l0 (rd x3_3 x6_3)).f1))).setCell ⟨gb307, 2, none⟩ (.slice A306_2 ((rd_T35 l0 (rd x3_3 x6_3)).f2).length c306_2)) := ⟨_, rfl⟩
             rw [← hw_]
             have n0_ : Aside0 (Kd.R (Kd.int .i64) 3 w66 w.heap.size (fun _ => True) (.slice (some ad302) x3_3.length co11) x3_3) := ⟨by rw [hw_]; (with_reducible repeat (first | apply Kd.R_alloc | apply Kd.R_drewN | apply Kd.R_drew)); exact Kd.R_mono (Kd.R_far (p := ⟨gb307, 2, none⟩) (Kd.R_far (p := ⟨gb307, 1, none⟩) (Kd.R_far (p := ⟨gb307, 0, none⟩) (Kd.R_types HO_3.out BK307.out (by decide)) (fun _ hk => hk.2) (.int .i64 ((rd_T35 l0 (rd x3_3 x6_3)).f0))) (fun _ hk => hk.2) (.bool ((rd_T35 l0 (rd x3_3 x6_3)).f1))) (fun _ hk => hk.2) (.slice A306_2 ((rd_T35 l0 (rd x3_3 x6_3)).f2).length c306_2)) (fun _ hk => trivial)⟩
             have n1_ : Aside0 (w66.heap[gb304]? = some (.cells #[.int .i64 ((rd_T35 l0 (rd x3_3 (ji13))).f0), .bool ((rd_T35 l0 (rd x3_3 (ji13))).f1), .slice A303_2 ((rd_T35 l0 (rd x3_3 (ji13))).f2).length c303_2] 35 (0, 0))) := ⟨by rw [hw_]; refine BD ?_; refine blk_far ?_ NB304_307.out _; refine BD ?_; refine blk_far ?_ NB304_307.out _; refine BD ?_; refine blk_far ?_ NB304_307.out _; refine BD ?_; exact BK304.out⟩
             have n2_ : Aside0 (w66.heap[gb307]? = some (.cells #[.int .i64 ((rd_T35 l0 (rd x3_3 x6_3)).f0), .bool ((rd_T35 l0 (rd x3_3 x6_3)).f1), .slice A306_2 ((rd_T35 l0 (rd x3_3 x6_3)).f2).length c306_2] 35 (0, 0))) := ⟨by rw [hw_]; refine BD ?_; refine blk_put (cs := #[.int .i64 ((rd_T35 l0 (rd x3_3 x6_3)).f0), .bool ((rd_T35 l0 (rd x3_3 x6_3)).f1), .slice none 0 0]) ?_ 2 _ rfl; refine BD ?_; refine blk_put (cs := #[.int .i64 ((rd_T35 l0 (rd x3_3 x6_3)).f0), .bool false, .slice none 0 0]) ?_ 1 _ rfl; refine BD ?_; refine blk_put (cs := #[.int .i64 0, .bool false, .slice none 0 0]) ?_ 0 _ rfl; refine BD ?_; exact BK307.out⟩
             have n3_ : Aside0 (Below w.heap.size w w66) := ⟨by rw [hw_]; exact (BB2 HB.out GE304.out GE307.out)⟩
             (try clear HO_3)
             (try clear BK304)
             (try clear BK307)
             (try clear HB)
             clear hw_
             have HO_3 := n0_
             have BK304 := n1_
             have BK307 := n2_
             have HB := n3_
             clear n0_ n1_ n2_ n3_
             replace HO_3 := AM (Kd.R_drew HO_3.out); replace BK304 := AM (blk_drew BK304.out); replace BK307 := AM (blk_drew BK307.out); replace HB := AM (below_drew1 HB.out)
             refine start_ (n := 19) (S := fun w' => w'.cell? ⟨gb304, 0, none⟩ = some (.int .i64 ((rd_T35 l0 (rd x3_3 (ji13))).f0)) ∧ w'.cell? ⟨gb304, 1, none⟩ = some (.bool ((rd_T35 l0 (rd x3_3 (ji13))).f1)) ∧ w'.cell? ⟨gb304, 2, none⟩ = some (.slice A303_2 ((rd_T35 l0 (rd x3_3 (ji13))).f2).length c303_2) ∧ w'.cell? ⟨gb307, 0, none⟩ = some (.int .i64 ((rd_T35 l0 (rd x3_3 x6_3)).f0)) ∧ w'.cell? ⟨gb307, 1, none⟩ = some (.bool ((rd_T35 l0 (rd x3_3 x6_3)).f1)) ∧ w'.cell? ⟨gb307, 2, none⟩ = some (.slice A306_2 ((rd_T35 l0 (rd x3_3 x6_3)).f2).length c306_2)) (ds := []) (.replicate 19 false) (by kernel_rfl) rfl rfl ⟨(blk_cell BK304.out 0).trans rfl, (blk_cell BK304.out 1).trans rfl, (blk_cell BK304.out 2).trans rfl, (blk_cell BK307.out 0).trans rfl, (blk_cell BK307.out 1).trans rfl, (blk_cell BK307.out 2).trans rfl⟩ (fun hHeld => ?_); refine with_tabW spec_l15Order.tab15 spec_l15Order.bits15 (fun HT_ HW_ => ?_)
             generalize w66.drew = w67 at HO_3 BK304 BK307 HB hHeld ⊢
             refine TH 0 52 HT_.out HW_.out hHeld ?_
             refine TH 2 54 HT_.out HW_.out hHeld ?_
             refine OH 1 (some 53) HT_.out (fun K hK => ?_)
             refine goes_ Try.func123 (by kernel_rfl) rfl #[.agg #[.int .i64 ((rd_T35 l0 (rd x3_3 (ji13))).f0), .bool ((rd_T35 l0 (rd x3_3 (ji13))).f1), .slice A303_2 ((rd_T35 l0 (rd x3_3 (ji13))).f2).length c303_2]] (by rfl) rfl rfl (by (try simp only [List.map_toArray, List.map_cons, List.map_nil]); first | done | (simp only [hji13]; rfl) | rfl | (simp only [List.length_drop, List.length_take]; rfl)) ?_
             with_reducible refine (spec_LoadOf.calls ((rd_T35 l0 (rd x3_3 (ji13))).f0) ((rd_T35 l0 (rd x3_3 (ji13))).f1) _ _ ((rd_T35 l0 (rd x3_3 (ji13))).f2) t308 _ ?side1 ?side2 A22.out).mono ?_
             (case side1 => exact CC (Kd.C_below HR303_2.out HB.out))
             (case side2 => exact HC303_2.out)
             rintro e w68 ⟨rfl, hb⟩
             refine ⟨_, rfl, ?_⟩
             replace HO_3 := AM (Kd.R_below (RR HO_3.out) hb); replace BK304 := AM (KB BK304.out hb); replace BK307 := AM (KB BK307.out hb); replace HB := AM (below_step (BB2 HB.out GE304.out GE307.out) hb)
             (try clear hb)
             (try clear hb2)
             (try clear hk)
             (try clear hi)
             refine hK.out _ _ ⟨(blk_cell BK304.out 0).trans rfl, (blk_cell BK304.out 1).trans rfl, (blk_cell BK304.out 2).trans rfl, (blk_cell BK307.out 0).trans rfl, (blk_cell BK307.out 1).trans rfl, (blk_cell BK307.out 2).trans rfl⟩ (fun hHeld => ?_)
             clear hK K
             refine NM 53 ?_
             refine OH 3 (some 55) HT_.out (fun K hK => ?_)
             refine GO Try.func123 #[.agg #[.int .i64 ((rd_T35 l0 (rd x3_3 x6_3)).f0), .bool ((rd_T35 l0 (rd x3_3 x6_3)).f1), .slice A306_2 ((rd_T35 l0 (rd x3_3 x6_3)).f2).length c306_2]] ?_
             with_reducible refine (spec_LoadOf.calls ((rd_T35 l0 (rd x3_3 x6_3)).f0) ((rd_T35 l0 (rd x3_3 x6_3)).f1) _ _ ((rd_T35 l0 (rd x3_3 x6_3)).f2) t309 _ ?side1 ?side2 A23.out).mono ?_
             (case side1 => exact CC (Kd.C_below HR306_2.out HB.out))
             (case side2 => exact HC306_2.out)
             rintro e w69 ⟨rfl, hb⟩
             refine ⟨_, rfl, ?_⟩
             replace HO_3 := AM (Kd.R_below (RR HO_3.out) hb); replace BK304 := AM (KB BK304.out hb); replace BK307 := AM (KB BK307.out hb); replace HB := AM (below_step (BB2 HB.out GE304.out GE307.out) hb)
             (try clear hb)
             (try clear hb2)
             (try clear hk)
             (try clear hi)
             refine hK.out _ _ ⟨(blk_cell BK304.out 0).trans rfl, (blk_cell BK304.out 1).trans rfl, (blk_cell BK304.out 2).trans rfl, (blk_cell BK307.out 0).trans rfl, (blk_cell BK307.out 1).trans rfl, (blk_cell BK307.out 2).trans rfl⟩ (fun hHeld => ?_)
             clear hK K
             refine NM 55 ?_
             refine PH 4 56 HT_.out ?_
             refine PH 5 57 HT_.out ?_
             refine TH 6 58 HT_.out HW_.out hHeld ?_
             refine TH 8 60 HT_.out HW_.out hHeld ?_
             refine OH 7 (some 59) HT_.out (fun K hK => ?_)
             refine goes_ Try.func123 (by kernel_rfl) rfl #[.agg #[.int .i64 ((rd_T35 l0 (rd x3_3 (ji13))).f0), .bool ((rd_T35 l0 (rd x3_3 (ji13))).f1), .slice A303_2 ((rd_T35 l0 (rd x3_3 (ji13))).f2).length c303_2]] (by rfl) rfl rfl (by (try simp only [List.map_toArray, List.map_cons, List.map_nil]); first | done | (simp only [hji13]; rfl) | rfl | (simp only [List.length_drop, List.length_take]; rfl)) ?_
             with_reducible refine (spec_LoadOf.calls ((rd_T35 l0 (rd x3_3 (ji13))).f0) ((rd_T35 l0 (rd x3_3 (ji13))).f1) _ _ ((rd_T35 l0 (rd x3_3 (ji13))).f2) t314 _ ?side1 ?side2 A40.out).mono ?_
             (case side1 => exact CC (Kd.C_below HR303_2.out HB.out))
             (case side2 => exact HC303_2.out)
             rintro e w70 ⟨rfl, hb⟩
             refine ⟨_, rfl, ?_⟩
             replace HO_3 := AM (Kd.R_below (RR HO_3.out) hb); replace BK304 := AM (KB BK304.out hb); replace BK307 := AM (KB BK307.out hb); replace HB := AM (below_step (BB2 HB.out GE304.out GE307.out) hb)
             (try clear hb)
             (try clear hb2)
             (try clear hk)
             (try clear hi)
             refine hK.out _ _ ⟨(blk_cell BK304.out 0).trans rfl, (blk_cell BK304.out 1).trans rfl, (blk_cell BK304.out 2).trans rfl, (blk_cell BK307.out 0).trans rfl, (blk_cell BK307.out 1).trans rfl, (blk_cell BK307.out 2).trans rfl⟩ (fun hHeld => ?_)
             clear hK K
             refine NM 59 ?_
             refine OH 9 (some 61) HT_.out (fun K hK => ?_)
             refine GO Try.func123 #[.agg #[.int .i64 ((rd_T35 l0 (rd x3_3 x6_3)).f0), .bool ((rd_T35 l0 (rd x3_3 x6_3)).f1), .slice A306_2 ((rd_T35 l0 (rd x3_3 x6_3)).f2).length c306_2]] ?_
             with_reducible refine (spec_LoadOf.calls ((rd_T35 l0 (rd x3_3 x6_3)).f0) ((rd_T35 l0 (rd x3_3 x6_3)).f1) _ _ ((rd_T35 l0 (rd x3_3 x6_3)).f2) t315 _ ?side1 ?side2 A41.out).mono ?_
             (case side1 => exact CC (Kd.C_below HR306_2.out HB.out))
             (case side2 => exact HC306_2.out)
             rintro e w71 ⟨rfl, hb⟩
             refine ⟨_, rfl, ?_⟩
             replace HO_3 := AM (Kd.R_below (RR HO_3.out) hb); replace BK304 := AM (KB BK304.out hb); replace BK307 := AM (KB BK307.out hb); replace HB := AM (below_step (BB2 HB.out GE304.out GE307.out) hb)
             (try clear hb)
             (try clear hb2)
             (try clear hk)
             (try clear hi)
             refine hK.out _ _ ⟨(blk_cell BK304.out 0).trans rfl, (blk_cell BK304.out 1).trans rfl, (blk_cell BK304.out 2).trans rfl, (blk_cell BK307.out 0).trans rfl, (blk_cell BK307.out 1).trans rfl, (blk_cell BK307.out 2).trans rfl⟩ (fun hHeld => ?_)
             clear hK K
             refine NM 61 ?_
             refine PH 10 62 HT_.out ?_
             refine PH 11 63 HT_.out ?_
             refine PH 12 64 HT_.out ?_
             refine PH 14 66 HT_.out ?_
             refine TH 13 65 HT_.out HW_.out hHeld ?_
             refine TH 15 67 HT_.out HW_.out hHeld ?_
             refine PH 16 68 HT_.out ?_
             refine PH 17 69 HT_.out ?_
             refine PH 18 70 HT_.out ?_
             refine done_ (done_of HT_.out (by kernel_rfl)) ?_
             try go_wp2
             (try simp only [← hl3_3])
             go_roundg k3
             case measure => have := HK1.out; have := HK2.out; have := HK3.out; omega
             case rel => exact ⟨(x3_3), (ji13), (by first | rfl | (simp; done) | (simp only [← hji13] <;> (first | rfl | simp)) | (simp [*]; done)), H', ⟨by have := HK1.out; have := HK2.out; have := HK3.out; omega⟩, ⟨by (try simp only [hl3_3]); (with_reducible repeat (first | apply Kd.R_alloc | apply Kd.R_drewN | apply Kd.R_drew)); exact HO_3.out⟩, ⟨(BB2 HB.out GE304.out GE307.out)⟩⟩
           ·rw [if_neg c42] at H
            have c42b0 : (t314 == t315) = false := beq_eq_false_iff_ne.mpr c42
            have c42b1 : (t314 != t315) = true := bne_iff_ne.mpr c42
            have H' := AM H
            clear H
            have p302 : 0 ≤ ((ji13) : Int) := DT
            have q302 : (ji13) < (x3_3.length : Int) := DT
            obtain ⟨ad302, e302, hx302_0⟩ := Kd.at_int (Kd.R_reads' HO_3.out).2.2 (ji13) p302 q302
            cases e302
            replace p302 := eq_true p302
            replace q302 := eq_true q302
            have p303 : 0 ≤ ((rd x3_3 (ji13)) : Int) := DT
            have q303 : (rd x3_3 (ji13)) < (l0.length : Int) := DT
            obtain ⟨ad303, A303_2, c303_2, e303, hx303_0, hx303_1, hx303_2, hl303_2, hi303_2⟩ := at_T35 HR0.out (rd x3_3 (ji13)) p303 q303
            cases e303
            replace hx303_0 := CX HB.out hx303_0
            replace hx303_1 := CX HB.out hx303_1
            replace hx303_2 := CX HB.out hx303_2
            have HR303_2 := AM hi303_2
            have HC303_2 := AM hl303_2
            clear hi303_2 hl303_2
            replace p303 := eq_true p303
            replace q303 := eq_true q303
            try go_wp2_with (first | ((with_reducible refine gate_dst (N := 7) rfl ?_); refine BX 7 #[.int .i64 0, .bool false, .slice none 0 0] 35 ?_; intro gb304 hg w72 hbox hb; have BK304 := AM (hbox); have GW304 : Aside0 (w.heap.size ≤ gb304) := WG hg (BB HB.out); have GE304 := GW304; replace HO_3 := AM (Kd.R_below (RR HO_3.out) hb); replace HB := AM (below_step (BB HB.out) hb); clear hb hbox hg; have hcz73 := blk_cell BK304.out; have hfz73 := blk_frozen BK304.out; have p305 : 0 ≤ (x6_3 : Int) := DT; have q305 : x6_3 < (x3_3.length : Int) := DT; obtain ⟨ad305, e305, hx305_0⟩ := Kd.at_int (Kd.R_reads' HO_3.out).2.2 x6_3 p305 q305; obtain rfl : ad302 = ad305 := (by injection e305); have hn305_0 : ad302.block ≠ gb304 := Kd.own_blk (Kd.R_ne HO_3.out BK304.out (by decide)); have hn305_1 : ad302.block ≠ gb304 := Kd.own_blk (Kd.R_ne HO_3.out BK304.out (by decide)); have hn305_2 : ad302.block ≠ gb304 := Kd.own_blk (Kd.R_ne HO_3.out BK304.out (by decide)); replace hx305_0 := (cell_far (p := ⟨gb304, 0, none⟩) (by first | (rw [add_block]; exact hn305_0) | (show (Addr.add _ _).block ≠ _; rw [add_block]; exact hn305_0) | exact hn305_0) (.int .i64 ((rd_T35 l0 (rd x3_3 (ji13))).f0))).trans hx305_0; replace hx305_0 := (cell_far (p := ⟨gb304, 1, none⟩) (by first | (rw [add_block]; exact hn305_1) | (show (Addr.add _ _).block ≠ _; rw [add_block]; exact hn305_1) | exact hn305_1) (.bool ((rd_T35 l0 (rd x3_3 (ji13))).f1))).trans hx305_0; replace hx305_0 := (cell_far (p := ⟨gb304, 2, none⟩) (by first | (rw [add_block]; exact hn305_2) | (show (Addr.add _ _).block ≠ _; rw [add_block]; exact hn305_2) | exact hn305_2) (.slice A303_2 ((rd_T35 l0 (rd x3_3 (ji13))).f2).length c303_2)).trans hx305_0; clear hn305_0; clear hn305_1; clear hn305_2; replace p305 := eq_true p305; replace q305 := eq_true q305; have p306 : 0 ≤ ((rd x3_3 x6_3) : Int) := DT; have q306 : (rd x3_3 x6_3) < (l0.length : Int) := DT; obtain ⟨ad306, A306_2, c306_2, e306, hx306_0, hx306_1, hx306_2, hl306_2, hi306_2⟩ := at_T35 HR0.out (rd x3_3 x6_3) p306 q306; obtain rfl : ad303 = ad306 := (by injection e306); have hn306_0 : ad303.block ≠ gb304 := Nat.ne_of_lt (Nat.lt_of_lt_of_le (by have := World.block_lt_of_cell? _ _ hx306_0; first | rwa [add_block] at this | exact this) GW304.out); have hn306_1 : ad303.block ≠ gb304 := Nat.ne_of_lt (Nat.lt_of_lt_of_le (by have := World.block_lt_of_cell? _ _ hx306_0; first | rwa [add_block] at this | exact this) GW304.out); have hn306_2 : ad303.block ≠ gb304 := Nat.ne_of_lt (Nat.lt_of_lt_of_le (by have := World.block_lt_of_cell? _ _ hx306_0; first | rwa [add_block] at this | exact this) GW304.out); replace hx306_0 := CX HB.out hx306_0; replace hx306_1 := CX HB.out hx306_1; replace hx306_2 := CX HB.out hx306_2; have HR306_2 := AM hi306_2; have HC306_2 := AM hl306_2; clear hi306_2 hl306_2; replace hx306_0 := (cell_far (p := ⟨gb304, 0, none⟩) (by first | (rw [add_block]; exact hn306_0) | (show (Addr.add _ _).block ≠ _; rw [add_block]; exact hn306_0) | exact hn306_0) (.int .i64 ((rd_T35 l0 (rd x3_3 (ji13))).f0))).trans hx306_0; replace hx306_1 := (cell_far (p := ⟨gb304, 0, none⟩) (by first | (rw [add_block]; exact hn306_0) | (show (Addr.add _ _).block ≠ _; rw [add_block]; exact hn306_0) | exact hn306_0) (.int .i64 ((rd_T35 l0 (rd x3_3 (ji13))).f0))).trans hx306_1; replace hx306_2 := (cell_far (p := ⟨gb304, 0, none⟩) (by first | (rw [add_block]; exact hn306_0) | (show (Addr.add _ _).block ≠ _; rw [add_block]; exact hn306_0) | exact hn306_0) (.int .i64 ((rd_T35 l0 (rd x3_3 (ji13))).f0))).trans hx306_2; replace hx306_0 := (cell_far (p := ⟨gb304, 1, none⟩) (by first | (rw [add_block]; exact hn306_1) | (show (Addr.add _ _).block ≠ _; rw [add_block]; exact hn306_1) | exact hn306_1) (.bool ((rd_T35 l0 (rd x3_3 (ji13))).f1))).trans hx306_0; replace hx306_1 := (cell_far (p := ⟨gb304, 1, none⟩) (by first | (rw [add_block]; exact hn306_1) | (show (Addr.add _ _).block ≠ _; rw [add_block]; exact hn306_1) | exact hn306_1) (.bool ((rd_T35 l0 (rd x3_3 (ji13))).f1))).trans hx306_1; replace hx306_2 := (cell_far (p := ⟨gb304, 1, none⟩) (by first | (rw [add_block]; exact hn306_1) | (show (Addr.add _ _).block ≠ _; rw [add_block]; exact hn306_1) | exact hn306_1) (.bool ((rd_T35 l0 (rd x3_3 (ji13))).f1))).trans hx306_2; replace hx306_0 := (cell_far (p := ⟨gb304, 2, none⟩) (by first | (rw [add_block]; exact hn306_2) | (show (Addr.add _ _).block ≠ _; rw [add_block]; exact hn306_2) | exact hn306_2) (.slice A303_2 ((rd_T35 l0 (rd x3_3 (ji13))).f2).length c303_2)).trans hx306_0; replace hx306_1 := (cell_far (p := ⟨gb304, 2, none⟩) (by first | (rw [add_block]; exact hn306_2) | (show (Addr.add _ _).block ≠ _; rw [add_block]; exact hn306_2) | exact hn306_2) (.slice A303_2 ((rd_T35 l0 (rd x3_3 (ji13))).f2).length c303_2)).trans hx306_1; replace hx306_2 := (cell_far (p := ⟨gb304, 2, none⟩) (by first | (rw [add_block]; exact hn306_2) | (show (Addr.add _ _).block ≠ _; rw [add_block]; exact hn306_2) | exact hn306_2) (.slice A303_2 ((rd_T35 l0 (rd x3_3 (ji13))).f2).length c303_2)).trans hx306_2; clear hn306_0; clear hn306_1; clear hn306_2; replace p306 := eq_true p306; replace q306 := eq_true q306) | ((with_reducible refine gate_dst (N := 8) rfl ?_); refine BX 8 #[.int .i64 0, .bool false, .slice none 0 0] 35 ?_; intro gb307 hg w74 hbox hb; have n0_ := AM (Kd.R_below (by (with_reducible repeat (first | apply Kd.R_alloc | apply Kd.R_drewN | apply Kd.R_drew)); exact (Kd.R_mono (Kd.R_far (p := ⟨gb304, 2, none⟩) (Kd.R_far (p := ⟨gb304, 1, none⟩) (Kd.R_far (p := ⟨gb304, 0, none⟩) (Kd.R_types HO_3.out BK304.out (by decide)) (fun _ hk => hk.2) (.int .i64 ((rd_T35 l0 (rd x3_3 (ji13))).f0))) (fun _ hk => hk.2) (.bool ((rd_T35 l0 (rd x3_3 (ji13))).f1))) (fun _ hk => hk.2) (.slice A303_2 ((rd_T35 l0 (rd x3_3 (ji13))).f2).length c303_2)) (fun _ h_ => h_.1))) hb); have n1_ := AM (blk_below (g := gb304) (o := .cells #[.int .i64 ((rd_T35 l0 (rd x3_3 (ji13))).f0), .bool ((rd_T35 l0 (rd x3_3 (ji13))).f1), .slice A303_2 ((rd_T35 l0 (rd x3_3 (ji13))).f2).length c303_2] 35 (0, 0)) (by refine BD ?_; refine blk_put (cs := #[.int .i64 ((rd_T35 l0 (rd x3_3 (ji13))).f0), .bool ((rd_T35 l0 (rd x3_3 (ji13))).f1), .slice none 0 0]) ?_ 2 _ rfl; refine BD ?_; refine blk_put (cs := #[.int .i64 ((rd_T35 l0 (rd x3_3 (ji13))).f0), .bool false, .slice none 0 0]) ?_ 1 _ rfl; refine BD ?_; refine blk_put (cs := #[.int .i64 0, .bool false, .slice none 0 0]) ?_ 0 _ rfl; refine BD ?_; exact BK304.out) hb); have n2_ := AM (below_step (BB1 HB.out GE304.out) hb); have n3_ := AM (hbox); have n4_ : Aside0 (w.heap.size ≤ gb307) := WG hg (BB1 HB.out GE304.out); have n5_ := n4_; have n6_ := AM ((by rw [hg]; exact Nat.ne_of_lt (blk_lt (g := gb304) (o := .cells #[.int .i64 ((rd_T35 l0 (rd x3_3 (ji13))).f0), .bool ((rd_T35 l0 (rd x3_3 (ji13))).f1), .slice A303_2 ((rd_T35 l0 (rd x3_3 (ji13))).f2).length c303_2] 35 (0, 0)) (by refine BD ?_; refine blk_put (cs := #[.int .i64 ((rd_T35 l0 (rd x3_3 (ji13))).f0), .bool ((rd_T35 l0 (rd x3_3 (ji13))).f1), .slice none 0 0]) ?_ 2 _ rfl; refine BD ?_; refine blk_put (cs := #[.int .i64 ((rd_T35 l0 (rd x3_3 (ji13))).f0), .bool false, .slice none 0 0]) ?_ 1 _ rfl; refine BD ?_; refine blk_put (cs := #[.int .i64 0, .bool false, .slice none 0 0]) ?_ 0 _ rfl; refine BD ?_; exact BK304.out)) : gb304 ≠ gb307)); have n7_ := AM ((by rw [hg]; exact Nat.ne_of_gt (blk_lt (g := gb304) (o := .cells #[.int .i64 ((rd_T35 l0 (rd x3_3 (ji13))).f0), .bool ((rd_T35 l0 (rd x3_3 (ji13))).f1), .slice A303_2 ((rd_T35 l0 (rd x3_3 (ji13))).f2).length c303_2] 35 (0, 0)) (by refine BD ?_; refine blk_put (cs := #[.int .i64 ((rd_T35 l0 (rd x3_3 (ji13))).f0), .bool ((rd_T35 l0 (rd x3_3 (ji13))).f1), .slice none 0 0]) ?_ 2 _ rfl; refine BD ?_; refine blk_put (cs := #[.int .i64 ((rd_T35 l0 (rd x3_3 (ji13))).f0), .bool false, .slice none 0 0]) ?_ 1 _ rfl; refine BD ?_; refine blk_put (cs := #[.int .i64 0, .bool false, .slice none 0 0]) ?_ 0 _ rfl; refine BD ?_; exact BK304.out)) : gb307 ≠ gb304)); clear HO_3; clear BK304; clear HB; have HO_3 := n0_; have BK304 := n1_; have HB := n2_; have BK307 := n3_; have GW307 := n4_; have GE307 := n5_; have NB304_307 := n6_; have NB307_304 := n7_; clear n0_ n1_ n2_ n3_ n4_ n5_ n6_ n7_; clear hb hbox hg; have hnb75 := NB307_304.out; have hnc75 := NB304_307.out; have hcz76 := blk_cell BK307.out; have hfz76 := blk_frozen BK307.out))
            obtain ⟨w77, hw_⟩ : ∃ w_, w_ = (((w74.setCell ⟨gb307, 0, none⟩ (.int .i64 ((rd_T35 l0 (rd x3_3 x6_3)).f0))).setCell ⟨gb307, 1, none⟩ (.bool ((rd_T35 l0 (rd x3_3 x6_3)).f1))).setCell ⟨gb307, 2, none⟩ (.slice A306_2 ((rd_T35 l0 (rd x3_3 x6_3)).f2).length c306_2)) := ⟨_, rfl⟩
            rw [← hw_]
            have n0_ : Aside0 (Kd.R (Kd.int .i64) 3 w77 w.heap.size (fun _ => True) (.slice (some ad302) x3_3.length co11) x3_3) := ⟨by rw [hw_]; (with_reducible repeat (first | apply Kd.R_alloc | apply Kd.R_drewN | apply Kd.R_drew)); exact Kd.R_mono (Kd.R_far (p := ⟨gb307, 2, none⟩) (Kd.R_far (p := ⟨gb307, 1, none⟩) (Kd.R_far (p := ⟨gb307, 0, none⟩) (Kd.R_types HO_3.out BK307.out (by decide)) (fun _ hk => hk.2) (.int .i64 ((rd_T35 l0 (rd x3_3 x6_3)).f0))) (fun _ hk => hk.2) (.bool ((rd_T35 l0 (rd x3_3 x6_3)).f1))) (fun _ hk => hk.2) (.slice A306_2 ((rd_T35 l0 (rd x3_3 x6_3)).f2).length c306_2)) (fun _ hk => trivial)⟩
            have n1_ : Aside0 (w77.heap[gb304]? = some (.cells #[.int .i64 ((rd_T35 l0 (rd x3_3 (ji13))).f0), .bool ((rd_T35 l0 (rd x3_3 (ji13))).f1), .slice A303_2 ((rd_T35 l0 (rd x3_3 (ji13))).f2).length c303_2] 35 (0, 0))) := ⟨by rw [hw_]; refine BD ?_; refine blk_far ?_ NB304_307.out _; refine BD ?_; refine blk_far ?_ NB304_307.out _; refine BD ?_; refine blk_far ?_ NB304_307.out _; refine BD ?_; exact BK304.out⟩
            have n2_ : Aside0 (w77.heap[gb307]? = some (.cells #[.int .i64 ((rd_T35 l0 (rd x3_3 x6_3)).f0), .bool ((rd_T35 l0 (rd x3_3 x6_3)).f1), .slice A306_2 ((rd_T35 l0 (rd x3_3 x6_3)).f2).length c306_2] 35 (0, 0))) := ⟨by rw [hw_]; refine BD ?_; refine blk_put (cs := #[.int .i64 ((rd_T35 l0 (rd x3_3 x6_3)).f0), .bool ((rd_T35 l0 (rd x3_3 x6_3)).f1), .slice none 0 0]) ?_ 2 _ rfl; refine BD ?_; refine blk_put (cs := #[.int .i64 ((rd_T35 l0 (rd x3_3 x6_3)).f0), .bool false, .slice none 0 0]) ?_ 1 _ rfl; refine BD ?_; refine blk_put (cs := #[.int .i64 0, .bool false, .slice none 0 0]) ?_ 0 _ rfl; refine BD ?_; exact BK307.out⟩
            have n3_ : Aside0 (Below w.heap.size w w77) := ⟨by rw [hw_]; exact (BB2 HB.out GE304.out GE307.out)⟩
            (try clear HO_3)
            (try clear BK304)
            (try clear BK307)
            (try clear HB)
            clear hw_
            have HO_3 := n0_
            have BK304 := n1_
            have BK307 := n2_
            have HB := n3_
            clear n0_ n1_ n2_ n3_
            replace HO_3 := AM (Kd.R_drew HO_3.out); replace BK304 := AM (blk_drew BK304.out); replace BK307 := AM (blk_drew BK307.out); replace HB := AM (below_drew1 HB.out)
            refine start_ (n := 19) (S := fun w' => w'.cell? ⟨gb304, 0, none⟩ = some (.int .i64 ((rd_T35 l0 (rd x3_3 (ji13))).f0)) ∧ w'.cell? ⟨gb304, 1, none⟩ = some (.bool ((rd_T35 l0 (rd x3_3 (ji13))).f1)) ∧ w'.cell? ⟨gb304, 2, none⟩ = some (.slice A303_2 ((rd_T35 l0 (rd x3_3 (ji13))).f2).length c303_2) ∧ w'.cell? ⟨gb307, 0, none⟩ = some (.int .i64 ((rd_T35 l0 (rd x3_3 x6_3)).f0)) ∧ w'.cell? ⟨gb307, 1, none⟩ = some (.bool ((rd_T35 l0 (rd x3_3 x6_3)).f1)) ∧ w'.cell? ⟨gb307, 2, none⟩ = some (.slice A306_2 ((rd_T35 l0 (rd x3_3 x6_3)).f2).length c306_2)) (ds := []) (.replicate 19 false) (by kernel_rfl) rfl rfl ⟨(blk_cell BK304.out 0).trans rfl, (blk_cell BK304.out 1).trans rfl, (blk_cell BK304.out 2).trans rfl, (blk_cell BK307.out 0).trans rfl, (blk_cell BK307.out 1).trans rfl, (blk_cell BK307.out 2).trans rfl⟩ (fun hHeld => ?_); refine with_tabW spec_l15Order.tab15 spec_l15Order.bits15 (fun HT_ HW_ => ?_)
            generalize w77.drew = w78 at HO_3 BK304 BK307 HB hHeld ⊢
            refine TH 0 52 HT_.out HW_.out hHeld ?_
            refine TH 2 54 HT_.out HW_.out hHeld ?_
            refine OH 1 (some 53) HT_.out (fun K hK => ?_)
            refine goes_ Try.func123 (by kernel_rfl) rfl #[.agg #[.int .i64 ((rd_T35 l0 (rd x3_3 (ji13))).f0), .bool ((rd_T35 l0 (rd x3_3 (ji13))).f1), .slice A303_2 ((rd_T35 l0 (rd x3_3 (ji13))).f2).length c303_2]] (by rfl) rfl rfl (by (try simp only [List.map_toArray, List.map_cons, List.map_nil]); first | done | (simp only [hji13]; rfl) | rfl | (simp only [List.length_drop, List.length_take]; rfl)) ?_
            with_reducible refine (spec_LoadOf.calls ((rd_T35 l0 (rd x3_3 (ji13))).f0) ((rd_T35 l0 (rd x3_3 (ji13))).f1) _ _ ((rd_T35 l0 (rd x3_3 (ji13))).f2) t308 _ ?side1 ?side2 A22.out).mono ?_
            (case side1 => exact CC (Kd.C_below HR303_2.out HB.out))
            (case side2 => exact HC303_2.out)
            rintro e w79 ⟨rfl, hb⟩
            refine ⟨_, rfl, ?_⟩
            replace HO_3 := AM (Kd.R_below (RR HO_3.out) hb); replace BK304 := AM (KB BK304.out hb); replace BK307 := AM (KB BK307.out hb); replace HB := AM (below_step (BB2 HB.out GE304.out GE307.out) hb)
            (try clear hb)
            (try clear hb2)
            (try clear hk)
            (try clear hi)
            refine hK.out _ _ ⟨(blk_cell BK304.out 0).trans rfl, (blk_cell BK304.out 1).trans rfl, (blk_cell BK304.out 2).trans rfl, (blk_cell BK307.out 0).trans rfl, (blk_cell BK307.out 1).trans rfl, (blk_cell BK307.out 2).trans rfl⟩ (fun hHeld => ?_)
            clear hK K
            refine NM 53 ?_
            refine OH 3 (some 55) HT_.out (fun K hK => ?_)
            refine GO Try.func123 #[.agg #[.int .i64 ((rd_T35 l0 (rd x3_3 x6_3)).f0), .bool ((rd_T35 l0 (rd x3_3 x6_3)).f1), .slice A306_2 ((rd_T35 l0 (rd x3_3 x6_3)).f2).length c306_2]] ?_
            with_reducible refine (spec_LoadOf.calls ((rd_T35 l0 (rd x3_3 x6_3)).f0) ((rd_T35 l0 (rd x3_3 x6_3)).f1) _ _ ((rd_T35 l0 (rd x3_3 x6_3)).f2) t309 _ ?side1 ?side2 A23.out).mono ?_
            (case side1 => exact CC (Kd.C_below HR306_2.out HB.out))
            (case side2 => exact HC306_2.out)
            rintro e w80 ⟨rfl, hb⟩
            refine ⟨_, rfl, ?_⟩
            replace HO_3 := AM (Kd.R_below (RR HO_3.out) hb); replace BK304 := AM (KB BK304.out hb); replace BK307 := AM (KB BK307.out hb); replace HB := AM (below_step (BB2 HB.out GE304.out GE307.out) hb)
            (try clear hb)
            (try clear hb2)
            (try clear hk)
            (try clear hi)
            refine hK.out _ _ ⟨(blk_cell BK304.out 0).trans rfl, (blk_cell BK304.out 1).trans rfl, (blk_cell BK304.out 2).trans rfl, (blk_cell BK307.out 0).trans rfl, (blk_cell BK307.out 1).trans rfl, (blk_cell BK307.out 2).trans rfl⟩ (fun hHeld => ?_)
            clear hK K
            refine NM 55 ?_
            refine PH 4 56 HT_.out ?_
            refine PH 5 57 HT_.out ?_
            refine TH 6 58 HT_.out HW_.out hHeld ?_
            refine TH 8 60 HT_.out HW_.out hHeld ?_
            refine OH 7 (some 59) HT_.out (fun K hK => ?_)
            refine goes_ Try.func123 (by kernel_rfl) rfl #[.agg #[.int .i64 ((rd_T35 l0 (rd x3_3 (ji13))).f0), .bool ((rd_T35 l0 (rd x3_3 (ji13))).f1), .slice A303_2 ((rd_T35 l0 (rd x3_3 (ji13))).f2).length c303_2]] (by rfl) rfl rfl (by (try simp only [List.map_toArray, List.map_cons, List.map_nil]); first | done | (simp only [hji13]; rfl) | rfl | (simp only [List.length_drop, List.length_take]; rfl)) ?_
            with_reducible refine (spec_LoadOf.calls ((rd_T35 l0 (rd x3_3 (ji13))).f0) ((rd_T35 l0 (rd x3_3 (ji13))).f1) _ _ ((rd_T35 l0 (rd x3_3 (ji13))).f2) t314 _ ?side1 ?side2 A40.out).mono ?_
            (case side1 => exact CC (Kd.C_below HR303_2.out HB.out))
            (case side2 => exact HC303_2.out)
            rintro e w81 ⟨rfl, hb⟩
            refine ⟨_, rfl, ?_⟩
            replace HO_3 := AM (Kd.R_below (RR HO_3.out) hb); replace BK304 := AM (KB BK304.out hb); replace BK307 := AM (KB BK307.out hb); replace HB := AM (below_step (BB2 HB.out GE304.out GE307.out) hb)
            (try clear hb)
            (try clear hb2)
            (try clear hk)
            (try clear hi)
            refine hK.out _ _ ⟨(blk_cell BK304.out 0).trans rfl, (blk_cell BK304.out 1).trans rfl, (blk_cell BK304.out 2).trans rfl, (blk_cell BK307.out 0).trans rfl, (blk_cell BK307.out 1).trans rfl, (blk_cell BK307.out 2).trans rfl⟩ (fun hHeld => ?_)
            clear hK K
            refine NM 59 ?_
            refine OH 9 (some 61) HT_.out (fun K hK => ?_)
            refine GO Try.func123 #[.agg #[.int .i64 ((rd_T35 l0 (rd x3_3 x6_3)).f0), .bool ((rd_T35 l0 (rd x3_3 x6_3)).f1), .slice A306_2 ((rd_T35 l0 (rd x3_3 x6_3)).f2).length c306_2]] ?_
            with_reducible refine (spec_LoadOf.calls ((rd_T35 l0 (rd x3_3 x6_3)).f0) ((rd_T35 l0 (rd x3_3 x6_3)).f1) _ _ ((rd_T35 l0 (rd x3_3 x6_3)).f2) t315 _ ?side1 ?side2 A41.out).mono ?_
            (case side1 => exact CC (Kd.C_below HR306_2.out HB.out))
            (case side2 => exact HC306_2.out)
            rintro e w82 ⟨rfl, hb⟩
            refine ⟨_, rfl, ?_⟩
            replace HO_3 := AM (Kd.R_below (RR HO_3.out) hb); replace BK304 := AM (KB BK304.out hb); replace BK307 := AM (KB BK307.out hb); replace HB := AM (below_step (BB2 HB.out GE304.out GE307.out) hb)
            (try clear hb)
            (try clear hb2)
            (try clear hk)
            (try clear hi)
            refine hK.out _ _ ⟨(blk_cell BK304.out 0).trans rfl, (blk_cell BK304.out 1).trans rfl, (blk_cell BK304.out 2).trans rfl, (blk_cell BK307.out 0).trans rfl, (blk_cell BK307.out 1).trans rfl, (blk_cell BK307.out 2).trans rfl⟩ (fun hHeld => ?_)
            clear hK K
            refine NM 61 ?_
            refine PH 10 62 HT_.out ?_
            refine PH 11 63 HT_.out ?_
            refine PO 12 64 HT_.out ?_
            refine PO 13 65 HT_.out ?_
            refine PO 14 66 HT_.out ?_
            refine PO 15 67 HT_.out ?_
            refine PO 16 68 HT_.out ?_
            refine PH 17 69 HT_.out ?_
            refine PH 18 70 HT_.out ?_
            refine done_ (done_of HT_.out (by kernel_rfl)) ?_
            try go_wp2
            (try simp only [← hl3_3])
            go_roundg k3
            case measure => have := HK1.out; have := HK2.out; have := HK3.out; omega
            case rel => exact ⟨(x3_3), (ji13), (by first | rfl | (simp; done) | (simp only [← hji13] <;> (first | rfl | simp)) | (simp [*]; done)), H', ⟨by have := HK1.out; have := HK2.out; have := HK3.out; omega⟩, ⟨by (try simp only [hl3_3]); (with_reducible repeat (first | apply Kd.R_alloc | apply Kd.R_drewN | apply Kd.R_drew)); exact HO_3.out⟩, ⟨(BB2 HB.out GE304.out GE307.out)⟩⟩
         ·rw [if_neg c12] at H
          have c12b0 := decide_eq_false c12
          clear c12
          have H' := AM H
          clear H
          go_wp2
          (try simp only [← hl3_3])
          go_roundg k3
          case measure => have := HK1.out; have := HK2.out; have := HK3.out; omega
          case rel => exact ⟨(x3_3), (wrap64 (x5_2 + 1)), FR, H', ⟨by have := HK1.out; have := HK2.out; have := HK3.out; omega⟩, ⟨by (try simp only [hl3_3]); (with_reducible repeat (first | apply Kd.R_alloc | apply Kd.R_drewN | apply Kd.R_drew)); exact HO_3.out⟩, ⟨(BB HB.out)⟩⟩
      ·rw [if_neg c10] at H
       have c10b0 := decide_eq_false c10
       clear c10
       obtain rfl := Option.some.inj H
       obtain ⟨Ao83, co83, eo83⟩ := Kd.R_slice HO_3.out
       subst eo83
       go_wp2
       go_ret
       exact ⟨_, ER, by (with_reducible repeat (first | apply Kd.R_alloc | apply Kd.R_drewN | apply Kd.R_drew)); exact HO_3.out, (BB HB.out)⟩

mutual
def spec_PlaceGroup.j0 : Nat → List (S35) → Int → List Int → List Int → Bool → Option (List Int × Bool)
 | 0, _, _, _, _, _ => none
 | k + 1, x0, x1, x6, x7, x19 => if x19 = true then (some (x7, false)) else (spec_PlaceGroup.l0 k x0 x1 x6 x7 0)
def spec_PlaceGroup.l0 : Nat → List (S35) → Int → List Int → List Int → Int → Option (List Int × Bool)
 | 0, _, _, _, _, _ => none
 | k + 1, x0, x1, x6, x7, x8 => if x8 < x1 then (if 0 ≤ x8 then (if x8 < (x6.length : Int) then (if 0 ≤ (rd x6 x8) then (if (rd x6 x8) < (x0.length : Int) then (if x7.length < 17592186044416 then (spec_PlaceGroup.l0 k x0 x1 x6 (x7 ++ [(rd_T35 x0 (rd x6 x8)).f0]) (wrap64 (x8 + 1))) else (none)) else (none)) else (none)) else (none)) else (none)) else (some (x7, true))
end
def spec_PlaceGroup.f (k : Nat) (l0 : List (S35)) (a1 : Int) : Option (List Int × Bool) := (spec_l15Order.f k l0).bind fun t320 => ((some (([] : List Int) : List Int)).bind fun y323 => (if a1 < 0 then (spec_PlaceGroup.j0 k l0 a1 t320 y323 true) else (spec_PlaceGroup.j0 k l0 a1 t320 y323 (decide (a1 > (t320.length : Int))))))
set_option maxHeartbeats 8000000 in
set_option maxRecDepth 100000 in
theorem spec_PlaceGroup.calls (k : Nat) (A0 : Option Addr) (c0 : Nat) (l0 : List (S35)) (a1 : Int) (r1 : List Int) (r2 : Bool) (w : World) (hr0 : Kd.C k35 w A0 l0.length l0) (hc0 : l0.length ≤ c0) (h : spec_PlaceGroup.f k l0 a1 = some (r1, r2)) :
  Calls Try.prog 76 #[.slice A0 l0.length c0, .int .i64 a1] w fun e w' => ∃ v0_ : Value, e = .returned (.tuple #[v0_, .bool r2]) ∧ Kd.R (Kd.int .i64) 3 w' w.heap.size (fun _ => True) v0_ r1 ∧ Below w.heap.size w w' := by
 have HR0 := AM hr0
 have HC0 := AM hc0
 clear hr0 hc0
 have HB := AM (Below.refl w.heap.size w)
 have H : ((spec_l15Order.f k l0).bind fun t320 => ((some (([] : List Int) : List Int)).bind fun y323 => (if a1 < 0 then (spec_PlaceGroup.j0 k l0 a1 t320 y323 true) else (spec_PlaceGroup.j0 k l0 a1 t320 y323 (decide (a1 > (t320.length : Int))))))) = some (r1, r2) := h
 clear h
 replace H := Option.bind_eq_some_iff.mp H
 obtain ⟨t320, A30, H⟩ := H
 replace H : ((some (([] : List Int) : List Int)).bind fun y323 => (if a1 < 0 then (spec_PlaceGroup.j0 k l0 a1 t320 y323 true) else (spec_PlaceGroup.j0 k l0 a1 t320 y323 (decide (a1 > (t320.length : Int)))))) = some (r1, r2) := H
 have A3 := AM A30
 clear A30
 obtain ⟨y323, hy323⟩ : ∃ y_ : List Int, y_ = (([] : List Int)) := ⟨_, rfl⟩
 replace H : (if a1 < 0 then (spec_PlaceGroup.j0 k l0 a1 t320 y323 true) else (spec_PlaceGroup.j0 k l0 a1 t320 y323 (decide (a1 > (t320.length : Int))))) = some (r1, r2) := by first | (rw [hy323]; first | with_reducible exact H | with_reducible exact OB H) | with_reducible exact OB H | with_reducible exact H | (rw [hy323]; exact H) | exact H
 have Ny323 := AM hy323
 clear hy323
 have HC4 := AM H
 clear H
 go_enter Try.func76, Try.ntmps76
 go_upto_region 3 with (first | ((with_reducible refine gate_callee (f := 106) rfl ?_); refine GL (some 10) rfl rfl Try.func106 #[.slice A0 l0.length c0] rfl ?_; (with_reducible refine (spec_l15Order.calls k _ _ l0 t320 _ ?side1 ?side2 A3.out).mono ?_); (case side1 => exact CC HR0.out); (case side2 => exact HC0.out); rintro e w5 ⟨v321, rfl, ho0, hb⟩; refine ⟨_, rfl, ?_⟩; have HO322 := AM (Kd.R_lower ho0 (below_size (BB HB.out))); replace HB := AM (below_step (BB HB.out) hb); (try clear hb); (try clear ho0)) | ((with_reducible refine gate_dst (N := 11) rfl ?_); (try (refine gate_guard (by rfl) ?_; dsimp only)); refine Kd.R_lit (Kd.int .i64) _ 3 ?hg (N := 11) ?hd (xs := ([] : List Int)) (inner := []) (ok := fun _ => True) (okp := fun _ => True) ?hr ?hp (fun _ hk => hk) trivial (Below.refl _ _) (Nat.le_refl _) (by simp) ?_; (case hd => rfl); (case hg => rfl); (case hr => first | (go_simp; done) | (go_simp; rfl)); (case hp => exact (Reps.none _ _)); intro v324 w6 ho7 hb hg_ hnew_; clear hg_ hnew_; (first | rw [← Ny323.out] at ho7 | (simp only [Int.reduceToNat] at ho7; rw [← Ny323.out] at ho7)); have HO325 := AM (Kd.R_lower (Kd.R_new' ho7 (Kd.R_lt (RR HO322.out))) (below_size (BB HB.out))); replace HO322 := AM (Kd.R_elder' (RR HO322.out) (Kd.R_base ho7) hb); replace HB := AM (below_step (BB HB.out) hb); clear hb ho7))
 (try simp only [Act.put, List.setIfInBounds_toArray, List.set_cons_zero, List.set_cons_succ])
 go_cut [19] (fun v19 wc => ∃ (kq : Nat) (x19_3 : Bool), v19 = .bool x19_3 ∧ Aside0 (spec_PlaceGroup.j0 kq l0 a1 t320 y323 x19_3 = some (r1, r2)) ∧ Aside0 (kq ≤ k) ∧ Aside0 (Kd.R (Kd.int .i64) 3 wc w.heap.size (fun k_ => some k_ ≠ (v324 : Value).ownBlock) v321 t320) ∧ Aside0 (Kd.R (Kd.int .i64) 3 wc w.heap.size (fun k_ => some k_ ≠ (v321 : Value).ownBlock) v324 y323) ∧ Aside0 (Below w.heap.size w wc))
 case first =>
  have H := HC4.out
  clear HC4
  by_cases c8 : a1 < 0
  ·rw [if_pos c8] at H
   have c8b0 := decide_eq_true c8
   clear c8
   (first | rw [c8b0] | (simp only [i64_w, i32_w]; rw [c8b0]) | skip)
   have H' := AM H
   clear H
   go_wp2
   go_meet
   case rel => exact ⟨_, (true), FR, H', ⟨by first | omega | exact Nat.le_refl _⟩, ⟨by (with_reducible repeat (first | apply Kd.R_alloc | apply Kd.R_drewN | apply Kd.R_drew)); exact Kd.R_mono HO322.out (fun _ hk => hk.2)⟩, ⟨by (with_reducible repeat (first | apply Kd.R_alloc | apply Kd.R_drewN | apply Kd.R_drew)); exact Kd.R_mono HO325.out (fun _ hk => hk.2)⟩, ⟨(BB HB.out)⟩⟩
  ·rw [if_neg c8] at H
   have c8b0 := decide_eq_false c8
   clear c8
   (first | rw [c8b0] | (simp only [i64_w, i32_w]; rw [c8b0]) | skip)
   have H' := AM H
   clear H
   obtain ⟨Ao9, co9, eo9⟩ := Kd.R_slice HO322.out
   subst eo9
   go_wp2
   go_meet
   case rel => exact ⟨_, (decide (a1 > (t320.length : Int))), FR, H', ⟨by first | omega | exact Nat.le_refl _⟩, ⟨by (with_reducible repeat (first | apply Kd.R_alloc | apply Kd.R_drewN | apply Kd.R_drew)); exact Kd.R_mono HO322.out (fun _ hk => hk.2)⟩, ⟨by (with_reducible repeat (first | apply Kd.R_alloc | apply Kd.R_drewN | apply Kd.R_drew)); exact Kd.R_mono HO325.out (fun _ hk => hk.2)⟩, ⟨(BB HB.out)⟩⟩
 case rest =>
  clear HC4
  try clear c1
  try clear p2
  try clear c7
  try clear c8
  try clear c8b0
  obtain ⟨kq, x19_3, rfl, HA, HJ3, HO_6, HO_7, HB⟩ := hcut
  cases kq with
  | zero => exact absurd HA.out (by simp [spec_PlaceGroup.j0])
  | succ kj3 =>
   have H := HA.out
   clear HA
   simp only [spec_PlaceGroup.j0] at H
   by_cases c10 : x19_3 = true
   ·subst c10
    have H1 : (some (y323, false)) = some (r1, r2) := by rw [if_pos rfl] at H; exact H
    clear H
    have H := H1
    clear H1
    simp only [Option.some.injEq, Prod.mk.injEq] at H
    obtain ⟨rfl, rfl⟩ := H
    go_wp2
    go_ret2
    exact ⟨_, ER, by (with_reducible repeat (first | apply Kd.R_alloc | apply Kd.R_drewN | apply Kd.R_drew)); exact Kd.R_mono HO_7.out (fun _ hk => trivial), (BB HB.out)⟩
   ·replace c10 := Bool.eq_false_iff.mpr c10
    subst c10
    have H1 : (spec_PlaceGroup.l0 kj3 l0 a1 t320 y323 0) = some (r1, r2) := by rw [if_neg (show ¬ (false = true) by decide)] at H; exact H
    clear H
    have H := H1
    clear H1
    have H' := AM H
    clear H
    go_wp2
    go_loopg [7, 8] kj3 (fun kq v7 v8 w' => ∃ (x7_2 : List Int) (x8_2 : Int), v8 = .int .i64 x8_2 ∧ Aside0 (spec_PlaceGroup.l0 kq l0 a1 t320 x7_2 x8_2 = some (r1, r2)) ∧ Aside0 (kq ≤ kj3) ∧ Aside0 (Kd.R (Kd.int .i64) 3 w' w.heap.size (fun k_ => some k_ ≠ (v7 : Value).ownBlock) v321 t320) ∧ Aside0 (Kd.R (Kd.int .i64) 3 w' w.heap.size (fun k_ => some k_ ≠ (v321 : Value).ownBlock) v7 x7_2) ∧ Aside0 (Below w.heap.size w w'))
    case atStart => exact ⟨(y323), (0), FR, H', ⟨Nat.le_refl _⟩, ⟨(RR HO_6.out)⟩, ⟨(RR HO_7.out)⟩, ⟨(BB HB.out)⟩⟩
    case round =>
     clear H'
     try clear c1
     try clear p2
     try clear c7
     try clear c8
     try clear c8b0
     try clear c10
     try clear p2
     obtain ⟨x7_2, x8_2, rfl, HA, HK2, HO_6, HO_7, HB⟩ := hrel
     cases gk with
     | zero => exact absurd HA.out (by simp [spec_PlaceGroup.l0])
     | succ k2 =>
      have H := HA.out
      clear HA
      simp only [spec_PlaceGroup.l0] at H
      by_cases c11 : x8_2 < a1
      ·rw [if_pos c11] at H
       have c11b0 := decide_eq_true c11
       clear c11
       by_cases c12 : 0 ≤ x8_2
       rotate_left
       ·rw [if_neg c12] at H; exact absurd H (by simp)
       rw [if_pos c12] at H
       have c12b0 := decide_eq_true c12
       clear c12
       by_cases c13 : x8_2 < (t320.length : Int)
       rotate_left
       ·rw [if_neg c13] at H; exact absurd H (by simp)
       rw [if_pos c13] at H
       have c13b0 := decide_eq_true c13
       clear c13
       by_cases c14 : 0 ≤ (rd t320 x8_2)
       rotate_left
       ·rw [if_neg c14] at H; exact absurd H (by simp)
       rw [if_pos c14] at H
       have c14b0 := decide_eq_true c14
       clear c14
       by_cases c15 : (rd t320 x8_2) < (l0.length : Int)
       rotate_left
       ·rw [if_neg c15] at H; exact absurd H (by simp)
       rw [if_pos c15] at H
       have c15b0 := decide_eq_true c15
       clear c15
       by_cases c16 : x7_2.length < 17592186044416
       rotate_left
       ·rw [if_neg c16] at H; exact absurd H (by simp)
       rw [if_pos c16] at H
       have LMc16 := AM c16
       clear c16
       obtain ⟨y328, hy328⟩ : ∃ y_ : List Int, y_ = (x7_2 ++ [(rd_T35 l0 (rd t320 x8_2)).f0]) := ⟨_, rfl⟩
       replace H : (spec_PlaceGroup.l0 k2 l0 a1 t320 y328 (wrap64 (x8_2 + 1))) = some (r1, r2) := by first | (rw [hy328]; first | with_reducible exact H | with_reducible exact OB H) | with_reducible exact OB H | with_reducible exact H | (rw [hy328]; exact H) | exact H
       have Ny328 := AM hy328
       clear hy328
       have H' := AM H
       clear H
       obtain ⟨Ao17, co17, eo17⟩ := Kd.R_slice HO_6.out
       subst eo17
       have p326 : 0 ≤ (x8_2 : Int) := DT
       have q326 : x8_2 < (t320.length : Int) := DT
       obtain ⟨ad326, e326, hx326_0⟩ := Kd.at_int (Kd.R_reads' HO_6.out).2.2 x8_2 p326 q326
       cases e326
       replace p326 := eq_true p326
       replace q326 := eq_true q326
       have p327 : 0 ≤ ((rd t320 x8_2) : Int) := DT
       have q327 : (rd t320 x8_2) < (l0.length : Int) := DT
       obtain ⟨ad327, A327_2, c327_2, e327, hx327_0, hx327_1, hx327_2, hl327_2, hi327_2⟩ := at_T35 HR0.out (rd t320 x8_2) p327 q327
       cases e327
       replace hx327_0 := CX HB.out hx327_0
       replace hx327_1 := CX HB.out hx327_1
       replace hx327_2 := CX HB.out hx327_2
       have HR327_2 := AM hi327_2
       have HC327_2 := AM hl327_2
       clear hi327_2 hl327_2
       replace p327 := eq_true p327
       replace q327 := eq_true q327
       go_wp2_with (first | ((with_reducible refine gate_builtin (b := .append) (xs := #[.tmp 26, .tmp 35]) rfl ?_); (try (refine gate_guard (by rfl) ?_; dsimp only)); at_builtin; refine Kd.R_append (Kd.int .i64) (w0 := w) w.heap.size rfl (.tmp 26) (.tmp 35) 41 3 (.int .i64 0) 8 rfl Try.underlying41 info3 rfl (by decide) (by omega) u7 x7_2 ((rd_T35 l0 (rd t320 x8_2)).f0) [.int .i64 ((rd_T35 l0 (rd t320 x8_2)).f0)] (fun k_ => some k_ ≠ (.slice (some ad326) t320.length co17 : Value).ownBlock) (fun _ => False) rfl rfl ?aP (fun _ hk => hk.elim) ?aF ?aO ?aB ?aS ?aL ?_; (case aP => exact rfl); (case aB => exact (BB HB.out)); (case aF => exact (fun k_ hk => Kd.fresh' (Kd.R_lt (RR HO_6.out)) k_ hk)); (case aO => exact (RR HO_7.out)); (case aS => exact (below_size (BB HB.out))); (case aL => have := LMc16.out; omega); intro v329 w18 ho hb hg hat; rw [← Ny328.out] at ho; have n0_ := AM (Kd.R_after (ok := (fun _ => True)) (by (with_reducible repeat (first | apply Kd.R_alloc | apply Kd.R_drewN | apply Kd.R_drew)); exact Kd.R_mono HO_6.out (fun _ hk => ⟨trivial, hk⟩)) hg hat); have n1_ := AM (hb); have n2_ := AM (ho); clear HO_6; clear HB; clear HO_7; have HO_6 := n0_; have HB := n1_; have HO330 := n2_; clear n0_ n1_ n2_; clear ho hb hg hat))
       go_roundg k2
       case measure => have := HJ3.out; have := HK2.out; omega
       case rel => exact ⟨(y328), (wrap64 (x8_2 + 1)), FR, H', ⟨by have := HJ3.out; have := HK2.out; omega⟩, ⟨by (with_reducible repeat (first | apply Kd.R_alloc | apply Kd.R_drewN | apply Kd.R_drew)); exact Kd.R_mono HO_6.out (fun _ hk => hk.2)⟩, ⟨(RR HO330.out)⟩, ⟨(BB HB.out)⟩⟩
      ·rw [if_neg c11] at H
       have c11b0 := decide_eq_false c11
       clear c11
       simp only [Option.some.injEq, Prod.mk.injEq] at H
       obtain ⟨rfl, rfl⟩ := H
       go_wp2
       go_ret2
       exact ⟨_, ER, by (with_reducible repeat (first | apply Kd.R_alloc | apply Kd.R_drewN | apply Kd.R_drew)); exact Kd.R_mono HO_7.out (fun _ hk => trivial), (BB HB.out)⟩

end Go.Proofs.Ytaejgompckpmfaa.Pr
