/- A part of the proof of the law FnExactEnoughLeft: its texts, one behind the other. -/
import Derived.Test.YtfgnaneajonapaaBFnExactEnoughLeft1
import Derived.Test.YtfgnaneajonapaaBFnExactEnoughLeft2
import Derived.Test.YtfgnaneajonapaaBFnExactEnoughLeft3
/- Printed out of the translation by this session's pr.py over the kit's print. Lean checks it. -/
namespace Go.Proofs.Ytfgnaneajonapaa.Pr
open Go.RowKit Go.Proofs.YtfgnaneajonapaaW.PrintWords Go.Proofs.YtfgnaneajonapaaW.PrintLast Go.Proofs.YtfgnaneajonapaaW.PrintMore
attribute [local go_sem] max2_int min2_int max_two min_two max_three min_three max_four min_four
set_option linter.unusedVariables false
set_option linter.unusedSimpArgs false

/-! ### laws_toIntS: function 98 -/
def laws_toIntS.l0 : Nat → List Int → List Int → Int → Option (List Int)
  | 0, _, _, _ => none
  | k + 1, x0, x3, x4 => if x4 < (x0.length : Int) then (if 0 ≤ x4 then (if x4 < (x3.length : Int) then (laws_toIntS.l0 k x0 (x3.set (x4 : Int).toNat (rd x0 x4)) (wrap64 (x4 + 1))) else (none)) else (none)) else (some x3)
def laws_toIntS.f (k : Nat) (l0 : List Int) : Option (List Int) := if 0 ≤ (l0.length : Int) then (if ((l0.length : Int) : Int).toNat ≤ 35184372088832 then (laws_toIntS.l0 k l0 (List.replicate ((l0.length : Int) : Int).toNat 0) 0) else (none)) else (none)
set_option maxHeartbeats 8000000 in
set_option maxRecDepth 100000 in
theorem laws_toIntS.calls (k : Nat) (A0 : Option Addr) (c0 : Nat) (l0 : List Int) (r : List Int) (w : World) (hr0 : Kd.C (Kd.int .i64) w A0 l0.length l0) (hc0 : l0.length ≤ c0) (h : laws_toIntS.f k l0 = some r) :
    Calls Try.prog 98 #[.slice A0 l0.length c0] w fun e w' => ∃ v0_ : Value, e = .returned (v0_) ∧ Kd.R (Kd.int .i64) 3 w' w.heap.size (fun _ => True) v0_ r ∧ Below w.heap.size w w' := by
  have HR0 := Aside0.mk hr0
  have HC0 := Aside0.mk hc0
  clear hr0 hc0
  have HB := Aside0.mk (Below.refl w.heap.size w)
  have H : (if 0 ≤ (l0.length : Int) then (if ((l0.length : Int) : Int).toNat ≤ 35184372088832 then (laws_toIntS.l0 k l0 (List.replicate ((l0.length : Int) : Int).toNat 0) 0) else (none)) else (none)) = some r := h
  clear h
  by_cases c2 : 0 ≤ (l0.length : Int)
  · rw [if_pos c2] at H
    have c2b0 := eq_true c2
    have c2b1 : decide (0 ≤ (l0.length : Int)) = true := decide_eq_true c2
    clear c2
    by_cases c3 : ((l0.length : Int) : Int).toNat ≤ 35184372088832
    · rw [if_pos c3] at H
      have c3b0 := eq_true c3
      have c3b1 : decide (((l0.length : Int) : Int).toNat ≤ 35184372088832) = true := decide_eq_true c3
      clear c3
      obtain ⟨y1060, hy1060⟩ : ∃ y_ : List Int, y_ = (List.replicate ((l0.length : Int) : Int).toNat 0) := ⟨_, rfl⟩
      replace H : (laws_toIntS.l0 k l0 y1060 0) = some r := by first | (rw [hy1060]; with_reducible exact H) | (have H2_ := (Option.bind_some _ _).symm.trans H; rw [hy1060]; with_reducible exact H2_) | (have H2_ := (Option.bind_some _ _).symm.trans H; with_reducible exact H2_) | with_reducible exact H | (rw [hy1060]; exact H) | exact H
      have Ny1060 := Aside0.mk hy1060
      clear hy1060
      have H' := Aside0.mk H
      clear H
      go_enter Try.func98, Try.ntmps98
      go_wp2_with (first | ((with_reducible refine gate_dst (N := 7) rfl ?_); refine Kd.R_make (Kd.int .i64) _ 3 rfl (N := 7) rfl 51 _ _ rfl (l0.length : Int) rfl rfl Try.underlying51 (.int .i64 0) 8 info3 rfl (by decide) (by omega) 0 (ok := fun _ => True) (okp := fun _ => True) rfl (fun _ hk => hk) trivial DT (Nat.le_trans (Nat.mul_le_mul_right _ (DT : (l0.length : Int).toNat ≤ 35184372088832)) (by omega)) (Below.refl _ _) (Nat.le_refl _) ?_; intro v1061 w4 ho5 hb hg_ hnew_; clear hg_ hnew_; (first | rw [← Ny1060.out] at ho5 | (simp only [Int.reduceToNat] at ho5; rw [← Ny1060.out] at ho5)); have HO1062 := Aside0.mk (Kd.R_lower ho5 (below_size (BB HB.out))); replace HB := Aside0.mk (below_step (BB HB.out) hb); clear hb ho5))
      go_loopg [4] k (fun kq v4 w' => ∃ (x3_1 : List Int) (x4_1 : Int), v4 = .int .i64 x4_1 ∧ Aside0 (laws_toIntS.l0 kq l0 x3_1 x4_1 = some r) ∧ Aside0 (kq ≤ k) ∧ Aside0 (Kd.R (Kd.int .i64) 3 w' w.heap.size (fun _ => True) v1061 x3_1) ∧ Aside0 (Below w.heap.size w w'))
      case atStart => exact ⟨(y1060), (0), FR, H', ⟨Nat.le_refl _⟩, ⟨(RR HO1062.out)⟩, ⟨(BB HB.out)⟩⟩
      case round =>
        clear H'
        try clear c2
        try clear c2b0
        try clear c2b1
        try clear p2
        try clear c3
        try clear c3b0
        try clear c3b1
        obtain ⟨x3_1, x4_1, rfl, HA, HK1, HO_3, HB⟩ := hrel
        cases gk with
        | zero => exact absurd HA.out (by simp [laws_toIntS.l0])
        | succ k1 =>
          have H := HA.out
          clear HA
          simp only [laws_toIntS.l0] at H
          by_cases c6 : x4_1 < (l0.length : Int)
          · rw [if_pos c6] at H
            have c6b0 : decide (x4_1 < (l0.length : Int)) = true := decide_eq_true c6
            clear c6
            by_cases c7 : 0 ≤ x4_1
            · rw [if_pos c7] at H
              have c7b0 : decide (0 ≤ x4_1) = true := decide_eq_true c7
              clear c7
              by_cases c8 : x4_1 < (x3_1.length : Int)
              · rw [if_pos c8] at H
                have c8b0 : decide (x4_1 < (x3_1.length : Int)) = true := decide_eq_true c8
                clear c8
                obtain ⟨y1064, hy1064⟩ : ∃ y_ : List Int, y_ = (x3_1.set (x4_1 : Int).toNat (rd l0 x4_1)) := ⟨_, rfl⟩
                replace H : (laws_toIntS.l0 k1 l0 y1064 (wrap64 (x4_1 + 1))) = some r := by first | (rw [hy1064]; with_reducible exact H) | (have H2_ := (Option.bind_some _ _).symm.trans H; rw [hy1064]; with_reducible exact H2_) | (have H2_ := (Option.bind_some _ _).symm.trans H; with_reducible exact H2_) | with_reducible exact H | (rw [hy1064]; exact H) | exact H
                have Ny1064 := Aside0.mk hy1064
                clear hy1064
                have H' := Aside0.mk H
                clear H
                have p1063 : 0 ≤ (x4_1 : Int) := DT
                have q1063 : x4_1 < (l0.length : Int) := DT
                obtain ⟨ad1063, e1063, hx1063_0⟩ := Kd.at_int HR0.out x4_1 p1063 q1063
                cases e1063
                replace hx1063_0 := (HB.out.cell (World.block_lt_of_cell? w _ hx1063_0)).trans hx1063_0
                replace p1063 := eq_true p1063
                replace q1063 := eq_true q1063
                have p9 : 0 ≤ (x4_1 : Int) := DT
                have q9 : (x4_1 : Int) < ((x3_1.length : Int) : Int) := DT
                obtain ⟨go9, co9, eo9, gb9, gl9, cl9, HG9⟩ := Kd.R_form HO_3.out (by omega)
                (first | cases eo9 | (injection eo9 with ea_ en_ ec_; (first | subst ea_ | (injection ea_ with ea_; subst ea_)); subst ec_; clear en_))
                have GB9 := Aside0.mk gb9
                have GG9 := Aside0.mk HG9
                clear gb9 gl9 HG9
                obtain ⟨hx9_0, hf9_0⟩ := Kd.R_celln 0 HO_3.out (x4_1 : Int) p9 q9
                replace p9 := eq_true p9
                replace q9 := eq_true q9
                have HP10 := Kd.R_putg HO_3.out (x4_1 : Int) (rd l0 x4_1)
                go_wp2_with (first | ((with_reducible refine gate_store (t := 3) (p := 20) rfl ?_); refine store_event (t := 3) (p := 20) (v := ?vo_w11) (w1 := (wr.setCell ⟨go9, (x4_1 : Int).toNat, none⟩ (.int .i64 (rd l0 x4_1)))) ?hg ?ho ?hn ?hr ?_; (case ho => rfl); (case hg => rfl); (case hn => rfl); (case hr => first | (go_simp; done) | (go_simp; rfl)); intro w11 hw; have hg : wr.grownBy w11 (some go9) := (by rw [hw]; exact HP10.2); have hp_ : Kd.R (Kd.int .i64) 3 w11 w.heap.size (fun _ => True) (.slice (some ⟨go9, 0, none⟩) x3_1.length co9) y1064 := (by rw [hw, Ny1064.out]; exact HP10.1); clear HP10; have n0_ := Aside0.mk (hp_); have n1_ := Aside0.mk ((by rw [hw]; exact below_set (HB.out) GB9.out : Below w.heap.size w w11)); clear HO_3; clear HB; have HO_3 := n0_; have HB := n1_; clear n0_ n1_; clear hg hw hp_))
                go_roundg k1
                case measure => have := HK1.out; omega
                case rel => exact ⟨(y1064), (wrap64 (x4_1 + 1)), FR, H', ⟨by have := HK1.out; omega⟩, ⟨(RR HO_3.out)⟩, ⟨(BB HB.out)⟩⟩
              · rw [if_neg c8] at H
                exact absurd H (by simp)
            · rw [if_neg c7] at H
              exact absurd H (by simp)
          · rw [if_neg c6] at H
            have c6b0 : decide (x4_1 < (l0.length : Int)) = false := decide_eq_false c6
            clear c6
            obtain rfl := Option.some.inj H
            go_wp2
            go_ret
            exact ⟨_, ER, by (with_reducible repeat (first | apply Kd.R_alloc | apply Kd.R_drewN | apply Kd.R_drew)); exact HO_3.out, (BB HB.out)⟩
    · rw [if_neg c3] at H
      exact absurd H (by simp)
  · rw [if_neg c2] at H
    exact absurd H (by simp)

end Go.Proofs.Ytfgnaneajonapaa.Pr

/- Generated by plumb.py: the laws' helpers of a type, told as plain functions. -/
namespace Go.Proofs.Ytfgnaneajonapaa.Lw
open Go.RowKit Go.Proofs.YtfgnaneajonapaaW.PrintWords Go.Proofs.Ytfgnaneajonapaa.Pr Go.Proofs.Ytfgnaneajonapaa.Evs
set_option linter.unusedVariables false
theorem rdInt (p s : List Int) (x : Int) : rd (p ++ x :: s) (p.length : Int) = x := by unfold rd; exact getD_mid' p s x _ _ rfl
def wtIntS (l : List Int) : Nat := l.length
theorem wtIntS_len (l : List Int) : l.length ≤ wtIntS l := Nat.le_refl _
theorem szIntS_ev (l : List Int) (hl : l.length ≤ maxLen) (ho : ∀ x ∈ l, True) (left : Int) (h0 : 0 ≤ left) (h1 : left ≤ 1048576) : SzEv (fun k => laws_szIntS.f l left) left (wtIntS l) := by
  unfold laws_szIntS.f wtIntS
  unfold maxLen at hl
  rw [wrap_in (i := left - (l.length : Int)) (by omega) (by omega)]
  exact sz_eq (sz_str (w2 := (0 : Int)) (fun g => sz_done g)) (by omega)
theorem toIntS_loop (s : List Int) : ∀ (p : List Int), p.length + s.length < 9223372036854775807 →
    Ev (fun k => laws_toIntS.l0 k (p ++ s) (p ++ List.replicate s.length 0) (p.length : Int)) (p ++ s) := by
  induction s with
  | nil => intro p hl; exact ev_step (fun k => laws_toIntS.l0.eq_2 _ _ _ k) (ev_neg (by simp) (ev_eq (ev_some _) (by simp)))
  | cons x s ih =>
    intro p hl
    simp at hl
    refine ev_step (fun k => laws_toIntS.l0.eq_2 _ _ _ k) (ev_pos (by simp; omega) (ev_pos (by omega) (ev_pos (by simp; omega) ?_)))
    rw [wrap_succ (by omega) (by omega)]
    have h := ih (p ++ [x]) (by simp; omega)
    have e : (p ++ List.replicate (x :: s).length 0).set ((p.length : Int)).toNat x = (p ++ [x]) ++ List.replicate s.length 0 := by
      rw [List.length_cons, List.replicate_succ, set_mid _ _ _ _ _ rfl]
      simp
    simp only [rdInt, e]
    simpa using h
theorem toIntS_ev (l : List Int) (hl : wtIntS l ≤ 1048576) : Ev (fun k => laws_toIntS.f k l) l := by
  have hw := wtIntS_len l
  unfold laws_toIntS.f
  refine ev_pos (by omega) (ev_pos (by omega) ?_)
  have h := toIntS_loop l [] (by simp; omega)
  simpa using h
theorem eqIntS_loop (s : List Int) : ∀ (p : List Int), p.length + s.length < 9223372036854775807 → Ev (fun k => laws_eqIntS.l0 k (p ++ s) (p ++ s) (p.length : Int)) true := by
  induction s with
  | nil => intro p hl; exact ev_step (fun k => laws_eqIntS.l0.eq_2 _ _ _ k) (ev_neg (by simp) (ev_some _))
  | cons x s ih =>
    intro p hl
    simp at hl
    refine ev_step (fun k => laws_eqIntS.l0.eq_2 _ _ _ k) (ev_pos (by simp; omega) (ev_pos (by omega) (ev_pos (by simp; omega) (ev_pos (by first | rfl | simp) ?_))))
    rw [wrap_succ (by omega) (by omega)]
    simpa using ih (p ++ [x]) (by simp; omega)
theorem eqIntS_ev (l : List Int) (hl : l.length < 9223372036854775807) : Ev (fun k => laws_eqIntS.f k l l) true := by
  unfold laws_eqIntS.f
  refine ev_pos rfl ?_
  simpa using eqIntS_loop l [] (by simp; omega)
end Go.Proofs.Ytfgnaneajonapaa.Lw

/- Printed out of the translation by this session's pr.py over the kit's print. Lean checks it. -/
namespace Go.Proofs.Ytfgnaneajonapaa.Pr
open Go.RowKit Go.Proofs.YtfgnaneajonapaaW.PrintWords Go.Proofs.YtfgnaneajonapaaW.PrintLast Go.Proofs.YtfgnaneajonapaaW.PrintMore
attribute [local go_sem] max2_int min2_int max_two min_two max_three min_three max_four min_four
set_option linter.unusedVariables false
set_option linter.unusedSimpArgs false

/-! ### laws_eqStringS: function 18 -/
def laws_eqStringS.l0 : Nat → List ByteArray → List ByteArray → Int → Option (Bool)
  | 0, _, _, _ => none
  | k + 1, x0, x1, x5 => if x5 < (x0.length : Int) then (if 0 ≤ x5 then (if x5 < (x1.length : Int) then (if (rdOf ByteArray.empty x0 x5).toList = (rdOf ByteArray.empty x1 x5).toList then (laws_eqStringS.l0 k x0 x1 (wrap64 (x5 + 1))) else (some false)) else (none)) else (none)) else (some true)
def laws_eqStringS.f (k : Nat) (l0 : List ByteArray) (l1 : List ByteArray) : Option (Bool) := if (l0.length : Int) = (l1.length : Int) then (laws_eqStringS.l0 k l0 l1 0) else (some false)
set_option maxHeartbeats 8000000 in
set_option maxRecDepth 100000 in
theorem laws_eqStringS.calls (k : Nat) (A0 : Option Addr) (c0 : Nat) (l0 : List ByteArray) (A1 : Option Addr) (c1 : Nat) (l1 : List ByteArray) (r : Bool) (w : World) (hr0 : Kd.C Kd.string w A0 l0.length l0) (hc0 : l0.length ≤ c0) (hr1 : Kd.C Kd.string w A1 l1.length l1) (hc1 : l1.length ≤ c1) (h : laws_eqStringS.f k l0 l1 = some r) (hr_ : Aside0 (r = true) := by exact ⟨rfl⟩) :
    Calls Try.prog 18 #[.slice A0 l0.length c0, .slice A1 l1.length c1] w fun e w' => e = .returned (.bool r) ∧ Drawn0 w w' := by
  have HR0 := Aside0.mk hr0
  have HC0 := Aside0.mk hc0
  clear hr0 hc0
  have HR1 := Aside0.mk hr1
  have HC1 := Aside0.mk hc1
  clear hr1 hc1
  have H : (if (l0.length : Int) = (l1.length : Int) then (laws_eqStringS.l0 k l0 l1 0) else (some false)) = some r := h
  clear h
  by_cases c3 : (l0.length : Int) = (l1.length : Int)
  · rw [if_pos c3] at H
    have c3b0 : ((l0.length : Int) == (l1.length : Int)) = true := beq_iff_eq.mpr c3
    have c3b1 : ((l0.length : Int) != (l1.length : Int)) = false := bne_eq_false_iff_eq.mpr c3
    have c3b2 : (l0.length == l1.length) = true := by first | simpa using c3 | (simp at c3 ⊢; omega)
    clear c3
    have H' := Aside0.mk H
    clear H
    go_enter Try.func18, Try.ntmps18
    go_wp2
    repeat (go_quiet (fail); try go_wp2)
    go_loopg [5] k (fun kq v5 w' => ∃ (x5_1 : Int), v5 = .int .i64 x5_1 ∧ Aside0 (laws_eqStringS.l0 kq l0 l1 x5_1 = some r) ∧ Aside0 (kq ≤ k) ∧ Drawn0 w w')
    case atStart => exact ⟨(0), FR, H', ⟨Nat.le_refl _⟩, by repeat (first | exact Drawn0.refl _ | apply Drawn0.step)⟩
    case round =>
      clear H'
      try clear c1
      try clear p2
      try clear c3
      try clear c3b0
      try clear c3b1
      try clear c3b2
      obtain ⟨x5_1, rfl, HA, HK1, ⟨m1, rfl⟩⟩ := hrel
      cases gk with
      | zero => exact absurd HA.out (by simp [laws_eqStringS.l0])
      | succ k1 =>
        have H := HA.out
        clear HA
        simp only [laws_eqStringS.l0] at H
        by_cases c4 : x5_1 < (l0.length : Int)
        · rw [if_pos c4] at H
          have c4b0 : decide (x5_1 < (l0.length : Int)) = true := decide_eq_true c4
          clear c4
          by_cases c5 : 0 ≤ x5_1
          · rw [if_pos c5] at H
            have c5b0 : decide (0 ≤ x5_1) = true := decide_eq_true c5
            clear c5
            by_cases c6 : x5_1 < (l1.length : Int)
            · rw [if_pos c6] at H
              have c6b0 : decide (x5_1 < (l1.length : Int)) = true := decide_eq_true c6
              clear c6
              by_cases c7 : (rdOf ByteArray.empty l0 x5_1).toList = (rdOf ByteArray.empty l1 x5_1).toList
              · rw [if_pos c7] at H
                have c7b0 : ((rdOf ByteArray.empty l0 x5_1).toList == (rdOf ByteArray.empty l1 x5_1).toList) = true := beq_iff_eq.mpr c7
                have c7b1 : ((rdOf ByteArray.empty l0 x5_1).toList != (rdOf ByteArray.empty l1 x5_1).toList) = false := bne_eq_false_iff_eq.mpr c7
                clear c7
                have H' := Aside0.mk H
                clear H
                have p227 : 0 ≤ (x5_1 : Int) := DT
                have q227 : x5_1 < (l0.length : Int) := DT
                obtain ⟨ad227, e227, hx227_0⟩ := Kd.at_string HR0.out x5_1 p227 q227
                cases e227
                replace p227 := eq_true p227
                replace q227 := eq_true q227
                have p228 : 0 ≤ (x5_1 : Int) := DT
                have q228 : x5_1 < (l1.length : Int) := DT
                obtain ⟨ad228, e228, hx228_0⟩ := Kd.at_string HR1.out x5_1 p228 q228
                cases e228
                replace p228 := eq_true p228
                replace q228 := eq_true q228
                go_wp2
                repeat (go_quiet (fail); try go_wp2)
                go_roundg k1
                case measure => have := HK1.out; omega
                case rel => exact ⟨(wrap64 (x5_1 + 1)), FR, H', ⟨by have := HK1.out; omega⟩, by repeat (first | exact Drawn0.refl _ | apply Drawn0.step)⟩
              · rw [if_neg c7] at H
                have c7b0 : ((rdOf ByteArray.empty l0 x5_1).toList == (rdOf ByteArray.empty l1 x5_1).toList) = false := beq_eq_false_iff_ne.mpr c7
                have c7b1 : ((rdOf ByteArray.empty l0 x5_1).toList != (rdOf ByteArray.empty l1 x5_1).toList) = true := bne_iff_ne.mpr c7
                exact absurd ((Option.some.inj H).trans hr_.out) (by decide)
            · rw [if_neg c6] at H
              exact absurd H (by simp)
          · rw [if_neg c5] at H
            exact absurd H (by simp)
        · rw [if_neg c4] at H
          have c4b0 : decide (x5_1 < (l0.length : Int)) = false := decide_eq_false c4
          clear c4
          obtain rfl := Option.some.inj H
          go_wp2
          repeat (go_quiet (fail); try go_wp2)
          go_ret
          exact ⟨FR, by repeat (first | exact Drawn0.refl _ | apply Drawn0.step)⟩
  · rw [if_neg c3] at H
    have c3b0 : ((l0.length : Int) == (l1.length : Int)) = false := beq_eq_false_iff_ne.mpr c3
    have c3b1 : ((l0.length : Int) != (l1.length : Int)) = true := bne_iff_ne.mpr c3
    have c3b2 : (l0.length == l1.length) = false := by first | simpa using c3 | (simp at c3 ⊢; omega)
    exact absurd ((Option.some.inj H).trans hr_.out) (by decide)

end Go.Proofs.Ytfgnaneajonapaa.Pr

/- Printed out of the translation by this session's pr.py over the kit's print. Lean checks it. -/
namespace Go.Proofs.Ytfgnaneajonapaa.Pr
open Go.RowKit Go.Proofs.YtfgnaneajonapaaW.PrintWords Go.Proofs.YtfgnaneajonapaaW.PrintLast Go.Proofs.YtfgnaneajonapaaW.PrintMore
attribute [local go_sem] max2_int min2_int max_two min_two max_three min_three max_four min_four
set_option linter.unusedVariables false
set_option linter.unusedSimpArgs false

/-! ### laws_szStringS: function 96 -/
def laws_szStringS.l0 : Nat → List ByteArray → Int → Int → Option (Int)
  | 0, _, _, _ => none
  | k + 1, x0, x1, x5 => if x5 < (x0.length : Int) then (if 0 ≤ x5 then (if (wrap64 (x1 - ((rdOf ByteArray.empty x0 x5).size : Int))) < 0 then (some (-1)) else (laws_szStringS.l0 k x0 (wrap64 (x1 - ((rdOf ByteArray.empty x0 x5).size : Int))) (wrap64 (x5 + 1)))) else (none)) else (some x1)
def laws_szStringS.f (k : Nat) (l0 : List ByteArray) (a1 : Int) : Option (Int) := if (wrap64 (a1 - (l0.length : Int))) < 0 then (some (-1)) else (laws_szStringS.l0 k l0 (wrap64 (a1 - (l0.length : Int))) 0)
set_option maxHeartbeats 8000000 in
set_option maxRecDepth 100000 in
theorem laws_szStringS.calls (k : Nat) (A0 : Option Addr) (c0 : Nat) (l0 : List ByteArray) (a1 : Int) (r : Int) (w : World) (hr0 : Kd.C Kd.string w A0 l0.length l0) (hc0 : l0.length ≤ c0) (h : laws_szStringS.f k l0 a1 = some r) :
    Calls Try.prog 96 #[.slice A0 l0.length c0, .int .i64 a1] w fun e w' => e = .returned (.int .i64 r) ∧ Drawn0 w w' := by
  have HR0 := Aside0.mk hr0
  have HC0 := Aside0.mk hc0
  clear hr0 hc0
  have H : (if (wrap64 (a1 - (l0.length : Int))) < 0 then (some (-1)) else (laws_szStringS.l0 k l0 (wrap64 (a1 - (l0.length : Int))) 0)) = some r := h
  clear h
  by_cases c3 : (wrap64 (a1 - (l0.length : Int))) < 0
  · rw [if_pos c3] at H
    have c3b0 : decide ((wrap64 (a1 - (l0.length : Int))) < 0) = true := decide_eq_true c3
    clear c3
    obtain rfl := Option.some.inj H
    go_enter Try.func96, Try.ntmps96
    go_wp2
    go_ret
    exact ⟨FR, by repeat (first | exact Drawn0.refl _ | apply Drawn0.step)⟩
  · rw [if_neg c3] at H
    have c3b0 : decide ((wrap64 (a1 - (l0.length : Int))) < 0) = false := decide_eq_false c3
    clear c3
    have H' := Aside0.mk H
    clear H
    go_enter Try.func96, Try.ntmps96
    go_wp2
    go_loopg [1, 5] k (fun kq v1 v5 w' => ∃ (x1_1 : Int) (x5_1 : Int), v1 = .int .i64 x1_1 ∧ v5 = .int .i64 x5_1 ∧ Aside0 (laws_szStringS.l0 kq l0 x1_1 x5_1 = some r) ∧ Aside0 (kq ≤ k) ∧ Drawn0 w w')
    case atStart => exact ⟨(wrap64 (a1 - (l0.length : Int))), (0), FR, FR, H', ⟨Nat.le_refl _⟩, by repeat (first | exact Drawn0.refl _ | apply Drawn0.step)⟩
    case round =>
      clear H'
      try clear p2
      try clear c3
      try clear c3b0
      obtain ⟨x1_1, x5_1, rfl, rfl, HA, HK1, ⟨m1, rfl⟩⟩ := hrel
      cases gk with
      | zero => exact absurd HA.out (by simp [laws_szStringS.l0])
      | succ k1 =>
        have H := HA.out
        clear HA
        simp only [laws_szStringS.l0] at H
        by_cases c4 : x5_1 < (l0.length : Int)
        · rw [if_pos c4] at H
          have c4b0 : decide (x5_1 < (l0.length : Int)) = true := decide_eq_true c4
          clear c4
          by_cases c5 : 0 ≤ x5_1
          · rw [if_pos c5] at H
            have c5b0 : decide (0 ≤ x5_1) = true := decide_eq_true c5
            clear c5
            by_cases c6 : (wrap64 (x1_1 - ((rdOf ByteArray.empty l0 x5_1).size : Int))) < 0
            · rw [if_pos c6] at H
              have c6b0 : decide ((wrap64 (x1_1 - ((rdOf ByteArray.empty l0 x5_1).size : Int))) < 0) = true := decide_eq_true c6
              clear c6
              obtain rfl := Option.some.inj H
              have p1039 : 0 ≤ (x5_1 : Int) := DT
              have q1039 : x5_1 < (l0.length : Int) := DT
              obtain ⟨ad1039, e1039, hx1039_0⟩ := Kd.at_string HR0.out x5_1 p1039 q1039
              cases e1039
              replace p1039 := eq_true p1039
              replace q1039 := eq_true q1039
              go_wp2
              go_ret
              exact ⟨FR, by repeat (first | exact Drawn0.refl _ | apply Drawn0.step)⟩
            · rw [if_neg c6] at H
              have c6b0 : decide ((wrap64 (x1_1 - ((rdOf ByteArray.empty l0 x5_1).size : Int))) < 0) = false := decide_eq_false c6
              clear c6
              have H' := Aside0.mk H
              clear H
              have p1039 : 0 ≤ (x5_1 : Int) := DT
              have q1039 : x5_1 < (l0.length : Int) := DT
              obtain ⟨ad1039, e1039, hx1039_0⟩ := Kd.at_string HR0.out x5_1 p1039 q1039
              cases e1039
              replace p1039 := eq_true p1039
              replace q1039 := eq_true q1039
              go_wp2
              go_roundg k1
              case measure => have := HK1.out; omega
              case rel => exact ⟨(wrap64 (x1_1 - ((rdOf ByteArray.empty l0 x5_1).size : Int))), (wrap64 (x5_1 + 1)), FR, FR, H', ⟨by have := HK1.out; omega⟩, by repeat (first | exact Drawn0.refl _ | apply Drawn0.step)⟩
          · rw [if_neg c5] at H
            exact absurd H (by simp)
        · rw [if_neg c4] at H
          have c4b0 : decide (x5_1 < (l0.length : Int)) = false := decide_eq_false c4
          clear c4
          obtain rfl := Option.some.inj H
          go_wp2
          go_ret
          exact ⟨FR, by repeat (first | exact Drawn0.refl _ | apply Drawn0.step)⟩

end Go.Proofs.Ytfgnaneajonapaa.Pr

/- Printed out of the translation by this session's pr.py over the kit's print. Lean checks it. -/
namespace Go.Proofs.Ytfgnaneajonapaa.Pr
open Go.RowKit Go.Proofs.YtfgnaneajonapaaW.PrintWords Go.Proofs.YtfgnaneajonapaaW.PrintLast Go.Proofs.YtfgnaneajonapaaW.PrintMore
attribute [local go_sem] max2_int min2_int max_two min_two max_three min_three max_four min_four
set_option linter.unusedVariables false
set_option linter.unusedSimpArgs false

/-! ### laws_toStringS: function 99 -/
def laws_toStringS.l0 : Nat → List ByteArray → List ByteArray → Int → Option (List ByteArray)
  | 0, _, _, _ => none
  | k + 1, x0, x3, x4 => if x4 < (x0.length : Int) then (if 0 ≤ x4 then (if x4 < (x3.length : Int) then (laws_toStringS.l0 k x0 (x3.set (x4 : Int).toNat (rdOf ByteArray.empty x0 x4)) (wrap64 (x4 + 1))) else (none)) else (none)) else (some x3)
def laws_toStringS.f (k : Nat) (l0 : List ByteArray) : Option (List ByteArray) := if 0 ≤ (l0.length : Int) then (if ((l0.length : Int) : Int).toNat ≤ 17592186044416 then (laws_toStringS.l0 k l0 (List.replicate ((l0.length : Int) : Int).toNat (⟨#[]⟩ : ByteArray)) 0) else (none)) else (none)
set_option maxHeartbeats 8000000 in
set_option maxRecDepth 100000 in
theorem laws_toStringS.calls (k : Nat) (A0 : Option Addr) (c0 : Nat) (l0 : List ByteArray) (r : List ByteArray) (w : World) (hr0 : Kd.C Kd.string w A0 l0.length l0) (hc0 : l0.length ≤ c0) (h : laws_toStringS.f k l0 = some r) :
    Calls Try.prog 99 #[.slice A0 l0.length c0] w fun e w' => ∃ v0_ : Value, e = .returned (v0_) ∧ Kd.R Kd.string 9 w' w.heap.size (fun _ => True) v0_ r ∧ Below w.heap.size w w' := by
  have HR0 := Aside0.mk hr0
  have HC0 := Aside0.mk hc0
  clear hr0 hc0
  have HB := Aside0.mk (Below.refl w.heap.size w)
  have H : (if 0 ≤ (l0.length : Int) then (if ((l0.length : Int) : Int).toNat ≤ 17592186044416 then (laws_toStringS.l0 k l0 (List.replicate ((l0.length : Int) : Int).toNat (⟨#[]⟩ : ByteArray)) 0) else (none)) else (none)) = some r := h
  clear h
  by_cases c2 : 0 ≤ (l0.length : Int)
  · rw [if_pos c2] at H
    have c2b0 := eq_true c2
    have c2b1 : decide (0 ≤ (l0.length : Int)) = true := decide_eq_true c2
    clear c2
    by_cases c3 : ((l0.length : Int) : Int).toNat ≤ 17592186044416
    · rw [if_pos c3] at H
      have c3b0 := eq_true c3
      have c3b1 : decide (((l0.length : Int) : Int).toNat ≤ 17592186044416) = true := decide_eq_true c3
      clear c3
      obtain ⟨y1065, hy1065⟩ : ∃ y_ : List ByteArray, y_ = (List.replicate ((l0.length : Int) : Int).toNat (⟨#[]⟩ : ByteArray)) := ⟨_, rfl⟩
      replace H : (laws_toStringS.l0 k l0 y1065 0) = some r := by first | (rw [hy1065]; with_reducible exact H) | (have H2_ := (Option.bind_some _ _).symm.trans H; rw [hy1065]; with_reducible exact H2_) | (have H2_ := (Option.bind_some _ _).symm.trans H; with_reducible exact H2_) | with_reducible exact H | (rw [hy1065]; exact H) | exact H
      have Ny1065 := Aside0.mk hy1065
      clear hy1065
      have H' := Aside0.mk H
      clear H
      go_enter Try.func99, Try.ntmps99
      go_wp2_with (first | ((with_reducible refine gate_dst (N := 7) rfl ?_); refine Kd.R_make Kd.string _ 9 rfl (N := 7) rfl 29 _ _ rfl (l0.length : Int) rfl rfl Try.underlying29 (.string ⟨#[]⟩) 16 info9 rfl (by decide) (by omega) (⟨#[]⟩ : ByteArray) (ok := fun _ => True) (okp := fun _ => True) rfl (fun _ hk => hk) trivial DT (Nat.le_trans (Nat.mul_le_mul_right _ (DT : (l0.length : Int).toNat ≤ 17592186044416)) (by omega)) (Below.refl _ _) (Nat.le_refl _) ?_; intro v1066 w4 ho5 hb hg_ hnew_; clear hg_ hnew_; (first | rw [← Ny1065.out] at ho5 | (simp only [Int.reduceToNat] at ho5; rw [← Ny1065.out] at ho5)); have HO1067 := Aside0.mk (Kd.R_lower ho5 (below_size (BB HB.out))); replace HB := Aside0.mk (below_step (BB HB.out) hb); clear hb ho5))
      go_loopg [4] k (fun kq v4 w' => ∃ (x3_1 : List ByteArray) (x4_1 : Int), v4 = .int .i64 x4_1 ∧ Aside0 (laws_toStringS.l0 kq l0 x3_1 x4_1 = some r) ∧ Aside0 (kq ≤ k) ∧ Aside0 (Kd.R Kd.string 9 w' w.heap.size (fun _ => True) v1066 x3_1) ∧ Aside0 (Below w.heap.size w w'))
      case atStart => exact ⟨(y1065), (0), FR, H', ⟨Nat.le_refl _⟩, ⟨(RR HO1067.out)⟩, ⟨(BB HB.out)⟩⟩
      case round =>
        clear H'
        try clear c2
        try clear c2b0
        try clear c2b1
        try clear p2
        try clear c3
        try clear c3b0
        try clear c3b1
        obtain ⟨x3_1, x4_1, rfl, HA, HK1, HO_3, HB⟩ := hrel
        cases gk with
        | zero => exact absurd HA.out (by simp [laws_toStringS.l0])
        | succ k1 =>
          have H := HA.out
          clear HA
          simp only [laws_toStringS.l0] at H
          by_cases c6 : x4_1 < (l0.length : Int)
          · rw [if_pos c6] at H
            have c6b0 : decide (x4_1 < (l0.length : Int)) = true := decide_eq_true c6
            clear c6
            by_cases c7 : 0 ≤ x4_1
            · rw [if_pos c7] at H
              have c7b0 : decide (0 ≤ x4_1) = true := decide_eq_true c7
              clear c7
              by_cases c8 : x4_1 < (x3_1.length : Int)
              · rw [if_pos c8] at H
                have c8b0 : decide (x4_1 < (x3_1.length : Int)) = true := decide_eq_true c8
                clear c8
                obtain ⟨y1069, hy1069⟩ : ∃ y_ : List ByteArray, y_ = (x3_1.set (x4_1 : Int).toNat (rdOf ByteArray.empty l0 x4_1)) := ⟨_, rfl⟩
                replace H : (laws_toStringS.l0 k1 l0 y1069 (wrap64 (x4_1 + 1))) = some r := by first | (rw [hy1069]; with_reducible exact H) | (have H2_ := (Option.bind_some _ _).symm.trans H; rw [hy1069]; with_reducible exact H2_) | (have H2_ := (Option.bind_some _ _).symm.trans H; with_reducible exact H2_) | with_reducible exact H | (rw [hy1069]; exact H) | exact H
                have Ny1069 := Aside0.mk hy1069
                clear hy1069
                have H' := Aside0.mk H
                clear H
                have p1068 : 0 ≤ (x4_1 : Int) := DT
                have q1068 : x4_1 < (l0.length : Int) := DT
                obtain ⟨ad1068, e1068, hx1068_0⟩ := Kd.at_string HR0.out x4_1 p1068 q1068
                cases e1068
                replace hx1068_0 := (HB.out.cell (World.block_lt_of_cell? w _ hx1068_0)).trans hx1068_0
                replace p1068 := eq_true p1068
                replace q1068 := eq_true q1068
                have p9 : 0 ≤ (x4_1 : Int) := DT
                have q9 : (x4_1 : Int) < ((x3_1.length : Int) : Int) := DT
                obtain ⟨go9, co9, eo9, gb9, gl9, cl9, HG9⟩ := Kd.R_form HO_3.out (by omega)
                (first | cases eo9 | (injection eo9 with ea_ en_ ec_; (first | subst ea_ | (injection ea_ with ea_; subst ea_)); subst ec_; clear en_))
                have GB9 := Aside0.mk gb9
                have GG9 := Aside0.mk HG9
                clear gb9 gl9 HG9
                obtain ⟨hx9_0, hf9_0⟩ := Kd.R_celln (⟨#[]⟩ : ByteArray) HO_3.out (x4_1 : Int) p9 q9
                replace p9 := eq_true p9
                replace q9 := eq_true q9
                have HP10 := Kd.R_putg HO_3.out (x4_1 : Int) (rdOf ByteArray.empty l0 x4_1)
                go_wp2_with (first | ((with_reducible refine gate_store (t := 9) (p := 20) rfl ?_); refine store_event (t := 9) (p := 20) (v := ?vo_w11) (w1 := (wr.setCell ⟨go9, (x4_1 : Int).toNat, none⟩ (.string (rdOf ByteArray.empty l0 x4_1)))) ?hg ?ho ?hn ?hr ?_; (case ho => rfl); (case hg => rfl); (case hn => rfl); (case hr => first | (go_simp; done) | (go_simp; rfl)); intro w11 hw; have hg : wr.grownBy w11 (some go9) := (by rw [hw]; exact HP10.2); have hp_ : Kd.R Kd.string 9 w11 w.heap.size (fun _ => True) (.slice (some ⟨go9, 0, none⟩) x3_1.length co9) y1069 := (by rw [hw, Ny1069.out]; exact HP10.1); clear HP10; have n0_ := Aside0.mk (hp_); have n1_ := Aside0.mk ((by rw [hw]; exact below_set (HB.out) GB9.out : Below w.heap.size w w11)); clear HO_3; clear HB; have HO_3 := n0_; have HB := n1_; clear n0_ n1_; clear hg hw hp_))
                go_roundg k1
                case measure => have := HK1.out; omega
                case rel => exact ⟨(y1069), (wrap64 (x4_1 + 1)), FR, H', ⟨by have := HK1.out; omega⟩, ⟨(RR HO_3.out)⟩, ⟨(BB HB.out)⟩⟩
              · rw [if_neg c8] at H
                exact absurd H (by simp)
            · rw [if_neg c7] at H
              exact absurd H (by simp)
          · rw [if_neg c6] at H
            have c6b0 : decide (x4_1 < (l0.length : Int)) = false := decide_eq_false c6
            clear c6
            obtain rfl := Option.some.inj H
            go_wp2
            go_ret
            exact ⟨_, ER, by (with_reducible repeat (first | apply Kd.R_alloc | apply Kd.R_drewN | apply Kd.R_drew)); exact HO_3.out, (BB HB.out)⟩
    · rw [if_neg c3] at H
      exact absurd H (by simp)
  · rw [if_neg c2] at H
    exact absurd H (by simp)

end Go.Proofs.Ytfgnaneajonapaa.Pr

/- Generated by plumb.py: the laws' helpers of a type, told as plain functions. -/
namespace Go.Proofs.Ytfgnaneajonapaa.Lw
open Go.RowKit Go.Proofs.YtfgnaneajonapaaW.PrintWords Go.Proofs.Ytfgnaneajonapaa.Pr Go.Proofs.Ytfgnaneajonapaa.Evs
set_option linter.unusedVariables false
theorem rdString (p s : List ByteArray) (x : ByteArray) : rdOf ByteArray.empty (p ++ x :: s) (p.length : Int) = x := by unfold rdOf; exact getD_mid' p s x _ _ rfl
def wtStringS : List ByteArray → Nat
  | [] => 0
  | x :: s => 1 + x.size + wtStringS s
theorem wtStringS_len (l : List ByteArray) : l.length ≤ wtStringS l := by
  induction l with
  | nil => simp
  | cons x s ih => simp [wtStringS]; omega
theorem bd_toStringS (l : List ByteArray) (h : wtStringS l ≤ 1048576) : l.length ≤ 1048576 ∧ ∀ y ∈ l, y.size ≤ 1048576 := by
  refine ⟨by have := wtStringS_len l; omega, ?_⟩
  induction l with
  | nil => intro y hy; cases hy
  | cons x s ih =>
    simp only [wtStringS] at h
    intro y hy
    rcases List.mem_cons.1 hy with rfl | hy
    · omega
    · exact ih (by omega) y hy
theorem szStringS_loop (s : List ByteArray) : ∀ (p : List ByteArray) (left : Int), 0 ≤ left → left + s.length ≤ 1048576 → p.length + s.length ≤ maxLen → (∀ x ∈ s, x.size ≤ maxLen) →
    SzEv (fun k => laws_szStringS.l0 k (p ++ s) left (p.length : Int)) (left + s.length) (wtStringS s) := by
  induction s with
  | nil =>
    intro p left h0 h1 hl ho
    exact sz_step (fun k => laws_szStringS.l0.eq_2 _ _ _ k) (sz_neg (by simp) (by simpa [wtStringS] using sz_done h0))
  | cons x s ih =>
    intro p left h0 h1 hl ho
    unfold maxLen at hl
    simp at h1 hl
    have hx := ho x (by simp)
    unfold maxLen at hx
    refine sz_step (fun k => laws_szStringS.l0.eq_2 _ _ _ k) (sz_pos (by simp; omega) (sz_pos (by omega) ?_))
    simp only [rdString, wrap_succ (show (0 : Int) ≤ (p.length : Int) by omega) (by omega), wrap_in (i := left - (x.size : Int)) (by omega) (by omega)]
    have h := sz_str (left := left) (n := (x.size : Int)) (G := fun k => laws_szStringS.l0 k (p ++ x :: s) (left - (x.size : Int)) ((p.length : Int) + 1)) (w2 := ((wtStringS s : Nat) : Int) - s.length) (fun hl0 => by
      obtain ⟨r, hE, hr⟩ := ih (p ++ [x]) (left - (x.size : Int)) (by omega) (by omega) (by simp; unfold maxLen; omega) (fun y hy => ho y (by simp [hy]))
      exact ⟨r, by simpa using hE, by omega⟩)
    obtain ⟨r, hE, hr⟩ := h
    refine ⟨r, hE, ?_⟩
    simp [wtStringS]
    omega
theorem szStringS_ev (l : List ByteArray) (hl : l.length ≤ maxLen) (ho : ∀ x ∈ l, x.size ≤ maxLen) (left : Int) (h0 : 0 ≤ left) (h1 : left ≤ 1048576) : SzEv (fun k => laws_szStringS.f k l left) left (wtStringS l) := by
  unfold laws_szStringS.f
  unfold maxLen at hl
  have e : wrap64 (left - (l.length : Int)) = left - l.length := wrap_in (by omega) (by omega)
  rw [e]
  refine sz_eq (sz_str (w2 := ((wtStringS l : Nat) : Int) - l.length) (fun g => ?_)) (by omega)
  obtain ⟨r, hE, hr⟩ := szStringS_loop l [] (left - l.length) g (by omega) (by simp; unfold maxLen; omega) ho
  exact ⟨r, by simpa using hE, by omega⟩
theorem toStringS_loop (s : List ByteArray) : ∀ (p : List ByteArray), p.length + s.length < 9223372036854775807 →
    Ev (fun k => laws_toStringS.l0 k (p ++ s) (p ++ List.replicate s.length (⟨#[]⟩ : ByteArray)) (p.length : Int)) (p ++ s) := by
  induction s with
  | nil => intro p hl; exact ev_step (fun k => laws_toStringS.l0.eq_2 _ _ _ k) (ev_neg (by simp) (ev_eq (ev_some _) (by simp)))
  | cons x s ih =>
    intro p hl
    simp at hl
    refine ev_step (fun k => laws_toStringS.l0.eq_2 _ _ _ k) (ev_pos (by simp; omega) (ev_pos (by omega) (ev_pos (by simp; omega) ?_)))
    rw [wrap_succ (by omega) (by omega)]
    have h := ih (p ++ [x]) (by simp; omega)
    have e : (p ++ List.replicate (x :: s).length (⟨#[]⟩ : ByteArray)).set ((p.length : Int)).toNat x = (p ++ [x]) ++ List.replicate s.length (⟨#[]⟩ : ByteArray) := by
      rw [List.length_cons, List.replicate_succ, set_mid _ _ _ _ _ rfl]
      simp
    simp only [rdString, e]
    simpa using h
theorem toStringS_ev (l : List ByteArray) (hl : wtStringS l ≤ 1048576) : Ev (fun k => laws_toStringS.f k l) l := by
  have hw := wtStringS_len l
  unfold laws_toStringS.f
  refine ev_pos (by omega) (ev_pos (by omega) ?_)
  have h := toStringS_loop l [] (by simp; omega)
  simpa using h
theorem eqStringS_loop (s : List ByteArray) : ∀ (p : List ByteArray), p.length + s.length < 9223372036854775807 → Ev (fun k => laws_eqStringS.l0 k (p ++ s) (p ++ s) (p.length : Int)) true := by
  induction s with
  | nil => intro p hl; exact ev_step (fun k => laws_eqStringS.l0.eq_2 _ _ _ k) (ev_neg (by simp) (ev_some _))
  | cons x s ih =>
    intro p hl
    simp at hl
    refine ev_step (fun k => laws_eqStringS.l0.eq_2 _ _ _ k) (ev_pos (by simp; omega) (ev_pos (by omega) (ev_pos (by simp; omega) (ev_pos (by first | rfl | simp) ?_))))
    rw [wrap_succ (by omega) (by omega)]
    simpa using ih (p ++ [x]) (by simp; omega)
theorem eqStringS_ev (l : List ByteArray) (hl : l.length < 9223372036854775807) : Ev (fun k => laws_eqStringS.f k l l) true := by
  unfold laws_eqStringS.f
  refine ev_pos rfl ?_
  simpa using eqStringS_loop l [] (by simp; omega)
end Go.Proofs.Ytfgnaneajonapaa.Lw

/- Printed out of the translation by this session's pr.py over the kit's print. Lean checks it. -/
namespace Go.Proofs.Ytfgnaneajonapaa.Pr
open Go.RowKit Go.Proofs.YtfgnaneajonapaaW.PrintWords Go.Proofs.YtfgnaneajonapaaW.PrintLast Go.Proofs.YtfgnaneajonapaaW.PrintMore
attribute [local go_sem] max2_int min2_int max_two min_two max_three min_three max_four min_four
set_option linter.unusedVariables false
set_option linter.unusedSimpArgs false

/-! ### laws_eqWorld: function 43 -/
def laws_eqWorld.f (k : Nat) (a0_0 : Bool) (l0_1 : List (S135)) (a0_2 : Int) (a0_3 : Int) (l0_4 : List (S192)) (l0_5 : List (S120)) (a0_6 : Int) (l0_7 : List (S97)) (l0_8 : List Int) (l0_9 : List ByteArray) (l0_10 : List (S168)) (a1_0 : Bool) (l1_1 : List (S135)) (a1_2 : Int) (a1_3 : Int) (l1_4 : List (S192)) (l1_5 : List (S120)) (a1_6 : Int) (l1_7 : List (S97)) (l1_8 : List Int) (l1_9 : List ByteArray) (l1_10 : List (S168)) : Option (Bool) := (laws_eqServer.f k a0_0 l0_1 a0_2 a0_3 l0_4 l0_5 a0_6 a1_0 l1_1 a1_2 a1_3 l1_4 l1_5 a1_6).bind fun t648 => (if t648 = true then ((laws_eqHostS.f k l0_7 l1_7).bind fun t649 => (if t649 = true then ((laws_eqIntS.f k l0_8 l1_8).bind fun t650 => (if t650 = true then ((laws_eqStringS.f k l0_9 l1_9).bind fun t651 => (if t651 = true then ((laws_eqSizeS.f k l0_10 l1_10).bind fun t652 => (if t652 = true then (some true) else (some false))) else (some false))) else (some false))) else (some false))) else (some false))
set_option maxHeartbeats 8000000 in
set_option maxRecDepth 100000 in
theorem laws_eqWorld.calls (k : Nat) (a0_0 : Bool) (A0_1 : Option Addr) (c0_1 : Nat) (l0_1 : List (S135)) (a0_2 : Int) (a0_3 : Int) (A0_4 : Option Addr) (c0_4 : Nat) (l0_4 : List (S192)) (A0_5 : Option Addr) (c0_5 : Nat) (l0_5 : List (S120)) (a0_6 : Int) (A0_7 : Option Addr) (c0_7 : Nat) (l0_7 : List (S97)) (A0_8 : Option Addr) (c0_8 : Nat) (l0_8 : List Int) (A0_9 : Option Addr) (c0_9 : Nat) (l0_9 : List ByteArray) (A0_10 : Option Addr) (c0_10 : Nat) (l0_10 : List (S168)) (a1_0 : Bool) (A1_1 : Option Addr) (c1_1 : Nat) (l1_1 : List (S135)) (a1_2 : Int) (a1_3 : Int) (A1_4 : Option Addr) (c1_4 : Nat) (l1_4 : List (S192)) (A1_5 : Option Addr) (c1_5 : Nat) (l1_5 : List (S120)) (a1_6 : Int) (A1_7 : Option Addr) (c1_7 : Nat) (l1_7 : List (S97)) (A1_8 : Option Addr) (c1_8 : Nat) (l1_8 : List Int) (A1_9 : Option Addr) (c1_9 : Nat) (l1_9 : List ByteArray) (A1_10 : Option Addr) (c1_10 : Nat) (l1_10 : List (S168)) (r : Bool) (w : World) (hr0_1 : Kd.C k135 w A0_1 l0_1.length l0_1) (hc0_1 : l0_1.length ≤ c0_1) (hr0_4 : Kd.C k192 w A0_4 l0_4.length l0_4) (hc0_4 : l0_4.length ≤ c0_4) (hr0_5 : Kd.C k120 w A0_5 l0_5.length l0_5) (hc0_5 : l0_5.length ≤ c0_5) (hr0_7 : Kd.C k97 w A0_7 l0_7.length l0_7) (hc0_7 : l0_7.length ≤ c0_7) (hr0_8 : Kd.C (Kd.int .i64) w A0_8 l0_8.length l0_8) (hc0_8 : l0_8.length ≤ c0_8) (hr0_9 : Kd.C Kd.string w A0_9 l0_9.length l0_9) (hc0_9 : l0_9.length ≤ c0_9) (hr0_10 : Kd.C k168 w A0_10 l0_10.length l0_10) (hc0_10 : l0_10.length ≤ c0_10) (hr1_1 : Kd.C k135 w A1_1 l1_1.length l1_1) (hc1_1 : l1_1.length ≤ c1_1) (hr1_4 : Kd.C k192 w A1_4 l1_4.length l1_4) (hc1_4 : l1_4.length ≤ c1_4) (hr1_5 : Kd.C k120 w A1_5 l1_5.length l1_5) (hc1_5 : l1_5.length ≤ c1_5) (hr1_7 : Kd.C k97 w A1_7 l1_7.length l1_7) (hc1_7 : l1_7.length ≤ c1_7) (hr1_8 : Kd.C (Kd.int .i64) w A1_8 l1_8.length l1_8) (hc1_8 : l1_8.length ≤ c1_8) (hr1_9 : Kd.C Kd.string w A1_9 l1_9.length l1_9) (hc1_9 : l1_9.length ≤ c1_9) (hr1_10 : Kd.C k168 w A1_10 l1_10.length l1_10) (hc1_10 : l1_10.length ≤ c1_10) (h : laws_eqWorld.f k a0_0 l0_1 a0_2 a0_3 l0_4 l0_5 a0_6 l0_7 l0_8 l0_9 l0_10 a1_0 l1_1 a1_2 a1_3 l1_4 l1_5 a1_6 l1_7 l1_8 l1_9 l1_10 = some r) (hr_ : Aside0 (r = true) := by exact ⟨rfl⟩) :
    Calls Try.prog 43 #[.agg #[.bool a0_0, .slice A0_1 l0_1.length c0_1, .int .i64 a0_2, .int .i64 a0_3, .slice A0_4 l0_4.length c0_4, .slice A0_5 l0_5.length c0_5, .int .i64 a0_6, .slice A0_7 l0_7.length c0_7, .slice A0_8 l0_8.length c0_8, .slice A0_9 l0_9.length c0_9, .slice A0_10 l0_10.length c0_10], .agg #[.bool a1_0, .slice A1_1 l1_1.length c1_1, .int .i64 a1_2, .int .i64 a1_3, .slice A1_4 l1_4.length c1_4, .slice A1_5 l1_5.length c1_5, .int .i64 a1_6, .slice A1_7 l1_7.length c1_7, .slice A1_8 l1_8.length c1_8, .slice A1_9 l1_9.length c1_9, .slice A1_10 l1_10.length c1_10]] w fun e w' => e = .returned (.bool r) ∧ Below w.heap.size w w' := by
  have hu77 := Try.underlying77
  have hu46 := Try.underlying46
  have HR0_1 := Aside0.mk hr0_1
  have HC0_1 := Aside0.mk hc0_1
  clear hr0_1 hc0_1
  have HR0_4 := Aside0.mk hr0_4
  have HC0_4 := Aside0.mk hc0_4
  clear hr0_4 hc0_4
  have HR0_5 := Aside0.mk hr0_5
  have HC0_5 := Aside0.mk hc0_5
  clear hr0_5 hc0_5
  have HR0_7 := Aside0.mk hr0_7
  have HC0_7 := Aside0.mk hc0_7
  clear hr0_7 hc0_7
  have HR0_8 := Aside0.mk hr0_8
  have HC0_8 := Aside0.mk hc0_8
  clear hr0_8 hc0_8
  have HR0_9 := Aside0.mk hr0_9
  have HC0_9 := Aside0.mk hc0_9
  clear hr0_9 hc0_9
  have HR0_10 := Aside0.mk hr0_10
  have HC0_10 := Aside0.mk hc0_10
  clear hr0_10 hc0_10
  have HR1_1 := Aside0.mk hr1_1
  have HC1_1 := Aside0.mk hc1_1
  clear hr1_1 hc1_1
  have HR1_4 := Aside0.mk hr1_4
  have HC1_4 := Aside0.mk hc1_4
  clear hr1_4 hc1_4
  have HR1_5 := Aside0.mk hr1_5
  have HC1_5 := Aside0.mk hc1_5
  clear hr1_5 hc1_5
  have HR1_7 := Aside0.mk hr1_7
  have HC1_7 := Aside0.mk hc1_7
  clear hr1_7 hc1_7
  have HR1_8 := Aside0.mk hr1_8
  have HC1_8 := Aside0.mk hc1_8
  clear hr1_8 hc1_8
  have HR1_9 := Aside0.mk hr1_9
  have HC1_9 := Aside0.mk hc1_9
  clear hr1_9 hc1_9
  have HR1_10 := Aside0.mk hr1_10
  have HC1_10 := Aside0.mk hc1_10
  clear hr1_10 hc1_10
  have HB := Aside0.mk (Below.refl w.heap.size w)
  have H : ((laws_eqServer.f k a0_0 l0_1 a0_2 a0_3 l0_4 l0_5 a0_6 a1_0 l1_1 a1_2 a1_3 l1_4 l1_5 a1_6).bind fun t648 => (if t648 = true then ((laws_eqHostS.f k l0_7 l1_7).bind fun t649 => (if t649 = true then ((laws_eqIntS.f k l0_8 l1_8).bind fun t650 => (if t650 = true then ((laws_eqStringS.f k l0_9 l1_9).bind fun t651 => (if t651 = true then ((laws_eqSizeS.f k l0_10 l1_10).bind fun t652 => (if t652 = true then (some true) else (some false))) else (some false))) else (some false))) else (some false))) else (some false))) = some r := h
  clear h
  replace H := Option.bind_eq_some_iff.mp H
  obtain ⟨t648, A30, H⟩ := H
  replace H : (if t648 = true then ((laws_eqHostS.f k l0_7 l1_7).bind fun t649 => (if t649 = true then ((laws_eqIntS.f k l0_8 l1_8).bind fun t650 => (if t650 = true then ((laws_eqStringS.f k l0_9 l1_9).bind fun t651 => (if t651 = true then ((laws_eqSizeS.f k l0_10 l1_10).bind fun t652 => (if t652 = true then (some true) else (some false))) else (some false))) else (some false))) else (some false))) else (some false)) = some r := H
  have A3 := Aside0.mk A30
  clear A30
  by_cases c4 : t648 = true
  · subst c4
    have H1 : ((laws_eqHostS.f k l0_7 l1_7).bind fun t649 => (if t649 = true then ((laws_eqIntS.f k l0_8 l1_8).bind fun t650 => (if t650 = true then ((laws_eqStringS.f k l0_9 l1_9).bind fun t651 => (if t651 = true then ((laws_eqSizeS.f k l0_10 l1_10).bind fun t652 => (if t652 = true then (some true) else (some false))) else (some false))) else (some false))) else (some false))) = some r := by rw [if_pos rfl] at H; exact H
    clear H
    have H := H1
    clear H1
    replace H := Option.bind_eq_some_iff.mp H
    obtain ⟨t649, A50, H⟩ := H
    replace H : (if t649 = true then ((laws_eqIntS.f k l0_8 l1_8).bind fun t650 => (if t650 = true then ((laws_eqStringS.f k l0_9 l1_9).bind fun t651 => (if t651 = true then ((laws_eqSizeS.f k l0_10 l1_10).bind fun t652 => (if t652 = true then (some true) else (some false))) else (some false))) else (some false))) else (some false)) = some r := H
    have A5 := Aside0.mk A50
    clear A50
    by_cases c6 : t649 = true
    · subst c6
      have H1 : ((laws_eqIntS.f k l0_8 l1_8).bind fun t650 => (if t650 = true then ((laws_eqStringS.f k l0_9 l1_9).bind fun t651 => (if t651 = true then ((laws_eqSizeS.f k l0_10 l1_10).bind fun t652 => (if t652 = true then (some true) else (some false))) else (some false))) else (some false))) = some r := by rw [if_pos rfl] at H; exact H
      clear H
      have H := H1
      clear H1
      replace H := Option.bind_eq_some_iff.mp H
      obtain ⟨t650, A70, H⟩ := H
      replace H : (if t650 = true then ((laws_eqStringS.f k l0_9 l1_9).bind fun t651 => (if t651 = true then ((laws_eqSizeS.f k l0_10 l1_10).bind fun t652 => (if t652 = true then (some true) else (some false))) else (some false))) else (some false)) = some r := H
      have A7 := Aside0.mk A70
      clear A70
      by_cases c8 : t650 = true
      · subst c8
        have H1 : ((laws_eqStringS.f k l0_9 l1_9).bind fun t651 => (if t651 = true then ((laws_eqSizeS.f k l0_10 l1_10).bind fun t652 => (if t652 = true then (some true) else (some false))) else (some false))) = some r := by rw [if_pos rfl] at H; exact H
        clear H
        have H := H1
        clear H1
        replace H := Option.bind_eq_some_iff.mp H
        obtain ⟨t651, A90, H⟩ := H
        replace H : (if t651 = true then ((laws_eqSizeS.f k l0_10 l1_10).bind fun t652 => (if t652 = true then (some true) else (some false))) else (some false)) = some r := H
        have A9 := Aside0.mk A90
        clear A90
        by_cases c10 : t651 = true
        · subst c10
          have H1 : ((laws_eqSizeS.f k l0_10 l1_10).bind fun t652 => (if t652 = true then (some true) else (some false))) = some r := by rw [if_pos rfl] at H; exact H
          clear H
          have H := H1
          clear H1
          replace H := Option.bind_eq_some_iff.mp H
          obtain ⟨t652, A110, H⟩ := H
          replace H : (if t652 = true then (some true) else (some false)) = some r := H
          have A11 := Aside0.mk A110
          clear A110
          by_cases c12 : t652 = true
          · subst c12
            have H1 : (some true) = some r := by rw [if_pos rfl] at H; exact H
            clear H
            have H := H1
            clear H1
            obtain rfl := Option.some.inj H
            go_enter Try.func43, Try.ntmps43
            go_wp2_with (first | ((with_reducible refine gate_dst (N := 2) rfl ?_); refine BX 2 #[.bool a0_0, .slice A0_1 l0_1.length c0_1, .int .i64 a0_2, .int .i64 a0_3, .slice A0_4 l0_4.length c0_4, .slice A0_5 l0_5.length c0_5, .int .i64 a0_6, .slice A0_7 l0_7.length c0_7, .slice A0_8 l0_8.length c0_8, .slice A0_9 l0_9.length c0_9, .slice A0_10 l0_10.length c0_10] 77 ?_; intro gb646 hg w13 hbox hb; have BK646 := Aside0.mk (hbox); have GW646 : Aside0 (w.heap.size ≤ gb646) := WG hg (BB HB.out); have GE646 := GW646; replace HB := Aside0.mk (below_step (BB HB.out) hb); clear hb hbox hg) | ((with_reducible refine gate_dst (N := 3) rfl ?_); refine BX 3 #[.bool a1_0, .slice A1_1 l1_1.length c1_1, .int .i64 a1_2, .int .i64 a1_3, .slice A1_4 l1_4.length c1_4, .slice A1_5 l1_5.length c1_5, .int .i64 a1_6, .slice A1_7 l1_7.length c1_7, .slice A1_8 l1_8.length c1_8, .slice A1_9 l1_9.length c1_9, .slice A1_10 l1_10.length c1_10] 77 ?_; intro gb647 hg w14 hbox hb; have BK647 := Aside0.mk (hbox); have GW647 : Aside0 (w.heap.size ≤ gb647) := WG hg (BB1 HB.out GE646.out); have GE647 := GW647; have NB646_647 := NL BK646.out hg; have NB647_646 := NG BK646.out hg; replace BK646 := Aside0.mk (KB BK646.out hb); replace HB := Aside0.mk (below_step (BB1 HB.out GE646.out) hb); clear hb hbox hg; have hnb15 := NB646_647.out; have hnc15 := NB647_646.out; have hcz16 := blk_cell BK646.out; have hfz16 := blk_frozen BK646.out; have hcz17 := blk_cell BK647.out; have hfz17 := blk_frozen BK647.out) | ((with_reducible refine gate_callee (f := 27) rfl ?_); refine GL (some 9) rfl rfl Try.func27 #[.agg #[.bool a0_0, .slice A0_1 l0_1.length c0_1, .int .i64 a0_2, .int .i64 a0_3, .slice A0_4 l0_4.length c0_4, .slice A0_5 l0_5.length c0_5, .int .i64 a0_6], .agg #[.bool a1_0, .slice A1_1 l1_1.length c1_1, .int .i64 a1_2, .int .i64 a1_3, .slice A1_4 l1_4.length c1_4, .slice A1_5 l1_5.length c1_5, .int .i64 a1_6]] rfl ?_; (with_reducible refine (laws_eqServer.calls k a0_0 _ _ l0_1 a0_2 a0_3 _ _ l0_4 _ _ l0_5 a0_6 a1_0 _ _ l1_1 a1_2 a1_3 _ _ l1_4 _ _ l1_5 a1_6 true _ ?side1 ?side2 ?side3 ?side4 ?side5 ?side6 ?side7 ?side8 ?side9 ?side10 ?side11 ?side12 A3.out).mono ?_); (case side1 => exact CC (Kd.C_below HR0_1.out HB.out)); (case side2 => exact HC0_1.out); (case side3 => exact CC (Kd.C_below HR0_4.out HB.out)); (case side4 => exact HC0_4.out); (case side5 => exact CC (Kd.C_below HR0_5.out HB.out)); (case side6 => exact HC0_5.out); (case side7 => exact CC (Kd.C_below HR1_1.out HB.out)); (case side8 => exact HC1_1.out); (case side9 => exact CC (Kd.C_below HR1_4.out HB.out)); (case side10 => exact HC1_4.out); (case side11 => exact CC (Kd.C_below HR1_5.out HB.out)); (case side12 => exact HC1_5.out); rintro e w18 ⟨rfl, hb⟩; refine ⟨_, rfl, ?_⟩; replace BK646 := Aside0.mk (KB BK646.out hb); replace BK647 := Aside0.mk (KB BK647.out hb); replace HB := Aside0.mk (below_step (BB2 HB.out GE646.out GE647.out) hb); (try clear hb); have hcz19 := blk_cell BK646.out; have hfz19 := blk_frozen BK646.out; have hcz20 := blk_cell BK647.out; have hfz20 := blk_frozen BK647.out) | ((with_reducible refine gate_callee (f := 15) rfl ?_); refine GL (some 15) rfl rfl Try.func15 #[.slice A0_7 l0_7.length c0_7, .slice A1_7 l1_7.length c1_7] rfl ?_; (with_reducible refine (laws_eqHostS.calls k _ _ l0_7 _ _ l1_7 true _ ?side1 ?side2 ?side3 ?side4 A5.out).mono ?_); (case side1 => exact CC (Kd.C_below HR0_7.out HB.out)); (case side2 => exact HC0_7.out); (case side3 => exact CC (Kd.C_below HR1_7.out HB.out)); (case side4 => exact HC1_7.out); rintro e w21 ⟨rfl, hb⟩; refine ⟨_, rfl, ?_⟩; replace BK646 := Aside0.mk (KB BK646.out hb); replace BK647 := Aside0.mk (KB BK647.out hb); replace HB := Aside0.mk (below_step (BB2 HB.out GE646.out GE647.out) hb); (try clear hb); have hcz22 := blk_cell BK646.out; have hfz22 := blk_frozen BK646.out; have hcz23 := blk_cell BK647.out; have hfz23 := blk_frozen BK647.out) | ((with_reducible refine gate_callee (f := 32) rfl ?_); refine GL (some 21) rfl rfl Try.func32 #[.slice A0_8 l0_8.length c0_8, .slice A1_8 l1_8.length c1_8] rfl ?_; (with_reducible refine (laws_eqIntS.calls k _ _ l0_8 _ _ l1_8 true _ ?side1 ?side2 ?side3 ?side4 A7.out).mono ?_); (case side1 => exact CC (Kd.C_below HR0_8.out HB.out)); (case side2 => exact HC0_8.out); (case side3 => exact CC (Kd.C_below HR1_8.out HB.out)); (case side4 => exact HC1_8.out); rintro e w' ⟨rfl, ⟨nd, rfl⟩⟩; refine ⟨_, rfl, ?_⟩) | ((with_reducible refine gate_callee (f := 18) rfl ?_); refine GL (some 27) rfl rfl Try.func18 #[.slice A0_9 l0_9.length c0_9, .slice A1_9 l1_9.length c1_9] rfl ?_; (with_reducible refine (laws_eqStringS.calls k _ _ l0_9 _ _ l1_9 true _ ?side1 ?side2 ?side3 ?side4 A9.out).mono ?_); (case side1 => repeat (first | exact (Kd.C_below HR0_9.out (BB2 HB.out GE646.out GE647.out)) | (with_reducible refine Kd.C_alloc ?_ _) | (with_reducible refine Kd.C_drewN ?_ _) | (with_reducible refine Kd.C_drew ?_))); (case side2 => exact HC0_9.out); (case side3 => repeat (first | exact (Kd.C_below HR1_9.out (BB2 HB.out GE646.out GE647.out)) | (with_reducible refine Kd.C_alloc ?_ _) | (with_reducible refine Kd.C_drewN ?_ _) | (with_reducible refine Kd.C_drew ?_))); (case side4 => exact HC1_9.out); rintro e w' ⟨rfl, ⟨nd, rfl⟩⟩; refine ⟨_, rfl, ?_⟩) | ((with_reducible refine gate_callee (f := 87) rfl ?_); refine GL (some 33) rfl rfl Try.func87 #[.slice A0_10 l0_10.length c0_10, .slice A1_10 l1_10.length c1_10] rfl ?_; (with_reducible refine (laws_eqSizeS.calls k _ _ l0_10 _ _ l1_10 true _ ?side1 ?side2 ?side3 ?side4 A11.out).mono ?_); (case side1 => repeat (first | exact (Kd.C_below HR0_10.out (BB2 HB.out GE646.out GE647.out)) | (with_reducible refine Kd.C_alloc ?_ _) | (with_reducible refine Kd.C_drewN ?_ _) | (with_reducible refine Kd.C_drew ?_))); (case side2 => exact HC0_10.out); (case side3 => repeat (first | exact (Kd.C_below HR1_10.out (BB2 HB.out GE646.out GE647.out)) | (with_reducible refine Kd.C_alloc ?_ _) | (with_reducible refine Kd.C_drewN ?_ _) | (with_reducible refine Kd.C_drew ?_))); (case side4 => exact HC1_10.out); rintro e w24 ⟨rfl, hb⟩; refine ⟨_, rfl, ?_⟩; replace BK646 := Aside0.mk (KB BK646.out hb); replace BK647 := Aside0.mk (KB BK647.out hb); replace HB := Aside0.mk (below_step (BB2 HB.out GE646.out GE647.out) hb); (try clear hb)))
            go_ret
            exact ⟨ER, (BB2 HB.out GE646.out GE647.out)⟩
          · replace c12 := Bool.eq_false_iff.mpr c12
            subst c12
            have H1 : (some false) = some r := by rw [if_neg (show ¬ (false = true) by decide)] at H; exact H
            clear H
            have H := H1
            clear H1
            exact absurd ((Option.some.inj H).trans hr_.out) (by decide)
        · replace c10 := Bool.eq_false_iff.mpr c10
          subst c10
          have H1 : (some false) = some r := by rw [if_neg (show ¬ (false = true) by decide)] at H; exact H
          clear H
          have H := H1
          clear H1
          exact absurd ((Option.some.inj H).trans hr_.out) (by decide)
      · replace c8 := Bool.eq_false_iff.mpr c8
        subst c8
        have H1 : (some false) = some r := by rw [if_neg (show ¬ (false = true) by decide)] at H; exact H
        clear H
        have H := H1
        clear H1
        exact absurd ((Option.some.inj H).trans hr_.out) (by decide)
    · replace c6 := Bool.eq_false_iff.mpr c6
      subst c6
      have H1 : (some false) = some r := by rw [if_neg (show ¬ (false = true) by decide)] at H; exact H
      clear H
      have H := H1
      clear H1
      exact absurd ((Option.some.inj H).trans hr_.out) (by decide)
  · replace c4 := Bool.eq_false_iff.mpr c4
    subst c4
    have H1 : (some false) = some r := by rw [if_neg (show ¬ (false = true) by decide)] at H; exact H
    clear H
    have H := H1
    clear H1
    exact absurd ((Option.some.inj H).trans hr_.out) (by decide)

end Go.Proofs.Ytfgnaneajonapaa.Pr

/- Printed out of the translation by this session's pr.py over the kit's print. Lean checks it. -/
namespace Go.Proofs.Ytfgnaneajonapaa.Pr
open Go.RowKit Go.Proofs.YtfgnaneajonapaaW.PrintWords Go.Proofs.YtfgnaneajonapaaW.PrintLast Go.Proofs.YtfgnaneajonapaaW.PrintMore
attribute [local go_sem] max2_int min2_int max_two min_two max_three min_three max_four min_four
set_option linter.unusedVariables false
set_option linter.unusedSimpArgs false

/-! ### laws_szWorld: function 48 -/
def laws_szWorld.f (k : Nat) (a0_0 : Bool) (l0_1 : List (S199)) (a0_2 : Int) (a0_3 : Int) (l0_4 : List (S201)) (l0_5 : List (S161)) (a0_6 : Int) (l0_7 : List (S94)) (l0_8 : List Int) (l0_9 : List ByteArray) (l0_10 : List (S179)) (a1 : Int) : Option (Int) := (laws_szServer.f k a0_0 l0_1 a0_2 a0_3 l0_4 l0_5 a0_6 a1).bind fun t1044 => (if t1044 < 0 then (some (-1)) else ((laws_szHostS.f k l0_7 t1044).bind fun t1045 => (if t1045 < 0 then (some (-1)) else ((laws_szIntS.f l0_8 t1045).bind fun t1046 => (if t1046 < 0 then (some (-1)) else ((laws_szStringS.f k l0_9 t1046).bind fun t1047 => (if t1047 < 0 then (some (-1)) else ((laws_szSizeS.f k l0_10 t1047).bind fun t1048 => (if t1048 < 0 then (some (-1)) else (some t1048))))))))))
set_option maxHeartbeats 8000000 in
set_option maxRecDepth 100000 in
theorem laws_szWorld.calls (k : Nat) (a0_0 : Bool) (A0_1 : Option Addr) (c0_1 : Nat) (l0_1 : List (S199)) (a0_2 : Int) (a0_3 : Int) (A0_4 : Option Addr) (c0_4 : Nat) (l0_4 : List (S201)) (A0_5 : Option Addr) (c0_5 : Nat) (l0_5 : List (S161)) (a0_6 : Int) (A0_7 : Option Addr) (c0_7 : Nat) (l0_7 : List (S94)) (A0_8 : Option Addr) (c0_8 : Nat) (l0_8 : List Int) (A0_9 : Option Addr) (c0_9 : Nat) (l0_9 : List ByteArray) (A0_10 : Option Addr) (c0_10 : Nat) (l0_10 : List (S179)) (a1 : Int) (r : Int) (w : World) (hr0_1 : Kd.C k199 w A0_1 l0_1.length l0_1) (hc0_1 : l0_1.length ≤ c0_1) (hr0_4 : Kd.C k201 w A0_4 l0_4.length l0_4) (hc0_4 : l0_4.length ≤ c0_4) (hr0_5 : Kd.C k161 w A0_5 l0_5.length l0_5) (hc0_5 : l0_5.length ≤ c0_5) (hr0_7 : Kd.C k94 w A0_7 l0_7.length l0_7) (hc0_7 : l0_7.length ≤ c0_7) (hr0_8 : Kd.C (Kd.int .i64) w A0_8 l0_8.length l0_8) (hc0_8 : l0_8.length ≤ c0_8) (hr0_9 : Kd.C Kd.string w A0_9 l0_9.length l0_9) (hc0_9 : l0_9.length ≤ c0_9) (hr0_10 : Kd.C k179 w A0_10 l0_10.length l0_10) (hc0_10 : l0_10.length ≤ c0_10) (h : laws_szWorld.f k a0_0 l0_1 a0_2 a0_3 l0_4 l0_5 a0_6 l0_7 l0_8 l0_9 l0_10 a1 = some r) :
    Calls Try.prog 48 #[.agg #[.bool a0_0, .slice A0_1 l0_1.length c0_1, .int .i64 a0_2, .int .i64 a0_3, .slice A0_4 l0_4.length c0_4, .slice A0_5 l0_5.length c0_5, .int .i64 a0_6, .slice A0_7 l0_7.length c0_7, .slice A0_8 l0_8.length c0_8, .slice A0_9 l0_9.length c0_9, .slice A0_10 l0_10.length c0_10], .int .i64 a1] w fun e w' => e = .returned (.int .i64 r) ∧ Below w.heap.size w w' := by
  have hu86 := Try.underlying86
  have hu65 := Try.underlying65
  have HR0_1 := Aside0.mk hr0_1
  have HC0_1 := Aside0.mk hc0_1
  clear hr0_1 hc0_1
  have HR0_4 := Aside0.mk hr0_4
  have HC0_4 := Aside0.mk hc0_4
  clear hr0_4 hc0_4
  have HR0_5 := Aside0.mk hr0_5
  have HC0_5 := Aside0.mk hc0_5
  clear hr0_5 hc0_5
  have HR0_7 := Aside0.mk hr0_7
  have HC0_7 := Aside0.mk hc0_7
  clear hr0_7 hc0_7
  have HR0_8 := Aside0.mk hr0_8
  have HC0_8 := Aside0.mk hc0_8
  clear hr0_8 hc0_8
  have HR0_9 := Aside0.mk hr0_9
  have HC0_9 := Aside0.mk hc0_9
  clear hr0_9 hc0_9
  have HR0_10 := Aside0.mk hr0_10
  have HC0_10 := Aside0.mk hc0_10
  clear hr0_10 hc0_10
  have HB := Aside0.mk (Below.refl w.heap.size w)
  have H : ((laws_szServer.f k a0_0 l0_1 a0_2 a0_3 l0_4 l0_5 a0_6 a1).bind fun t1044 => (if t1044 < 0 then (some (-1)) else ((laws_szHostS.f k l0_7 t1044).bind fun t1045 => (if t1045 < 0 then (some (-1)) else ((laws_szIntS.f l0_8 t1045).bind fun t1046 => (if t1046 < 0 then (some (-1)) else ((laws_szStringS.f k l0_9 t1046).bind fun t1047 => (if t1047 < 0 then (some (-1)) else ((laws_szSizeS.f k l0_10 t1047).bind fun t1048 => (if t1048 < 0 then (some (-1)) else (some t1048))))))))))) = some r := h
  clear h
  replace H := Option.bind_eq_some_iff.mp H
  obtain ⟨t1044, A30, H⟩ := H
  replace H : (if t1044 < 0 then (some (-1)) else ((laws_szHostS.f k l0_7 t1044).bind fun t1045 => (if t1045 < 0 then (some (-1)) else ((laws_szIntS.f l0_8 t1045).bind fun t1046 => (if t1046 < 0 then (some (-1)) else ((laws_szStringS.f k l0_9 t1046).bind fun t1047 => (if t1047 < 0 then (some (-1)) else ((laws_szSizeS.f k l0_10 t1047).bind fun t1048 => (if t1048 < 0 then (some (-1)) else (some t1048)))))))))) = some r := H
  have A3 := Aside0.mk A30
  clear A30
  by_cases c4 : t1044 < 0
  · rw [if_pos c4] at H
    have c4b0 : decide (t1044 < 0) = true := decide_eq_true c4
    clear c4
    obtain rfl := Option.some.inj H
    go_enter Try.func48, Try.ntmps48
    go_wp2_with (first | ((with_reducible refine gate_dst (N := 2) rfl ?_); refine BX 2 #[.bool a0_0, .slice A0_1 l0_1.length c0_1, .int .i64 a0_2, .int .i64 a0_3, .slice A0_4 l0_4.length c0_4, .slice A0_5 l0_5.length c0_5, .int .i64 a0_6, .slice A0_7 l0_7.length c0_7, .slice A0_8 l0_8.length c0_8, .slice A0_9 l0_9.length c0_9, .slice A0_10 l0_10.length c0_10] 86 ?_; intro gb1043 hg w5 hbox hb; have BK1043 := Aside0.mk (hbox); have GW1043 : Aside0 (w.heap.size ≤ gb1043) := WG hg (BB HB.out); have GE1043 := GW1043; replace HB := Aside0.mk (below_step (BB HB.out) hb); clear hb hbox hg; have hcz6 := blk_cell BK1043.out; have hfz6 := blk_frozen BK1043.out) | ((with_reducible refine gate_callee (f := 35) rfl ?_); refine GL (some 8) rfl rfl Try.func35 #[.agg #[.bool a0_0, .slice A0_1 l0_1.length c0_1, .int .i64 a0_2, .int .i64 a0_3, .slice A0_4 l0_4.length c0_4, .slice A0_5 l0_5.length c0_5, .int .i64 a0_6], .int .i64 a1] rfl ?_; (with_reducible refine (laws_szServer.calls k a0_0 _ _ l0_1 a0_2 a0_3 _ _ l0_4 _ _ l0_5 a0_6 a1 t1044 _ ?side1 ?side2 ?side3 ?side4 ?side5 ?side6 A3.out).mono ?_); (case side1 => exact CC (Kd.C_below HR0_1.out HB.out)); (case side2 => exact HC0_1.out); (case side3 => exact CC (Kd.C_below HR0_4.out HB.out)); (case side4 => exact HC0_4.out); (case side5 => exact CC (Kd.C_below HR0_5.out HB.out)); (case side6 => exact HC0_5.out); rintro e w7 ⟨rfl, hb⟩; refine ⟨_, rfl, ?_⟩; replace BK1043 := Aside0.mk (KB BK1043.out hb); replace HB := Aside0.mk (below_step (BB1 HB.out GE1043.out) hb); (try clear hb)))
    go_ret
    exact ⟨ER, (BB1 HB.out GE1043.out)⟩
  · rw [if_neg c4] at H
    have c4b0 : decide (t1044 < 0) = false := decide_eq_false c4
    clear c4
    replace H := Option.bind_eq_some_iff.mp H
    obtain ⟨t1045, A80, H⟩ := H
    replace H : (if t1045 < 0 then (some (-1)) else ((laws_szIntS.f l0_8 t1045).bind fun t1046 => (if t1046 < 0 then (some (-1)) else ((laws_szStringS.f k l0_9 t1046).bind fun t1047 => (if t1047 < 0 then (some (-1)) else ((laws_szSizeS.f k l0_10 t1047).bind fun t1048 => (if t1048 < 0 then (some (-1)) else (some t1048)))))))) = some r := H
    have A8 := Aside0.mk A80
    clear A80
    by_cases c9 : t1045 < 0
    · rw [if_pos c9] at H
      have c9b0 : decide (t1045 < 0) = true := decide_eq_true c9
      clear c9
      obtain rfl := Option.some.inj H
      go_enter Try.func48, Try.ntmps48
      go_wp2_with (first | ((with_reducible refine gate_dst (N := 2) rfl ?_); refine BX 2 #[.bool a0_0, .slice A0_1 l0_1.length c0_1, .int .i64 a0_2, .int .i64 a0_3, .slice A0_4 l0_4.length c0_4, .slice A0_5 l0_5.length c0_5, .int .i64 a0_6, .slice A0_7 l0_7.length c0_7, .slice A0_8 l0_8.length c0_8, .slice A0_9 l0_9.length c0_9, .slice A0_10 l0_10.length c0_10] 86 ?_; intro gb1043 hg w10 hbox hb; have BK1043 := Aside0.mk (hbox); have GW1043 : Aside0 (w.heap.size ≤ gb1043) := WG hg (BB HB.out); have GE1043 := GW1043; replace HB := Aside0.mk (below_step (BB HB.out) hb); clear hb hbox hg; have hcz11 := blk_cell BK1043.out; have hfz11 := blk_frozen BK1043.out) | ((with_reducible refine gate_callee (f := 35) rfl ?_); refine GL (some 8) rfl rfl Try.func35 #[.agg #[.bool a0_0, .slice A0_1 l0_1.length c0_1, .int .i64 a0_2, .int .i64 a0_3, .slice A0_4 l0_4.length c0_4, .slice A0_5 l0_5.length c0_5, .int .i64 a0_6], .int .i64 a1] rfl ?_; (with_reducible refine (laws_szServer.calls k a0_0 _ _ l0_1 a0_2 a0_3 _ _ l0_4 _ _ l0_5 a0_6 a1 t1044 _ ?side1 ?side2 ?side3 ?side4 ?side5 ?side6 A3.out).mono ?_); (case side1 => exact CC (Kd.C_below HR0_1.out HB.out)); (case side2 => exact HC0_1.out); (case side3 => exact CC (Kd.C_below HR0_4.out HB.out)); (case side4 => exact HC0_4.out); (case side5 => exact CC (Kd.C_below HR0_5.out HB.out)); (case side6 => exact HC0_5.out); rintro e w12 ⟨rfl, hb⟩; refine ⟨_, rfl, ?_⟩; replace BK1043 := Aside0.mk (KB BK1043.out hb); replace HB := Aside0.mk (below_step (BB1 HB.out GE1043.out) hb); (try clear hb); have hcz13 := blk_cell BK1043.out; have hfz13 := blk_frozen BK1043.out) | ((with_reducible refine gate_callee (f := 11) rfl ?_); refine GL (some 14) rfl rfl Try.func11 #[.slice A0_7 l0_7.length c0_7, .int .i64 t1044] rfl ?_; (with_reducible refine (laws_szHostS.calls k _ _ l0_7 t1044 t1045 _ ?side1 ?side2 A8.out).mono ?_); (case side1 => exact CC (Kd.C_below HR0_7.out HB.out)); (case side2 => exact HC0_7.out); rintro e w14 ⟨rfl, hb⟩; refine ⟨_, rfl, ?_⟩; replace BK1043 := Aside0.mk (KB BK1043.out hb); replace HB := Aside0.mk (below_step (BB1 HB.out GE1043.out) hb); (try clear hb)))
      go_ret
      exact ⟨ER, (BB1 HB.out GE1043.out)⟩
    · rw [if_neg c9] at H
      have c9b0 : decide (t1045 < 0) = false := decide_eq_false c9
      clear c9
      replace H := Option.bind_eq_some_iff.mp H
      obtain ⟨t1046, A150, H⟩ := H
      replace H : (if t1046 < 0 then (some (-1)) else ((laws_szStringS.f k l0_9 t1046).bind fun t1047 => (if t1047 < 0 then (some (-1)) else ((laws_szSizeS.f k l0_10 t1047).bind fun t1048 => (if t1048 < 0 then (some (-1)) else (some t1048)))))) = some r := H
      have A15 := Aside0.mk A150
      clear A150
      by_cases c16 : t1046 < 0
      · rw [if_pos c16] at H
        have c16b0 : decide (t1046 < 0) = true := decide_eq_true c16
        clear c16
        obtain rfl := Option.some.inj H
        go_enter Try.func48, Try.ntmps48
        go_wp2_with (first | ((with_reducible refine gate_dst (N := 2) rfl ?_); refine BX 2 #[.bool a0_0, .slice A0_1 l0_1.length c0_1, .int .i64 a0_2, .int .i64 a0_3, .slice A0_4 l0_4.length c0_4, .slice A0_5 l0_5.length c0_5, .int .i64 a0_6, .slice A0_7 l0_7.length c0_7, .slice A0_8 l0_8.length c0_8, .slice A0_9 l0_9.length c0_9, .slice A0_10 l0_10.length c0_10] 86 ?_; intro gb1043 hg w17 hbox hb; have BK1043 := Aside0.mk (hbox); have GW1043 : Aside0 (w.heap.size ≤ gb1043) := WG hg (BB HB.out); have GE1043 := GW1043; replace HB := Aside0.mk (below_step (BB HB.out) hb); clear hb hbox hg; have hcz18 := blk_cell BK1043.out; have hfz18 := blk_frozen BK1043.out) | ((with_reducible refine gate_callee (f := 35) rfl ?_); refine GL (some 8) rfl rfl Try.func35 #[.agg #[.bool a0_0, .slice A0_1 l0_1.length c0_1, .int .i64 a0_2, .int .i64 a0_3, .slice A0_4 l0_4.length c0_4, .slice A0_5 l0_5.length c0_5, .int .i64 a0_6], .int .i64 a1] rfl ?_; (with_reducible refine (laws_szServer.calls k a0_0 _ _ l0_1 a0_2 a0_3 _ _ l0_4 _ _ l0_5 a0_6 a1 t1044 _ ?side1 ?side2 ?side3 ?side4 ?side5 ?side6 A3.out).mono ?_); (case side1 => exact CC (Kd.C_below HR0_1.out HB.out)); (case side2 => exact HC0_1.out); (case side3 => exact CC (Kd.C_below HR0_4.out HB.out)); (case side4 => exact HC0_4.out); (case side5 => exact CC (Kd.C_below HR0_5.out HB.out)); (case side6 => exact HC0_5.out); rintro e w19 ⟨rfl, hb⟩; refine ⟨_, rfl, ?_⟩; replace BK1043 := Aside0.mk (KB BK1043.out hb); replace HB := Aside0.mk (below_step (BB1 HB.out GE1043.out) hb); (try clear hb); have hcz20 := blk_cell BK1043.out; have hfz20 := blk_frozen BK1043.out) | ((with_reducible refine gate_callee (f := 11) rfl ?_); refine GL (some 14) rfl rfl Try.func11 #[.slice A0_7 l0_7.length c0_7, .int .i64 t1044] rfl ?_; (with_reducible refine (laws_szHostS.calls k _ _ l0_7 t1044 t1045 _ ?side1 ?side2 A8.out).mono ?_); (case side1 => exact CC (Kd.C_below HR0_7.out HB.out)); (case side2 => exact HC0_7.out); rintro e w21 ⟨rfl, hb⟩; refine ⟨_, rfl, ?_⟩; replace BK1043 := Aside0.mk (KB BK1043.out hb); replace HB := Aside0.mk (below_step (BB1 HB.out GE1043.out) hb); (try clear hb); have hcz22 := blk_cell BK1043.out; have hfz22 := blk_frozen BK1043.out) | ((with_reducible refine gate_callee (f := 95) rfl ?_); refine GL (some 20) rfl rfl Try.func95 #[.slice A0_8 l0_8.length c0_8, .int .i64 t1045] rfl ?_; (with_reducible refine (laws_szIntS.calls _ _ l0_8 t1045 t1046 _ ?side1 ?side2 A15.out).mono ?_); (case side1 => exact CC (Kd.C_below HR0_8.out HB.out)); (case side2 => exact HC0_8.out); rintro e w' ⟨rfl, ⟨nd, rfl⟩⟩; refine ⟨_, rfl, ?_⟩))
        go_ret
        exact ⟨ER, (BB1 HB.out GE1043.out)⟩
      · rw [if_neg c16] at H
        have c16b0 : decide (t1046 < 0) = false := decide_eq_false c16
        clear c16
        replace H := Option.bind_eq_some_iff.mp H
        obtain ⟨t1047, A230, H⟩ := H
        replace H : (if t1047 < 0 then (some (-1)) else ((laws_szSizeS.f k l0_10 t1047).bind fun t1048 => (if t1048 < 0 then (some (-1)) else (some t1048)))) = some r := H
        have A23 := Aside0.mk A230
        clear A230
        by_cases c24 : t1047 < 0
        · rw [if_pos c24] at H
          have c24b0 : decide (t1047 < 0) = true := decide_eq_true c24
          clear c24
          obtain rfl := Option.some.inj H
          go_enter Try.func48, Try.ntmps48
          go_wp2_with (first | ((with_reducible refine gate_dst (N := 2) rfl ?_); refine BX 2 #[.bool a0_0, .slice A0_1 l0_1.length c0_1, .int .i64 a0_2, .int .i64 a0_3, .slice A0_4 l0_4.length c0_4, .slice A0_5 l0_5.length c0_5, .int .i64 a0_6, .slice A0_7 l0_7.length c0_7, .slice A0_8 l0_8.length c0_8, .slice A0_9 l0_9.length c0_9, .slice A0_10 l0_10.length c0_10] 86 ?_; intro gb1043 hg w25 hbox hb; have BK1043 := Aside0.mk (hbox); have GW1043 : Aside0 (w.heap.size ≤ gb1043) := WG hg (BB HB.out); have GE1043 := GW1043; replace HB := Aside0.mk (below_step (BB HB.out) hb); clear hb hbox hg; have hcz26 := blk_cell BK1043.out; have hfz26 := blk_frozen BK1043.out) | ((with_reducible refine gate_callee (f := 35) rfl ?_); refine GL (some 8) rfl rfl Try.func35 #[.agg #[.bool a0_0, .slice A0_1 l0_1.length c0_1, .int .i64 a0_2, .int .i64 a0_3, .slice A0_4 l0_4.length c0_4, .slice A0_5 l0_5.length c0_5, .int .i64 a0_6], .int .i64 a1] rfl ?_; (with_reducible refine (laws_szServer.calls k a0_0 _ _ l0_1 a0_2 a0_3 _ _ l0_4 _ _ l0_5 a0_6 a1 t1044 _ ?side1 ?side2 ?side3 ?side4 ?side5 ?side6 A3.out).mono ?_); (case side1 => exact CC (Kd.C_below HR0_1.out HB.out)); (case side2 => exact HC0_1.out); (case side3 => exact CC (Kd.C_below HR0_4.out HB.out)); (case side4 => exact HC0_4.out); (case side5 => exact CC (Kd.C_below HR0_5.out HB.out)); (case side6 => exact HC0_5.out); rintro e w27 ⟨rfl, hb⟩; refine ⟨_, rfl, ?_⟩; replace BK1043 := Aside0.mk (KB BK1043.out hb); replace HB := Aside0.mk (below_step (BB1 HB.out GE1043.out) hb); (try clear hb); have hcz28 := blk_cell BK1043.out; have hfz28 := blk_frozen BK1043.out) | ((with_reducible refine gate_callee (f := 11) rfl ?_); refine GL (some 14) rfl rfl Try.func11 #[.slice A0_7 l0_7.length c0_7, .int .i64 t1044] rfl ?_; (with_reducible refine (laws_szHostS.calls k _ _ l0_7 t1044 t1045 _ ?side1 ?side2 A8.out).mono ?_); (case side1 => exact CC (Kd.C_below HR0_7.out HB.out)); (case side2 => exact HC0_7.out); rintro e w29 ⟨rfl, hb⟩; refine ⟨_, rfl, ?_⟩; replace BK1043 := Aside0.mk (KB BK1043.out hb); replace HB := Aside0.mk (below_step (BB1 HB.out GE1043.out) hb); (try clear hb); have hcz30 := blk_cell BK1043.out; have hfz30 := blk_frozen BK1043.out) | ((with_reducible refine gate_callee (f := 95) rfl ?_); refine GL (some 20) rfl rfl Try.func95 #[.slice A0_8 l0_8.length c0_8, .int .i64 t1045] rfl ?_; (with_reducible refine (laws_szIntS.calls _ _ l0_8 t1045 t1046 _ ?side1 ?side2 A15.out).mono ?_); (case side1 => exact CC (Kd.C_below HR0_8.out HB.out)); (case side2 => exact HC0_8.out); rintro e w' ⟨rfl, ⟨nd, rfl⟩⟩; refine ⟨_, rfl, ?_⟩) | ((with_reducible refine gate_callee (f := 96) rfl ?_); refine GL (some 26) rfl rfl Try.func96 #[.slice A0_9 l0_9.length c0_9, .int .i64 t1046] rfl ?_; (with_reducible refine (laws_szStringS.calls k _ _ l0_9 t1046 t1047 _ ?side1 ?side2 A23.out).mono ?_); (case side1 => repeat (first | exact (Kd.C_below HR0_9.out (BB1 HB.out GE1043.out)) | (with_reducible refine Kd.C_alloc ?_ _) | (with_reducible refine Kd.C_drewN ?_ _) | (with_reducible refine Kd.C_drew ?_))); (case side2 => exact HC0_9.out); rintro e w' ⟨rfl, ⟨nd, rfl⟩⟩; refine ⟨_, rfl, ?_⟩))
          go_ret
          exact ⟨ER, (BB1 HB.out GE1043.out)⟩
        · rw [if_neg c24] at H
          have c24b0 : decide (t1047 < 0) = false := decide_eq_false c24
          clear c24
          replace H := Option.bind_eq_some_iff.mp H
          obtain ⟨t1048, A310, H⟩ := H
          replace H : (if t1048 < 0 then (some (-1)) else (some t1048)) = some r := H
          have A31 := Aside0.mk A310
          clear A310
          by_cases c32 : t1048 < 0
          · rw [if_pos c32] at H
            have c32b0 : decide (t1048 < 0) = true := decide_eq_true c32
            clear c32
            obtain rfl := Option.some.inj H
            go_enter Try.func48, Try.ntmps48
            go_wp2_with (first | ((with_reducible refine gate_dst (N := 2) rfl ?_); refine BX 2 #[.bool a0_0, .slice A0_1 l0_1.length c0_1, .int .i64 a0_2, .int .i64 a0_3, .slice A0_4 l0_4.length c0_4, .slice A0_5 l0_5.length c0_5, .int .i64 a0_6, .slice A0_7 l0_7.length c0_7, .slice A0_8 l0_8.length c0_8, .slice A0_9 l0_9.length c0_9, .slice A0_10 l0_10.length c0_10] 86 ?_; intro gb1043 hg w33 hbox hb; have BK1043 := Aside0.mk (hbox); have GW1043 : Aside0 (w.heap.size ≤ gb1043) := WG hg (BB HB.out); have GE1043 := GW1043; replace HB := Aside0.mk (below_step (BB HB.out) hb); clear hb hbox hg; have hcz34 := blk_cell BK1043.out; have hfz34 := blk_frozen BK1043.out) | ((with_reducible refine gate_callee (f := 35) rfl ?_); refine GL (some 8) rfl rfl Try.func35 #[.agg #[.bool a0_0, .slice A0_1 l0_1.length c0_1, .int .i64 a0_2, .int .i64 a0_3, .slice A0_4 l0_4.length c0_4, .slice A0_5 l0_5.length c0_5, .int .i64 a0_6], .int .i64 a1] rfl ?_; (with_reducible refine (laws_szServer.calls k a0_0 _ _ l0_1 a0_2 a0_3 _ _ l0_4 _ _ l0_5 a0_6 a1 t1044 _ ?side1 ?side2 ?side3 ?side4 ?side5 ?side6 A3.out).mono ?_); (case side1 => exact CC (Kd.C_below HR0_1.out HB.out)); (case side2 => exact HC0_1.out); (case side3 => exact CC (Kd.C_below HR0_4.out HB.out)); (case side4 => exact HC0_4.out); (case side5 => exact CC (Kd.C_below HR0_5.out HB.out)); (case side6 => exact HC0_5.out); rintro e w35 ⟨rfl, hb⟩; refine ⟨_, rfl, ?_⟩; replace BK1043 := Aside0.mk (KB BK1043.out hb); replace HB := Aside0.mk (below_step (BB1 HB.out GE1043.out) hb); (try clear hb); have hcz36 := blk_cell BK1043.out; have hfz36 := blk_frozen BK1043.out) | ((with_reducible refine gate_callee (f := 11) rfl ?_); refine GL (some 14) rfl rfl Try.func11 #[.slice A0_7 l0_7.length c0_7, .int .i64 t1044] rfl ?_; (with_reducible refine (laws_szHostS.calls k _ _ l0_7 t1044 t1045 _ ?side1 ?side2 A8.out).mono ?_); (case side1 => exact CC (Kd.C_below HR0_7.out HB.out)); (case side2 => exact HC0_7.out); rintro e w37 ⟨rfl, hb⟩; refine ⟨_, rfl, ?_⟩; replace BK1043 := Aside0.mk (KB BK1043.out hb); replace HB := Aside0.mk (below_step (BB1 HB.out GE1043.out) hb); (try clear hb); have hcz38 := blk_cell BK1043.out; have hfz38 := blk_frozen BK1043.out) | ((with_reducible refine gate_callee (f := 95) rfl ?_); refine GL (some 20) rfl rfl Try.func95 #[.slice A0_8 l0_8.length c0_8, .int .i64 t1045] rfl ?_; (with_reducible refine (laws_szIntS.calls _ _ l0_8 t1045 t1046 _ ?side1 ?side2 A15.out).mono ?_); (case side1 => exact CC (Kd.C_below HR0_8.out HB.out)); (case side2 => exact HC0_8.out); rintro e w' ⟨rfl, ⟨nd, rfl⟩⟩; refine ⟨_, rfl, ?_⟩) | ((with_reducible refine gate_callee (f := 96) rfl ?_); refine GL (some 26) rfl rfl Try.func96 #[.slice A0_9 l0_9.length c0_9, .int .i64 t1046] rfl ?_; (with_reducible refine (laws_szStringS.calls k _ _ l0_9 t1046 t1047 _ ?side1 ?side2 A23.out).mono ?_); (case side1 => repeat (first | exact (Kd.C_below HR0_9.out (BB1 HB.out GE1043.out)) | (with_reducible refine Kd.C_alloc ?_ _) | (with_reducible refine Kd.C_drewN ?_ _) | (with_reducible refine Kd.C_drew ?_))); (case side2 => exact HC0_9.out); rintro e w' ⟨rfl, ⟨nd, rfl⟩⟩; refine ⟨_, rfl, ?_⟩) | ((with_reducible refine gate_callee (f := 97) rfl ?_); refine GL (some 32) rfl rfl Try.func97 #[.slice A0_10 l0_10.length c0_10, .int .i64 t1047] rfl ?_; (with_reducible refine (laws_szSizeS.calls k _ _ l0_10 t1047 t1048 _ ?side1 ?side2 A31.out).mono ?_); (case side1 => repeat (first | exact (Kd.C_below HR0_10.out (BB1 HB.out GE1043.out)) | (with_reducible refine Kd.C_alloc ?_ _) | (with_reducible refine Kd.C_drewN ?_ _) | (with_reducible refine Kd.C_drew ?_))); (case side2 => exact HC0_10.out); rintro e w39 ⟨rfl, hb⟩; refine ⟨_, rfl, ?_⟩; replace BK1043 := Aside0.mk (KB BK1043.out hb); replace HB := Aside0.mk (below_step (BB1 HB.out GE1043.out) hb); (try clear hb)))
            go_ret
            exact ⟨ER, (BB1 HB.out GE1043.out)⟩
          · rw [if_neg c32] at H
            have c32b0 : decide (t1048 < 0) = false := decide_eq_false c32
            clear c32
            obtain rfl := Option.some.inj H
            go_enter Try.func48, Try.ntmps48
            go_wp2_with (first | ((with_reducible refine gate_dst (N := 2) rfl ?_); refine BX 2 #[.bool a0_0, .slice A0_1 l0_1.length c0_1, .int .i64 a0_2, .int .i64 a0_3, .slice A0_4 l0_4.length c0_4, .slice A0_5 l0_5.length c0_5, .int .i64 a0_6, .slice A0_7 l0_7.length c0_7, .slice A0_8 l0_8.length c0_8, .slice A0_9 l0_9.length c0_9, .slice A0_10 l0_10.length c0_10] 86 ?_; intro gb1043 hg w40 hbox hb; have BK1043 := Aside0.mk (hbox); have GW1043 : Aside0 (w.heap.size ≤ gb1043) := WG hg (BB HB.out); have GE1043 := GW1043; replace HB := Aside0.mk (below_step (BB HB.out) hb); clear hb hbox hg; have hcz41 := blk_cell BK1043.out; have hfz41 := blk_frozen BK1043.out) | ((with_reducible refine gate_callee (f := 35) rfl ?_); refine GL (some 8) rfl rfl Try.func35 #[.agg #[.bool a0_0, .slice A0_1 l0_1.length c0_1, .int .i64 a0_2, .int .i64 a0_3, .slice A0_4 l0_4.length c0_4, .slice A0_5 l0_5.length c0_5, .int .i64 a0_6], .int .i64 a1] rfl ?_; (with_reducible refine (laws_szServer.calls k a0_0 _ _ l0_1 a0_2 a0_3 _ _ l0_4 _ _ l0_5 a0_6 a1 t1044 _ ?side1 ?side2 ?side3 ?side4 ?side5 ?side6 A3.out).mono ?_); (case side1 => exact CC (Kd.C_below HR0_1.out HB.out)); (case side2 => exact HC0_1.out); (case side3 => exact CC (Kd.C_below HR0_4.out HB.out)); (case side4 => exact HC0_4.out); (case side5 => exact CC (Kd.C_below HR0_5.out HB.out)); (case side6 => exact HC0_5.out); rintro e w42 ⟨rfl, hb⟩; refine ⟨_, rfl, ?_⟩; replace BK1043 := Aside0.mk (KB BK1043.out hb); replace HB := Aside0.mk (below_step (BB1 HB.out GE1043.out) hb); (try clear hb); have hcz43 := blk_cell BK1043.out; have hfz43 := blk_frozen BK1043.out) | ((with_reducible refine gate_callee (f := 11) rfl ?_); refine GL (some 14) rfl rfl Try.func11 #[.slice A0_7 l0_7.length c0_7, .int .i64 t1044] rfl ?_; (with_reducible refine (laws_szHostS.calls k _ _ l0_7 t1044 t1045 _ ?side1 ?side2 A8.out).mono ?_); (case side1 => exact CC (Kd.C_below HR0_7.out HB.out)); (case side2 => exact HC0_7.out); rintro e w44 ⟨rfl, hb⟩; refine ⟨_, rfl, ?_⟩; replace BK1043 := Aside0.mk (KB BK1043.out hb); replace HB := Aside0.mk (below_step (BB1 HB.out GE1043.out) hb); (try clear hb); have hcz45 := blk_cell BK1043.out; have hfz45 := blk_frozen BK1043.out) | ((with_reducible refine gate_callee (f := 95) rfl ?_); refine GL (some 20) rfl rfl Try.func95 #[.slice A0_8 l0_8.length c0_8, .int .i64 t1045] rfl ?_; (with_reducible refine (laws_szIntS.calls _ _ l0_8 t1045 t1046 _ ?side1 ?side2 A15.out).mono ?_); (case side1 => exact CC (Kd.C_below HR0_8.out HB.out)); (case side2 => exact HC0_8.out); rintro e w' ⟨rfl, ⟨nd, rfl⟩⟩; refine ⟨_, rfl, ?_⟩) | ((with_reducible refine gate_callee (f := 96) rfl ?_); refine GL (some 26) rfl rfl Try.func96 #[.slice A0_9 l0_9.length c0_9, .int .i64 t1046] rfl ?_; (with_reducible refine (laws_szStringS.calls k _ _ l0_9 t1046 t1047 _ ?side1 ?side2 A23.out).mono ?_); (case side1 => repeat (first | exact (Kd.C_below HR0_9.out (BB1 HB.out GE1043.out)) | (with_reducible refine Kd.C_alloc ?_ _) | (with_reducible refine Kd.C_drewN ?_ _) | (with_reducible refine Kd.C_drew ?_))); (case side2 => exact HC0_9.out); rintro e w' ⟨rfl, ⟨nd, rfl⟩⟩; refine ⟨_, rfl, ?_⟩) | ((with_reducible refine gate_callee (f := 97) rfl ?_); refine GL (some 32) rfl rfl Try.func97 #[.slice A0_10 l0_10.length c0_10, .int .i64 t1047] rfl ?_; (with_reducible refine (laws_szSizeS.calls k _ _ l0_10 t1047 t1048 _ ?side1 ?side2 A31.out).mono ?_); (case side1 => repeat (first | exact (Kd.C_below HR0_10.out (BB1 HB.out GE1043.out)) | (with_reducible refine Kd.C_alloc ?_ _) | (with_reducible refine Kd.C_drewN ?_ _) | (with_reducible refine Kd.C_drew ?_))); (case side2 => exact HC0_10.out); rintro e w46 ⟨rfl, hb⟩; refine ⟨_, rfl, ?_⟩; replace BK1043 := Aside0.mk (KB BK1043.out hb); replace HB := Aside0.mk (below_step (BB1 HB.out GE1043.out) hb); (try clear hb)))
            go_ret
            exact ⟨ER, (BB1 HB.out GE1043.out)⟩

end Go.Proofs.Ytfgnaneajonapaa.Pr

/- Printed out of the translation by this session's pr.py over the kit's print. Lean checks it. -/
namespace Go.Proofs.Ytfgnaneajonapaa.Pr
open Go.RowKit Go.Proofs.YtfgnaneajonapaaW.PrintWords Go.Proofs.YtfgnaneajonapaaW.PrintLast Go.Proofs.YtfgnaneajonapaaW.PrintMore
attribute [local go_sem] max2_int min2_int max_two min_two max_three min_three max_four min_four
set_option linter.unusedVariables false
set_option linter.unusedSimpArgs false

/-! ### laws_toWorld: function 50 -/
def laws_toWorld.f (k : Nat) (a0_0 : Bool) (l0_1 : List (S199)) (a0_2 : Int) (a0_3 : Int) (l0_4 : List (S201)) (l0_5 : List (S161)) (a0_6 : Int) (l0_7 : List (S94)) (l0_8 : List Int) (l0_9 : List ByteArray) (l0_10 : List (S179)) : Option (Bool × (List (S135)) × Int × Int × (List (S192)) × (List (S120)) × Int × (List (S97)) × List Int × List ByteArray × (List (S168))) := (laws_toServer.f k a0_0 l0_1 a0_2 a0_3 l0_4 l0_5 a0_6).bind fun bt1083 => ((laws_toHostS.f k l0_7).bind fun t1096 => ((laws_toIntS.f k l0_8).bind fun t1099 => ((laws_toStringS.f k l0_9).bind fun t1102 => ((laws_toSizeS.f k l0_10).bind fun t1105 => (some (bt1083.1, bt1083.2.1, bt1083.2.2.1, bt1083.2.2.2.1, bt1083.2.2.2.2.1, bt1083.2.2.2.2.2.1, bt1083.2.2.2.2.2.2, t1096, t1099, t1102, t1105))))))
set_option maxHeartbeats 8000000 in
set_option maxRecDepth 100000 in
theorem laws_toWorld.calls (k : Nat) (a0_0 : Bool) (A0_1 : Option Addr) (c0_1 : Nat) (l0_1 : List (S199)) (a0_2 : Int) (a0_3 : Int) (A0_4 : Option Addr) (c0_4 : Nat) (l0_4 : List (S201)) (A0_5 : Option Addr) (c0_5 : Nat) (l0_5 : List (S161)) (a0_6 : Int) (A0_7 : Option Addr) (c0_7 : Nat) (l0_7 : List (S94)) (A0_8 : Option Addr) (c0_8 : Nat) (l0_8 : List Int) (A0_9 : Option Addr) (c0_9 : Nat) (l0_9 : List ByteArray) (A0_10 : Option Addr) (c0_10 : Nat) (l0_10 : List (S179)) (r1 : Bool) (r2 : List (S135)) (r3 : Int) (r4 : Int) (r5 : List (S192)) (r6 : List (S120)) (r7 : Int) (r8 : List (S97)) (r9 : List Int) (r10 : List ByteArray) (r11 : List (S168)) (w : World) (hr0_1 : Kd.C k199 w A0_1 l0_1.length l0_1) (hc0_1 : l0_1.length ≤ c0_1) (hr0_4 : Kd.C k201 w A0_4 l0_4.length l0_4) (hc0_4 : l0_4.length ≤ c0_4) (hr0_5 : Kd.C k161 w A0_5 l0_5.length l0_5) (hc0_5 : l0_5.length ≤ c0_5) (hr0_7 : Kd.C k94 w A0_7 l0_7.length l0_7) (hc0_7 : l0_7.length ≤ c0_7) (hr0_8 : Kd.C (Kd.int .i64) w A0_8 l0_8.length l0_8) (hc0_8 : l0_8.length ≤ c0_8) (hr0_9 : Kd.C Kd.string w A0_9 l0_9.length l0_9) (hc0_9 : l0_9.length ≤ c0_9) (hr0_10 : Kd.C k179 w A0_10 l0_10.length l0_10) (hc0_10 : l0_10.length ≤ c0_10) (h : laws_toWorld.f k a0_0 l0_1 a0_2 a0_3 l0_4 l0_5 a0_6 l0_7 l0_8 l0_9 l0_10 = some (r1, r2, r3, r4, r5, r6, r7, r8, r9, r10, r11)) :
    Calls Try.prog 50 #[.agg #[.bool a0_0, .slice A0_1 l0_1.length c0_1, .int .i64 a0_2, .int .i64 a0_3, .slice A0_4 l0_4.length c0_4, .slice A0_5 l0_5.length c0_5, .int .i64 a0_6, .slice A0_7 l0_7.length c0_7, .slice A0_8 l0_8.length c0_8, .slice A0_9 l0_9.length c0_9, .slice A0_10 l0_10.length c0_10]] w fun e w' => ∃ v1_ v4_ v5_ v7_ v8_ v9_ v10_ : Value, e = .returned (.agg #[.bool r1, v1_, .int .i64 r3, .int .i64 r4, v4_, v5_, .int .i64 r7, v7_, v8_, v9_, v10_]) ∧ Kd.S k135 135 w' w.heap.size (fun _ => True) v1_ r2 ∧ Kd.R k192 192 w' w.heap.size (fun _ => True) v4_ r5 ∧ Kd.R k120 120 w' w.heap.size (fun _ => True) v5_ r6 ∧ Kd.S k97 97 w' w.heap.size (fun _ => True) v7_ r8 ∧ Kd.R (Kd.int .i64) 3 w' w.heap.size (fun _ => True) v8_ r9 ∧ Kd.R Kd.string 9 w' w.heap.size (fun _ => True) v9_ r10 ∧ Kd.R k168 168 w' w.heap.size (fun _ => True) v10_ r11 ∧ Below w.heap.size w w' := by
  have hu86 := Try.underlying86
  have hu77 := Try.underlying77
  have hu65 := Try.underlying65
  have hu46 := Try.underlying46
  have HR0_1 := Aside0.mk hr0_1
  have HC0_1 := Aside0.mk hc0_1
  clear hr0_1 hc0_1
  have HR0_4 := Aside0.mk hr0_4
  have HC0_4 := Aside0.mk hc0_4
  clear hr0_4 hc0_4
  have HR0_5 := Aside0.mk hr0_5
  have HC0_5 := Aside0.mk hc0_5
  clear hr0_5 hc0_5
  have HR0_7 := Aside0.mk hr0_7
  have HC0_7 := Aside0.mk hc0_7
  clear hr0_7 hc0_7
  have HR0_8 := Aside0.mk hr0_8
  have HC0_8 := Aside0.mk hc0_8
  clear hr0_8 hc0_8
  have HR0_9 := Aside0.mk hr0_9
  have HC0_9 := Aside0.mk hc0_9
  clear hr0_9 hc0_9
  have HR0_10 := Aside0.mk hr0_10
  have HC0_10 := Aside0.mk hc0_10
  clear hr0_10 hc0_10
  have HB := Aside0.mk (Below.refl w.heap.size w)
  have H : ((laws_toServer.f k a0_0 l0_1 a0_2 a0_3 l0_4 l0_5 a0_6).bind fun bt1083 => ((laws_toHostS.f k l0_7).bind fun t1096 => ((laws_toIntS.f k l0_8).bind fun t1099 => ((laws_toStringS.f k l0_9).bind fun t1102 => ((laws_toSizeS.f k l0_10).bind fun t1105 => (some (bt1083.1, bt1083.2.1, bt1083.2.2.1, bt1083.2.2.2.1, bt1083.2.2.2.2.1, bt1083.2.2.2.2.2.1, bt1083.2.2.2.2.2.2, t1096, t1099, t1102, t1105))))))) = some (r1, r2, r3, r4, r5, r6, r7, r8, r9, r10, r11) := h
  clear h
  replace H := Option.bind_eq_some_iff.mp H
  obtain ⟨⟨t1083, t1084, t1087, t1088, t1089, t1092, t1095⟩, A20, H⟩ := H
  replace H : ((laws_toHostS.f k l0_7).bind fun t1096 => ((laws_toIntS.f k l0_8).bind fun t1099 => ((laws_toStringS.f k l0_9).bind fun t1102 => ((laws_toSizeS.f k l0_10).bind fun t1105 => (some (t1083, t1084, t1087, t1088, t1089, t1092, t1095, t1096, t1099, t1102, t1105)))))) = some (r1, r2, r3, r4, r5, r6, r7, r8, r9, r10, r11) := H
  have A2 := Aside0.mk A20
  clear A20
  replace H := Option.bind_eq_some_iff.mp H
  obtain ⟨t1096, A30, H⟩ := H
  replace H : ((laws_toIntS.f k l0_8).bind fun t1099 => ((laws_toStringS.f k l0_9).bind fun t1102 => ((laws_toSizeS.f k l0_10).bind fun t1105 => (some (t1083, t1084, t1087, t1088, t1089, t1092, t1095, t1096, t1099, t1102, t1105))))) = some (r1, r2, r3, r4, r5, r6, r7, r8, r9, r10, r11) := H
  have A3 := Aside0.mk A30
  clear A30
  replace H := Option.bind_eq_some_iff.mp H
  obtain ⟨t1099, A40, H⟩ := H
  replace H : ((laws_toStringS.f k l0_9).bind fun t1102 => ((laws_toSizeS.f k l0_10).bind fun t1105 => (some (t1083, t1084, t1087, t1088, t1089, t1092, t1095, t1096, t1099, t1102, t1105)))) = some (r1, r2, r3, r4, r5, r6, r7, r8, r9, r10, r11) := H
  have A4 := Aside0.mk A40
  clear A40
  replace H := Option.bind_eq_some_iff.mp H
  obtain ⟨t1102, A50, H⟩ := H
  replace H : ((laws_toSizeS.f k l0_10).bind fun t1105 => (some (t1083, t1084, t1087, t1088, t1089, t1092, t1095, t1096, t1099, t1102, t1105))) = some (r1, r2, r3, r4, r5, r6, r7, r8, r9, r10, r11) := H
  have A5 := Aside0.mk A50
  clear A50
  replace H := Option.bind_eq_some_iff.mp H
  obtain ⟨t1105, A60, H⟩ := H
  replace H : (some (t1083, t1084, t1087, t1088, t1089, t1092, t1095, t1096, t1099, t1102, t1105)) = some (r1, r2, r3, r4, r5, r6, r7, r8, r9, r10, r11) := H
  have A6 := Aside0.mk A60
  clear A60
  simp only [Option.some.injEq, Prod.mk.injEq] at H
  obtain ⟨rfl, rfl, rfl, rfl, rfl, rfl, rfl, rfl, rfl, rfl, rfl⟩ := H
  go_enter Try.func50, Try.ntmps50
  go_wp2_with (first | ((with_reducible refine gate_dst (N := 1) rfl ?_); refine BX 1 #[.bool a0_0, .slice A0_1 l0_1.length c0_1, .int .i64 a0_2, .int .i64 a0_3, .slice A0_4 l0_4.length c0_4, .slice A0_5 l0_5.length c0_5, .int .i64 a0_6, .slice A0_7 l0_7.length c0_7, .slice A0_8 l0_8.length c0_8, .slice A0_9 l0_9.length c0_9, .slice A0_10 l0_10.length c0_10] 86 ?_; intro gb1080 hg w7 hbox hb; have BK1080 := Aside0.mk (hbox); have GW1080 : Aside0 (w.heap.size ≤ gb1080) := WG hg (BB HB.out); have GE1080 := GW1080; replace HB := Aside0.mk (below_step (BB HB.out) hb); clear hb hbox hg) | ((with_reducible refine gate_dst (N := 2) rfl ?_); refine BX 2 #[.bool false, .slice none 0 0, .int .i64 0, .int .i64 0, .slice none 0 0, .slice none 0 0, .int .i64 0, .slice none 0 0, .slice none 0 0, .slice none 0 0, .slice none 0 0] 77 ?_; intro gb1081 hg w8 hbox hb; have BK1081 := Aside0.mk (hbox); have GW1081 : Aside0 (w.heap.size ≤ gb1081) := WG hg (BB1 HB.out GE1080.out); have GE1081 := GW1081; have NB1080_1081 := NL BK1080.out hg; have NB1081_1080 := NG BK1080.out hg; replace BK1080 := Aside0.mk (KB BK1080.out hb); replace HB := Aside0.mk (below_step (BB1 HB.out GE1080.out) hb); clear hb hbox hg) | ((with_reducible refine gate_dst (N := 3) rfl ?_); refine BX 3 #[.bool false, .slice none 0 0, .int .i64 0, .int .i64 0, .slice none 0 0, .slice none 0 0, .int .i64 0, .slice none 0 0, .slice none 0 0, .slice none 0 0, .slice none 0 0] 77 ?_; intro gb1082 hg w9 hbox hb; have BK1082 := Aside0.mk (hbox); have GW1082 : Aside0 (w.heap.size ≤ gb1082) := WG hg (BB2 HB.out GE1080.out GE1081.out); have GE1082 := GW1082; have NB1080_1082 := NL BK1080.out hg; have NB1082_1080 := NG BK1080.out hg; have NB1081_1082 := NL BK1081.out hg; have NB1082_1081 := NG BK1081.out hg; replace BK1080 := Aside0.mk (KB BK1080.out hb); replace BK1081 := Aside0.mk (KB BK1081.out hb); replace HB := Aside0.mk (below_step (BB2 HB.out GE1080.out GE1081.out) hb); clear hb hbox hg; have hnb10 := NB1080_1081.out; have hnc10 := NB1081_1080.out; have hnb11 := NB1080_1082.out; have hnc11 := NB1082_1080.out; have hcz12 := blk_cell BK1080.out; have hfz12 := blk_frozen BK1080.out) | ((with_reducible refine gate_callee (f := 38) rfl ?_); refine GL (some 6) rfl rfl Try.func38 #[.agg #[.bool a0_0, .slice A0_1 l0_1.length c0_1, .int .i64 a0_2, .int .i64 a0_3, .slice A0_4 l0_4.length c0_4, .slice A0_5 l0_5.length c0_5, .int .i64 a0_6]] rfl ?_; (with_reducible refine (laws_toServer.calls k a0_0 _ _ l0_1 a0_2 a0_3 _ _ l0_4 _ _ l0_5 a0_6 t1083 t1084 t1087 t1088 t1089 t1092 t1095 _ ?side1 ?side2 ?side3 ?side4 ?side5 ?side6 A2.out).mono ?_); (case side1 => exact CC (Kd.C_below HR0_1.out HB.out)); (case side2 => exact HC0_1.out); (case side3 => exact CC (Kd.C_below HR0_4.out HB.out)); (case side4 => exact HC0_4.out); (case side5 => exact CC (Kd.C_below HR0_5.out HB.out)); (case side6 => exact HC0_5.out); rintro e w13 ⟨v1085, v1090, v1093, rfl, ho0, ho1, ho2, hb⟩; refine ⟨_, rfl, ?_⟩; have HO1086 := Aside0.mk (Kd.S_lower ho0 (below_size (BB3 HB.out GE1080.out GE1081.out GE1082.out))); have HO1091 := Aside0.mk (Kd.R_lower ho1 (below_size (BB3 HB.out GE1080.out GE1081.out GE1082.out))); have HO1094 := Aside0.mk (Kd.R_lower ho2 (below_size (BB3 HB.out GE1080.out GE1081.out GE1082.out))); replace BK1080 := Aside0.mk (KB BK1080.out hb); replace BK1081 := Aside0.mk (KB BK1081.out hb); replace BK1082 := Aside0.mk (KB BK1082.out hb); replace HB := Aside0.mk (below_step (BB3 HB.out GE1080.out GE1081.out GE1082.out) hb); (try clear hb); (try clear ho0); (try clear ho1); (try clear ho2); have hnb14 := NB1082_1081.out; have hnc14 := NB1081_1082.out; have hcz15 := blk_cell BK1082.out; have hfz15 := blk_frozen BK1082.out; obtain ⟨Ao16, co16, eo16⟩ := Kd.S_slice HO1086.out; subst eo16; obtain ⟨Ao17, co17, eo17⟩ := Kd.R_slice HO1091.out; subst eo17; obtain ⟨Ao18, co18, eo18⟩ := Kd.R_slice HO1094.out; subst eo18; have hcz19 := blk_cell BK1080.out; have hfz19 := blk_frozen BK1080.out) | ((with_reducible refine gate_callee (f := 13) rfl ?_); refine GL (some 10) rfl rfl Try.func13 #[.slice A0_7 l0_7.length c0_7] rfl ?_; (with_reducible refine (laws_toHostS.calls k _ _ l0_7 t1096 _ ?side1 ?side2 A3.out).mono ?_); (case side1 => exact Kd.C_below HR0_7.out (BB3 HB.out GE1080.out GE1081.out GE1082.out)); (case side2 => exact HC0_7.out); rintro e w20 ⟨v1097, rfl, ho0, hb⟩; refine ⟨_, rfl, ?_⟩; have n0_ := Aside0.mk (Kd.S_below (by (with_reducible repeat (first | apply Kd.S_alloc | apply Kd.S_drewN | apply Kd.S_drew)); exact (Kd.S_mono (Kd.S_far (p := ⟨gb1082, 6, none⟩) (Kd.S_far (p := ⟨gb1082, 5, none⟩) (Kd.S_far (p := ⟨gb1082, 4, none⟩) (Kd.S_far (p := ⟨gb1082, 3, none⟩) (Kd.S_far (p := ⟨gb1082, 2, none⟩) (Kd.S_far (p := ⟨gb1082, 1, none⟩) (Kd.S_far (p := ⟨gb1082, 0, none⟩) (Kd.S_types HO1086.out BK1082.out (by decide)) (fun _ hk => hk.2) (.bool t1083)) (fun _ hk => hk.2) (.slice Ao16 t1084.length co16)) (fun _ hk => hk.2) (.int .i64 t1087)) (fun _ hk => hk.2) (.int .i64 t1088)) (fun _ hk => hk.2) (.slice Ao17 t1089.length co17)) (fun _ hk => hk.2) (.slice Ao18 t1092.length co18)) (fun _ hk => hk.2) (.int .i64 t1095)) (fun _ h_ => h_.1))) hb); have n1_ := Aside0.mk (Kd.R_below (by (with_reducible repeat (first | apply Kd.R_alloc | apply Kd.R_drewN | apply Kd.R_drew)); exact (Kd.R_mono (Kd.R_far (p := ⟨gb1082, 6, none⟩) (Kd.R_far (p := ⟨gb1082, 5, none⟩) (Kd.R_far (p := ⟨gb1082, 4, none⟩) (Kd.R_far (p := ⟨gb1082, 3, none⟩) (Kd.R_far (p := ⟨gb1082, 2, none⟩) (Kd.R_far (p := ⟨gb1082, 1, none⟩) (Kd.R_far (p := ⟨gb1082, 0, none⟩) (Kd.R_types HO1091.out BK1082.out (by decide)) (fun _ hk => hk.2) (.bool t1083)) (fun _ hk => hk.2) (.slice Ao16 t1084.length co16)) (fun _ hk => hk.2) (.int .i64 t1087)) (fun _ hk => hk.2) (.int .i64 t1088)) (fun _ hk => hk.2) (.slice Ao17 t1089.length co17)) (fun _ hk => hk.2) (.slice Ao18 t1092.length co18)) (fun _ hk => hk.2) (.int .i64 t1095)) (fun _ h_ => h_.1))) hb); have n2_ := Aside0.mk (Kd.R_below (by (with_reducible repeat (first | apply Kd.R_alloc | apply Kd.R_drewN | apply Kd.R_drew)); exact (Kd.R_mono (Kd.R_far (p := ⟨gb1082, 6, none⟩) (Kd.R_far (p := ⟨gb1082, 5, none⟩) (Kd.R_far (p := ⟨gb1082, 4, none⟩) (Kd.R_far (p := ⟨gb1082, 3, none⟩) (Kd.R_far (p := ⟨gb1082, 2, none⟩) (Kd.R_far (p := ⟨gb1082, 1, none⟩) (Kd.R_far (p := ⟨gb1082, 0, none⟩) (Kd.R_types HO1094.out BK1082.out (by decide)) (fun _ hk => hk.2) (.bool t1083)) (fun _ hk => hk.2) (.slice Ao16 t1084.length co16)) (fun _ hk => hk.2) (.int .i64 t1087)) (fun _ hk => hk.2) (.int .i64 t1088)) (fun _ hk => hk.2) (.slice Ao17 t1089.length co17)) (fun _ hk => hk.2) (.slice Ao18 t1092.length co18)) (fun _ hk => hk.2) (.int .i64 t1095)) (fun _ h_ => h_.1))) hb); have n3_ := Aside0.mk (Kd.S_lower ho0 (below_size (BB3 HB.out GE1080.out GE1081.out GE1082.out))); have n4_ := Aside0.mk (blk_below (g := gb1080) (o := .cells #[.bool a0_0, .slice A0_1 l0_1.length c0_1, .int .i64 a0_2, .int .i64 a0_3, .slice A0_4 l0_4.length c0_4, .slice A0_5 l0_5.length c0_5, .int .i64 a0_6, .slice A0_7 l0_7.length c0_7, .slice A0_8 l0_8.length c0_8, .slice A0_9 l0_9.length c0_9, .slice A0_10 l0_10.length c0_10] 86 (0, 0)) (by (with_reducible repeat (first | refine blk_drewN ?_ _ | refine blk_drew ?_ | refine blk_alloc ?_ _)); refine blk_far ?_ NB1080_1082.out _; (with_reducible repeat (first | refine blk_drewN ?_ _ | refine blk_drew ?_ | refine blk_alloc ?_ _)); refine blk_far ?_ NB1080_1082.out _; (with_reducible repeat (first | refine blk_drewN ?_ _ | refine blk_drew ?_ | refine blk_alloc ?_ _)); refine blk_far ?_ NB1080_1082.out _; (with_reducible repeat (first | refine blk_drewN ?_ _ | refine blk_drew ?_ | refine blk_alloc ?_ _)); refine blk_far ?_ NB1080_1082.out _; (with_reducible repeat (first | refine blk_drewN ?_ _ | refine blk_drew ?_ | refine blk_alloc ?_ _)); refine blk_far ?_ NB1080_1082.out _; (with_reducible repeat (first | refine blk_drewN ?_ _ | refine blk_drew ?_ | refine blk_alloc ?_ _)); refine blk_far ?_ NB1080_1082.out _; (with_reducible repeat (first | refine blk_drewN ?_ _ | refine blk_drew ?_ | refine blk_alloc ?_ _)); refine blk_far ?_ NB1080_1082.out _; (with_reducible repeat (first | refine blk_drewN ?_ _ | refine blk_drew ?_ | refine blk_alloc ?_ _)); exact BK1080.out) hb); have n5_ := Aside0.mk (blk_below (g := gb1081) (o := .cells #[.bool false, .slice none 0 0, .int .i64 0, .int .i64 0, .slice none 0 0, .slice none 0 0, .int .i64 0, .slice none 0 0, .slice none 0 0, .slice none 0 0, .slice none 0 0] 77 (0, 0)) (by (with_reducible repeat (first | refine blk_drewN ?_ _ | refine blk_drew ?_ | refine blk_alloc ?_ _)); refine blk_far ?_ NB1081_1082.out _; (with_reducible repeat (first | refine blk_drewN ?_ _ | refine blk_drew ?_ | refine blk_alloc ?_ _)); refine blk_far ?_ NB1081_1082.out _; (with_reducible repeat (first | refine blk_drewN ?_ _ | refine blk_drew ?_ | refine blk_alloc ?_ _)); refine blk_far ?_ NB1081_1082.out _; (with_reducible repeat (first | refine blk_drewN ?_ _ | refine blk_drew ?_ | refine blk_alloc ?_ _)); refine blk_far ?_ NB1081_1082.out _; (with_reducible repeat (first | refine blk_drewN ?_ _ | refine blk_drew ?_ | refine blk_alloc ?_ _)); refine blk_far ?_ NB1081_1082.out _; (with_reducible repeat (first | refine blk_drewN ?_ _ | refine blk_drew ?_ | refine blk_alloc ?_ _)); refine blk_far ?_ NB1081_1082.out _; (with_reducible repeat (first | refine blk_drewN ?_ _ | refine blk_drew ?_ | refine blk_alloc ?_ _)); refine blk_far ?_ NB1081_1082.out _; (with_reducible repeat (first | refine blk_drewN ?_ _ | refine blk_drew ?_ | refine blk_alloc ?_ _)); exact BK1081.out) hb); have n6_ := Aside0.mk (blk_below (g := gb1082) (o := .cells #[.bool t1083, .slice Ao16 t1084.length co16, .int .i64 t1087, .int .i64 t1088, .slice Ao17 t1089.length co17, .slice Ao18 t1092.length co18, .int .i64 t1095, .slice none 0 0, .slice none 0 0, .slice none 0 0, .slice none 0 0] 77 (0, 0)) (by (with_reducible repeat (first | refine blk_drewN ?_ _ | refine blk_drew ?_ | refine blk_alloc ?_ _)); refine blk_put (cs := #[.bool t1083, .slice Ao16 t1084.length co16, .int .i64 t1087, .int .i64 t1088, .slice Ao17 t1089.length co17, .slice Ao18 t1092.length co18, .int .i64 0, .slice none 0 0, .slice none 0 0, .slice none 0 0, .slice none 0 0]) ?_ 6 _ rfl; (with_reducible repeat (first | refine blk_drewN ?_ _ | refine blk_drew ?_ | refine blk_alloc ?_ _)); refine blk_put (cs := #[.bool t1083, .slice Ao16 t1084.length co16, .int .i64 t1087, .int .i64 t1088, .slice Ao17 t1089.length co17, .slice none 0 0, .int .i64 0, .slice none 0 0, .slice none 0 0, .slice none 0 0, .slice none 0 0]) ?_ 5 _ rfl; (with_reducible repeat (first | refine blk_drewN ?_ _ | refine blk_drew ?_ | refine blk_alloc ?_ _)); refine blk_put (cs := #[.bool t1083, .slice Ao16 t1084.length co16, .int .i64 t1087, .int .i64 t1088, .slice none 0 0, .slice none 0 0, .int .i64 0, .slice none 0 0, .slice none 0 0, .slice none 0 0, .slice none 0 0]) ?_ 4 _ rfl; (with_reducible repeat (first | refine blk_drewN ?_ _ | refine blk_drew ?_ | refine blk_alloc ?_ _)); refine blk_put (cs := #[.bool t1083, .slice Ao16 t1084.length co16, .int .i64 t1087, .int .i64 0, .slice none 0 0, .slice none 0 0, .int .i64 0, .slice none 0 0, .slice none 0 0, .slice none 0 0, .slice none 0 0]) ?_ 3 _ rfl; (with_reducible repeat (first | refine blk_drewN ?_ _ | refine blk_drew ?_ | refine blk_alloc ?_ _)); refine blk_put (cs := #[.bool t1083, .slice Ao16 t1084.length co16, .int .i64 0, .int .i64 0, .slice none 0 0, .slice none 0 0, .int .i64 0, .slice none 0 0, .slice none 0 0, .slice none 0 0, .slice none 0 0]) ?_ 2 _ rfl; (with_reducible repeat (first | refine blk_drewN ?_ _ | refine blk_drew ?_ | refine blk_alloc ?_ _)); refine blk_put (cs := #[.bool t1083, .slice none 0 0, .int .i64 0, .int .i64 0, .slice none 0 0, .slice none 0 0, .int .i64 0, .slice none 0 0, .slice none 0 0, .slice none 0 0, .slice none 0 0]) ?_ 1 _ rfl; (with_reducible repeat (first | refine blk_drewN ?_ _ | refine blk_drew ?_ | refine blk_alloc ?_ _)); refine blk_put (cs := #[.bool false, .slice none 0 0, .int .i64 0, .int .i64 0, .slice none 0 0, .slice none 0 0, .int .i64 0, .slice none 0 0, .slice none 0 0, .slice none 0 0, .slice none 0 0]) ?_ 0 _ rfl; (with_reducible repeat (first | refine blk_drewN ?_ _ | refine blk_drew ?_ | refine blk_alloc ?_ _)); exact BK1082.out) hb); have n7_ := Aside0.mk (below_step (BB3 HB.out GE1080.out GE1081.out GE1082.out) hb); clear HO1086; clear HO1091; clear HO1094; clear BK1080; clear BK1081; clear BK1082; clear HB; have HO1086 := n0_; have HO1091 := n1_; have HO1094 := n2_; have HO1098 := n3_; have BK1080 := n4_; have BK1081 := n5_; have BK1082 := n6_; have HB := n7_; clear n0_ n1_ n2_ n3_ n4_ n5_ n6_ n7_; (try clear hb); (try clear ho0); obtain ⟨Ao21, co21, eo21⟩ := Kd.S_slice HO1098.out; subst eo21; have hcz22 := blk_cell BK1082.out; have hfz22 := blk_frozen BK1082.out; have hcz23 := blk_cell BK1080.out; have hfz23 := blk_frozen BK1080.out) | ((with_reducible refine gate_callee (f := 98) rfl ?_); refine GL (some 14) rfl rfl Try.func98 #[.slice A0_8 l0_8.length c0_8] rfl ?_; (with_reducible refine (laws_toIntS.calls k _ _ l0_8 t1099 _ ?side1 ?side2 A4.out).mono ?_); (case side1 => exact Kd.C_below HR0_8.out (BB3 HB.out GE1080.out GE1081.out GE1082.out)); (case side2 => exact HC0_8.out); rintro e w24 ⟨v1100, rfl, ho0, hb⟩; refine ⟨_, rfl, ?_⟩; have n0_ := Aside0.mk (Kd.S_below (by (with_reducible repeat (first | apply Kd.S_alloc | apply Kd.S_drewN | apply Kd.S_drew)); exact (Kd.S_mono (Kd.S_far (p := ⟨gb1082, 7, none⟩) (Kd.S_types HO1086.out BK1082.out (by decide)) (fun _ hk => hk.2) (.slice Ao21 t1096.length co21)) (fun _ h_ => h_.1))) hb); have n1_ := Aside0.mk (Kd.R_below (by (with_reducible repeat (first | apply Kd.R_alloc | apply Kd.R_drewN | apply Kd.R_drew)); exact (Kd.R_mono (Kd.R_far (p := ⟨gb1082, 7, none⟩) (Kd.R_types HO1091.out BK1082.out (by decide)) (fun _ hk => hk.2) (.slice Ao21 t1096.length co21)) (fun _ h_ => h_.1))) hb); have n2_ := Aside0.mk (Kd.R_below (by (with_reducible repeat (first | apply Kd.R_alloc | apply Kd.R_drewN | apply Kd.R_drew)); exact (Kd.R_mono (Kd.R_far (p := ⟨gb1082, 7, none⟩) (Kd.R_types HO1094.out BK1082.out (by decide)) (fun _ hk => hk.2) (.slice Ao21 t1096.length co21)) (fun _ h_ => h_.1))) hb); have n3_ := Aside0.mk (Kd.S_below (by (with_reducible repeat (first | apply Kd.S_alloc | apply Kd.S_drewN | apply Kd.S_drew)); exact (Kd.S_mono (Kd.S_far (p := ⟨gb1082, 7, none⟩) (Kd.S_types HO1098.out BK1082.out (by decide)) (fun _ hk => hk.2) (.slice Ao21 t1096.length co21)) (fun _ h_ => h_.1))) hb); have n4_ := Aside0.mk (Kd.R_lower ho0 (below_size (BB3 HB.out GE1080.out GE1081.out GE1082.out))); have n5_ := Aside0.mk (blk_below (g := gb1080) (o := .cells #[.bool a0_0, .slice A0_1 l0_1.length c0_1, .int .i64 a0_2, .int .i64 a0_3, .slice A0_4 l0_4.length c0_4, .slice A0_5 l0_5.length c0_5, .int .i64 a0_6, .slice A0_7 l0_7.length c0_7, .slice A0_8 l0_8.length c0_8, .slice A0_9 l0_9.length c0_9, .slice A0_10 l0_10.length c0_10] 86 (0, 0)) (by (with_reducible repeat (first | refine blk_drewN ?_ _ | refine blk_drew ?_ | refine blk_alloc ?_ _)); refine blk_far ?_ NB1080_1082.out _; (with_reducible repeat (first | refine blk_drewN ?_ _ | refine blk_drew ?_ | refine blk_alloc ?_ _)); exact BK1080.out) hb); have n6_ := Aside0.mk (blk_below (g := gb1081) (o := .cells #[.bool false, .slice none 0 0, .int .i64 0, .int .i64 0, .slice none 0 0, .slice none 0 0, .int .i64 0, .slice none 0 0, .slice none 0 0, .slice none 0 0, .slice none 0 0] 77 (0, 0)) (by (with_reducible repeat (first | refine blk_drewN ?_ _ | refine blk_drew ?_ | refine blk_alloc ?_ _)); refine blk_far ?_ NB1081_1082.out _; (with_reducible repeat (first | refine blk_drewN ?_ _ | refine blk_drew ?_ | refine blk_alloc ?_ _)); exact BK1081.out) hb); have n7_ := Aside0.mk (blk_below (g := gb1082) (o := .cells #[.bool t1083, .slice Ao16 t1084.length co16, .int .i64 t1087, .int .i64 t1088, .slice Ao17 t1089.length co17, .slice Ao18 t1092.length co18, .int .i64 t1095, .slice Ao21 t1096.length co21, .slice none 0 0, .slice none 0 0, .slice none 0 0] 77 (0, 0)) (by (with_reducible repeat (first | refine blk_drewN ?_ _ | refine blk_drew ?_ | refine blk_alloc ?_ _)); refine blk_put (cs := #[.bool t1083, .slice Ao16 t1084.length co16, .int .i64 t1087, .int .i64 t1088, .slice Ao17 t1089.length co17, .slice Ao18 t1092.length co18, .int .i64 t1095, .slice none 0 0, .slice none 0 0, .slice none 0 0, .slice none 0 0]) ?_ 7 _ rfl; (with_reducible repeat (first | refine blk_drewN ?_ _ | refine blk_drew ?_ | refine blk_alloc ?_ _)); exact BK1082.out) hb); have n8_ := Aside0.mk (below_step (BB3 HB.out GE1080.out GE1081.out GE1082.out) hb); clear HO1086; clear HO1091; clear HO1094; clear HO1098; clear BK1080; clear BK1081; clear BK1082; clear HB; have HO1086 := n0_; have HO1091 := n1_; have HO1094 := n2_; have HO1098 := n3_; have HO1101 := n4_; have BK1080 := n5_; have BK1081 := n6_; have BK1082 := n7_; have HB := n8_; clear n0_ n1_ n2_ n3_ n4_ n5_ n6_ n7_ n8_; (try clear hb); (try clear ho0); obtain ⟨Ao25, co25, eo25⟩ := Kd.R_slice HO1101.out; subst eo25; have hcz26 := blk_cell BK1082.out; have hfz26 := blk_frozen BK1082.out; have hcz27 := blk_cell BK1080.out; have hfz27 := blk_frozen BK1080.out) | ((with_reducible refine gate_callee (f := 99) rfl ?_); refine GL (some 18) rfl rfl Try.func99 #[.slice A0_9 l0_9.length c0_9] rfl ?_; (with_reducible refine (laws_toStringS.calls k _ _ l0_9 t1102 _ ?side1 ?side2 A5.out).mono ?_); (case side1 => exact Kd.C_below HR0_9.out (BB3 HB.out GE1080.out GE1081.out GE1082.out)); (case side2 => exact HC0_9.out); rintro e w28 ⟨v1103, rfl, ho0, hb⟩; refine ⟨_, rfl, ?_⟩; have n0_ := Aside0.mk (Kd.S_below (by (with_reducible repeat (first | apply Kd.S_alloc | apply Kd.S_drewN | apply Kd.S_drew)); exact (Kd.S_mono (Kd.S_far (p := ⟨gb1082, 8, none⟩) (Kd.S_types HO1086.out BK1082.out (by decide)) (fun _ hk => hk.2) (.slice Ao25 t1099.length co25)) (fun _ h_ => h_.1))) hb); have n1_ := Aside0.mk (Kd.R_below (by (with_reducible repeat (first | apply Kd.R_alloc | apply Kd.R_drewN | apply Kd.R_drew)); exact (Kd.R_mono (Kd.R_far (p := ⟨gb1082, 8, none⟩) (Kd.R_types HO1091.out BK1082.out (by decide)) (fun _ hk => hk.2) (.slice Ao25 t1099.length co25)) (fun _ h_ => h_.1))) hb); have n2_ := Aside0.mk (Kd.R_below (by (with_reducible repeat (first | apply Kd.R_alloc | apply Kd.R_drewN | apply Kd.R_drew)); exact (Kd.R_mono (Kd.R_far (p := ⟨gb1082, 8, none⟩) (Kd.R_types HO1094.out BK1082.out (by decide)) (fun _ hk => hk.2) (.slice Ao25 t1099.length co25)) (fun _ h_ => h_.1))) hb); have n3_ := Aside0.mk (Kd.S_below (by (with_reducible repeat (first | apply Kd.S_alloc | apply Kd.S_drewN | apply Kd.S_drew)); exact (Kd.S_mono (Kd.S_far (p := ⟨gb1082, 8, none⟩) (Kd.S_types HO1098.out BK1082.out (by decide)) (fun _ hk => hk.2) (.slice Ao25 t1099.length co25)) (fun _ h_ => h_.1))) hb); have n4_ := Aside0.mk (Kd.R_below (by (with_reducible repeat (first | apply Kd.R_alloc | apply Kd.R_drewN | apply Kd.R_drew)); exact (Kd.R_mono (Kd.R_far (p := ⟨gb1082, 8, none⟩) (Kd.R_types HO1101.out BK1082.out (by decide)) (fun _ hk => hk.2) (.slice Ao25 t1099.length co25)) (fun _ h_ => h_.1))) hb); have n5_ := Aside0.mk (Kd.R_lower ho0 (below_size (BB3 HB.out GE1080.out GE1081.out GE1082.out))); have n6_ := Aside0.mk (blk_below (g := gb1080) (o := .cells #[.bool a0_0, .slice A0_1 l0_1.length c0_1, .int .i64 a0_2, .int .i64 a0_3, .slice A0_4 l0_4.length c0_4, .slice A0_5 l0_5.length c0_5, .int .i64 a0_6, .slice A0_7 l0_7.length c0_7, .slice A0_8 l0_8.length c0_8, .slice A0_9 l0_9.length c0_9, .slice A0_10 l0_10.length c0_10] 86 (0, 0)) (by (with_reducible repeat (first | refine blk_drewN ?_ _ | refine blk_drew ?_ | refine blk_alloc ?_ _)); refine blk_far ?_ NB1080_1082.out _; (with_reducible repeat (first | refine blk_drewN ?_ _ | refine blk_drew ?_ | refine blk_alloc ?_ _)); exact BK1080.out) hb); have n7_ := Aside0.mk (blk_below (g := gb1081) (o := .cells #[.bool false, .slice none 0 0, .int .i64 0, .int .i64 0, .slice none 0 0, .slice none 0 0, .int .i64 0, .slice none 0 0, .slice none 0 0, .slice none 0 0, .slice none 0 0] 77 (0, 0)) (by (with_reducible repeat (first | refine blk_drewN ?_ _ | refine blk_drew ?_ | refine blk_alloc ?_ _)); refine blk_far ?_ NB1081_1082.out _; (with_reducible repeat (first | refine blk_drewN ?_ _ | refine blk_drew ?_ | refine blk_alloc ?_ _)); exact BK1081.out) hb); have n8_ := Aside0.mk (blk_below (g := gb1082) (o := .cells #[.bool t1083, .slice Ao16 t1084.length co16, .int .i64 t1087, .int .i64 t1088, .slice Ao17 t1089.length co17, .slice Ao18 t1092.length co18, .int .i64 t1095, .slice Ao21 t1096.length co21, .slice Ao25 t1099.length co25, .slice none 0 0, .slice none 0 0] 77 (0, 0)) (by (with_reducible repeat (first | refine blk_drewN ?_ _ | refine blk_drew ?_ | refine blk_alloc ?_ _)); refine blk_put (cs := #[.bool t1083, .slice Ao16 t1084.length co16, .int .i64 t1087, .int .i64 t1088, .slice Ao17 t1089.length co17, .slice Ao18 t1092.length co18, .int .i64 t1095, .slice Ao21 t1096.length co21, .slice none 0 0, .slice none 0 0, .slice none 0 0]) ?_ 8 _ rfl; (with_reducible repeat (first | refine blk_drewN ?_ _ | refine blk_drew ?_ | refine blk_alloc ?_ _)); exact BK1082.out) hb); have n9_ := Aside0.mk (below_step (BB3 HB.out GE1080.out GE1081.out GE1082.out) hb); clear HO1086; clear HO1091; clear HO1094; clear HO1098; clear HO1101; clear BK1080; clear BK1081; clear BK1082; clear HB; have HO1086 := n0_; have HO1091 := n1_; have HO1094 := n2_; have HO1098 := n3_; have HO1101 := n4_; have HO1104 := n5_; have BK1080 := n6_; have BK1081 := n7_; have BK1082 := n8_; have HB := n9_; clear n0_ n1_ n2_ n3_ n4_ n5_ n6_ n7_ n8_ n9_; (try clear hb); (try clear ho0); obtain ⟨Ao29, co29, eo29⟩ := Kd.R_slice HO1104.out; subst eo29; have hcz30 := blk_cell BK1082.out; have hfz30 := blk_frozen BK1082.out; have hcz31 := blk_cell BK1080.out; have hfz31 := blk_frozen BK1080.out) | ((with_reducible refine gate_callee (f := 100) rfl ?_); refine GL (some 22) rfl rfl Try.func100 #[.slice A0_10 l0_10.length c0_10] rfl ?_; (with_reducible refine (laws_toSizeS.calls k _ _ l0_10 t1105 _ ?side1 ?side2 A6.out).mono ?_); (case side1 => exact Kd.C_below HR0_10.out (BB3 HB.out GE1080.out GE1081.out GE1082.out)); (case side2 => exact HC0_10.out); rintro e w32 ⟨v1106, rfl, ho0, hb⟩; refine ⟨_, rfl, ?_⟩; have n0_ := Aside0.mk (Kd.S_below (by (with_reducible repeat (first | apply Kd.S_alloc | apply Kd.S_drewN | apply Kd.S_drew)); exact (Kd.S_mono (Kd.S_far (p := ⟨gb1082, 9, none⟩) (Kd.S_types HO1086.out BK1082.out (by decide)) (fun _ hk => hk.2) (.slice Ao29 t1102.length co29)) (fun _ h_ => h_.1))) hb); have n1_ := Aside0.mk (Kd.R_below (by (with_reducible repeat (first | apply Kd.R_alloc | apply Kd.R_drewN | apply Kd.R_drew)); exact (Kd.R_mono (Kd.R_far (p := ⟨gb1082, 9, none⟩) (Kd.R_types HO1091.out BK1082.out (by decide)) (fun _ hk => hk.2) (.slice Ao29 t1102.length co29)) (fun _ h_ => h_.1))) hb); have n2_ := Aside0.mk (Kd.R_below (by (with_reducible repeat (first | apply Kd.R_alloc | apply Kd.R_drewN | apply Kd.R_drew)); exact (Kd.R_mono (Kd.R_far (p := ⟨gb1082, 9, none⟩) (Kd.R_types HO1094.out BK1082.out (by decide)) (fun _ hk => hk.2) (.slice Ao29 t1102.length co29)) (fun _ h_ => h_.1))) hb); have n3_ := Aside0.mk (Kd.S_below (by (with_reducible repeat (first | apply Kd.S_alloc | apply Kd.S_drewN | apply Kd.S_drew)); exact (Kd.S_mono (Kd.S_far (p := ⟨gb1082, 9, none⟩) (Kd.S_types HO1098.out BK1082.out (by decide)) (fun _ hk => hk.2) (.slice Ao29 t1102.length co29)) (fun _ h_ => h_.1))) hb); have n4_ := Aside0.mk (Kd.R_below (by (with_reducible repeat (first | apply Kd.R_alloc | apply Kd.R_drewN | apply Kd.R_drew)); exact (Kd.R_mono (Kd.R_far (p := ⟨gb1082, 9, none⟩) (Kd.R_types HO1101.out BK1082.out (by decide)) (fun _ hk => hk.2) (.slice Ao29 t1102.length co29)) (fun _ h_ => h_.1))) hb); have n5_ := Aside0.mk (Kd.R_below (by (with_reducible repeat (first | apply Kd.R_alloc | apply Kd.R_drewN | apply Kd.R_drew)); exact (Kd.R_mono (Kd.R_far (p := ⟨gb1082, 9, none⟩) (Kd.R_types HO1104.out BK1082.out (by decide)) (fun _ hk => hk.2) (.slice Ao29 t1102.length co29)) (fun _ h_ => h_.1))) hb); have n6_ := Aside0.mk (Kd.R_lower ho0 (below_size (BB3 HB.out GE1080.out GE1081.out GE1082.out))); have n7_ := Aside0.mk (blk_below (g := gb1080) (o := .cells #[.bool a0_0, .slice A0_1 l0_1.length c0_1, .int .i64 a0_2, .int .i64 a0_3, .slice A0_4 l0_4.length c0_4, .slice A0_5 l0_5.length c0_5, .int .i64 a0_6, .slice A0_7 l0_7.length c0_7, .slice A0_8 l0_8.length c0_8, .slice A0_9 l0_9.length c0_9, .slice A0_10 l0_10.length c0_10] 86 (0, 0)) (by (with_reducible repeat (first | refine blk_drewN ?_ _ | refine blk_drew ?_ | refine blk_alloc ?_ _)); refine blk_far ?_ NB1080_1082.out _; (with_reducible repeat (first | refine blk_drewN ?_ _ | refine blk_drew ?_ | refine blk_alloc ?_ _)); exact BK1080.out) hb); have n8_ := Aside0.mk (blk_below (g := gb1081) (o := .cells #[.bool false, .slice none 0 0, .int .i64 0, .int .i64 0, .slice none 0 0, .slice none 0 0, .int .i64 0, .slice none 0 0, .slice none 0 0, .slice none 0 0, .slice none 0 0] 77 (0, 0)) (by (with_reducible repeat (first | refine blk_drewN ?_ _ | refine blk_drew ?_ | refine blk_alloc ?_ _)); refine blk_far ?_ NB1081_1082.out _; (with_reducible repeat (first | refine blk_drewN ?_ _ | refine blk_drew ?_ | refine blk_alloc ?_ _)); exact BK1081.out) hb); have n9_ := Aside0.mk (blk_below (g := gb1082) (o := .cells #[.bool t1083, .slice Ao16 t1084.length co16, .int .i64 t1087, .int .i64 t1088, .slice Ao17 t1089.length co17, .slice Ao18 t1092.length co18, .int .i64 t1095, .slice Ao21 t1096.length co21, .slice Ao25 t1099.length co25, .slice Ao29 t1102.length co29, .slice none 0 0] 77 (0, 0)) (by (with_reducible repeat (first | refine blk_drewN ?_ _ | refine blk_drew ?_ | refine blk_alloc ?_ _)); refine blk_put (cs := #[.bool t1083, .slice Ao16 t1084.length co16, .int .i64 t1087, .int .i64 t1088, .slice Ao17 t1089.length co17, .slice Ao18 t1092.length co18, .int .i64 t1095, .slice Ao21 t1096.length co21, .slice Ao25 t1099.length co25, .slice none 0 0, .slice none 0 0]) ?_ 9 _ rfl; (with_reducible repeat (first | refine blk_drewN ?_ _ | refine blk_drew ?_ | refine blk_alloc ?_ _)); exact BK1082.out) hb); have n10_ := Aside0.mk (below_step (BB3 HB.out GE1080.out GE1081.out GE1082.out) hb); clear HO1086; clear HO1091; clear HO1094; clear HO1098; clear HO1101; clear HO1104; clear BK1080; clear BK1081; clear BK1082; clear HB; have HO1086 := n0_; have HO1091 := n1_; have HO1094 := n2_; have HO1098 := n3_; have HO1101 := n4_; have HO1104 := n5_; have HO1107 := n6_; have BK1080 := n7_; have BK1081 := n8_; have BK1082 := n9_; have HB := n10_; clear n0_ n1_ n2_ n3_ n4_ n5_ n6_ n7_ n8_ n9_ n10_; (try clear hb); (try clear ho0); obtain ⟨Ao33, co33, eo33⟩ := Kd.R_slice HO1107.out; subst eo33; have hcz34 := blk_cell BK1082.out; have hfz34 := blk_frozen BK1082.out; have hcz35 := blk_cell BK1081.out; have hfz35 := blk_frozen BK1081.out))
  refine bodyPost_ret (results_cell_row rfl _ _ gb1081 77 #[.bool t1083, .slice Ao16 t1084.length co16, .int .i64 t1087, .int .i64 t1088, .slice Ao17 t1089.length co17, .slice Ao18 t1092.length co18, .int .i64 t1095, .slice Ao21 t1096.length co21, .slice Ao25 t1099.length co25, .slice Ao29 t1102.length co29, .slice Ao33 t1105.length co33] (0, 0) _ rfl (by (with_reducible repeat (first | refine blk_drewN ?_ _ | refine blk_drew ?_ | refine blk_alloc ?_ _)); refine blk_put (cs := #[.bool t1083, .slice Ao16 t1084.length co16, .int .i64 t1087, .int .i64 t1088, .slice Ao17 t1089.length co17, .slice Ao18 t1092.length co18, .int .i64 t1095, .slice Ao21 t1096.length co21, .slice Ao25 t1099.length co25, .slice Ao29 t1102.length co29, .slice none 0 0]) ?_ 10 _ rfl; (with_reducible repeat (first | refine blk_drewN ?_ _ | refine blk_drew ?_ | refine blk_alloc ?_ _)); refine blk_put (cs := #[.bool t1083, .slice Ao16 t1084.length co16, .int .i64 t1087, .int .i64 t1088, .slice Ao17 t1089.length co17, .slice Ao18 t1092.length co18, .int .i64 t1095, .slice Ao21 t1096.length co21, .slice Ao25 t1099.length co25, .slice none 0 0, .slice none 0 0]) ?_ 9 _ rfl; (with_reducible repeat (first | refine blk_drewN ?_ _ | refine blk_drew ?_ | refine blk_alloc ?_ _)); refine blk_put (cs := #[.bool t1083, .slice Ao16 t1084.length co16, .int .i64 t1087, .int .i64 t1088, .slice Ao17 t1089.length co17, .slice Ao18 t1092.length co18, .int .i64 t1095, .slice Ao21 t1096.length co21, .slice none 0 0, .slice none 0 0, .slice none 0 0]) ?_ 8 _ rfl; (with_reducible repeat (first | refine blk_drewN ?_ _ | refine blk_drew ?_ | refine blk_alloc ?_ _)); refine blk_put (cs := #[.bool t1083, .slice Ao16 t1084.length co16, .int .i64 t1087, .int .i64 t1088, .slice Ao17 t1089.length co17, .slice Ao18 t1092.length co18, .int .i64 t1095, .slice none 0 0, .slice none 0 0, .slice none 0 0, .slice none 0 0]) ?_ 7 _ rfl; (with_reducible repeat (first | refine blk_drewN ?_ _ | refine blk_drew ?_ | refine blk_alloc ?_ _)); refine blk_put (cs := #[.bool t1083, .slice Ao16 t1084.length co16, .int .i64 t1087, .int .i64 t1088, .slice Ao17 t1089.length co17, .slice Ao18 t1092.length co18, .int .i64 0, .slice none 0 0, .slice none 0 0, .slice none 0 0, .slice none 0 0]) ?_ 6 _ rfl; (with_reducible repeat (first | refine blk_drewN ?_ _ | refine blk_drew ?_ | refine blk_alloc ?_ _)); refine blk_put (cs := #[.bool t1083, .slice Ao16 t1084.length co16, .int .i64 t1087, .int .i64 t1088, .slice Ao17 t1089.length co17, .slice none 0 0, .int .i64 0, .slice none 0 0, .slice none 0 0, .slice none 0 0, .slice none 0 0]) ?_ 5 _ rfl; (with_reducible repeat (first | refine blk_drewN ?_ _ | refine blk_drew ?_ | refine blk_alloc ?_ _)); refine blk_put (cs := #[.bool t1083, .slice Ao16 t1084.length co16, .int .i64 t1087, .int .i64 t1088, .slice none 0 0, .slice none 0 0, .int .i64 0, .slice none 0 0, .slice none 0 0, .slice none 0 0, .slice none 0 0]) ?_ 4 _ rfl; (with_reducible repeat (first | refine blk_drewN ?_ _ | refine blk_drew ?_ | refine blk_alloc ?_ _)); refine blk_put (cs := #[.bool t1083, .slice Ao16 t1084.length co16, .int .i64 t1087, .int .i64 0, .slice none 0 0, .slice none 0 0, .int .i64 0, .slice none 0 0, .slice none 0 0, .slice none 0 0, .slice none 0 0]) ?_ 3 _ rfl; (with_reducible repeat (first | refine blk_drewN ?_ _ | refine blk_drew ?_ | refine blk_alloc ?_ _)); refine blk_put (cs := #[.bool t1083, .slice Ao16 t1084.length co16, .int .i64 0, .int .i64 0, .slice none 0 0, .slice none 0 0, .int .i64 0, .slice none 0 0, .slice none 0 0, .slice none 0 0, .slice none 0 0]) ?_ 2 _ rfl; (with_reducible repeat (first | refine blk_drewN ?_ _ | refine blk_drew ?_ | refine blk_alloc ?_ _)); refine blk_put (cs := #[.bool t1083, .slice none 0 0, .int .i64 0, .int .i64 0, .slice none 0 0, .slice none 0 0, .int .i64 0, .slice none 0 0, .slice none 0 0, .slice none 0 0, .slice none 0 0]) ?_ 1 _ rfl; (with_reducible repeat (first | refine blk_drewN ?_ _ | refine blk_drew ?_ | refine blk_alloc ?_ _)); refine blk_put (cs := #[.bool false, .slice none 0 0, .int .i64 0, .int .i64 0, .slice none 0 0, .slice none 0 0, .int .i64 0, .slice none 0 0, .slice none 0 0, .slice none 0 0, .slice none 0 0]) ?_ 0 _ rfl; (with_reducible repeat (first | refine blk_drewN ?_ _ | refine blk_drew ?_ | refine blk_alloc ?_ _)); refine blk_far ?_ NB1081_1082.out _; (with_reducible repeat (first | refine blk_drewN ?_ _ | refine blk_drew ?_ | refine blk_alloc ?_ _)); exact BK1081.out) Try.underlying77 rfl (by kernel_rfl)) rfl ?_
  exact ⟨_, _, _, _, _, _, _, ER, by (with_reducible repeat (first | apply Kd.S_alloc | apply Kd.S_drewN | apply Kd.S_drew)); exact Kd.S_mono (Kd.S_far (p := ⟨gb1081, 10, none⟩) (Kd.S_far (p := ⟨gb1081, 9, none⟩) (Kd.S_far (p := ⟨gb1081, 8, none⟩) (Kd.S_far (p := ⟨gb1081, 7, none⟩) (Kd.S_far (p := ⟨gb1081, 6, none⟩) (Kd.S_far (p := ⟨gb1081, 5, none⟩) (Kd.S_far (p := ⟨gb1081, 4, none⟩) (Kd.S_far (p := ⟨gb1081, 3, none⟩) (Kd.S_far (p := ⟨gb1081, 2, none⟩) (Kd.S_far (p := ⟨gb1081, 1, none⟩) (Kd.S_far (p := ⟨gb1081, 0, none⟩) (Kd.S_far (p := ⟨gb1082, 10, none⟩) (Kd.S_types (Kd.S_types HO1086.out BK1082.out (by decide)) BK1081.out (by decide)) (fun _ hk => hk.1.2) (.slice Ao33 t1105.length co33)) (fun _ hk => hk.2) (.bool t1083)) (fun _ hk => hk.2) (.slice Ao16 t1084.length co16)) (fun _ hk => hk.2) (.int .i64 t1087)) (fun _ hk => hk.2) (.int .i64 t1088)) (fun _ hk => hk.2) (.slice Ao17 t1089.length co17)) (fun _ hk => hk.2) (.slice Ao18 t1092.length co18)) (fun _ hk => hk.2) (.int .i64 t1095)) (fun _ hk => hk.2) (.slice Ao21 t1096.length co21)) (fun _ hk => hk.2) (.slice Ao25 t1099.length co25)) (fun _ hk => hk.2) (.slice Ao29 t1102.length co29)) (fun _ hk => hk.2) (.slice Ao33 t1105.length co33)) (fun _ hk => trivial), by (with_reducible repeat (first | apply Kd.R_alloc | apply Kd.R_drewN | apply Kd.R_drew)); exact Kd.R_mono (Kd.R_far (p := ⟨gb1081, 10, none⟩) (Kd.R_far (p := ⟨gb1081, 9, none⟩) (Kd.R_far (p := ⟨gb1081, 8, none⟩) (Kd.R_far (p := ⟨gb1081, 7, none⟩) (Kd.R_far (p := ⟨gb1081, 6, none⟩) (Kd.R_far (p := ⟨gb1081, 5, none⟩) (Kd.R_far (p := ⟨gb1081, 4, none⟩) (Kd.R_far (p := ⟨gb1081, 3, none⟩) (Kd.R_far (p := ⟨gb1081, 2, none⟩) (Kd.R_far (p := ⟨gb1081, 1, none⟩) (Kd.R_far (p := ⟨gb1081, 0, none⟩) (Kd.R_far (p := ⟨gb1082, 10, none⟩) (Kd.R_types (Kd.R_types HO1091.out BK1082.out (by decide)) BK1081.out (by decide)) (fun _ hk => hk.1.2) (.slice Ao33 t1105.length co33)) (fun _ hk => hk.2) (.bool t1083)) (fun _ hk => hk.2) (.slice Ao16 t1084.length co16)) (fun _ hk => hk.2) (.int .i64 t1087)) (fun _ hk => hk.2) (.int .i64 t1088)) (fun _ hk => hk.2) (.slice Ao17 t1089.length co17)) (fun _ hk => hk.2) (.slice Ao18 t1092.length co18)) (fun _ hk => hk.2) (.int .i64 t1095)) (fun _ hk => hk.2) (.slice Ao21 t1096.length co21)) (fun _ hk => hk.2) (.slice Ao25 t1099.length co25)) (fun _ hk => hk.2) (.slice Ao29 t1102.length co29)) (fun _ hk => hk.2) (.slice Ao33 t1105.length co33)) (fun _ hk => trivial), by (with_reducible repeat (first | apply Kd.R_alloc | apply Kd.R_drewN | apply Kd.R_drew)); exact Kd.R_mono (Kd.R_far (p := ⟨gb1081, 10, none⟩) (Kd.R_far (p := ⟨gb1081, 9, none⟩) (Kd.R_far (p := ⟨gb1081, 8, none⟩) (Kd.R_far (p := ⟨gb1081, 7, none⟩) (Kd.R_far (p := ⟨gb1081, 6, none⟩) (Kd.R_far (p := ⟨gb1081, 5, none⟩) (Kd.R_far (p := ⟨gb1081, 4, none⟩) (Kd.R_far (p := ⟨gb1081, 3, none⟩) (Kd.R_far (p := ⟨gb1081, 2, none⟩) (Kd.R_far (p := ⟨gb1081, 1, none⟩) (Kd.R_far (p := ⟨gb1081, 0, none⟩) (Kd.R_far (p := ⟨gb1082, 10, none⟩) (Kd.R_types (Kd.R_types HO1094.out BK1082.out (by decide)) BK1081.out (by decide)) (fun _ hk => hk.1.2) (.slice Ao33 t1105.length co33)) (fun _ hk => hk.2) (.bool t1083)) (fun _ hk => hk.2) (.slice Ao16 t1084.length co16)) (fun _ hk => hk.2) (.int .i64 t1087)) (fun _ hk => hk.2) (.int .i64 t1088)) (fun _ hk => hk.2) (.slice Ao17 t1089.length co17)) (fun _ hk => hk.2) (.slice Ao18 t1092.length co18)) (fun _ hk => hk.2) (.int .i64 t1095)) (fun _ hk => hk.2) (.slice Ao21 t1096.length co21)) (fun _ hk => hk.2) (.slice Ao25 t1099.length co25)) (fun _ hk => hk.2) (.slice Ao29 t1102.length co29)) (fun _ hk => hk.2) (.slice Ao33 t1105.length co33)) (fun _ hk => trivial), by (with_reducible repeat (first | apply Kd.S_alloc | apply Kd.S_drewN | apply Kd.S_drew)); exact Kd.S_mono (Kd.S_far (p := ⟨gb1081, 10, none⟩) (Kd.S_far (p := ⟨gb1081, 9, none⟩) (Kd.S_far (p := ⟨gb1081, 8, none⟩) (Kd.S_far (p := ⟨gb1081, 7, none⟩) (Kd.S_far (p := ⟨gb1081, 6, none⟩) (Kd.S_far (p := ⟨gb1081, 5, none⟩) (Kd.S_far (p := ⟨gb1081, 4, none⟩) (Kd.S_far (p := ⟨gb1081, 3, none⟩) (Kd.S_far (p := ⟨gb1081, 2, none⟩) (Kd.S_far (p := ⟨gb1081, 1, none⟩) (Kd.S_far (p := ⟨gb1081, 0, none⟩) (Kd.S_far (p := ⟨gb1082, 10, none⟩) (Kd.S_types (Kd.S_types HO1098.out BK1082.out (by decide)) BK1081.out (by decide)) (fun _ hk => hk.1.2) (.slice Ao33 t1105.length co33)) (fun _ hk => hk.2) (.bool t1083)) (fun _ hk => hk.2) (.slice Ao16 t1084.length co16)) (fun _ hk => hk.2) (.int .i64 t1087)) (fun _ hk => hk.2) (.int .i64 t1088)) (fun _ hk => hk.2) (.slice Ao17 t1089.length co17)) (fun _ hk => hk.2) (.slice Ao18 t1092.length co18)) (fun _ hk => hk.2) (.int .i64 t1095)) (fun _ hk => hk.2) (.slice Ao21 t1096.length co21)) (fun _ hk => hk.2) (.slice Ao25 t1099.length co25)) (fun _ hk => hk.2) (.slice Ao29 t1102.length co29)) (fun _ hk => hk.2) (.slice Ao33 t1105.length co33)) (fun _ hk => trivial), by (with_reducible repeat (first | apply Kd.R_alloc | apply Kd.R_drewN | apply Kd.R_drew)); exact Kd.R_mono (Kd.R_far (p := ⟨gb1081, 10, none⟩) (Kd.R_far (p := ⟨gb1081, 9, none⟩) (Kd.R_far (p := ⟨gb1081, 8, none⟩) (Kd.R_far (p := ⟨gb1081, 7, none⟩) (Kd.R_far (p := ⟨gb1081, 6, none⟩) (Kd.R_far (p := ⟨gb1081, 5, none⟩) (Kd.R_far (p := ⟨gb1081, 4, none⟩) (Kd.R_far (p := ⟨gb1081, 3, none⟩) (Kd.R_far (p := ⟨gb1081, 2, none⟩) (Kd.R_far (p := ⟨gb1081, 1, none⟩) (Kd.R_far (p := ⟨gb1081, 0, none⟩) (Kd.R_far (p := ⟨gb1082, 10, none⟩) (Kd.R_types (Kd.R_types HO1101.out BK1082.out (by decide)) BK1081.out (by decide)) (fun _ hk => hk.1.2) (.slice Ao33 t1105.length co33)) (fun _ hk => hk.2) (.bool t1083)) (fun _ hk => hk.2) (.slice Ao16 t1084.length co16)) (fun _ hk => hk.2) (.int .i64 t1087)) (fun _ hk => hk.2) (.int .i64 t1088)) (fun _ hk => hk.2) (.slice Ao17 t1089.length co17)) (fun _ hk => hk.2) (.slice Ao18 t1092.length co18)) (fun _ hk => hk.2) (.int .i64 t1095)) (fun _ hk => hk.2) (.slice Ao21 t1096.length co21)) (fun _ hk => hk.2) (.slice Ao25 t1099.length co25)) (fun _ hk => hk.2) (.slice Ao29 t1102.length co29)) (fun _ hk => hk.2) (.slice Ao33 t1105.length co33)) (fun _ hk => trivial), by (with_reducible repeat (first | apply Kd.R_alloc | apply Kd.R_drewN | apply Kd.R_drew)); exact Kd.R_mono (Kd.R_far (p := ⟨gb1081, 10, none⟩) (Kd.R_far (p := ⟨gb1081, 9, none⟩) (Kd.R_far (p := ⟨gb1081, 8, none⟩) (Kd.R_far (p := ⟨gb1081, 7, none⟩) (Kd.R_far (p := ⟨gb1081, 6, none⟩) (Kd.R_far (p := ⟨gb1081, 5, none⟩) (Kd.R_far (p := ⟨gb1081, 4, none⟩) (Kd.R_far (p := ⟨gb1081, 3, none⟩) (Kd.R_far (p := ⟨gb1081, 2, none⟩) (Kd.R_far (p := ⟨gb1081, 1, none⟩) (Kd.R_far (p := ⟨gb1081, 0, none⟩) (Kd.R_far (p := ⟨gb1082, 10, none⟩) (Kd.R_types (Kd.R_types HO1104.out BK1082.out (by decide)) BK1081.out (by decide)) (fun _ hk => hk.1.2) (.slice Ao33 t1105.length co33)) (fun _ hk => hk.2) (.bool t1083)) (fun _ hk => hk.2) (.slice Ao16 t1084.length co16)) (fun _ hk => hk.2) (.int .i64 t1087)) (fun _ hk => hk.2) (.int .i64 t1088)) (fun _ hk => hk.2) (.slice Ao17 t1089.length co17)) (fun _ hk => hk.2) (.slice Ao18 t1092.length co18)) (fun _ hk => hk.2) (.int .i64 t1095)) (fun _ hk => hk.2) (.slice Ao21 t1096.length co21)) (fun _ hk => hk.2) (.slice Ao25 t1099.length co25)) (fun _ hk => hk.2) (.slice Ao29 t1102.length co29)) (fun _ hk => hk.2) (.slice Ao33 t1105.length co33)) (fun _ hk => trivial), by (with_reducible repeat (first | apply Kd.R_alloc | apply Kd.R_drewN | apply Kd.R_drew)); exact Kd.R_mono (Kd.R_far (p := ⟨gb1081, 10, none⟩) (Kd.R_far (p := ⟨gb1081, 9, none⟩) (Kd.R_far (p := ⟨gb1081, 8, none⟩) (Kd.R_far (p := ⟨gb1081, 7, none⟩) (Kd.R_far (p := ⟨gb1081, 6, none⟩) (Kd.R_far (p := ⟨gb1081, 5, none⟩) (Kd.R_far (p := ⟨gb1081, 4, none⟩) (Kd.R_far (p := ⟨gb1081, 3, none⟩) (Kd.R_far (p := ⟨gb1081, 2, none⟩) (Kd.R_far (p := ⟨gb1081, 1, none⟩) (Kd.R_far (p := ⟨gb1081, 0, none⟩) (Kd.R_far (p := ⟨gb1082, 10, none⟩) (Kd.R_types (Kd.R_types HO1107.out BK1082.out (by decide)) BK1081.out (by decide)) (fun _ hk => hk.1.2) (.slice Ao33 t1105.length co33)) (fun _ hk => hk.2) (.bool t1083)) (fun _ hk => hk.2) (.slice Ao16 t1084.length co16)) (fun _ hk => hk.2) (.int .i64 t1087)) (fun _ hk => hk.2) (.int .i64 t1088)) (fun _ hk => hk.2) (.slice Ao17 t1089.length co17)) (fun _ hk => hk.2) (.slice Ao18 t1092.length co18)) (fun _ hk => hk.2) (.int .i64 t1095)) (fun _ hk => hk.2) (.slice Ao21 t1096.length co21)) (fun _ hk => hk.2) (.slice Ao25 t1099.length co25)) (fun _ hk => hk.2) (.slice Ao29 t1102.length co29)) (fun _ hk => hk.2) (.slice Ao33 t1105.length co33)) (fun _ hk => trivial), (BB3 HB.out GE1080.out GE1081.out GE1082.out)⟩

end Go.Proofs.Ytfgnaneajonapaa.Pr

/- Generated by plumb.py: the laws' helpers of a type, told as plain functions. -/
namespace Go.Proofs.Ytfgnaneajonapaa.Lw
open Go.RowKit Go.Proofs.YtfgnaneajonapaaW.PrintWords Go.Proofs.Ytfgnaneajonapaa.Pr Go.Proofs.Ytfgnaneajonapaa.Evs
set_option linter.unusedVariables false
abbrev LWorld := S86
abbrev ImWorld := S77
def wtWorld (x : LWorld) : Nat := (wtServer x.f0) + (wtHostS x.f1) + (wtIntS x.f2) + (wtStringS x.f3) + (wtSizeS x.f4)
def wtWorldS : List LWorld → Nat
  | [] => 0
  | x :: s => 1 + wtWorld x + wtWorldS s
def okWorld (x : LWorld) : Prop := okServer x.f0 ∧ (x.f1.length ≤ maxLen ∧ ∀ y ∈ x.f1, okHost y) ∧ (x.f2.length ≤ maxLen ∧ ∀ y ∈ x.f2, True) ∧ (x.f3.length ≤ maxLen ∧ ∀ y ∈ x.f3, y.size ≤ maxLen) ∧ (x.f4.length ≤ maxLen ∧ ∀ y ∈ x.f4, okSize y)
theorem wtWorldS_len (l : List LWorld) : l.length ≤ wtWorldS l := by
  induction l with
  | nil => simp
  | cons x s ih => simp [wtWorldS]; omega
def toWorld (x : LWorld) : ImWorld := ⟨(toServer x.f0), (x.f1.map toHost), x.f2, x.f3, (x.f4.map toSize)⟩
theorem rd86 (p s : List S86) (x : S86) : rd_T86 (p ++ x :: s) (p.length : Int) = x := by unfold rd_T86; exact getD_mid' p s x _ _ rfl
theorem rd77 (p s : List S77) (x : S77) : rd_T77 (p ++ x :: s) (p.length : Int) = x := by unfold rd_T77; exact getD_mid' p s x _ _ rfl
theorem szWorld_ev (x : LWorld) (left : Int) (h0 : 0 ≤ left) (h1 : left ≤ 1048576) (hx : okWorld x) : SzEv (fun k => laws_szWorld.f k (x.f0.f0) (x.f0.f1.f0) (x.f0.f1.f1) (x.f0.f2) (x.f0.f3.f0) (x.f0.f4) (x.f0.f5) (x.f1) (x.f2) (x.f3) (x.f4) left) left (wtWorld x) := by
  unfold okWorld at hx
  unfold laws_szWorld.f wtWorld
  obtain ⟨hx0, hx1, hx2, hx3, hx4⟩ := hx
  skip
  refine sz_eq (sz_call (w2 := (((wtHostS x.f1 : Nat) : Int) + ((wtIntS x.f2 : Nat) : Int) + ((wtStringS x.f3 : Nat) : Int) + ((wtSizeS x.f4 : Nat) : Int) : Int)) (szServer_ev x.f0 (left) (by omega) (by omega) hx0) (fun l0 g0 e0 => ?_)) (by omega)
  refine sz_eq (sz_call (w2 := (((wtIntS x.f2 : Nat) : Int) + ((wtStringS x.f3 : Nat) : Int) + ((wtSizeS x.f4 : Nat) : Int) : Int)) (szHostS_ev x.f1 hx1.1 hx1.2 (l0) (by omega) (by omega)) (fun l1 g1 e1 => ?_)) (by omega)
  refine sz_eq (sz_call (w2 := (((wtStringS x.f3 : Nat) : Int) + ((wtSizeS x.f4 : Nat) : Int) : Int)) (szIntS_ev x.f2 hx2.1 hx2.2 (l1) (by omega) (by omega)) (fun l2 g2 e2 => ?_)) (by omega)
  refine sz_eq (sz_call (w2 := (((wtSizeS x.f4 : Nat) : Int) : Int)) (szStringS_ev x.f3 hx3.1 hx3.2 (l2) (by omega) (by omega)) (fun l3 g3 e3 => ?_)) (by omega)
  refine sz_eq (sz_call (w2 := (0 : Int)) (szSizeS_ev x.f4 hx4.1 hx4.2 (l3) (by omega) (by omega)) (fun l4 g4 e4 => ?_)) (by omega)
  exact sz_done (by omega)
theorem toWorld_ev (x : LWorld) (hx : wtWorld x ≤ 1048576) : Ev (fun k => laws_toWorld.f k (x.f0.f0) (x.f0.f1.f0) (x.f0.f1.f1) (x.f0.f2) (x.f0.f3.f0) (x.f0.f4) (x.f0.f5) (x.f1) (x.f2) (x.f3) (x.f4)) ((toWorld x).f0.f0, (toWorld x).f0.f1.f0, (toWorld x).f0.f1.f1, (toWorld x).f0.f2, (toWorld x).f0.f3.f0, (toWorld x).f0.f4, (toWorld x).f0.f5, (toWorld x).f1, (toWorld x).f2, (toWorld x).f3, (toWorld x).f4) := by
  unfold wtWorld at hx
  unfold laws_toWorld.f
  refine ev_bind (toServer_ev x.f0 (by omega)) ?_
  refine ev_bind (toHostS_ev x.f1 (by omega)) ?_
  refine ev_bind (toIntS_ev x.f2 (by omega)) ?_
  refine ev_bind (toStringS_ev x.f3 (by omega)) ?_
  refine ev_bind (toSizeS_evw x.f4 (by omega)) ?_
  exact ev_some _
def lnWorld (x : ImWorld) : Prop := (lnServer x.f0) ∧ (x.f1.length < 9223372036854775000 ∧ ∀ y ∈ x.f1, lnHost y) ∧ (x.f2.length < 9223372036854775000) ∧ (x.f3.length < 9223372036854775000) ∧ (x.f4.length < 9223372036854775000 ∧ ∀ y ∈ x.f4, lnSize y)
theorem eqWorld_refl (x : ImWorld) (hx : lnWorld x) : Ev (fun k => laws_eqWorld.f k (x.f0.f0) (x.f0.f1.f0) (x.f0.f1.f1) (x.f0.f2) (x.f0.f3.f0) (x.f0.f4) (x.f0.f5) (x.f1) (x.f2) (x.f3) (x.f4) (x.f0.f0) (x.f0.f1.f0) (x.f0.f1.f1) (x.f0.f2) (x.f0.f3.f0) (x.f0.f4) (x.f0.f5) (x.f1) (x.f2) (x.f3) (x.f4)) true := by
  unfold lnWorld at hx
  obtain ⟨h0, h1, h2, h3, h4⟩ := hx
  unfold laws_eqWorld.f
  repeat (first | with_reducible exact ev_some _ | with_reducible refine ev_pos rfl ?_ | with_reducible refine ev_neg (by simp; done) ?_ | with_reducible refine ev_bind (eqServer_refl x.f0 h0) ?_ | with_reducible refine ev_bind (eqHostS_ev x.f1 (by have := h1.1; omega) h1.2) ?_ | with_reducible refine ev_bind (eqIntS_ev x.f2 (by have := h2; omega)) ?_ | with_reducible refine ev_bind (eqStringS_ev x.f3 (by have := h3; omega)) ?_ | with_reducible refine ev_bind (eqSizeS_ev x.f4 (by have := h4.1; omega)) ?_)
def bdWorld (x : ImWorld) : Prop := (bdServer x.f0) ∧ (x.f1.length ≤ 1048576 ∧ ∀ y ∈ x.f1, bdHost y) ∧ (x.f2.length ≤ 1048576 ∧ ∀ y ∈ x.f2, True) ∧ (x.f3.length ≤ 1048576 ∧ ∀ y ∈ x.f3, y.size ≤ 1048576) ∧ (x.f4.length ≤ 1048576 ∧ ∀ y ∈ x.f4, bdSize y)
theorem wtWorldS_at {l : List LWorld} {x : LWorld} (h : x ∈ l) : 1 + wtWorld x ≤ wtWorldS l := by
  induction l with
  | nil => cases h
  | cons y l ih =>
    rcases List.mem_cons.1 h with rfl | h
    · simp [wtWorldS]
    · have := ih h
      simp [wtWorldS]
      omega
theorem bd_toWorld (x : LWorld) (h : wtWorld x ≤ 1048576) : bdWorld (toWorld x) := by
  unfold wtWorld at h
  exact ⟨bd_toServer x.f0 (by omega), bd_toHostS x.f1 (by omega), ⟨(show x.f2.length ≤ 1048576 by have := wtIntS_len x.f2; omega), fun _ _ => trivial⟩, bd_toStringS x.f3 (by omega), bd_toSizeS x.f4 (by omega)⟩
theorem bd_toWorldS (l : List LWorld) (h : wtWorldS l ≤ 1048576) : (l.map toWorld).length ≤ 1048576 ∧ ∀ y ∈ l.map toWorld, bdWorld y := by
  have hl := wtWorldS_len l
  refine ⟨by simp; omega, fun y hy => ?_⟩
  obtain ⟨z, hz, rfl⟩ := List.mem_map.1 hy
  have := wtWorldS_at hz
  exact bd_toWorld z (by omega)
theorem ln_bdWorld {x : ImWorld} (h : bdWorld x) : lnWorld x := by
  unfold bdWorld at h
  obtain ⟨h0, h1, h2, h3, h4⟩ := h
  exact ⟨ln_bdServer h0, ⟨by have := h1.1; omega, fun y hy => ln_bdHost (h1.2 y hy)⟩, by have := h2.1; omega, by have := h3.1; omega, ⟨by have := h4.1; omega, fun y hy => ln_bdSize (h4.2 y hy)⟩⟩
end Go.Proofs.Ytfgnaneajonapaa.Lw

/- Printed out of the translation by this session's pr.py over the kit's print. Lean checks it. -/
namespace Go.Proofs.Ytfgnaneajonapaa.Pr
open Go.RowKit Go.Proofs.YtfgnaneajonapaaW.PrintWords Go.Proofs.YtfgnaneajonapaaW.PrintLast Go.Proofs.YtfgnaneajonapaaW.PrintMore
attribute [local go_sem] max2_int min2_int max_two min_two max_three min_three max_four min_four
set_option linter.unusedVariables false
set_option linter.unusedSimpArgs false

/-! ### spec_SchemaOf: function 55 -/
def spec_SchemaOf.f (a0 : Int) : Option (Int × Int × Bool) := if a0 = 1 then (some (2, 1, true)) else (if a0 = 2 then (some (3, 2, true)) else (if a0 = 3 then (some (4, 2, true)) else (some (0, 0, false))))
set_option maxHeartbeats 8000000 in
set_option maxRecDepth 100000 in
theorem spec_SchemaOf.calls (a0 : Int) (r1 : Int) (r2 : Int) (r3 : Bool) (w : World) (h : spec_SchemaOf.f a0 = some (r1, r2, r3)) :
    Calls Try.prog 55 #[.int .i64 a0] w fun e w' => e = .returned (.tuple #[.int .i64 r1, .int .i64 r2, .bool r3]) ∧ Drawn0 w w' := by
  have H : (if a0 = 1 then (some (2, 1, true)) else (if a0 = 2 then (some (3, 2, true)) else (if a0 = 3 then (some (4, 2, true)) else (some (0, 0, false))))) = some (r1, r2, r3) := h
  clear h
  by_cases c2 : a0 = 1
  · rw [if_pos c2] at H
    have c2b0 : (a0 == 1) = true := beq_iff_eq.mpr c2
    have c2b1 : (a0 != 1) = false := bne_eq_false_iff_eq.mpr c2
    clear c2
    simp only [Option.some.injEq, Prod.mk.injEq] at H
    obtain ⟨rfl, rfl, rfl⟩ := H
    go_enter Try.func55, Try.ntmps55
    go_wp2
    go_ret3
    exact ⟨FR, by repeat (first | exact Drawn0.refl _ | apply Drawn0.step)⟩
  · rw [if_neg c2] at H
    have c2b0 : (a0 == 1) = false := beq_eq_false_iff_ne.mpr c2
    have c2b1 : (a0 != 1) = true := bne_iff_ne.mpr c2
    by_cases c3 : a0 = 2
    · rw [if_pos c3] at H
      have c3b0 : (a0 == 2) = true := beq_iff_eq.mpr c3
      have c3b1 : (a0 != 2) = false := bne_eq_false_iff_eq.mpr c3
      clear c3
      simp only [Option.some.injEq, Prod.mk.injEq] at H
      obtain ⟨rfl, rfl, rfl⟩ := H
      go_enter Try.func55, Try.ntmps55
      go_wp2
      go_ret3
      exact ⟨FR, by repeat (first | exact Drawn0.refl _ | apply Drawn0.step)⟩
    · rw [if_neg c3] at H
      have c3b0 : (a0 == 2) = false := beq_eq_false_iff_ne.mpr c3
      have c3b1 : (a0 != 2) = true := bne_iff_ne.mpr c3
      by_cases c4 : a0 = 3
      · rw [if_pos c4] at H
        have c4b0 : (a0 == 3) = true := beq_iff_eq.mpr c4
        have c4b1 : (a0 != 3) = false := bne_eq_false_iff_eq.mpr c4
        clear c4
        simp only [Option.some.injEq, Prod.mk.injEq] at H
        obtain ⟨rfl, rfl, rfl⟩ := H
        go_enter Try.func55, Try.ntmps55
        go_wp2
        go_ret3
        exact ⟨FR, by repeat (first | exact Drawn0.refl _ | apply Drawn0.step)⟩
      · rw [if_neg c4] at H
        have c4b0 : (a0 == 3) = false := beq_eq_false_iff_ne.mpr c4
        have c4b1 : (a0 != 3) = true := bne_iff_ne.mpr c4
        simp only [Option.some.injEq, Prod.mk.injEq] at H
        obtain ⟨rfl, rfl, rfl⟩ := H
        go_enter Try.func55, Try.ntmps55
        go_wp2
        go_ret3
        exact ⟨FR, by repeat (first | exact Drawn0.refl _ | apply Drawn0.step)⟩

end Go.Proofs.Ytfgnaneajonapaa.Pr

/- Printed out of the translation by this session's pr.py over the kit's print. Lean checks it. -/
namespace Go.Proofs.Ytfgnaneajonapaa.Pr
open Go.RowKit Go.Proofs.YtfgnaneajonapaaW.PrintWords Go.Proofs.YtfgnaneajonapaaW.PrintLast Go.Proofs.YtfgnaneajonapaaW.PrintMore
attribute [local go_sem] max2_int min2_int max_two min_two max_three min_three max_four min_four
set_option linter.unusedVariables false
set_option linter.unusedSimpArgs false

/-! ### spec_l14At: function 104 -/
def spec_l14At.l0 : Nat → Int → Int → Int → Int → Bool → List (S146) → Option (Int)
  | 0, _, _, _, _, _, _ => none
  | k + 1, x1, x2, x7, x109000, x109001, x109002 => if x7 < (x109002.length : Int) then (if 0 ≤ x7 then (if ((rd_T146 x109002 x7).f0) = x1 then (if ((rd_T146 x109002 x7).f1) = x2 then (some x7) else (spec_l14At.l0 k x1 x2 (wrap64 (x7 + 1)) x109000 x109001 x109002)) else (spec_l14At.l0 k x1 x2 (wrap64 (x7 + 1)) x109000 x109001 x109002)) else (none)) else (some (-1))
def spec_l14At.f (k : Nat) (a0_0 : Int) (a0_1 : Bool) (l0_2 : List (S146)) (a1 : Int) (a2 : Int) : Option (Int) := spec_l14At.l0 k a1 a2 0 a0_0 a0_1 l0_2
set_option maxHeartbeats 8000000 in
set_option maxRecDepth 100000 in
theorem spec_l14At.calls (k : Nat) (a0_0 : Int) (a0_1 : Bool) (A0_2 : Option Addr) (c0_2 : Nat) (l0_2 : List (S146)) (a1 : Int) (a2 : Int) (r : Int) (w : World) (hr0_2 : Kd.C k146 w A0_2 l0_2.length l0_2) (hc0_2 : l0_2.length ≤ c0_2) (h : spec_l14At.f k a0_0 a0_1 l0_2 a1 a2 = some r) :
    Calls Try.prog 104 #[.agg #[.int .i64 a0_0, .bool a0_1, .slice A0_2 l0_2.length c0_2], .int .i64 a1, .int .i64 a2] w fun e w' => e = .returned (.int .i64 r) ∧ Below w.heap.size w w' := by
  have hu97 := Try.underlying97
  have HR0_2 := Aside0.mk hr0_2
  have HC0_2 := Aside0.mk hc0_2
  clear hr0_2 hc0_2
  have HB := Aside0.mk (Below.refl w.heap.size w)
  have H : (spec_l14At.l0 k a1 a2 0 a0_0 a0_1 l0_2) = some r := h
  clear h
  have H' := Aside0.mk H
  clear H
  go_enter Try.func104, Try.ntmps104
  go_wp2_with (first | ((with_reducible refine gate_dst (N := 3) rfl ?_); refine BX 3 #[.int .i64 a0_0, .bool a0_1, .slice A0_2 l0_2.length c0_2] 97 ?_; intro gb108 hg w4 hbox hb; have BK108 := Aside0.mk (hbox); have GW108 : Aside0 (w.heap.size ≤ gb108) := WG hg (BB HB.out); have GE108 := GW108; replace HB := Aside0.mk (below_step (BB HB.out) hb); clear hb hbox hg))
  go_loopg [7] k (fun kq v7 w' => ∃ (x7_1 : Int), v7 = .int .i64 x7_1 ∧ Aside0 (spec_l14At.l0 kq a1 a2 x7_1 a0_0 a0_1 l0_2 = some r) ∧ Aside0 (kq ≤ k) ∧ Aside0 (w'.heap[gb108]? = some (.cells #[.int .i64 a0_0, .bool a0_1, (.slice A0_2 l0_2.length c0_2)] 97 (0, 0))) ∧ Aside0 (Below w.heap.size w w'))
  case atStart => exact ⟨(0), FR, H', ⟨Nat.le_refl _⟩, ⟨by (with_reducible repeat (first | refine blk_drewN ?_ _ | refine blk_drew ?_ | refine blk_alloc ?_ _)); exact BK108.out⟩, ⟨(BB1 HB.out GE108.out)⟩⟩
  case round =>
    clear H'
    try clear c1
    try clear p2
    obtain ⟨x7_1, rfl, HA, HK1, BK108, HB⟩ := hrel
    cases gk with
    | zero => exact absurd HA.out (by simp [spec_l14At.l0])
    | succ k1 =>
      have H := HA.out
      clear HA
      simp only [spec_l14At.l0] at H
      by_cases c5 : x7_1 < (l0_2.length : Int)
      · rw [if_pos c5] at H
        have c5b0 : decide (x7_1 < (l0_2.length : Int)) = true := decide_eq_true c5
        clear c5
        by_cases c6 : 0 ≤ x7_1
        · rw [if_pos c6] at H
          have c6b0 : decide (0 ≤ x7_1) = true := decide_eq_true c6
          clear c6
          by_cases c7 : ((rd_T146 l0_2 x7_1).f0) = a1
          · rw [if_pos c7] at H
            have c7b0 : (((rd_T146 l0_2 x7_1).f0) == a1) = true := beq_iff_eq.mpr c7
            have c7b1 : (((rd_T146 l0_2 x7_1).f0) != a1) = false := bne_eq_false_iff_eq.mpr c7
            clear c7
            by_cases c8 : ((rd_T146 l0_2 x7_1).f1) = a2
            · rw [if_pos c8] at H
              have c8b0 : (((rd_T146 l0_2 x7_1).f1) == a2) = true := beq_iff_eq.mpr c8
              have c8b1 : (((rd_T146 l0_2 x7_1).f1) != a2) = false := bne_eq_false_iff_eq.mpr c8
              clear c8
              obtain rfl := Option.some.inj H
              have hcz9 := blk_cell BK108.out
              have hcz9_1 : wr.cell? ⟨gb108, 1, none⟩ = some (.bool a0_1) := (blk_cell BK108.out 1).trans rfl
              have hcz9_2 : wr.cell? ⟨gb108, 2, none⟩ = some (.slice A0_2 l0_2.length c0_2) := (blk_cell BK108.out 2).trans rfl
              have hfz9 := blk_frozen BK108.out
              have hfz9_1 := blk_frozen BK108.out 1
              have hfz9_2 := blk_frozen BK108.out 2
              have p109 : 0 ≤ (x7_1 : Int) := DT
              have q109 : x7_1 < (l0_2.length : Int) := DT
              obtain ⟨ad109, e109, hx109_0, hx109_1, hx109_2, hx109_3⟩ := at_T146 HR0_2.out x7_1 p109 q109
              cases e109
              replace hx109_0 := (HB.out.cell (World.block_lt_of_cell? w _ hx109_0)).trans hx109_0
              replace hx109_1 := (HB.out.cell (World.block_lt_of_cell? w _ hx109_1)).trans hx109_1
              replace hx109_2 := (HB.out.cell (World.block_lt_of_cell? w _ hx109_2)).trans hx109_2
              replace hx109_3 := (HB.out.cell (World.block_lt_of_cell? w _ hx109_3)).trans hx109_3
              replace p109 := eq_true p109
              replace q109 := eq_true q109
              have p110 : 0 ≤ (x7_1 : Int) := DT
              have q110 : x7_1 < (l0_2.length : Int) := DT
              obtain ⟨ad110, e110, hx110_0, hx110_1, hx110_2, hx110_3⟩ := at_T146 HR0_2.out x7_1 p110 q110
              obtain rfl : ad109 = ad110 := (by injection e110)
              replace hx110_0 := (HB.out.cell (World.block_lt_of_cell? w _ hx110_0)).trans hx110_0
              replace hx110_1 := (HB.out.cell (World.block_lt_of_cell? w _ hx110_1)).trans hx110_1
              replace hx110_2 := (HB.out.cell (World.block_lt_of_cell? w _ hx110_2)).trans hx110_2
              replace hx110_3 := (HB.out.cell (World.block_lt_of_cell? w _ hx110_3)).trans hx110_3
              replace p110 := eq_true p110
              replace q110 := eq_true q110
              go_wp2
              go_ret
              exact ⟨ER, (BB1 HB.out GE108.out)⟩
            · rw [if_neg c8] at H
              have c8b0 : (((rd_T146 l0_2 x7_1).f1) == a2) = false := beq_eq_false_iff_ne.mpr c8
              have c8b1 : (((rd_T146 l0_2 x7_1).f1) != a2) = true := bne_iff_ne.mpr c8
              have H' := Aside0.mk H
              clear H
              have hcz10 := blk_cell BK108.out
              have hcz10_1 : wr.cell? ⟨gb108, 1, none⟩ = some (.bool a0_1) := (blk_cell BK108.out 1).trans rfl
              have hcz10_2 : wr.cell? ⟨gb108, 2, none⟩ = some (.slice A0_2 l0_2.length c0_2) := (blk_cell BK108.out 2).trans rfl
              have hfz10 := blk_frozen BK108.out
              have hfz10_1 := blk_frozen BK108.out 1
              have hfz10_2 := blk_frozen BK108.out 2
              have p109 : 0 ≤ (x7_1 : Int) := DT
              have q109 : x7_1 < (l0_2.length : Int) := DT
              obtain ⟨ad109, e109, hx109_0, hx109_1, hx109_2, hx109_3⟩ := at_T146 HR0_2.out x7_1 p109 q109
              cases e109
              replace hx109_0 := (HB.out.cell (World.block_lt_of_cell? w _ hx109_0)).trans hx109_0
              replace hx109_1 := (HB.out.cell (World.block_lt_of_cell? w _ hx109_1)).trans hx109_1
              replace hx109_2 := (HB.out.cell (World.block_lt_of_cell? w _ hx109_2)).trans hx109_2
              replace hx109_3 := (HB.out.cell (World.block_lt_of_cell? w _ hx109_3)).trans hx109_3
              replace p109 := eq_true p109
              replace q109 := eq_true q109
              have p110 : 0 ≤ (x7_1 : Int) := DT
              have q110 : x7_1 < (l0_2.length : Int) := DT
              obtain ⟨ad110, e110, hx110_0, hx110_1, hx110_2, hx110_3⟩ := at_T146 HR0_2.out x7_1 p110 q110
              obtain rfl : ad109 = ad110 := (by injection e110)
              replace hx110_0 := (HB.out.cell (World.block_lt_of_cell? w _ hx110_0)).trans hx110_0
              replace hx110_1 := (HB.out.cell (World.block_lt_of_cell? w _ hx110_1)).trans hx110_1
              replace hx110_2 := (HB.out.cell (World.block_lt_of_cell? w _ hx110_2)).trans hx110_2
              replace hx110_3 := (HB.out.cell (World.block_lt_of_cell? w _ hx110_3)).trans hx110_3
              replace p110 := eq_true p110
              replace q110 := eq_true q110
              go_wp2
              go_roundg k1
              case measure => have := HK1.out; omega
              case rel => exact ⟨(wrap64 (x7_1 + 1)), FR, H', ⟨by have := HK1.out; omega⟩, ⟨by (with_reducible repeat (first | refine blk_drewN ?_ _ | refine blk_drew ?_ | refine blk_alloc ?_ _)); exact BK108.out⟩, ⟨(BB1 HB.out GE108.out)⟩⟩
          · rw [if_neg c7] at H
            have c7b0 : (((rd_T146 l0_2 x7_1).f0) == a1) = false := beq_eq_false_iff_ne.mpr c7
            have c7b1 : (((rd_T146 l0_2 x7_1).f0) != a1) = true := bne_iff_ne.mpr c7
            have H' := Aside0.mk H
            clear H
            have hcz11 := blk_cell BK108.out
            have hcz11_1 : wr.cell? ⟨gb108, 1, none⟩ = some (.bool a0_1) := (blk_cell BK108.out 1).trans rfl
            have hcz11_2 : wr.cell? ⟨gb108, 2, none⟩ = some (.slice A0_2 l0_2.length c0_2) := (blk_cell BK108.out 2).trans rfl
            have hfz11 := blk_frozen BK108.out
            have hfz11_1 := blk_frozen BK108.out 1
            have hfz11_2 := blk_frozen BK108.out 2
            have p109 : 0 ≤ (x7_1 : Int) := DT
            have q109 : x7_1 < (l0_2.length : Int) := DT
            obtain ⟨ad109, e109, hx109_0, hx109_1, hx109_2, hx109_3⟩ := at_T146 HR0_2.out x7_1 p109 q109
            cases e109
            replace hx109_0 := (HB.out.cell (World.block_lt_of_cell? w _ hx109_0)).trans hx109_0
            replace hx109_1 := (HB.out.cell (World.block_lt_of_cell? w _ hx109_1)).trans hx109_1
            replace hx109_2 := (HB.out.cell (World.block_lt_of_cell? w _ hx109_2)).trans hx109_2
            replace hx109_3 := (HB.out.cell (World.block_lt_of_cell? w _ hx109_3)).trans hx109_3
            replace p109 := eq_true p109
            replace q109 := eq_true q109
            go_wp2
            go_roundg k1
            case measure => have := HK1.out; omega
            case rel => exact ⟨(wrap64 (x7_1 + 1)), FR, H', ⟨by have := HK1.out; omega⟩, ⟨by (with_reducible repeat (first | refine blk_drewN ?_ _ | refine blk_drew ?_ | refine blk_alloc ?_ _)); exact BK108.out⟩, ⟨(BB1 HB.out GE108.out)⟩⟩
        · rw [if_neg c6] at H
          exact absurd H (by simp)
      · rw [if_neg c5] at H
        have c5b0 : decide (x7_1 < (l0_2.length : Int)) = false := decide_eq_false c5
        clear c5
        obtain rfl := Option.some.inj H
        have hcz12 := blk_cell BK108.out
        have hcz12_1 : wr.cell? ⟨gb108, 1, none⟩ = some (.bool a0_1) := (blk_cell BK108.out 1).trans rfl
        have hcz12_2 : wr.cell? ⟨gb108, 2, none⟩ = some (.slice A0_2 l0_2.length c0_2) := (blk_cell BK108.out 2).trans rfl
        have hfz12 := blk_frozen BK108.out
        have hfz12_1 := blk_frozen BK108.out 1
        have hfz12_2 := blk_frozen BK108.out 2
        go_wp2
        go_ret
        exact ⟨ER, (BB1 HB.out GE108.out)⟩

end Go.Proofs.Ytfgnaneajonapaa.Pr

/- Printed out of the translation by this session's pr.py over the kit's print. Lean checks it. -/
namespace Go.Proofs.Ytfgnaneajonapaa.Pr
open Go.RowKit Go.Proofs.YtfgnaneajonapaaW.PrintWords Go.Proofs.YtfgnaneajonapaaW.PrintLast Go.Proofs.YtfgnaneajonapaaW.PrintMore
attribute [local go_sem] max2_int min2_int max_two min_two max_three min_three max_four min_four
set_option linter.unusedVariables false
set_option linter.unusedSimpArgs false

/-! ### spec_SumMore: function 178 -/
mutual
def spec_SumMore.l0 : Nat → Int → ByteArray → Int → Option (Int)
  | 0, _, _, _ => none
  | k + 1, x0, x1, x5 => if x5 < (x1.size : Int) then (if 0 ≤ x5 then (spec_SumMore.l1 k (Go.bits .xor .u32 x0 ((bt x1 x5) % 4294967296)) x1 x5 0) else (none)) else (some x0)
def spec_SumMore.l1 : Nat → Int → ByteArray → Int → Int → Option (Int)
  | 0, _, _, _, _ => none
  | k + 1, x0, x1, x5, x6 => if x6 < 8 then (if (Int.tmod x0 2) = 1 then (spec_SumMore.l1 k (Go.bits .xor .u32 ((Int.tdiv x0 2) % 4294967296) 3558460437) x1 x5 (wrap64 (x6 + 1))) else (spec_SumMore.l1 k ((Int.tdiv x0 2) % 4294967296) x1 x5 (wrap64 (x6 + 1)))) else (spec_SumMore.l0 k x0 x1 (wrap64 (x5 + 1)))
end
def spec_SumMore.f (k : Nat) (a0 : Int) (a1 : ByteArray) : Option (Int) := spec_SumMore.l0 k a0 a1 0
set_option maxHeartbeats 8000000 in
set_option maxRecDepth 100000 in
theorem spec_SumMore.calls (k : Nat) (a0 : Int) (a1 : ByteArray) (r : Int) (w : World) (h : spec_SumMore.f k a0 a1 = some r) :
    Calls Try.prog 178 #[.int .u32 a0, .string a1] w fun e w' => e = .returned (.int .u32 r) ∧ Drawn0 w w' := by
  have H : (spec_SumMore.l0 k a0 a1 0) = some r := h
  clear h
  have H' := Aside0.mk H
  clear H
  go_enter Try.func178, Try.ntmps178
  go_wp2
  go_loopg [0, 5] k (fun kq v0 v5 w' => ∃ (x0_1 : Int) (x5_1 : Int), v0 = .int .u32 x0_1 ∧ v5 = .int .i64 x5_1 ∧ Aside0 (spec_SumMore.l0 kq x0_1 a1 x5_1 = some r) ∧ Aside0 (kq ≤ k) ∧ Drawn0 w w')
  case atStart => exact ⟨(a0), (0), FR, FR, H', ⟨Nat.le_refl _⟩, by repeat (first | exact Drawn0.refl _ | apply Drawn0.step)⟩
  case round =>
    clear H'
    try clear c1
    try clear p2
    obtain ⟨x0_1, x5_1, rfl, rfl, HA, HK1, ⟨m1, rfl⟩⟩ := hrel
    cases gk with
    | zero => exact absurd HA.out (by simp [spec_SumMore.l0])
    | succ k1 =>
      have H := HA.out
      clear HA
      simp only [spec_SumMore.l0] at H
      by_cases c3 : x5_1 < (a1.size : Int)
      · rw [if_pos c3] at H
        have c3b0 : decide (x5_1 < (a1.size : Int)) = true := decide_eq_true c3
        clear c3
        by_cases c4 : 0 ≤ x5_1
        · rw [if_pos c4] at H
          have c4b0 : decide (0 ≤ x5_1) = true := decide_eq_true c4
          clear c4
          have H' := Aside0.mk H
          clear H
          have p5 : 0 ≤ (x5_1 : Int) := DT
          have q5 : x5_1 < (a1.size : Int) := DT
          have hx5 := bt_at a1 x5_1
          replace p5 := eq_true p5
          replace q5 := eq_true q5
          go_wp2
          go_loopg [0, 6] k1 (fun kq v0 v6 w' => ∃ (x0_2 : Int) (x6_2 : Int), v0 = .int .u32 x0_2 ∧ v6 = .int .i64 x6_2 ∧ Aside0 (spec_SumMore.l1 kq x0_2 a1 x5_1 x6_2 = some r) ∧ Aside0 (kq ≤ k1) ∧ Drawn0 w w')
          case atStart => exact ⟨(Go.bits .xor .u32 x0_1 ((bt a1 x5_1) % 4294967296)), (0), FR, FR, H', ⟨Nat.le_refl _⟩, by repeat (first | exact Drawn0.refl _ | apply Drawn0.step)⟩
          case round =>
            clear H'
            try clear c1
            try clear p2
            try clear c3
            try clear c3b0
            try clear c4
            try clear c4b0
            try clear p5
            try clear q5
            try clear hx5
            try clear p2
            try clear p5
            try clear q5
            obtain ⟨x0_2, x6_2, rfl, rfl, HA, HK2, ⟨m2, rfl⟩⟩ := hrel
            cases gk with
            | zero => exact absurd HA.out (by simp [spec_SumMore.l1])
            | succ k2 =>
              have H := HA.out
              clear HA
              simp only [spec_SumMore.l1] at H
              by_cases c6 : x6_2 < 8
              · rw [if_pos c6] at H
                have c6b0 : decide (x6_2 < 8) = true := decide_eq_true c6
                clear c6
                by_cases c7 : (Int.tmod x0_2 2) = 1
                · rw [if_pos c7] at H
                  have c7b0 : ((Int.tmod x0_2 2) == 1) = true := beq_iff_eq.mpr c7
                  have c7b1 : ((Int.tmod x0_2 2) != 1) = false := bne_eq_false_iff_eq.mpr c7
                  clear c7
                  have H' := Aside0.mk H
                  clear H
                  go_wp2
                  go_roundg k2
                  case measure => have := HK1.out; have := HK2.out; omega
                  case rel => exact ⟨(Go.bits .xor .u32 ((Int.tdiv x0_2 2) % 4294967296) 3558460437), (wrap64 (x6_2 + 1)), FR, FR, H', ⟨by have := HK1.out; have := HK2.out; omega⟩, by repeat (first | exact Drawn0.refl _ | apply Drawn0.step)⟩
                · rw [if_neg c7] at H
                  have c7b0 : ((Int.tmod x0_2 2) == 1) = false := beq_eq_false_iff_ne.mpr c7
                  have c7b1 : ((Int.tmod x0_2 2) != 1) = true := bne_iff_ne.mpr c7
                  have H' := Aside0.mk H
                  clear H
                  go_wp2
                  go_roundg k2
                  case measure => have := HK1.out; have := HK2.out; omega
                  case rel => exact ⟨((Int.tdiv x0_2 2) % 4294967296), (wrap64 (x6_2 + 1)), FR, FR, H', ⟨by have := HK1.out; have := HK2.out; omega⟩, by repeat (first | exact Drawn0.refl _ | apply Drawn0.step)⟩
              · rw [if_neg c6] at H
                have c6b0 : decide (x6_2 < 8) = false := decide_eq_false c6
                clear c6
                have H' := Aside0.mk H
                clear H
                go_wp2
                go_roundg k2
                case measure => have := HK1.out; have := HK2.out; omega
                case rel => exact ⟨(x0_2), (wrap64 (x5_1 + 1)), FR, FR, H', ⟨by have := HK1.out; have := HK2.out; omega⟩, by repeat (first | exact Drawn0.refl _ | apply Drawn0.step)⟩
        · rw [if_neg c4] at H
          exact absurd H (by simp)
      · rw [if_neg c3] at H
        have c3b0 : decide (x5_1 < (a1.size : Int)) = false := decide_eq_false c3
        clear c3
        obtain rfl := Option.some.inj H
        go_wp2
        go_ret
        exact ⟨FR, by repeat (first | exact Drawn0.refl _ | apply Drawn0.step)⟩

end Go.Proofs.Ytfgnaneajonapaa.Pr

/- Printed out of the translation by this session's pr.py over the kit's print. Lean checks it. -/
namespace Go.Proofs.Ytfgnaneajonapaa.Pr
open Go.RowKit Go.Proofs.YtfgnaneajonapaaW.PrintWords Go.Proofs.YtfgnaneajonapaaW.PrintLast Go.Proofs.YtfgnaneajonapaaW.PrintMore
attribute [local go_sem] max2_int min2_int max_two min_two max_three min_three max_four min_four
set_option linter.unusedVariables false
set_option linter.unusedSimpArgs false

/-! ### spec_SumOf: function 148 -/
def spec_SumOf.f (k : Nat) (a0 : ByteArray) : Option (Int) := (spec_SumMore.f k 4294967295 a0).bind fun t111 => (some t111)
set_option maxHeartbeats 8000000 in
set_option maxRecDepth 100000 in
theorem spec_SumOf.calls (k : Nat) (a0 : ByteArray) (r : Int) (w : World) (h : spec_SumOf.f k a0 = some r) :
    Calls Try.prog 148 #[.string a0] w fun e w' => e = .returned (.int .u32 r) ∧ Drawn0 w w' := by
  have H : ((spec_SumMore.f k 4294967295 a0).bind fun t111 => (some t111)) = some r := h
  clear h
  replace H := Option.bind_eq_some_iff.mp H
  obtain ⟨t111, A20, H⟩ := H
  replace H : (some t111) = some r := H
  have A2 := Aside0.mk A20
  clear A20
  obtain rfl := Option.some.inj H
  go_enter Try.func148, Try.ntmps148
  go_wp2_with (first | ((with_reducible refine gate_callee (f := 178) rfl ?_); refine GL (some 4) rfl rfl Try.func178 #[.int .u32 4294967295, .string a0] rfl ?_; (with_reducible refine (spec_SumMore.calls k 4294967295 a0 t111 _ A2.out).mono ?_); rintro e w' ⟨rfl, ⟨nd, rfl⟩⟩; refine ⟨_, rfl, ?_⟩))
  go_ret
  exact ⟨FR, by repeat (first | exact Drawn0.refl _ | apply Drawn0.step)⟩

end Go.Proofs.Ytfgnaneajonapaa.Pr

/- Printed out of the translation by this session's pr.py over the kit's print. Lean checks it. -/
namespace Go.Proofs.Ytfgnaneajonapaa.Pr
open Go.RowKit Go.Proofs.YtfgnaneajonapaaW.PrintWords Go.Proofs.YtfgnaneajonapaaW.PrintLast Go.Proofs.YtfgnaneajonapaaW.PrintMore
attribute [local go_sem] max2_int min2_int max_two min_two max_three min_three max_four min_four
set_option linter.unusedVariables false
set_option linter.unusedSimpArgs false

/-! ### spec_SumText: function 105 -/
def spec_SumText.f (k : Nat) (a0 : ByteArray) : Option (Int) := (spec_SumOf.f k a0).bind fun t112 => (some (wrap64 (t112)))
set_option maxHeartbeats 8000000 in
set_option maxRecDepth 100000 in
theorem spec_SumText.calls (k : Nat) (a0 : ByteArray) (r : Int) (w : World) (h : spec_SumText.f k a0 = some r) :
    Calls Try.prog 105 #[.string a0] w fun e w' => e = .returned (.int .i64 r) ∧ Drawn0 w w' := by
  have H : ((spec_SumOf.f k a0).bind fun t112 => (some (wrap64 (t112)))) = some r := h
  clear h
  replace H := Option.bind_eq_some_iff.mp H
  obtain ⟨t112, A20, H⟩ := H
  replace H : (some (wrap64 (t112))) = some r := H
  have A2 := Aside0.mk A20
  clear A20
  obtain rfl := Option.some.inj H
  go_enter Try.func105, Try.ntmps105
  go_wp2_with (first | ((with_reducible refine gate_callee (f := 148) rfl ?_); refine GL (some 4) rfl rfl Try.func148 #[.string a0] rfl ?_; (with_reducible refine (spec_SumOf.calls k a0 t112 _ A2.out).mono ?_); rintro e w' ⟨rfl, ⟨nd, rfl⟩⟩; refine ⟨_, rfl, ?_⟩))
  go_ret
  exact ⟨FR, by repeat (first | exact Drawn0.refl _ | apply Drawn0.step)⟩

end Go.Proofs.Ytfgnaneajonapaa.Pr

/- Printed out of the translation by this session's pr.py over the kit's print. Lean checks it. -/
namespace Go.Proofs.Ytfgnaneajonapaa.Pr
open Go.RowKit Go.Proofs.YtfgnaneajonapaaW.PrintWords Go.Proofs.YtfgnaneajonapaaW.PrintLast Go.Proofs.YtfgnaneajonapaaW.PrintMore
attribute [local go_sem] max2_int min2_int max_two min_two max_three min_three max_four min_four
set_option linter.unusedVariables false
set_option linter.unusedSimpArgs false

/-! ### spec_GetUnit: function 56 -/
def spec_GetUnit.f (k : Nat) (a0_0 : Int) (a0_1 : Bool) (l0_2 : List (S146)) (a1 : Int) (a2 : Int) : Option (ByteArray × Bool) := (spec_l14At.f k a0_0 a0_1 l0_2 a1 a2).bind fun t114 => (if a0_1 = true then (if t114 < 0 then (some ((⟨#[]⟩ : ByteArray), false)) else (if 0 ≤ t114 then (if t114 < (l0_2.length : Int) then ((spec_SumText.f k ((rd_T146 l0_2 t114).f2)).bind fun t117 => (if ((rd_T146 l0_2 t114).f3) = t117 then (some ((rd_T146 l0_2 t114).f2, true)) else (some ((⟨#[]⟩ : ByteArray), false)))) else (none)) else (none))) else (some ((⟨#[]⟩ : ByteArray), false)))
set_option maxHeartbeats 8000000 in
set_option maxRecDepth 100000 in
theorem spec_GetUnit.calls (k : Nat) (a0_0 : Int) (a0_1 : Bool) (A0_2 : Option Addr) (c0_2 : Nat) (l0_2 : List (S146)) (a1 : Int) (a2 : Int) (r1 : ByteArray) (r2 : Bool) (w : World) (hr0_2 : Kd.C k146 w A0_2 l0_2.length l0_2) (hc0_2 : l0_2.length ≤ c0_2) (h : spec_GetUnit.f k a0_0 a0_1 l0_2 a1 a2 = some (r1, r2)) :
    Calls Try.prog 56 #[.agg #[.int .i64 a0_0, .bool a0_1, .slice A0_2 l0_2.length c0_2], .int .i64 a1, .int .i64 a2] w fun e w' => e = .returned (.tuple #[.string r1, .bool r2]) ∧ Below w.heap.size w w' := by
  have hu97 := Try.underlying97
  have HR0_2 := Aside0.mk hr0_2
  have HC0_2 := Aside0.mk hc0_2
  clear hr0_2 hc0_2
  have HB := Aside0.mk (Below.refl w.heap.size w)
  have H : ((spec_l14At.f k a0_0 a0_1 l0_2 a1 a2).bind fun t114 => (if a0_1 = true then (if t114 < 0 then (some ((⟨#[]⟩ : ByteArray), false)) else (if 0 ≤ t114 then (if t114 < (l0_2.length : Int) then ((spec_SumText.f k ((rd_T146 l0_2 t114).f2)).bind fun t117 => (if ((rd_T146 l0_2 t114).f3) = t117 then (some ((rd_T146 l0_2 t114).f2, true)) else (some ((⟨#[]⟩ : ByteArray), false)))) else (none)) else (none))) else (some ((⟨#[]⟩ : ByteArray), false)))) = some (r1, r2) := h
  clear h
  replace H := Option.bind_eq_some_iff.mp H
  obtain ⟨t114, A40, H⟩ := H
  replace H : (if a0_1 = true then (if t114 < 0 then (some ((⟨#[]⟩ : ByteArray), false)) else (if 0 ≤ t114 then (if t114 < (l0_2.length : Int) then ((spec_SumText.f k ((rd_T146 l0_2 t114).f2)).bind fun t117 => (if ((rd_T146 l0_2 t114).f3) = t117 then (some ((rd_T146 l0_2 t114).f2, true)) else (some ((⟨#[]⟩ : ByteArray), false)))) else (none)) else (none))) else (some ((⟨#[]⟩ : ByteArray), false))) = some (r1, r2) := H
  have A4 := Aside0.mk A40
  clear A40
  by_cases c5 : a0_1 = true
  · subst c5
    have H1 : (if t114 < 0 then (some ((⟨#[]⟩ : ByteArray), false)) else (if 0 ≤ t114 then (if t114 < (l0_2.length : Int) then ((spec_SumText.f k ((rd_T146 l0_2 t114).f2)).bind fun t117 => (if ((rd_T146 l0_2 t114).f3) = t117 then (some ((rd_T146 l0_2 t114).f2, true)) else (some ((⟨#[]⟩ : ByteArray), false)))) else (none)) else (none))) = some (r1, r2) := by rw [if_pos rfl] at H; exact H
    clear H
    have H := H1
    clear H1
    by_cases c6 : t114 < 0
    · rw [if_pos c6] at H
      have c6b0 : decide (t114 < 0) = true := decide_eq_true c6
      clear c6
      simp only [Option.some.injEq, Prod.mk.injEq] at H
      obtain ⟨rfl, rfl⟩ := H
      go_enter Try.func56, Try.ntmps56
      go_wp2_with (first | ((with_reducible refine gate_dst (N := 3) rfl ?_); refine BX 3 #[.int .i64 a0_0, .bool true, .slice A0_2 l0_2.length c0_2] 97 ?_; intro gb113 hg w7 hbox hb; have BK113 := Aside0.mk (hbox); have GW113 : Aside0 (w.heap.size ≤ gb113) := WG hg (BB HB.out); have GE113 := GW113; replace HB := Aside0.mk (below_step (BB HB.out) hb); clear hb hbox hg; have hcz8 := blk_cell BK113.out; have hfz8 := blk_frozen BK113.out) | (go_at_call 104; (with_reducible refine (spec_l14At.calls k a0_0 true _ _ l0_2 a1 a2 t114 _ ?side1 ?side2 A4.out).mono ?_); (case side1 => exact CC (Kd.C_below HR0_2.out HB.out)); (case side2 => exact HC0_2.out); rintro e w9 ⟨rfl, hb⟩; replace BK113 := Aside0.mk (KB BK113.out hb); replace HB := Aside0.mk (below_step (BB1 HB.out GE113.out) hb); (try clear hb); (try clear hb2); (try clear hk); (try clear hi); have hcz10 := blk_cell BK113.out; have hfz10 := blk_frozen BK113.out))
      repeat (go_quiet (first | ((with_reducible refine gate_dst (N := 3) rfl ?_); refine BX 3 #[.int .i64 a0_0, .bool true, .slice A0_2 l0_2.length c0_2] 97 ?_; intro gb113 hg w7 hbox hb; have BK113 := Aside0.mk (hbox); have GW113 : Aside0 (w.heap.size ≤ gb113) := WG hg (BB HB.out); have GE113 := GW113; replace HB := Aside0.mk (below_step (BB HB.out) hb); clear hb hbox hg; have hcz8 := blk_cell BK113.out; have hfz8 := blk_frozen BK113.out) | (go_at_call 104; (with_reducible refine (spec_l14At.calls k a0_0 true _ _ l0_2 a1 a2 t114 _ ?side1 ?side2 A4.out).mono ?_); (case side1 => exact CC (Kd.C_below HR0_2.out HB.out)); (case side2 => exact HC0_2.out); rintro e w9 ⟨rfl, hb⟩; replace BK113 := Aside0.mk (KB BK113.out hb); replace HB := Aside0.mk (below_step (BB1 HB.out GE113.out) hb); (try clear hb); (try clear hb2); (try clear hk); (try clear hi); have hcz10 := blk_cell BK113.out; have hfz10 := blk_frozen BK113.out)); try go_wp2_with (first | ((with_reducible refine gate_dst (N := 3) rfl ?_); refine BX 3 #[.int .i64 a0_0, .bool true, .slice A0_2 l0_2.length c0_2] 97 ?_; intro gb113 hg w7 hbox hb; have BK113 := Aside0.mk (hbox); have GW113 : Aside0 (w.heap.size ≤ gb113) := WG hg (BB HB.out); have GE113 := GW113; replace HB := Aside0.mk (below_step (BB HB.out) hb); clear hb hbox hg; have hcz8 := blk_cell BK113.out; have hfz8 := blk_frozen BK113.out) | (go_at_call 104; (with_reducible refine (spec_l14At.calls k a0_0 true _ _ l0_2 a1 a2 t114 _ ?side1 ?side2 A4.out).mono ?_); (case side1 => exact CC (Kd.C_below HR0_2.out HB.out)); (case side2 => exact HC0_2.out); rintro e w9 ⟨rfl, hb⟩; replace BK113 := Aside0.mk (KB BK113.out hb); replace HB := Aside0.mk (below_step (BB1 HB.out GE113.out) hb); (try clear hb); (try clear hb2); (try clear hk); (try clear hi); have hcz10 := blk_cell BK113.out; have hfz10 := blk_frozen BK113.out)))
      go_ret2
      exact ⟨ER, (BB1 HB.out GE113.out)⟩
    · rw [if_neg c6] at H
      have c6b0 : decide (t114 < 0) = false := decide_eq_false c6
      clear c6
      by_cases c11 : 0 ≤ t114
      · rw [if_pos c11] at H
        have c11b0 : decide (0 ≤ t114) = true := decide_eq_true c11
        clear c11
        by_cases c12 : t114 < (l0_2.length : Int)
        · rw [if_pos c12] at H
          have c12b0 : decide (t114 < (l0_2.length : Int)) = true := decide_eq_true c12
          clear c12
          replace H := Option.bind_eq_some_iff.mp H
          obtain ⟨t117, A130, H⟩ := H
          replace H : (if ((rd_T146 l0_2 t114).f3) = t117 then (some ((rd_T146 l0_2 t114).f2, true)) else (some ((⟨#[]⟩ : ByteArray), false))) = some (r1, r2) := H
          have A13 := Aside0.mk A130
          clear A130
          by_cases c14 : ((rd_T146 l0_2 t114).f3) = t117
          · rw [if_pos c14] at H
            have c14b0 : (((rd_T146 l0_2 t114).f3) == t117) = true := beq_iff_eq.mpr c14
            have c14b1 : (((rd_T146 l0_2 t114).f3) != t117) = false := bne_eq_false_iff_eq.mpr c14
            clear c14
            simp only [Option.some.injEq, Prod.mk.injEq] at H
            obtain ⟨rfl, rfl⟩ := H
            go_enter Try.func56, Try.ntmps56
            go_wp2_with (first | ((with_reducible refine gate_dst (N := 3) rfl ?_); refine BX 3 #[.int .i64 a0_0, .bool true, .slice A0_2 l0_2.length c0_2] 97 ?_; intro gb113 hg w15 hbox hb; have BK113 := Aside0.mk (hbox); have GW113 : Aside0 (w.heap.size ≤ gb113) := WG hg (BB HB.out); have GE113 := GW113; replace HB := Aside0.mk (below_step (BB HB.out) hb); clear hb hbox hg; have hcz16 := blk_cell BK113.out; have hfz16 := blk_frozen BK113.out) | (go_at_call 104; (with_reducible refine (spec_l14At.calls k a0_0 true _ _ l0_2 a1 a2 t114 _ ?side1 ?side2 A4.out).mono ?_); (case side1 => exact CC (Kd.C_below HR0_2.out HB.out)); (case side2 => exact HC0_2.out); rintro e w17 ⟨rfl, hb⟩; replace BK113 := Aside0.mk (KB BK113.out hb); replace HB := Aside0.mk (below_step (BB1 HB.out GE113.out) hb); (try clear hb); (try clear hb2); (try clear hk); (try clear hi); have hcz18 := blk_cell BK113.out; have hfz18 := blk_frozen BK113.out; have p115 : 0 ≤ (t114 : Int) := DT; have q115 : t114 < (l0_2.length : Int) := DT; obtain ⟨ad115, e115, hx115_0, hx115_1, hx115_2, hx115_3⟩ := at_T146 HR0_2.out t114 p115 q115; cases e115; replace hx115_0 := (HB.out.cell (World.block_lt_of_cell? w _ hx115_0)).trans hx115_0; replace hx115_1 := (HB.out.cell (World.block_lt_of_cell? w _ hx115_1)).trans hx115_1; replace hx115_2 := (HB.out.cell (World.block_lt_of_cell? w _ hx115_2)).trans hx115_2; replace hx115_3 := (HB.out.cell (World.block_lt_of_cell? w _ hx115_3)).trans hx115_3; replace p115 := eq_true p115; replace q115 := eq_true q115; have p116 : 0 ≤ (t114 : Int) := DT; have q116 : t114 < (l0_2.length : Int) := DT; obtain ⟨ad116, e116, hx116_0, hx116_1, hx116_2, hx116_3⟩ := at_T146 HR0_2.out t114 p116 q116; obtain rfl : ad115 = ad116 := (by injection e116); replace hx116_0 := (HB.out.cell (World.block_lt_of_cell? w _ hx116_0)).trans hx116_0; replace hx116_1 := (HB.out.cell (World.block_lt_of_cell? w _ hx116_1)).trans hx116_1; replace hx116_2 := (HB.out.cell (World.block_lt_of_cell? w _ hx116_2)).trans hx116_2; replace hx116_3 := (HB.out.cell (World.block_lt_of_cell? w _ hx116_3)).trans hx116_3; replace p116 := eq_true p116; replace q116 := eq_true q116) | (go_at_call 105; (with_reducible refine (spec_SumText.calls k ((rd_T146 l0_2 t114).f2) t117 _ A13.out).mono ?_); rintro e w' ⟨rfl, ⟨nd, rfl⟩⟩; (try first | exact ⟨rfl, _, World.drewN_drewN _ _ _⟩ | exact ⟨rfl, _, Eq.trans (World.drewN_drewN _ _ _) (congrArg (World.drewN _) (Nat.add_assoc _ _ _))⟩); have p118 : 0 ≤ (t114 : Int) := DT; have q118 : t114 < (l0_2.length : Int) := DT; obtain ⟨ad118, e118, hx118_0, hx118_1, hx118_2, hx118_3⟩ := at_T146 HR0_2.out t114 p118 q118; obtain rfl : ad115 = ad118 := (by injection e118); replace hx118_0 := (HB.out.cell (World.block_lt_of_cell? w _ hx118_0)).trans hx118_0; replace hx118_1 := (HB.out.cell (World.block_lt_of_cell? w _ hx118_1)).trans hx118_1; replace hx118_2 := (HB.out.cell (World.block_lt_of_cell? w _ hx118_2)).trans hx118_2; replace hx118_3 := (HB.out.cell (World.block_lt_of_cell? w _ hx118_3)).trans hx118_3; replace p118 := eq_true p118; replace q118 := eq_true q118))
            repeat (go_quiet (first | ((with_reducible refine gate_dst (N := 3) rfl ?_); refine BX 3 #[.int .i64 a0_0, .bool true, .slice A0_2 l0_2.length c0_2] 97 ?_; intro gb113 hg w15 hbox hb; have BK113 := Aside0.mk (hbox); have GW113 : Aside0 (w.heap.size ≤ gb113) := WG hg (BB HB.out); have GE113 := GW113; replace HB := Aside0.mk (below_step (BB HB.out) hb); clear hb hbox hg; have hcz16 := blk_cell BK113.out; have hfz16 := blk_frozen BK113.out) | (go_at_call 104; (with_reducible refine (spec_l14At.calls k a0_0 true _ _ l0_2 a1 a2 t114 _ ?side1 ?side2 A4.out).mono ?_); (case side1 => exact CC (Kd.C_below HR0_2.out HB.out)); (case side2 => exact HC0_2.out); rintro e w17 ⟨rfl, hb⟩; replace BK113 := Aside0.mk (KB BK113.out hb); replace HB := Aside0.mk (below_step (BB1 HB.out GE113.out) hb); (try clear hb); (try clear hb2); (try clear hk); (try clear hi); have hcz18 := blk_cell BK113.out; have hfz18 := blk_frozen BK113.out; have p115 : 0 ≤ (t114 : Int) := DT; have q115 : t114 < (l0_2.length : Int) := DT; obtain ⟨ad115, e115, hx115_0, hx115_1, hx115_2, hx115_3⟩ := at_T146 HR0_2.out t114 p115 q115; cases e115; replace hx115_0 := (HB.out.cell (World.block_lt_of_cell? w _ hx115_0)).trans hx115_0; replace hx115_1 := (HB.out.cell (World.block_lt_of_cell? w _ hx115_1)).trans hx115_1; replace hx115_2 := (HB.out.cell (World.block_lt_of_cell? w _ hx115_2)).trans hx115_2; replace hx115_3 := (HB.out.cell (World.block_lt_of_cell? w _ hx115_3)).trans hx115_3; replace p115 := eq_true p115; replace q115 := eq_true q115; have p116 : 0 ≤ (t114 : Int) := DT; have q116 : t114 < (l0_2.length : Int) := DT; obtain ⟨ad116, e116, hx116_0, hx116_1, hx116_2, hx116_3⟩ := at_T146 HR0_2.out t114 p116 q116; obtain rfl : ad115 = ad116 := (by injection e116); replace hx116_0 := (HB.out.cell (World.block_lt_of_cell? w _ hx116_0)).trans hx116_0; replace hx116_1 := (HB.out.cell (World.block_lt_of_cell? w _ hx116_1)).trans hx116_1; replace hx116_2 := (HB.out.cell (World.block_lt_of_cell? w _ hx116_2)).trans hx116_2; replace hx116_3 := (HB.out.cell (World.block_lt_of_cell? w _ hx116_3)).trans hx116_3; replace p116 := eq_true p116; replace q116 := eq_true q116) | (go_at_call 105; (with_reducible refine (spec_SumText.calls k ((rd_T146 l0_2 t114).f2) t117 _ A13.out).mono ?_); rintro e w' ⟨rfl, ⟨nd, rfl⟩⟩; (try first | exact ⟨rfl, _, World.drewN_drewN _ _ _⟩ | exact ⟨rfl, _, Eq.trans (World.drewN_drewN _ _ _) (congrArg (World.drewN _) (Nat.add_assoc _ _ _))⟩); have p118 : 0 ≤ (t114 : Int) := DT; have q118 : t114 < (l0_2.length : Int) := DT; obtain ⟨ad118, e118, hx118_0, hx118_1, hx118_2, hx118_3⟩ := at_T146 HR0_2.out t114 p118 q118; obtain rfl : ad115 = ad118 := (by injection e118); replace hx118_0 := (HB.out.cell (World.block_lt_of_cell? w _ hx118_0)).trans hx118_0; replace hx118_1 := (HB.out.cell (World.block_lt_of_cell? w _ hx118_1)).trans hx118_1; replace hx118_2 := (HB.out.cell (World.block_lt_of_cell? w _ hx118_2)).trans hx118_2; replace hx118_3 := (HB.out.cell (World.block_lt_of_cell? w _ hx118_3)).trans hx118_3; replace p118 := eq_true p118; replace q118 := eq_true q118)); try go_wp2_with (first | ((with_reducible refine gate_dst (N := 3) rfl ?_); refine BX 3 #[.int .i64 a0_0, .bool true, .slice A0_2 l0_2.length c0_2] 97 ?_; intro gb113 hg w15 hbox hb; have BK113 := Aside0.mk (hbox); have GW113 : Aside0 (w.heap.size ≤ gb113) := WG hg (BB HB.out); have GE113 := GW113; replace HB := Aside0.mk (below_step (BB HB.out) hb); clear hb hbox hg; have hcz16 := blk_cell BK113.out; have hfz16 := blk_frozen BK113.out) | (go_at_call 104; (with_reducible refine (spec_l14At.calls k a0_0 true _ _ l0_2 a1 a2 t114 _ ?side1 ?side2 A4.out).mono ?_); (case side1 => exact CC (Kd.C_below HR0_2.out HB.out)); (case side2 => exact HC0_2.out); rintro e w17 ⟨rfl, hb⟩; replace BK113 := Aside0.mk (KB BK113.out hb); replace HB := Aside0.mk (below_step (BB1 HB.out GE113.out) hb); (try clear hb); (try clear hb2); (try clear hk); (try clear hi); have hcz18 := blk_cell BK113.out; have hfz18 := blk_frozen BK113.out; have p115 : 0 ≤ (t114 : Int) := DT; have q115 : t114 < (l0_2.length : Int) := DT; obtain ⟨ad115, e115, hx115_0, hx115_1, hx115_2, hx115_3⟩ := at_T146 HR0_2.out t114 p115 q115; cases e115; replace hx115_0 := (HB.out.cell (World.block_lt_of_cell? w _ hx115_0)).trans hx115_0; replace hx115_1 := (HB.out.cell (World.block_lt_of_cell? w _ hx115_1)).trans hx115_1; replace hx115_2 := (HB.out.cell (World.block_lt_of_cell? w _ hx115_2)).trans hx115_2; replace hx115_3 := (HB.out.cell (World.block_lt_of_cell? w _ hx115_3)).trans hx115_3; replace p115 := eq_true p115; replace q115 := eq_true q115; have p116 : 0 ≤ (t114 : Int) := DT; have q116 : t114 < (l0_2.length : Int) := DT; obtain ⟨ad116, e116, hx116_0, hx116_1, hx116_2, hx116_3⟩ := at_T146 HR0_2.out t114 p116 q116; obtain rfl : ad115 = ad116 := (by injection e116); replace hx116_0 := (HB.out.cell (World.block_lt_of_cell? w _ hx116_0)).trans hx116_0; replace hx116_1 := (HB.out.cell (World.block_lt_of_cell? w _ hx116_1)).trans hx116_1; replace hx116_2 := (HB.out.cell (World.block_lt_of_cell? w _ hx116_2)).trans hx116_2; replace hx116_3 := (HB.out.cell (World.block_lt_of_cell? w _ hx116_3)).trans hx116_3; replace p116 := eq_true p116; replace q116 := eq_true q116) | (go_at_call 105; (with_reducible refine (spec_SumText.calls k ((rd_T146 l0_2 t114).f2) t117 _ A13.out).mono ?_); rintro e w' ⟨rfl, ⟨nd, rfl⟩⟩; (try first | exact ⟨rfl, _, World.drewN_drewN _ _ _⟩ | exact ⟨rfl, _, Eq.trans (World.drewN_drewN _ _ _) (congrArg (World.drewN _) (Nat.add_assoc _ _ _))⟩); have p118 : 0 ≤ (t114 : Int) := DT; have q118 : t114 < (l0_2.length : Int) := DT; obtain ⟨ad118, e118, hx118_0, hx118_1, hx118_2, hx118_3⟩ := at_T146 HR0_2.out t114 p118 q118; obtain rfl : ad115 = ad118 := (by injection e118); replace hx118_0 := (HB.out.cell (World.block_lt_of_cell? w _ hx118_0)).trans hx118_0; replace hx118_1 := (HB.out.cell (World.block_lt_of_cell? w _ hx118_1)).trans hx118_1; replace hx118_2 := (HB.out.cell (World.block_lt_of_cell? w _ hx118_2)).trans hx118_2; replace hx118_3 := (HB.out.cell (World.block_lt_of_cell? w _ hx118_3)).trans hx118_3; replace p118 := eq_true p118; replace q118 := eq_true q118)))
            go_ret2
            exact ⟨ER, (BB1 HB.out GE113.out)⟩
          · rw [if_neg c14] at H
            have c14b0 : (((rd_T146 l0_2 t114).f3) == t117) = false := beq_eq_false_iff_ne.mpr c14
            have c14b1 : (((rd_T146 l0_2 t114).f3) != t117) = true := bne_iff_ne.mpr c14
            simp only [Option.some.injEq, Prod.mk.injEq] at H
            obtain ⟨rfl, rfl⟩ := H
            go_enter Try.func56, Try.ntmps56
            go_wp2_with (first | ((with_reducible refine gate_dst (N := 3) rfl ?_); refine BX 3 #[.int .i64 a0_0, .bool true, .slice A0_2 l0_2.length c0_2] 97 ?_; intro gb113 hg w19 hbox hb; have BK113 := Aside0.mk (hbox); have GW113 : Aside0 (w.heap.size ≤ gb113) := WG hg (BB HB.out); have GE113 := GW113; replace HB := Aside0.mk (below_step (BB HB.out) hb); clear hb hbox hg; have hcz20 := blk_cell BK113.out; have hfz20 := blk_frozen BK113.out) | (go_at_call 104; (with_reducible refine (spec_l14At.calls k a0_0 true _ _ l0_2 a1 a2 t114 _ ?side1 ?side2 A4.out).mono ?_); (case side1 => exact CC (Kd.C_below HR0_2.out HB.out)); (case side2 => exact HC0_2.out); rintro e w21 ⟨rfl, hb⟩; replace BK113 := Aside0.mk (KB BK113.out hb); replace HB := Aside0.mk (below_step (BB1 HB.out GE113.out) hb); (try clear hb); (try clear hb2); (try clear hk); (try clear hi); have hcz22 := blk_cell BK113.out; have hfz22 := blk_frozen BK113.out; have p115 : 0 ≤ (t114 : Int) := DT; have q115 : t114 < (l0_2.length : Int) := DT; obtain ⟨ad115, e115, hx115_0, hx115_1, hx115_2, hx115_3⟩ := at_T146 HR0_2.out t114 p115 q115; cases e115; replace hx115_0 := (HB.out.cell (World.block_lt_of_cell? w _ hx115_0)).trans hx115_0; replace hx115_1 := (HB.out.cell (World.block_lt_of_cell? w _ hx115_1)).trans hx115_1; replace hx115_2 := (HB.out.cell (World.block_lt_of_cell? w _ hx115_2)).trans hx115_2; replace hx115_3 := (HB.out.cell (World.block_lt_of_cell? w _ hx115_3)).trans hx115_3; replace p115 := eq_true p115; replace q115 := eq_true q115; have p116 : 0 ≤ (t114 : Int) := DT; have q116 : t114 < (l0_2.length : Int) := DT; obtain ⟨ad116, e116, hx116_0, hx116_1, hx116_2, hx116_3⟩ := at_T146 HR0_2.out t114 p116 q116; obtain rfl : ad115 = ad116 := (by injection e116); replace hx116_0 := (HB.out.cell (World.block_lt_of_cell? w _ hx116_0)).trans hx116_0; replace hx116_1 := (HB.out.cell (World.block_lt_of_cell? w _ hx116_1)).trans hx116_1; replace hx116_2 := (HB.out.cell (World.block_lt_of_cell? w _ hx116_2)).trans hx116_2; replace hx116_3 := (HB.out.cell (World.block_lt_of_cell? w _ hx116_3)).trans hx116_3; replace p116 := eq_true p116; replace q116 := eq_true q116) | (go_at_call 105; (with_reducible refine (spec_SumText.calls k ((rd_T146 l0_2 t114).f2) t117 _ A13.out).mono ?_); rintro e w' ⟨rfl, ⟨nd, rfl⟩⟩; (try first | exact ⟨rfl, _, World.drewN_drewN _ _ _⟩ | exact ⟨rfl, _, Eq.trans (World.drewN_drewN _ _ _) (congrArg (World.drewN _) (Nat.add_assoc _ _ _))⟩)))
            repeat (go_quiet (first | ((with_reducible refine gate_dst (N := 3) rfl ?_); refine BX 3 #[.int .i64 a0_0, .bool true, .slice A0_2 l0_2.length c0_2] 97 ?_; intro gb113 hg w19 hbox hb; have BK113 := Aside0.mk (hbox); have GW113 : Aside0 (w.heap.size ≤ gb113) := WG hg (BB HB.out); have GE113 := GW113; replace HB := Aside0.mk (below_step (BB HB.out) hb); clear hb hbox hg; have hcz20 := blk_cell BK113.out; have hfz20 := blk_frozen BK113.out) | (go_at_call 104; (with_reducible refine (spec_l14At.calls k a0_0 true _ _ l0_2 a1 a2 t114 _ ?side1 ?side2 A4.out).mono ?_); (case side1 => exact CC (Kd.C_below HR0_2.out HB.out)); (case side2 => exact HC0_2.out); rintro e w21 ⟨rfl, hb⟩; replace BK113 := Aside0.mk (KB BK113.out hb); replace HB := Aside0.mk (below_step (BB1 HB.out GE113.out) hb); (try clear hb); (try clear hb2); (try clear hk); (try clear hi); have hcz22 := blk_cell BK113.out; have hfz22 := blk_frozen BK113.out; have p115 : 0 ≤ (t114 : Int) := DT; have q115 : t114 < (l0_2.length : Int) := DT; obtain ⟨ad115, e115, hx115_0, hx115_1, hx115_2, hx115_3⟩ := at_T146 HR0_2.out t114 p115 q115; cases e115; replace hx115_0 := (HB.out.cell (World.block_lt_of_cell? w _ hx115_0)).trans hx115_0; replace hx115_1 := (HB.out.cell (World.block_lt_of_cell? w _ hx115_1)).trans hx115_1; replace hx115_2 := (HB.out.cell (World.block_lt_of_cell? w _ hx115_2)).trans hx115_2; replace hx115_3 := (HB.out.cell (World.block_lt_of_cell? w _ hx115_3)).trans hx115_3; replace p115 := eq_true p115; replace q115 := eq_true q115; have p116 : 0 ≤ (t114 : Int) := DT; have q116 : t114 < (l0_2.length : Int) := DT; obtain ⟨ad116, e116, hx116_0, hx116_1, hx116_2, hx116_3⟩ := at_T146 HR0_2.out t114 p116 q116; obtain rfl : ad115 = ad116 := (by injection e116); replace hx116_0 := (HB.out.cell (World.block_lt_of_cell? w _ hx116_0)).trans hx116_0; replace hx116_1 := (HB.out.cell (World.block_lt_of_cell? w _ hx116_1)).trans hx116_1; replace hx116_2 := (HB.out.cell (World.block_lt_of_cell? w _ hx116_2)).trans hx116_2; replace hx116_3 := (HB.out.cell (World.block_lt_of_cell? w _ hx116_3)).trans hx116_3; replace p116 := eq_true p116; replace q116 := eq_true q116) | (go_at_call 105; (with_reducible refine (spec_SumText.calls k ((rd_T146 l0_2 t114).f2) t117 _ A13.out).mono ?_); rintro e w' ⟨rfl, ⟨nd, rfl⟩⟩; (try first | exact ⟨rfl, _, World.drewN_drewN _ _ _⟩ | exact ⟨rfl, _, Eq.trans (World.drewN_drewN _ _ _) (congrArg (World.drewN _) (Nat.add_assoc _ _ _))⟩))); try go_wp2_with (first | ((with_reducible refine gate_dst (N := 3) rfl ?_); refine BX 3 #[.int .i64 a0_0, .bool true, .slice A0_2 l0_2.length c0_2] 97 ?_; intro gb113 hg w19 hbox hb; have BK113 := Aside0.mk (hbox); have GW113 : Aside0 (w.heap.size ≤ gb113) := WG hg (BB HB.out); have GE113 := GW113; replace HB := Aside0.mk (below_step (BB HB.out) hb); clear hb hbox hg; have hcz20 := blk_cell BK113.out; have hfz20 := blk_frozen BK113.out) | (go_at_call 104; (with_reducible refine (spec_l14At.calls k a0_0 true _ _ l0_2 a1 a2 t114 _ ?side1 ?side2 A4.out).mono ?_); (case side1 => exact CC (Kd.C_below HR0_2.out HB.out)); (case side2 => exact HC0_2.out); rintro e w21 ⟨rfl, hb⟩; replace BK113 := Aside0.mk (KB BK113.out hb); replace HB := Aside0.mk (below_step (BB1 HB.out GE113.out) hb); (try clear hb); (try clear hb2); (try clear hk); (try clear hi); have hcz22 := blk_cell BK113.out; have hfz22 := blk_frozen BK113.out; have p115 : 0 ≤ (t114 : Int) := DT; have q115 : t114 < (l0_2.length : Int) := DT; obtain ⟨ad115, e115, hx115_0, hx115_1, hx115_2, hx115_3⟩ := at_T146 HR0_2.out t114 p115 q115; cases e115; replace hx115_0 := (HB.out.cell (World.block_lt_of_cell? w _ hx115_0)).trans hx115_0; replace hx115_1 := (HB.out.cell (World.block_lt_of_cell? w _ hx115_1)).trans hx115_1; replace hx115_2 := (HB.out.cell (World.block_lt_of_cell? w _ hx115_2)).trans hx115_2; replace hx115_3 := (HB.out.cell (World.block_lt_of_cell? w _ hx115_3)).trans hx115_3; replace p115 := eq_true p115; replace q115 := eq_true q115; have p116 : 0 ≤ (t114 : Int) := DT; have q116 : t114 < (l0_2.length : Int) := DT; obtain ⟨ad116, e116, hx116_0, hx116_1, hx116_2, hx116_3⟩ := at_T146 HR0_2.out t114 p116 q116; obtain rfl : ad115 = ad116 := (by injection e116); replace hx116_0 := (HB.out.cell (World.block_lt_of_cell? w _ hx116_0)).trans hx116_0; replace hx116_1 := (HB.out.cell (World.block_lt_of_cell? w _ hx116_1)).trans hx116_1; replace hx116_2 := (HB.out.cell (World.block_lt_of_cell? w _ hx116_2)).trans hx116_2; replace hx116_3 := (HB.out.cell (World.block_lt_of_cell? w _ hx116_3)).trans hx116_3; replace p116 := eq_true p116; replace q116 := eq_true q116) | (go_at_call 105; (with_reducible refine (spec_SumText.calls k ((rd_T146 l0_2 t114).f2) t117 _ A13.out).mono ?_); rintro e w' ⟨rfl, ⟨nd, rfl⟩⟩; (try first | exact ⟨rfl, _, World.drewN_drewN _ _ _⟩ | exact ⟨rfl, _, Eq.trans (World.drewN_drewN _ _ _) (congrArg (World.drewN _) (Nat.add_assoc _ _ _))⟩))))
            go_ret2
            exact ⟨ER, (BB1 HB.out GE113.out)⟩
        · rw [if_neg c12] at H
          exact absurd H (by simp)
      · rw [if_neg c11] at H
        exact absurd H (by simp)
  · replace c5 := Bool.eq_false_iff.mpr c5
    subst c5
    have H1 : (some ((⟨#[]⟩ : ByteArray), false)) = some (r1, r2) := by rw [if_neg (show ¬ (false = true) by decide)] at H; exact H
    clear H
    have H := H1
    clear H1
    simp only [Option.some.injEq, Prod.mk.injEq] at H
    obtain ⟨rfl, rfl⟩ := H
    go_enter Try.func56, Try.ntmps56
    go_wp2_with (first | ((with_reducible refine gate_dst (N := 3) rfl ?_); refine BX 3 #[.int .i64 a0_0, .bool false, .slice A0_2 l0_2.length c0_2] 97 ?_; intro gb113 hg w23 hbox hb; have BK113 := Aside0.mk (hbox); have GW113 : Aside0 (w.heap.size ≤ gb113) := WG hg (BB HB.out); have GE113 := GW113; replace HB := Aside0.mk (below_step (BB HB.out) hb); clear hb hbox hg; have hcz24 := blk_cell BK113.out; have hfz24 := blk_frozen BK113.out) | (go_at_call 104; (with_reducible refine (spec_l14At.calls k a0_0 false _ _ l0_2 a1 a2 t114 _ ?side1 ?side2 A4.out).mono ?_); (case side1 => exact CC (Kd.C_below HR0_2.out HB.out)); (case side2 => exact HC0_2.out); rintro e w25 ⟨rfl, hb⟩; replace BK113 := Aside0.mk (KB BK113.out hb); replace HB := Aside0.mk (below_step (BB1 HB.out GE113.out) hb); (try clear hb); (try clear hb2); (try clear hk); (try clear hi); have hcz26 := blk_cell BK113.out; have hfz26 := blk_frozen BK113.out))
    repeat (go_quiet (first | ((with_reducible refine gate_dst (N := 3) rfl ?_); refine BX 3 #[.int .i64 a0_0, .bool false, .slice A0_2 l0_2.length c0_2] 97 ?_; intro gb113 hg w23 hbox hb; have BK113 := Aside0.mk (hbox); have GW113 : Aside0 (w.heap.size ≤ gb113) := WG hg (BB HB.out); have GE113 := GW113; replace HB := Aside0.mk (below_step (BB HB.out) hb); clear hb hbox hg; have hcz24 := blk_cell BK113.out; have hfz24 := blk_frozen BK113.out) | (go_at_call 104; (with_reducible refine (spec_l14At.calls k a0_0 false _ _ l0_2 a1 a2 t114 _ ?side1 ?side2 A4.out).mono ?_); (case side1 => exact CC (Kd.C_below HR0_2.out HB.out)); (case side2 => exact HC0_2.out); rintro e w25 ⟨rfl, hb⟩; replace BK113 := Aside0.mk (KB BK113.out hb); replace HB := Aside0.mk (below_step (BB1 HB.out GE113.out) hb); (try clear hb); (try clear hb2); (try clear hk); (try clear hi); have hcz26 := blk_cell BK113.out; have hfz26 := blk_frozen BK113.out)); try go_wp2_with (first | ((with_reducible refine gate_dst (N := 3) rfl ?_); refine BX 3 #[.int .i64 a0_0, .bool false, .slice A0_2 l0_2.length c0_2] 97 ?_; intro gb113 hg w23 hbox hb; have BK113 := Aside0.mk (hbox); have GW113 : Aside0 (w.heap.size ≤ gb113) := WG hg (BB HB.out); have GE113 := GW113; replace HB := Aside0.mk (below_step (BB HB.out) hb); clear hb hbox hg; have hcz24 := blk_cell BK113.out; have hfz24 := blk_frozen BK113.out) | (go_at_call 104; (with_reducible refine (spec_l14At.calls k a0_0 false _ _ l0_2 a1 a2 t114 _ ?side1 ?side2 A4.out).mono ?_); (case side1 => exact CC (Kd.C_below HR0_2.out HB.out)); (case side2 => exact HC0_2.out); rintro e w25 ⟨rfl, hb⟩; replace BK113 := Aside0.mk (KB BK113.out hb); replace HB := Aside0.mk (below_step (BB1 HB.out GE113.out) hb); (try clear hb); (try clear hb2); (try clear hk); (try clear hi); have hcz26 := blk_cell BK113.out; have hfz26 := blk_frozen BK113.out)))
    go_ret2
    exact ⟨ER, (BB1 HB.out GE113.out)⟩

end Go.Proofs.Ytfgnaneajonapaa.Pr

/- Printed out of the translation by this session's pr.py over the kit's print. Lean checks it. -/
namespace Go.Proofs.Ytfgnaneajonapaa.Pr
open Go.RowKit Go.Proofs.YtfgnaneajonapaaW.PrintWords Go.Proofs.YtfgnaneajonapaaW.PrintLast Go.Proofs.YtfgnaneajonapaaW.PrintMore
attribute [local go_sem] max2_int min2_int max_two min_two max_three min_three max_four min_four
set_option linter.unusedVariables false
set_option linter.unusedSimpArgs false

/-! ### spec_UnitsOf: function 16 -/
mutual
def spec_UnitsOf.l0 : Nat → List (S97) → Int → Int → Int → List ByteArray → List Bool → Int → Option (List ByteArray × List Bool)
  | 0, _, _, _, _, _, _, _ => none
  | k + 1, x0, x2, x8, x9, x11, x12, x13 => if x13 < (wrap64 (x8 + x9)) then (spec_UnitsOf.l1 k x0 x2 x8 x9 x11 x12 x13 0) else (some (x11, x12))
def spec_UnitsOf.l1 : Nat → List (S97) → Int → Int → Int → List ByteArray → List Bool → Int → Int → Option (List ByteArray × List Bool)
  | 0, _, _, _, _, _, _, _, _ => none
  | k + 1, x0, x2, x8, x9, x11, x12, x13, x14 => if x14 < (x0.length : Int) then (if 0 ≤ x13 then (if x13 < (x12.length : Int) then (spec_UnitsOf.j2 k x0 x2 x8 x9 x11 x12 x13 x14 (!(rdOf false x12 x13))) else (none)) else (none)) else (spec_UnitsOf.j2 k x0 x2 x8 x9 x11 x12 x13 x14 false)
def spec_UnitsOf.j2 : Nat → List (S97) → Int → Int → Int → List ByteArray → List Bool → Int → Int → Bool → Option (List ByteArray × List Bool)
  | 0, _, _, _, _, _, _, _, _, _ => none
  | k + 1, x0, x2, x8, x9, x11, x12, x13, x14, x48 => if x48 = true then (if 0 ≤ x14 then (if x14 < (x0.length : Int) then ((spec_GetUnit.f k ((rd_T97 x0 x14).f0) ((rd_T97 x0 x14).f1) ((rd_T97 x0 x14).f2) x2 x13).bind fun bt130 => (if bt130.2 = true then (if 0 ≤ x13 then (if x13 < (x11.length : Int) then (if x13 < (x12.length : Int) then (spec_UnitsOf.l1 k x0 x2 x8 x9 (x11.set (x13 : Int).toNat bt130.1) (x12.set (x13 : Int).toNat true) x13 (wrap64 (x14 + 1))) else (none)) else (none)) else (none)) else (spec_UnitsOf.l1 k x0 x2 x8 x9 x11 x12 x13 (wrap64 (x14 + 1))))) else (none)) else (none)) else (spec_UnitsOf.l0 k x0 x2 x8 x9 x11 x12 (wrap64 (x13 + 1)))
end
def spec_UnitsOf.f (k : Nat) (l0 : List (S97)) (a1 : Int) (a2 : Int) : Option (List ByteArray × List Bool) := (spec_SchemaOf.f a1).bind fun bt119 => (if 0 ≤ (wrap64 (bt119.1 + bt119.2.1)) then (if (wrap64 (bt119.1 + bt119.2.1) : Int).toNat ≤ 17592186044416 then (if (wrap64 (bt119.1 + bt119.2.1) : Int).toNat ≤ 281474976710656 then (spec_UnitsOf.l0 k l0 a2 bt119.1 bt119.2.1 (List.replicate (wrap64 (bt119.1 + bt119.2.1) : Int).toNat (⟨#[]⟩ : ByteArray)) (List.replicate (wrap64 (bt119.1 + bt119.2.1) : Int).toNat false) 0) else (none)) else (none)) else (none))
set_option maxHeartbeats 8000000 in
set_option maxRecDepth 100000 in
theorem spec_UnitsOf.calls (k : Nat) (A0 : Option Addr) (c0 : Nat) (l0 : List (S97)) (a1 : Int) (a2 : Int) (r1 : List ByteArray) (r2 : List Bool) (w : World) (hr0 : Kd.C k97 w A0 l0.length l0) (hc0 : l0.length ≤ c0) (h : spec_UnitsOf.f k l0 a1 a2 = some (r1, r2)) :
    Calls Try.prog 16 #[.slice A0 l0.length c0, .int .i64 a1, .int .i64 a2] w fun e w' => ∃ v0_ v1_ : Value, e = .returned (.tuple #[v0_, v1_]) ∧ Kd.R Kd.string 9 w' w.heap.size (fun _ => True) v0_ r1 ∧ Kd.R Kd.bool 4 w' w.heap.size (fun _ => True) v1_ r2 ∧ Below w.heap.size w w' := by
  have hu97 := Try.underlying97
  have HR0 := Aside0.mk hr0
  have HC0 := Aside0.mk hc0
  clear hr0 hc0
  have HB := Aside0.mk (Below.refl w.heap.size w)
  have H : ((spec_SchemaOf.f a1).bind fun bt119 => (if 0 ≤ (wrap64 (bt119.1 + bt119.2.1)) then (if (wrap64 (bt119.1 + bt119.2.1) : Int).toNat ≤ 17592186044416 then (if (wrap64 (bt119.1 + bt119.2.1) : Int).toNat ≤ 281474976710656 then (spec_UnitsOf.l0 k l0 a2 bt119.1 bt119.2.1 (List.replicate (wrap64 (bt119.1 + bt119.2.1) : Int).toNat (⟨#[]⟩ : ByteArray)) (List.replicate (wrap64 (bt119.1 + bt119.2.1) : Int).toNat false) 0) else (none)) else (none)) else (none))) = some (r1, r2) := h
  clear h
  replace H := Option.bind_eq_some_iff.mp H
  obtain ⟨⟨t119, t120, t121⟩, A40, H⟩ := H
  replace H : (if 0 ≤ (wrap64 (t119 + t120)) then (if (wrap64 (t119 + t120) : Int).toNat ≤ 17592186044416 then (if (wrap64 (t119 + t120) : Int).toNat ≤ 281474976710656 then (spec_UnitsOf.l0 k l0 a2 t119 t120 (List.replicate (wrap64 (t119 + t120) : Int).toNat (⟨#[]⟩ : ByteArray)) (List.replicate (wrap64 (t119 + t120) : Int).toNat false) 0) else (none)) else (none)) else (none)) = some (r1, r2) := H
  have A4 := Aside0.mk A40
  clear A40
  obtain ⟨ji5, hji5⟩ : ∃ j_ : Int, (wrap64 (t119 + t120)) = j_ := ⟨_, rfl⟩
  replace H : (if 0 ≤ (ji5) then (if (ji5 : Int).toNat ≤ 17592186044416 then (if (ji5 : Int).toNat ≤ 281474976710656 then (spec_UnitsOf.l0 k l0 a2 t119 t120 (List.replicate (ji5 : Int).toNat (⟨#[]⟩ : ByteArray)) (List.replicate (ji5 : Int).toNat false) 0) else (none)) else (none)) else (none)) = some (r1, r2) := by first | (rw [hji5] at H; exact H) | (simp only [hji5] at H ⊢; exact H)
  (try rw [hji5] at A4)
  have hji5w : (IntKind.i64.wrap (t119 + t120)) = ji5 := (i64_w _).trans hji5
  by_cases c6 : 0 ≤ (ji5)
  · rw [if_pos c6] at H
    have c6b0 := eq_true c6
    have c6b1 : decide (0 ≤ (ji5)) = true := decide_eq_true c6
    clear c6
    by_cases c7 : (ji5 : Int).toNat ≤ 17592186044416
    · rw [if_pos c7] at H
      have c7b0 := eq_true c7
      have c7b1 : decide ((ji5 : Int).toNat ≤ 17592186044416) = true := decide_eq_true c7
      clear c7
      obtain ⟨y122, hy122⟩ : ∃ y_ : List ByteArray, y_ = (List.replicate (ji5 : Int).toNat (⟨#[]⟩ : ByteArray)) := ⟨_, rfl⟩
      replace H : (if (ji5 : Int).toNat ≤ 281474976710656 then (spec_UnitsOf.l0 k l0 a2 t119 t120 y122 (List.replicate (ji5 : Int).toNat false) 0) else (none)) = some (r1, r2) := by first | (rw [hy122]; with_reducible exact H) | (have H2_ := (Option.bind_some _ _).symm.trans H; rw [hy122]; with_reducible exact H2_) | (have H2_ := (Option.bind_some _ _).symm.trans H; with_reducible exact H2_) | with_reducible exact H | (rw [hy122]; exact H) | exact H
      have Ny122 := Aside0.mk hy122
      clear hy122
      by_cases c8 : (ji5 : Int).toNat ≤ 281474976710656
      · rw [if_pos c8] at H
        have c8b0 := eq_true c8
        have c8b1 : decide ((ji5 : Int).toNat ≤ 281474976710656) = true := decide_eq_true c8
        clear c8
        obtain ⟨y125, hy125⟩ : ∃ y_ : List Bool, y_ = (List.replicate (ji5 : Int).toNat false) := ⟨_, rfl⟩
        replace H : (spec_UnitsOf.l0 k l0 a2 t119 t120 y122 y125 0) = some (r1, r2) := by first | (rw [hy125]; with_reducible exact H) | (have H2_ := (Option.bind_some _ _).symm.trans H; rw [hy125]; with_reducible exact H2_) | (have H2_ := (Option.bind_some _ _).symm.trans H; with_reducible exact H2_) | with_reducible exact H | (rw [hy125]; exact H) | exact H
        have Ny125 := Aside0.mk hy125
        clear hy125
        have H' := Aside0.mk H
        clear H
        go_enter Try.func16, Try.ntmps16
        go_wp2_with (first | ((with_reducible refine gate_callee (f := 55) rfl ?_); refine GL (some 19) rfl rfl Try.func55 #[.int .i64 a1] rfl ?_; (with_reducible refine (spec_SchemaOf.calls a1 t119 t120 t121 _ A4.out).mono ?_); rintro e w' ⟨rfl, ⟨nd, rfl⟩⟩; refine ⟨_, rfl, ?_⟩) | ((with_reducible refine gate_dst (N := 26) rfl ?_); refine Kd.R_make Kd.string _ 9 rfl (N := 26) rfl 29 _ _ rfl ji5 rfl rfl Try.underlying29 (.string ⟨#[]⟩) 16 info9 rfl (by decide) (by omega) (⟨#[]⟩ : ByteArray) (ok := fun _ => True) (okp := fun _ => True) rfl (fun _ hk => hk) trivial DT (Nat.le_trans (Nat.mul_le_mul_right _ (DT : ji5.toNat ≤ 17592186044416)) (by omega)) (Below.refl _ _) (Nat.le_refl _) ?_; intro v123 w9 ho10 hb hg_ hnew_; clear hg_ hnew_; (first | rw [← Ny122.out] at ho10 | (simp only [Int.reduceToNat] at ho10; rw [← Ny122.out] at ho10)); have HO124 := Aside0.mk (Kd.R_lower ho10 (below_size (BB HB.out))); replace HB := Aside0.mk (below_step (BB HB.out) hb); clear hb ho10) | ((with_reducible refine gate_dst (N := 30) rfl ?_); refine Kd.R_make Kd.bool _ 4 rfl (N := 30) rfl 30 _ _ rfl ji5 rfl rfl Try.underlying30 (.bool false) 1 info4 rfl (by decide) (by omega) false (ok := fun _ => True) (okp := fun _ => True) rfl (fun _ hk => hk) trivial DT (Nat.le_trans (Nat.mul_le_mul_right _ (DT : ji5.toNat ≤ 281474976710656)) (by omega)) (Below.refl _ _) (Nat.le_refl _) ?_; intro v126 w11 ho12 hb hg_ hnew_; clear hg_ hnew_; (first | rw [← Ny125.out] at ho12 | (simp only [Int.reduceToNat] at ho12; rw [← Ny125.out] at ho12)); have HO127 := Aside0.mk (Kd.R_lower ho12 (below_size (BB HB.out))); replace HO124 := Aside0.mk (Kd.R_below (RR HO124.out) hb); replace HB := Aside0.mk (below_step (BB HB.out) hb); clear hb ho12))
        go_loopg [13] k (fun kq v13 w' => ∃ (x11_1 : List ByteArray) (x12_1 : List Bool) (x13_1 : Int), v13 = .int .i64 x13_1 ∧ Aside0 (spec_UnitsOf.l0 kq l0 a2 t119 t120 x11_1 x12_1 x13_1 = some (r1, r2)) ∧ Aside0 (kq ≤ k) ∧ Aside0 (Kd.R Kd.string 9 w' w.heap.size (fun _ => True) v123 x11_1) ∧ Aside0 (Kd.R Kd.bool 4 w' w.heap.size (fun _ => True) v126 x12_1) ∧ Aside0 (Below w.heap.size w w'))
        case atStart => exact ⟨(y122), (y125), (0), FR, H', ⟨Nat.le_refl _⟩, ⟨(RR HO124.out)⟩, ⟨(RR HO127.out)⟩, ⟨(BB HB.out)⟩⟩
        case round =>
          clear H'
          try clear c1
          try clear p2
          try clear c5
          try clear c6
          try clear c6b0
          try clear c6b1
          try clear p6
          try clear c7
          try clear c7b0
          try clear c7b1
          try clear c8
          try clear c8b0
          try clear c8b1
          obtain ⟨x11_1, x12_1, x13_1, rfl, HA, HK1, HO_11, HO_12, HB⟩ := hrel
          cases gk with
          | zero => exact absurd HA.out (by simp [spec_UnitsOf.l0])
          | succ k1 =>
            have H := HA.out
            clear HA
            simp only [spec_UnitsOf.l0] at H
            by_cases c13 : x13_1 < (wrap64 (t119 + t120))
            · rw [if_pos c13] at H
              have c13b0 : decide (x13_1 < (wrap64 (t119 + t120))) = true := decide_eq_true c13
              (try simp only [hji5] at c13b0)
              clear c13
              have H' := Aside0.mk H
              clear H
              go_wp2
              go_loopg [14] k1 (fun kq v14 w' => ∃ (x11_2 : List ByteArray) (x12_2 : List Bool) (x14_2 : Int), v14 = .int .i64 x14_2 ∧ Aside0 (spec_UnitsOf.l1 kq l0 a2 t119 t120 x11_2 x12_2 x13_1 x14_2 = some (r1, r2)) ∧ Aside0 (kq ≤ k1) ∧ Aside0 (Kd.R Kd.string 9 w' w.heap.size (fun _ => True) v123 x11_2) ∧ Aside0 (Kd.R Kd.bool 4 w' w.heap.size (fun _ => True) v126 x12_2) ∧ Aside0 (Below w.heap.size w w'))
              case atStart => exact ⟨(x11_1), (x12_1), (0), FR, H', ⟨Nat.le_refl _⟩, ⟨(RR HO_11.out)⟩, ⟨(RR HO_12.out)⟩, ⟨(BB HB.out)⟩⟩
              case round =>
                clear H'
                try clear c1
                try clear p2
                try clear c5
                try clear c6
                try clear c6b0
                try clear c6b1
                try clear p6
                try clear c7
                try clear c7b0
                try clear c7b1
                try clear c8
                try clear c8b0
                try clear c8b1
                try clear c13
                try clear c13b0
                try clear p2
                try clear p6
                obtain ⟨x11_2, x12_2, x14_2, rfl, HA, HK2, HO_11, HO_12, HB⟩ := hrel
                cases gk with
                | zero => exact absurd HA.out (by simp [spec_UnitsOf.l1])
                | succ k2 =>
                  have H := HA.out
                  clear HA
                  simp only [spec_UnitsOf.l1] at H
                  have HC14 := Aside0.mk H
                  clear H
                  go_upto_region 8 with (fail)
                  go_cut [48] (fun v48 wc => ∃ (kq : Nat) (x48_13 : Bool), v48 = .bool x48_13 ∧ Aside0 (spec_UnitsOf.j2 kq l0 a2 t119 t120 x11_2 x12_2 x13_1 x14_2 x48_13 = some (r1, r2)) ∧ Aside0 (kq ≤ k2) ∧ Aside0 (Kd.R Kd.string 9 wc w.heap.size (fun _ => True) v123 x11_2) ∧ Aside0 (Kd.R Kd.bool 4 wc w.heap.size (fun _ => True) v126 x12_2) ∧ Aside0 (Below w.heap.size w wc))
                  case first =>
                    have H := HC14.out
                    clear HC14
                    by_cases c15 : x14_2 < (l0.length : Int)
                    · rw [if_pos c15] at H
                      have c15b0 : decide (x14_2 < (l0.length : Int)) = true := decide_eq_true c15
                      clear c15
                      (first | rw [c15b0] | (simp only [i64_w, i32_w]; rw [c15b0]) | skip)
                      by_cases c16 : 0 ≤ x13_1
                      · rw [if_pos c16] at H
                        have c16b0 : decide (0 ≤ x13_1) = true := decide_eq_true c16
                        clear c16
                        by_cases c17 : x13_1 < (x12_2.length : Int)
                        · rw [if_pos c17] at H
                          have c17b0 : decide (x13_1 < (x12_2.length : Int)) = true := decide_eq_true c17
                          clear c17
                          have H' := Aside0.mk H
                          clear H
                          obtain ⟨Ao18, co18, eo18⟩ := Kd.R_slice HO_12.out
                          subst eo18
                          have p128 : 0 ≤ (x13_1 : Int) := DT
                          have q128 : x13_1 < (x12_2.length : Int) := DT
                          obtain ⟨ad128, e128, hx128_0⟩ := Kd.at_bool (Kd.R_reads' HO_12.out).2.2 x13_1 p128 q128
                          cases e128
                          replace p128 := eq_true p128
                          replace q128 := eq_true q128
                          go_wp2
                          go_meet
                          case rel => exact ⟨_, (!(rdOf false x12_2 x13_1)), FR, H', ⟨by have := HK1.out; have := HK2.out; first | omega | exact Nat.le_refl _⟩, ⟨(RR HO_11.out)⟩, ⟨(RR HO_12.out)⟩, ⟨(BB HB.out)⟩⟩
                        · rw [if_neg c17] at H
                          exact absurd H (by simp)
                      · rw [if_neg c16] at H
                        exact absurd H (by simp)
                    · rw [if_neg c15] at H
                      have c15b0 : decide (x14_2 < (l0.length : Int)) = false := decide_eq_false c15
                      clear c15
                      (first | rw [c15b0] | (simp only [i64_w, i32_w]; rw [c15b0]) | skip)
                      have H' := Aside0.mk H
                      clear H
                      go_wp2
                      go_meet
                      case rel => exact ⟨_, (false), FR, H', ⟨by have := HK1.out; have := HK2.out; first | omega | exact Nat.le_refl _⟩, ⟨(RR HO_11.out)⟩, ⟨(RR HO_12.out)⟩, ⟨(BB HB.out)⟩⟩
                  case rest =>
                    clear HC14
                    try clear c1
                    try clear p1
                    try clear q1
                    try clear hx1
                    try clear p2
                    try clear c5
                    try clear c6
                    try clear c6b0
                    try clear c6b1
                    try clear p6
                    try clear c7
                    try clear c7b0
                    try clear c7b1
                    try clear c8
                    try clear c8b0
                    try clear c8b1
                    try clear p12
                    try clear q12
                    try clear hx12
                    try clear c13
                    try clear c13b0
                    try clear c15
                    try clear c15b0
                    try clear c16
                    try clear c16b0
                    try clear c17
                    try clear c17b0
                    try clear hx128_0
                    try clear p128
                    try clear p2
                    try clear p6
                    try clear q128
                    obtain ⟨kq, x48_13, rfl, HA, HJ13, HO_11, HO_12, HB⟩ := hcut
                    cases kq with
                    | zero => exact absurd HA.out (by simp [spec_UnitsOf.j2])
                    | succ kj13 =>
                      have H := HA.out
                      clear HA
                      simp only [spec_UnitsOf.j2] at H
                      by_cases c19 : x48_13 = true
                      · subst c19
                        have H1 : (if 0 ≤ x14_2 then (if x14_2 < (l0.length : Int) then ((spec_GetUnit.f kj13 ((rd_T97 l0 x14_2).f0) ((rd_T97 l0 x14_2).f1) ((rd_T97 l0 x14_2).f2) a2 x13_1).bind fun bt130 => (if bt130.2 = true then (if 0 ≤ x13_1 then (if x13_1 < (x11_2.length : Int) then (if x13_1 < (x12_2.length : Int) then (spec_UnitsOf.l1 kj13 l0 a2 t119 t120 (x11_2.set (x13_1 : Int).toNat bt130.1) (x12_2.set (x13_1 : Int).toNat true) x13_1 (wrap64 (x14_2 + 1))) else (none)) else (none)) else (none)) else (spec_UnitsOf.l1 kj13 l0 a2 t119 t120 x11_2 x12_2 x13_1 (wrap64 (x14_2 + 1))))) else (none)) else (none)) = some (r1, r2) := by rw [if_pos rfl] at H; exact H
                        clear H
                        have H := H1
                        clear H1
                        by_cases c20 : 0 ≤ x14_2
                        · rw [if_pos c20] at H
                          have c20b0 : decide (0 ≤ x14_2) = true := decide_eq_true c20
                          clear c20
                          by_cases c21 : x14_2 < (l0.length : Int)
                          · rw [if_pos c21] at H
                            have c21b0 : decide (x14_2 < (l0.length : Int)) = true := decide_eq_true c21
                            clear c21
                            replace H := Option.bind_eq_some_iff.mp H
                            obtain ⟨⟨t130, t131⟩, A220, H⟩ := H
                            replace H : (if t131 = true then (if 0 ≤ x13_1 then (if x13_1 < (x11_2.length : Int) then (if x13_1 < (x12_2.length : Int) then (spec_UnitsOf.l1 kj13 l0 a2 t119 t120 (x11_2.set (x13_1 : Int).toNat t130) (x12_2.set (x13_1 : Int).toNat true) x13_1 (wrap64 (x14_2 + 1))) else (none)) else (none)) else (none)) else (spec_UnitsOf.l1 kj13 l0 a2 t119 t120 x11_2 x12_2 x13_1 (wrap64 (x14_2 + 1)))) = some (r1, r2) := H
                            have A22 := Aside0.mk A220
                            clear A220
                            by_cases c23 : t131 = true
                            · subst c23
                              have H1 : (if 0 ≤ x13_1 then (if x13_1 < (x11_2.length : Int) then (if x13_1 < (x12_2.length : Int) then (spec_UnitsOf.l1 kj13 l0 a2 t119 t120 (x11_2.set (x13_1 : Int).toNat t130) (x12_2.set (x13_1 : Int).toNat true) x13_1 (wrap64 (x14_2 + 1))) else (none)) else (none)) else (none)) = some (r1, r2) := by rw [if_pos rfl] at H; exact H
                              clear H
                              have H := H1
                              clear H1
                              by_cases c24 : 0 ≤ x13_1
                              · rw [if_pos c24] at H
                                have c24b0 : decide (0 ≤ x13_1) = true := decide_eq_true c24
                                clear c24
                                by_cases c25 : x13_1 < (x11_2.length : Int)
                                · rw [if_pos c25] at H
                                  have c25b0 : decide (x13_1 < (x11_2.length : Int)) = true := decide_eq_true c25
                                  clear c25
                                  obtain ⟨y132, hy132⟩ : ∃ y_ : List ByteArray, y_ = (x11_2.set (x13_1 : Int).toNat t130) := ⟨_, rfl⟩
                                  replace H : (if x13_1 < (x12_2.length : Int) then (spec_UnitsOf.l1 kj13 l0 a2 t119 t120 y132 (x12_2.set (x13_1 : Int).toNat true) x13_1 (wrap64 (x14_2 + 1))) else (none)) = some (r1, r2) := by first | (rw [hy132]; with_reducible exact H) | (have H2_ := (Option.bind_some _ _).symm.trans H; rw [hy132]; with_reducible exact H2_) | (have H2_ := (Option.bind_some _ _).symm.trans H; with_reducible exact H2_) | with_reducible exact H | (rw [hy132]; exact H) | exact H
                                  have Ny132 := Aside0.mk hy132
                                  clear hy132
                                  by_cases c27 : x13_1 < (x12_2.length : Int)
                                  · rw [if_pos c27] at H
                                    have c27b0 : decide (x13_1 < (x12_2.length : Int)) = true := decide_eq_true c27
                                    clear c27
                                    obtain ⟨y133, hy133⟩ : ∃ y_ : List Bool, y_ = (x12_2.set (x13_1 : Int).toNat true) := ⟨_, rfl⟩
                                    replace H : (spec_UnitsOf.l1 kj13 l0 a2 t119 t120 y132 y133 x13_1 (wrap64 (x14_2 + 1))) = some (r1, r2) := by first | (rw [hy133]; with_reducible exact H) | (have H2_ := (Option.bind_some _ _).symm.trans H; rw [hy133]; with_reducible exact H2_) | (have H2_ := (Option.bind_some _ _).symm.trans H; with_reducible exact H2_) | with_reducible exact H | (rw [hy133]; exact H) | exact H
                                    have Ny133 := Aside0.mk hy133
                                    clear hy133
                                    have H' := Aside0.mk H
                                    clear H
                                    have p129 : 0 ≤ (x14_2 : Int) := DT
                                    have q129 : x14_2 < (l0.length : Int) := DT
                                    obtain ⟨ad129, A129_2, c129_2, e129, hx129_0, hx129_1, hx129_2, hl129_2, hi129_2⟩ := at_T97 HR0.out x14_2 p129 q129
                                    cases e129
                                    replace hx129_0 := (HB.out.cell (World.block_lt_of_cell? w _ hx129_0)).trans hx129_0
                                    replace hx129_1 := (HB.out.cell (World.block_lt_of_cell? w _ hx129_1)).trans hx129_1
                                    replace hx129_2 := (HB.out.cell (World.block_lt_of_cell? w _ hx129_2)).trans hx129_2
                                    have HR129_2 := Aside0.mk hi129_2
                                    have HC129_2 := Aside0.mk hl129_2
                                    clear hi129_2 hl129_2
                                    replace p129 := eq_true p129
                                    replace q129 := eq_true q129
                                    go_wp2_with (first | ((with_reducible refine gate_callee (f := 56) rfl ?_); refine GL (some 58) rfl rfl Try.func56 #[.agg #[.int .i64 ((rd_T97 l0 x14_2).f0), .bool ((rd_T97 l0 x14_2).f1), .slice A129_2 ((rd_T97 l0 x14_2).f2).length c129_2], .int .i64 a2, .int .i64 x13_1] rfl ?_; (with_reducible refine (spec_GetUnit.calls kj13 ((rd_T97 l0 x14_2).f0) ((rd_T97 l0 x14_2).f1) _ _ ((rd_T97 l0 x14_2).f2) a2 x13_1 t130 true _ ?side1 ?side2 A22.out).mono ?_); (case side1 => exact CC (Kd.C_below HR129_2.out HB.out)); (case side2 => exact HC129_2.out); rintro e w29 ⟨rfl, hb⟩; refine ⟨_, rfl, ?_⟩; replace HO_11 := Aside0.mk (Kd.R_below (RR HO_11.out) hb); replace HO_12 := Aside0.mk (Kd.R_below (RR HO_12.out) hb); replace HB := Aside0.mk (below_step (BB HB.out) hb); (try clear hb); have p26 : 0 ≤ (x13_1 : Int) := DT; have q26 : (x13_1 : Int) < ((x11_2.length : Int) : Int) := DT; obtain ⟨go26, co26, eo26, gb26, gl26, cl26, HG26⟩ := Kd.R_form HO_11.out (by omega); (first | cases eo26 | (injection eo26 with ea_ en_ ec_; (first | subst ea_ | (injection ea_ with ea_; subst ea_)); subst ec_; clear en_)); have GB26 := Aside0.mk gb26; have GG26 := Aside0.mk HG26; clear gb26 gl26 HG26; obtain ⟨hx26_0, hf26_0⟩ := Kd.R_celln (⟨#[]⟩ : ByteArray) HO_11.out (x13_1 : Int) p26 q26; replace p26 := eq_true p26; replace q26 := eq_true q26; obtain ⟨hy30_, hz30_⟩ := Kd.R_celln (⟨#[]⟩ : ByteArray) HO_11.out (x13_1 : Int) DT DT; have HP30 := Kd.R_putg HO_11.out (x13_1 : Int) t130) | ((with_reducible refine gate_store (t := 9) (p := 65) rfl ?_); refine store_event (t := 9) (p := 65) (v := ?vo_w31) (w1 := (w29.setCell ⟨go26, (x13_1 : Int).toNat, none⟩ (.string t130))) ?hg ?ho ?hn ?hr ?_; (case ho => rfl); (case hg => rfl); (case hn => rfl); (case hr => first | (go_simp; done) | (go_simp; rfl)); intro w31 hw; have hg : w29.grownBy w31 (some go26) := (by rw [hw]; exact HP30.2); have hp_ : Kd.R Kd.string 9 w31 w.heap.size (fun _ => True) (.slice (some ⟨go26, 0, none⟩) x11_2.length co26) y132 := (by rw [hw, Ny132.out]; exact HP30.1); clear HP30; have n0_ := Aside0.mk (hp_); have n1_ := Aside0.mk (Kd.R_over' (v := (.slice (some ⟨go26, 0, none⟩) x11_2.length co26)) (RR HO_12.out) (Kd.R_typed HO_11.out) (by decide) hg); have n2_ := Aside0.mk ((by rw [hw]; exact below_set (HB.out) GB26.out : Below w.heap.size w w31)); clear HO_11; clear HO_12; clear HB; have HO_11 := n0_; have HO_12 := n1_; have HB := n2_; clear n0_ n1_ n2_; clear hg hw hp_; have p28 : 0 ≤ (x13_1 : Int) := DT; have q28 : (x13_1 : Int) < ((x12_2.length : Int) : Int) := DT; obtain ⟨go28, co28, eo28, gb28, gl28, cl28, HG28⟩ := Kd.R_form HO_12.out (by omega); (first | cases eo28 | (injection eo28 with ea_ en_ ec_; (first | subst ea_ | (injection ea_ with ea_; subst ea_)); subst ec_; clear en_)); have GB28 := Aside0.mk gb28; have GG28 := Aside0.mk HG28; clear gb28 gl28 HG28; obtain ⟨hx28_0, hf28_0⟩ := Kd.R_celln false HO_12.out (x13_1 : Int) p28 q28; replace p28 := eq_true p28; replace q28 := eq_true q28; obtain ⟨hy32_, hz32_⟩ := Kd.R_celln false HO_12.out (x13_1 : Int) DT DT; have HP32 := Kd.R_putg HO_12.out (x13_1 : Int) true) | ((with_reducible refine gate_store (t := 4) (p := 68) rfl ?_); refine store_event (t := 4) (p := 68) (v := ?vo_w33) (w1 := (w31.setCell ⟨go28, (x13_1 : Int).toNat, none⟩ (.bool true))) ?hg ?ho ?hn ?hr ?_; (case ho => rfl); (case hg => rfl); (case hn => rfl); (case hr => first | (go_simp; done) | (go_simp; rfl)); intro w33 hw; have hg : w31.grownBy w33 (some go28) := (by rw [hw]; exact HP32.2); have hp_ : Kd.R Kd.bool 4 w33 w.heap.size (fun _ => True) (.slice (some ⟨go28, 0, none⟩) x12_2.length co28) y133 := (by rw [hw, Ny133.out]; exact HP32.1); clear HP32; have n0_ := Aside0.mk (Kd.R_over' (v := (.slice (some ⟨go28, 0, none⟩) x12_2.length co28)) (RR HO_11.out) (Kd.R_typed HO_12.out) (by decide) hg); have n1_ := Aside0.mk (hp_); have n2_ := Aside0.mk ((by rw [hw]; exact below_set (HB.out) GB28.out : Below w.heap.size w w33)); clear HO_11; clear HO_12; clear HB; have HO_11 := n0_; have HO_12 := n1_; have HB := n2_; clear n0_ n1_ n2_; clear hg hw hp_))
                                    go_roundg kj13
                                    case measure => have := HK1.out; have := HK2.out; have := HJ13.out; omega
                                    case rel => exact ⟨(y132), (y133), (wrap64 (x14_2 + 1)), FR, H', ⟨by have := HK1.out; have := HK2.out; have := HJ13.out; omega⟩, ⟨(RR HO_11.out)⟩, ⟨(RR HO_12.out)⟩, ⟨(BB HB.out)⟩⟩
                                  · rw [if_neg c27] at H
                                    exact absurd H (by simp)
                                · rw [if_neg c25] at H
                                  exact absurd H (by simp)
                              · rw [if_neg c24] at H
                                exact absurd H (by simp)
                            · replace c23 := Bool.eq_false_iff.mpr c23
                              subst c23
                              have H1 : (spec_UnitsOf.l1 kj13 l0 a2 t119 t120 x11_2 x12_2 x13_1 (wrap64 (x14_2 + 1))) = some (r1, r2) := by rw [if_neg (show ¬ (false = true) by decide)] at H; exact H
                              clear H
                              have H := H1
                              clear H1
                              have H' := Aside0.mk H
                              clear H
                              have p129 : 0 ≤ (x14_2 : Int) := DT
                              have q129 : x14_2 < (l0.length : Int) := DT
                              obtain ⟨ad129, A129_2, c129_2, e129, hx129_0, hx129_1, hx129_2, hl129_2, hi129_2⟩ := at_T97 HR0.out x14_2 p129 q129
                              cases e129
                              replace hx129_0 := (HB.out.cell (World.block_lt_of_cell? w _ hx129_0)).trans hx129_0
                              replace hx129_1 := (HB.out.cell (World.block_lt_of_cell? w _ hx129_1)).trans hx129_1
                              replace hx129_2 := (HB.out.cell (World.block_lt_of_cell? w _ hx129_2)).trans hx129_2
                              have HR129_2 := Aside0.mk hi129_2
                              have HC129_2 := Aside0.mk hl129_2
                              clear hi129_2 hl129_2
                              replace p129 := eq_true p129
                              replace q129 := eq_true q129
                              go_wp2_with (first | ((with_reducible refine gate_callee (f := 56) rfl ?_); refine GL (some 58) rfl rfl Try.func56 #[.agg #[.int .i64 ((rd_T97 l0 x14_2).f0), .bool ((rd_T97 l0 x14_2).f1), .slice A129_2 ((rd_T97 l0 x14_2).f2).length c129_2], .int .i64 a2, .int .i64 x13_1] rfl ?_; (with_reducible refine (spec_GetUnit.calls kj13 ((rd_T97 l0 x14_2).f0) ((rd_T97 l0 x14_2).f1) _ _ ((rd_T97 l0 x14_2).f2) a2 x13_1 t130 false _ ?side1 ?side2 A22.out).mono ?_); (case side1 => exact CC (Kd.C_below HR129_2.out HB.out)); (case side2 => exact HC129_2.out); rintro e w34 ⟨rfl, hb⟩; refine ⟨_, rfl, ?_⟩; replace HO_11 := Aside0.mk (Kd.R_below (RR HO_11.out) hb); replace HO_12 := Aside0.mk (Kd.R_below (RR HO_12.out) hb); replace HB := Aside0.mk (below_step (BB HB.out) hb); (try clear hb)))
                              go_roundg kj13
                              case measure => have := HK1.out; have := HK2.out; have := HJ13.out; omega
                              case rel => exact ⟨(x11_2), (x12_2), (wrap64 (x14_2 + 1)), FR, H', ⟨by have := HK1.out; have := HK2.out; have := HJ13.out; omega⟩, ⟨(RR HO_11.out)⟩, ⟨(RR HO_12.out)⟩, ⟨(BB HB.out)⟩⟩
                          · rw [if_neg c21] at H
                            exact absurd H (by simp)
                        · rw [if_neg c20] at H
                          exact absurd H (by simp)
                      · replace c19 := Bool.eq_false_iff.mpr c19
                        subst c19
                        have H1 : (spec_UnitsOf.l0 kj13 l0 a2 t119 t120 x11_2 x12_2 (wrap64 (x13_1 + 1))) = some (r1, r2) := by rw [if_neg (show ¬ (false = true) by decide)] at H; exact H
                        clear H
                        have H := H1
                        clear H1
                        have H' := Aside0.mk H
                        clear H
                        go_wp2
                        go_roundg kj13
                        case measure => have := HK1.out; have := HK2.out; have := HJ13.out; omega
                        case rel => exact ⟨(x11_2), (x12_2), (wrap64 (x13_1 + 1)), FR, H', ⟨by have := HK1.out; have := HK2.out; have := HJ13.out; omega⟩, ⟨(RR HO_11.out)⟩, ⟨(RR HO_12.out)⟩, ⟨(BB HB.out)⟩⟩
            · rw [if_neg c13] at H
              have c13b0 : decide (x13_1 < (wrap64 (t119 + t120))) = false := decide_eq_false c13
              (try simp only [hji5] at c13b0)
              clear c13
              simp only [Option.some.injEq, Prod.mk.injEq] at H
              obtain ⟨rfl, rfl⟩ := H
              go_wp2
              go_ret2
              exact ⟨_, _, by first | rfl | (simp [errW_none, errW_some] <;> rfl) | (simp only [← hji5]; first | rfl | (simp [errW_none, errW_some] <;> rfl)) | (simp [*, errW_none, errW_some] <;> rfl), by (with_reducible repeat (first | apply Kd.R_alloc | apply Kd.R_drewN | apply Kd.R_drew)); exact HO_11.out, by (with_reducible repeat (first | apply Kd.R_alloc | apply Kd.R_drewN | apply Kd.R_drew)); exact HO_12.out, (BB HB.out)⟩
      · rw [if_neg c8] at H
        exact absurd H (by simp)
    · rw [if_neg c7] at H
      exact absurd H (by simp)
  · rw [if_neg c6] at H
    exact absurd H (by simp)

end Go.Proofs.Ytfgnaneajonapaa.Pr

/- Printed out of the translation by this session's pr.py over the kit's print. Lean checks it. -/
namespace Go.Proofs.Ytfgnaneajonapaa.Pr
open Go.RowKit Go.Proofs.YtfgnaneajonapaaW.PrintWords Go.Proofs.YtfgnaneajonapaaW.PrintLast Go.Proofs.YtfgnaneajonapaaW.PrintMore
attribute [local go_sem] max2_int min2_int max_two min_two max_three min_three max_four min_four
set_option linter.unusedVariables false
set_option linter.unusedSimpArgs false

/-! ### spec_LeftOf: function 12 -/
def spec_LeftOf.l0 : Nat → List Bool → Int → Int → Option (Int)
  | 0, _, _, _ => none
  | k + 1, x8, x9, x10 => if x10 < (x8.length : Int) then (if 0 ≤ x10 then (if rdOf false x8 x10 = true then (spec_LeftOf.l0 k x8 (wrap64 (x9 + 1)) (wrap64 (x10 + 1))) else (spec_LeftOf.l0 k x8 x9 (wrap64 (x10 + 1)))) else (none)) else (some x9)
def spec_LeftOf.f (k : Nat) (l0 : List (S97)) (a1 : Int) (a2 : Int) : Option (Int) := (spec_UnitsOf.f k l0 a1 a2).bind fun bt134 => (spec_LeftOf.l0 k bt134.2 0 0)
set_option maxHeartbeats 8000000 in
set_option maxRecDepth 100000 in
theorem spec_LeftOf.calls (k : Nat) (A0 : Option Addr) (c0 : Nat) (l0 : List (S97)) (a1 : Int) (a2 : Int) (r : Int) (w : World) (hr0 : Kd.C k97 w A0 l0.length l0) (hc0 : l0.length ≤ c0) (h : spec_LeftOf.f k l0 a1 a2 = some r) :
    Calls Try.prog 12 #[.slice A0 l0.length c0, .int .i64 a1, .int .i64 a2] w fun e w' => e = .returned (.int .i64 r) ∧ Below w.heap.size w w' := by
  have HR0 := Aside0.mk hr0
  have HC0 := Aside0.mk hc0
  clear hr0 hc0
  have HB := Aside0.mk (Below.refl w.heap.size w)
  have H : ((spec_UnitsOf.f k l0 a1 a2).bind fun bt134 => (spec_LeftOf.l0 k bt134.2 0 0)) = some r := h
  clear h
  replace H := Option.bind_eq_some_iff.mp H
  obtain ⟨⟨t134, t135⟩, A40, H⟩ := H
  replace H : (spec_LeftOf.l0 k t135 0 0) = some r := H
  have A4 := Aside0.mk A40
  clear A40
  have H' := Aside0.mk H
  clear H
  go_enter Try.func12, Try.ntmps12
  go_wp2_with (first | ((with_reducible refine gate_callee (f := 16) rfl ?_); refine GL (some 15) rfl rfl Try.func16 #[.slice A0 l0.length c0, .int .i64 a1, .int .i64 a2] rfl ?_; (with_reducible refine (spec_UnitsOf.calls k _ _ l0 a1 a2 t134 t135 _ ?side1 ?side2 A4.out).mono ?_); (case side1 => exact CC HR0.out); (case side2 => exact HC0.out); rintro e w5 ⟨v136, v138, rfl, ho0, ho1, hb⟩; refine ⟨_, rfl, ?_⟩; have HO137 := Aside0.mk (Kd.R_lower ho0 (below_size (BB HB.out))); have HO139 := Aside0.mk (Kd.R_lower ho1 (below_size (BB HB.out))); replace HB := Aside0.mk (below_step (BB HB.out) hb); (try clear hb); (try clear ho0); (try clear ho1)))
  go_loopg [9, 10] k (fun kq v9 v10 w' => ∃ (x9_1 : Int) (x10_1 : Int), v9 = .int .i64 x9_1 ∧ v10 = .int .i64 x10_1 ∧ Aside0 (spec_LeftOf.l0 kq t135 x9_1 x10_1 = some r) ∧ Aside0 (kq ≤ k) ∧ Aside0 (Kd.R Kd.bool 4 w' w.heap.size (fun _ => True) v138 t135) ∧ Aside0 (Below w.heap.size w w'))
  case atStart => exact ⟨(0), (0), FR, FR, H', ⟨Nat.le_refl _⟩, ⟨(RR HO139.out)⟩, ⟨(BB HB.out)⟩⟩
  case round =>
    clear H'
    try clear c1
    try clear p2
    obtain ⟨x9_1, x10_1, rfl, rfl, HA, HK1, HO_8, HB⟩ := hrel
    cases gk with
    | zero => exact absurd HA.out (by simp [spec_LeftOf.l0])
    | succ k1 =>
      have H := HA.out
      clear HA
      simp only [spec_LeftOf.l0] at H
      by_cases c6 : x10_1 < (t135.length : Int)
      · rw [if_pos c6] at H
        have c6b0 : decide (x10_1 < (t135.length : Int)) = true := decide_eq_true c6
        clear c6
        by_cases c7 : 0 ≤ x10_1
        · rw [if_pos c7] at H
          have c7b0 : decide (0 ≤ x10_1) = true := decide_eq_true c7
          clear c7
          obtain ⟨bq8, hbq8⟩ : ∃ b_ : Bool, b_ = (rdOf false t135 x10_1) := ⟨_, rfl⟩
          replace H : (if bq8 = true then (spec_LeftOf.l0 k1 t135 (wrap64 (x9_1 + 1)) (wrap64 (x10_1 + 1))) else (spec_LeftOf.l0 k1 t135 x9_1 (wrap64 (x10_1 + 1)))) = some r := by rw [← hbq8] at H; exact H
          have Nbq8 := Aside0.mk hbq8
          clear hbq8
          by_cases c9 : bq8 = true
          · subst c9
            have H1 : (spec_LeftOf.l0 k1 t135 (wrap64 (x9_1 + 1)) (wrap64 (x10_1 + 1))) = some r := by rw [if_pos rfl] at H; exact H
            clear H
            have H := H1
            clear H1
            have H' := Aside0.mk H
            clear H
            obtain ⟨Ao10, co10, eo10⟩ := Kd.R_slice HO_8.out
            subst eo10
            have p140 : 0 ≤ (x10_1 : Int) := DT
            have q140 : x10_1 < (t135.length : Int) := DT
            obtain ⟨ad140, e140, hx140_0⟩ := Kd.at_bool (Kd.R_reads' HO_8.out).2.2 x10_1 p140 q140
            (try rw [← Nbq8.out] at hx140_0)
            cases e140
            replace p140 := eq_true p140
            replace q140 := eq_true q140
            go_wp2
            go_roundg k1
            case measure => have := HK1.out; omega
            case rel => exact ⟨(wrap64 (x9_1 + 1)), (wrap64 (x10_1 + 1)), FR, FR, H', ⟨by have := HK1.out; omega⟩, ⟨(RR HO_8.out)⟩, ⟨(BB HB.out)⟩⟩
          · replace c9 := Bool.eq_false_iff.mpr c9
            subst c9
            have H1 : (spec_LeftOf.l0 k1 t135 x9_1 (wrap64 (x10_1 + 1))) = some r := by rw [if_neg (show ¬ (false = true) by decide)] at H; exact H
            clear H
            have H := H1
            clear H1
            have H' := Aside0.mk H
            clear H
            obtain ⟨Ao11, co11, eo11⟩ := Kd.R_slice HO_8.out
            subst eo11
            have p140 : 0 ≤ (x10_1 : Int) := DT
            have q140 : x10_1 < (t135.length : Int) := DT
            obtain ⟨ad140, e140, hx140_0⟩ := Kd.at_bool (Kd.R_reads' HO_8.out).2.2 x10_1 p140 q140
            (try rw [← Nbq8.out] at hx140_0)
            cases e140
            replace p140 := eq_true p140
            replace q140 := eq_true q140
            go_wp2
            go_roundg k1
            case measure => have := HK1.out; omega
            case rel => exact ⟨(x9_1), (wrap64 (x10_1 + 1)), FR, FR, H', ⟨by have := HK1.out; omega⟩, ⟨(RR HO_8.out)⟩, ⟨(BB HB.out)⟩⟩
        · rw [if_neg c7] at H
          exact absurd H (by simp)
      · rw [if_neg c6] at H
        have c6b0 : decide (x10_1 < (t135.length : Int)) = false := decide_eq_false c6
        clear c6
        obtain rfl := Option.some.inj H
        obtain ⟨Ao12, co12, eo12⟩ := Kd.R_slice HO_8.out
        subst eo12
        go_wp2
        go_ret
        exact ⟨ER, (BB HB.out)⟩

end Go.Proofs.Ytfgnaneajonapaa.Pr
