/- A part of the proof of the law FnExactPlaceGroup: its texts, one behind the other. -/
import Derived.Laws.IdiomCopy
import Derived.Shelf.Abstract
import Derived.Test.YthgmmebkjhjgcaaBFnExactPlaceGroup1
import Derived.Test.YthgmmebkjhjgcaaBFnExactPlaceGroup2
import Derived.Test.YthgmmebkjhjgcaaBFnExactPlaceGroup3
namespace Go.Proofs.Ythgmmebkjhjgcaa.Pr
open Go.RowKit Go.Proofs.YthgmmebkjhjgcaaW.PrintWords Go.Proofs.YthgmmebkjhjgcaaW.PrintLast Go.Proofs.YthgmmebkjhjgcaaW.PrintMore
attribute [local go_sem] max2_int min2_int max_two min_two max_three min_three max_four min_four
set_option linter.unusedVariables false
set_option linter.unusedSimpArgs false
def laws_markIntS.l0 : Nat → List Int → Int → Int → Option (Int × List Int)
  | 0, _, _, _ => none
  | k + 1, x0, x1, x5 => if x5 < (x0.length : Int) then (if 0 ≤ x5 then (laws_markIntS.l0 k (x0.set (x5 : Int).toNat x1) (wrap64 (x1 + 1)) (wrap64 (x5 + 1))) else (none)) else (some (x1, x0))
def laws_markIntS.f (k : Nat) (l0 : List Int) (a1 : Int) : Option (Int × List Int) := laws_markIntS.l0 k l0 a1 0
set_option maxHeartbeats 8000000 in
set_option maxRecDepth 100000 in
theorem laws_markIntS.calls (k : Nat) (P0_ : Nat → Prop) (u9000_ : Value) (l0 : List Int) (a1 : Int) (r1 : Int) (r2 : List Int) (w0 w : World) (hB : Below w0.heap.size w0 w) (ho0 : Kd.R (Kd.int .i64) 3 w w0.heap.size P0_ u9000_ l0) (h : laws_markIntS.f k l0 a1 = some (r1, r2)) :
    Calls Try.prog 11 #[u9000_, .int .i64 a1] w fun e w' => e = .returned (.int .i64 r1) ∧ Kd.R (Kd.int .i64) 3 w' w0.heap.size (fun k_ => (P0_ k_ ∨ w.heap.size ≤ k_)) u9000_ r2 ∧ Below w0.heap.size w0 w' ∧ Kept w w' (fun k_ => P0_ k_) := by
  have HO0 := Aside0.mk (show Kd.R (Kd.int .i64) 3 w w0.heap.size (fun k_ => (P0_ k_ ∨ w.heap.size ≤ k_)) u9000_ l0 from Kd.R_mono ho0 (fun k_ hk => (.inl hk)))
  have HK := Aside0.mk (Kept.refl w (fun k_ => P0_ k_))
  have HW0 := Aside0.mk hB.size
  have HB := Aside0.mk hB
  clear hB
  have H : (laws_markIntS.l0 k l0 a1 0) = some (r1, r2) := h
  clear h
  have H' := Aside0.mk H
  clear H
  go_enter Try.func11, Try.ntmps11
  go_wp2
  go_loopg [1, 5] k (fun kq v1 v5 w' => ∃ (x0_1 : List Int) (x1_1 : Int) (x5_1 : Int), v1 = .int .i64 x1_1 ∧ v5 = .int .i64 x5_1 ∧ Aside0 (laws_markIntS.l0 kq x0_1 x1_1 x5_1 = some (r1, r2)) ∧ Aside0 (kq ≤ k) ∧ Aside0 (Kd.R (Kd.int .i64) 3 w' w0.heap.size (fun k_ => (P0_ k_ ∨ w.heap.size ≤ k_)) u9000_ x0_1) ∧ Aside0 (Kept w w' (fun k_ => P0_ k_)) ∧ Aside0 (Below w0.heap.size w0 w'))
  case atStart => exact ⟨(l0), (a1), (0), FR, FR, H', ⟨Nat.le_refl _⟩, ⟨(RR HO0.out)⟩, ⟨by repeat (first | (with_reducible first | exact HK.out | apply Kept.alloc | apply Kept.drewN | apply Kept.drew) | exact HK.out)⟩, ⟨(BB HB.out)⟩⟩
  case round =>
    clear H'
    try clear c1
    try clear p2
    obtain ⟨x0_1, x1_1, x5_1, rfl, rfl, HA, HK1, HO_0, HK, HB⟩ := hrel
    cases gk with
    | zero => exact absurd HA.out (by simp [laws_markIntS.l0])
    | succ k1 =>
      have H := HA.out
      clear HA
      simp only [laws_markIntS.l0] at H
      by_cases c3 : x5_1 < (x0_1.length : Int)
      · rw [if_pos c3] at H
        have c3b0 : decide (x5_1 < (x0_1.length : Int)) = true := decide_eq_true c3
        clear c3
        by_cases c4 : 0 ≤ x5_1
        · rw [if_pos c4] at H
          have c4b0 : decide (0 ≤ x5_1) = true := decide_eq_true c4
          clear c4
          obtain ⟨y194, hy194⟩ : ∃ y_ : List Int, y_ = (x0_1.set (x5_1 : Int).toNat x1_1) := ⟨_, rfl⟩
          replace H : (laws_markIntS.l0 k1 y194 (wrap64 (x1_1 + 1)) (wrap64 (x5_1 + 1))) = some (r1, r2) := by first | (rw [hy194]; with_reducible exact H) | (have H2_ := (Option.bind_some _ _).symm.trans H; rw [hy194]; with_reducible exact H2_) | (have H2_ := (Option.bind_some _ _).symm.trans H; with_reducible exact H2_) | with_reducible exact H | (rw [hy194]; exact H) | exact H
          have Ny194 := Aside0.mk hy194
          clear hy194
          have H' := Aside0.mk H
          clear H
          obtain ⟨Ao6, co6, eo6⟩ := Kd.R_slice HO_0.out
          subst eo6
          have p5 : 0 ≤ (x5_1 : Int) := DT
          have q5 : (x5_1 : Int) < ((x0_1.length : Int) : Int) := DT
          obtain ⟨go5, co5, eo5, gb5, gl5, cl5, HG5⟩ := Kd.R_form HO_0.out (by omega)
          (first | cases eo5 | (injection eo5 with ea_ en_ ec_; (first | subst ea_ | (injection ea_ with ea_; subst ea_)); subst ec_; clear en_))
          have GB5 := Aside0.mk gb5
          have GG5 := Aside0.mk HG5
          clear gb5 gl5 HG5
          have HMgo5 := Aside0.mk (show (P0_ go5 ∨ w.heap.size ≤ go5) from (HO_0.out.1 _ rfl))
          obtain ⟨hx5_0, hf5_0⟩ := Kd.R_celln 0 HO_0.out (x5_1 : Int) p5 q5
          replace p5 := eq_true p5
          replace q5 := eq_true q5
          have HP7 := Kd.R_putg HO_0.out (x5_1 : Int) x1_1
          go_wp2_with (first | ((with_reducible refine gate_store (t := 3) (p := 15) rfl ?_); refine store_event (t := 3) (p := 15) (v := ?vo_w8) (w1 := (wr.setCell ⟨go5, (x5_1 : Int).toNat, none⟩ (.int .i64 x1_1))) ?hg ?ho ?hn ?hr ?_; (case ho => rfl); (case hg => rfl); (case hn => rfl); (case hr => first | (go_simp; done) | (go_simp; rfl)); intro w8 hw; have hg : wr.grownBy w8 (some go5) := (by rw [hw]; exact HP7.2); have hp_ : Kd.R (Kd.int .i64) 3 w8 w0.heap.size (fun k_ => (P0_ k_ ∨ w.heap.size ≤ k_)) (.slice (some ⟨go5, 0, none⟩) x0_1.length co6) y194 := (by rw [hw, Ny194.out]; exact HP7.1); clear HP7; have n0_ := Aside0.mk (hp_); have n1_ := Aside0.mk ((by rw [hw]; exact below_set (HB.out) GB5.out : Below w0.heap.size w0 w8)); have n2_ := Aside0.mk (Kept.of_grown (S := (fun k_ => P0_ k_)) hg (by repeat (first | (with_reducible first | exact HK.out | apply Kept.alloc | apply Kept.drewN | apply Kept.drew) | exact HK.out)) (fun k_ e_ => (HO_0.out.1 k_ e_))); clear HO_0; clear HB; clear HK; have HO_0 := n0_; have HB := n1_; have HK := n2_; clear n0_ n1_ n2_; clear hg hw hp_))
          go_roundg k1
          case measure => have := HK1.out; omega
          case rel => exact ⟨(y194), (wrap64 (x1_1 + 1)), (wrap64 (x5_1 + 1)), FR, FR, H', ⟨by have := HK1.out; omega⟩, ⟨(RR HO_0.out)⟩, ⟨by repeat (first | (with_reducible first | exact HK.out | apply Kept.alloc | apply Kept.drewN | apply Kept.drew) | exact HK.out)⟩, ⟨(BB HB.out)⟩⟩
        · rw [if_neg c4] at H
          exact absurd H (by simp)
      · rw [if_neg c3] at H
        have c3b0 : decide (x5_1 < (x0_1.length : Int)) = false := decide_eq_false c3
        clear c3
        simp only [Option.some.injEq, Prod.mk.injEq] at H
        obtain ⟨rfl, rfl⟩ := H
        obtain ⟨Ao9, co9, eo9⟩ := Kd.R_slice HO_0.out
        subst eo9
        go_wp2
        go_ret
        exact ⟨ER, by (with_reducible repeat (first | apply Kd.R_alloc | apply Kd.R_drewN | apply Kd.R_drew)); exact HO_0.out, (BB HB.out), by repeat (first | (with_reducible first | exact HK.out | apply Kept.alloc | apply Kept.drewN | apply Kept.drew) | exact HK.out)⟩

end Go.Proofs.Ythgmmebkjhjgcaa.Pr

namespace Go.Proofs.Ythgmmebkjhjgcaa.Pr
open Go.RowKit Go.Proofs.YthgmmebkjhjgcaaW.PrintWords Go.Proofs.YthgmmebkjhjgcaaW.PrintLast Go.Proofs.YthgmmebkjhjgcaaW.PrintMore
attribute [local go_sem] max2_int min2_int max_two min_two max_three min_three max_four min_four
set_option linter.unusedVariables false
set_option linter.unusedSimpArgs false
def laws_heldIntS.l0 : Nat → List Int → Int → Int → Option (Int)
  | 0, _, _, _ => none
  | k + 1, x0, x1, x5 => if x5 < (x0.length : Int) then (if 0 ≤ x5 then (if (rd x0 x5) = x1 then (laws_heldIntS.l0 k x0 (wrap64 (x1 + 1)) (wrap64 (x5 + 1))) else (some (-1))) else (none)) else (some x1)
def laws_heldIntS.f (k : Nat) (l0 : List Int) (a1 : Int) : Option (Int) := laws_heldIntS.l0 k l0 a1 0
set_option maxHeartbeats 8000000 in
set_option maxRecDepth 100000 in
theorem laws_heldIntS.calls (k : Nat) (A0 : Option Addr) (c0 : Nat) (l0 : List Int) (a1 : Int) (r : Int) (w : World) (hr0 : Kd.C (Kd.int .i64) w A0 l0.length l0) (hc0 : l0.length ≤ c0) (h : laws_heldIntS.f k l0 a1 = some r) :
    Calls Try.prog 12 #[.slice A0 l0.length c0, .int .i64 a1] w fun e w' => e = .returned (.int .i64 r) ∧ Drawn0 w w' := by
  have HR0 := Aside0.mk hr0
  have HC0 := Aside0.mk hc0
  clear hr0 hc0
  have H : (laws_heldIntS.l0 k l0 a1 0) = some r := h
  clear h
  have H' := Aside0.mk H
  clear H
  go_enter Try.func12, Try.ntmps12
  go_wp2
  go_loopg [1, 5] k (fun kq v1 v5 w' => ∃ (x1_1 : Int) (x5_1 : Int), v1 = .int .i64 x1_1 ∧ v5 = .int .i64 x5_1 ∧ Aside0 (laws_heldIntS.l0 kq l0 x1_1 x5_1 = some r) ∧ Aside0 (kq ≤ k) ∧ Drawn0 w w')
  case atStart => exact ⟨(a1), (0), FR, FR, H', ⟨Nat.le_refl _⟩, by repeat (first | exact Drawn0.refl _ | apply Drawn0.step)⟩
  case round =>
    clear H'
    try clear c1
    try clear p2
    obtain ⟨x1_1, x5_1, rfl, rfl, HA, HK1, ⟨m1, rfl⟩⟩ := hrel
    cases gk with
    | zero => exact absurd HA.out (by simp [laws_heldIntS.l0])
    | succ k1 =>
      have H := HA.out
      clear HA
      simp only [laws_heldIntS.l0] at H
      by_cases c3 : x5_1 < (l0.length : Int)
      · rw [if_pos c3] at H
        have c3b0 : decide (x5_1 < (l0.length : Int)) = true := decide_eq_true c3
        clear c3
        by_cases c4 : 0 ≤ x5_1
        · rw [if_pos c4] at H
          have c4b0 : decide (0 ≤ x5_1) = true := decide_eq_true c4
          clear c4
          by_cases c5 : (rd l0 x5_1) = x1_1
          · rw [if_pos c5] at H
            have c5b0 : ((rd l0 x5_1) == x1_1) = true := beq_iff_eq.mpr c5
            have c5b1 : ((rd l0 x5_1) != x1_1) = false := bne_eq_false_iff_eq.mpr c5
            clear c5
            have H' := Aside0.mk H
            clear H
            have p195 : 0 ≤ (x5_1 : Int) := DT
            have q195 : x5_1 < (l0.length : Int) := DT
            obtain ⟨ad195, e195, hx195_0⟩ := Kd.at_int HR0.out x5_1 p195 q195
            cases e195
            replace p195 := eq_true p195
            replace q195 := eq_true q195
            go_wp2
            go_roundg k1
            case measure => have := HK1.out; omega
            case rel => exact ⟨(wrap64 (x1_1 + 1)), (wrap64 (x5_1 + 1)), FR, FR, H', ⟨by have := HK1.out; omega⟩, by repeat (first | exact Drawn0.refl _ | apply Drawn0.step)⟩
          · rw [if_neg c5] at H
            have c5b0 : ((rd l0 x5_1) == x1_1) = false := beq_eq_false_iff_ne.mpr c5
            have c5b1 : ((rd l0 x5_1) != x1_1) = true := bne_iff_ne.mpr c5
            obtain rfl := Option.some.inj H
            have p195 : 0 ≤ (x5_1 : Int) := DT
            have q195 : x5_1 < (l0.length : Int) := DT
            obtain ⟨ad195, e195, hx195_0⟩ := Kd.at_int HR0.out x5_1 p195 q195
            cases e195
            replace p195 := eq_true p195
            replace q195 := eq_true q195
            go_wp2
            go_ret
            exact ⟨FR, by repeat (first | exact Drawn0.refl _ | apply Drawn0.step)⟩
        · rw [if_neg c4] at H
          exact absurd H (by simp)
      · rw [if_neg c3] at H
        have c3b0 : decide (x5_1 < (l0.length : Int)) = false := decide_eq_false c3
        clear c3
        obtain rfl := Option.some.inj H
        go_wp2
        go_ret
        exact ⟨FR, by repeat (first | exact Drawn0.refl _ | apply Drawn0.step)⟩

end Go.Proofs.Ythgmmebkjhjgcaa.Pr

namespace Go.Proofs.Ythgmmebkjhjgcaa.Lw
open Go.RowKit Go.Proofs.YthgmmebkjhjgcaaW.PrintWords Go.Proofs.Ythgmmebkjhjgcaa.Pr Go.Proofs.Ythgmmebkjhjgcaa.Evs
set_option linter.unusedVariables false
noncomputable def mkIntS : List Int → Int → List Int
  | [], _ => []
  | _ :: s, n => n :: mkIntS s (n + 1)
theorem markIntS_loop (s : List Int) : ∀ (q : List Int) (n : Int), 0 ≤ n → n + s.length < 9223372036854775000 → q.length + s.length < 9223372036854775807 →
    Ev (fun k => laws_markIntS.l0 k (q ++ s) n (q.length : Int)) (n + s.length, q ++ mkIntS s n) := by
  induction s with
  | nil => intro q n h0 h1 hl; exact ev_step (fun k => laws_markIntS.l0.eq_2 _ _ _ k) (ev_neg (by simp) (ev_eq (ev_some _) (by simp [mkIntS])))
  | cons x s ih =>
    intro q n h0 h1 hl
    simp at h1 hl
    have e1 : wrap64 (n + 1) = n + 1 := wrap_in (by omega) (by omega)
    have e0 : wrap64 ((q.length : Int) + 1) = (q.length : Int) + 1 := wrap_in (by omega) (by omega)
    have hr : (n + ((x :: s).length : Int), q ++ mkIntS (x :: s) n) = (n + 1 + (s.length : Int), (q ++ [n]) ++ mkIntS s (n + 1)) := by
      simp [mkIntS]
      omega
    rw [hr]
    have h := ih (q ++ [n]) (n + 1) (by omega) (by omega) (by simp; omega)
    refine ev_step (fun k => laws_markIntS.l0.eq_2 _ _ _ k) ?_
    simp only [e0, e1]
    repeat (first | with_reducible refine ev_pos (by first | omega | (simp; omega)) ?_ | with_reducible refine ev_bind (mt_ev _ (by omega)) ?_ | with_reducible refine ev_call rfl ?_)
    simp only [set_mid _ _ _ _ _ rfl]
    simpa using h
theorem markIntS_ev (l : List Int) (n : Int) (h0 : 0 ≤ n) (h1 : n + l.length < 9223372036854775000) : Ev (fun k => laws_markIntS.f k l n) (n + l.length, mkIntS l n) := by
  unfold laws_markIntS.f
  simpa using markIntS_loop l [] n h0 h1 (by simp; omega)
theorem heldIntS_loop (s : List Int) : ∀ (q : List Int) (n : Int), 0 ≤ n → n + s.length < 9223372036854775000 → q.length + s.length < 9223372036854775807 →
    Ev (fun k => laws_heldIntS.l0 k (q ++ mkIntS s n) n (q.length : Int)) (n + s.length) := by
  induction s with
  | nil => intro q n h0 h1 hl; exact ev_step (fun k => laws_heldIntS.l0.eq_2 _ _ _ k) (ev_neg (by simp [mkIntS]) (ev_eq (ev_some _) (by simp)))
  | cons x s ih =>
    intro q n h0 h1 hl
    simp at h1 hl
    have e1 : wrap64 (n + 1) = n + 1 := wrap_in (by omega) (by omega)
    have e0 : wrap64 ((q.length : Int) + 1) = (q.length : Int) + 1 := wrap_in (by omega) (by omega)
    simp only [mkIntS]
    refine ev_step (fun k => laws_heldIntS.l0.eq_2 _ _ _ k) ?_
    simp only [rdInt, e0, e1]
    repeat (first | with_reducible refine ev_pos (by first | omega | (simp; done) | (simp; omega)) ?_ | with_reducible refine ev_neg (by simp; done) ?_ | with_reducible refine ev_bind (mt_ev _ (by omega)) ?_)
    have h := ih (q ++ [n]) (n + 1) (by omega) (by omega) (by simp; omega)
    have hr : n + ((x :: s).length : Int) = n + 1 + (s.length : Int) := by simp; omega
    rw [hr]
    simpa using h
theorem heldIntS_ev (l : List Int) (n : Int) (h0 : 0 ≤ n) (h1 : n + l.length < 9223372036854775000) : Ev (fun k => laws_heldIntS.f k (mkIntS l n) n) (n + l.length) := by
  unfold laws_heldIntS.f
  simpa using heldIntS_loop l [] n h0 h1 (by simp; omega)
end Go.Proofs.Ythgmmebkjhjgcaa.Lw

namespace Go.Proofs.Ythgmmebkjhjgcaa.Pr
open Go.RowKit Go.Proofs.YthgmmebkjhjgcaaW.PrintWords Go.Proofs.YthgmmebkjhjgcaaW.PrintLast Go.Proofs.YthgmmebkjhjgcaaW.PrintMore
set_option linter.unusedVariables false
set_option linter.unusedSimpArgs false
theorem below_cells {B g : Nat} (hg : B ≤ g) : ∀ (vs : List Value) (o : Nat) (a w : World), Below B a w → Below B a (w.setCells g o vs)
  | [], _, _, _, h => h
  | v :: r, o, a, w, h => below_cells hg r (o + 1) a _ (h.setCell hg v)
end Go.Proofs.Ythgmmebkjhjgcaa.Pr

namespace Go.Proofs.Ythgmmebkjhjgcaa.Pr
open Go.RowKit Go.Proofs.YthgmmebkjhjgcaaW.PrintWords Go.Proofs.YthgmmebkjhjgcaaW.PrintLast Go.Proofs.YthgmmebkjhjgcaaW.PrintMore
set_option linter.unusedVariables false
set_option linter.unusedSimpArgs false
theorem H_open {α : Type} {d : Kd α} {e g cap n : Nat} {W : World} {base : Nat} {ok oki : Nat → Prop} {xs : List α} {i : Int} {c : List Value} (h : Kd.H d e W base ok (.slice (some ⟨g, 0, none⟩) n cap) xs i oki c) (h0 : 0 ≤ i) (h1 : i < n) :
    c.length = d.sz ∧ (∀ j u, c[j]? = some u → W.cell? ⟨g, i.toNat * d.sz + j, none⟩ = some u) ∧ ∀ j, W.frozen? ⟨g, i.toNat * d.sz + j, none⟩ = false := by
  obtain ⟨rows, hl, hraw, hcl, _, hcc, _⟩ := Kd.H_raw h h0 h1
  obtain ⟨_, _, _, _, hfr⟩ := Kd.R_elem hraw [] i h0 h1
  exact ⟨hcl, hcc, hfr⟩
theorem R_reok {α : Type} {d : Kd α} {e : Nat} {W : World} {base : Nat} {ok ok' : Nat → Prop} {v : Value} {xs : List α} (h : d.R e W base ok v xs) (hv : ∀ k, v.ownBlock = some k → ok' k) (hM : ∀ okA okB x cs, d.M W base okA x cs → d.M W base okB x cs) : d.R e W base ok' v xs :=
  ⟨hv, h.2.imp_ (fun _ _ hp => hM _ _ _ _ hp)⟩
end Go.Proofs.Ythgmmebkjhjgcaa.Pr

namespace Go.Proofs.Ythgmmebkjhjgcaa.Pr
open Go.RowKit Go.Proofs.YthgmmebkjhjgcaaW.PrintWords Go.Proofs.YthgmmebkjhjgcaaW.PrintLast Go.Proofs.YthgmmebkjhjgcaaW.PrintMore
attribute [local go_sem] max2_int min2_int max_two min_two max_three min_three max_four min_four
set_option linter.unusedVariables false
set_option linter.unusedSimpArgs false
def laws_markText.l0 : Nat → Int → ByteArray → Option (ByteArray)
  | 0, _, _ => none
  | k + 1, x0, x3 => if x0 > 0 then ((some (([(wrap64 (48 + (Int.tmod x0 10))) % 256] : List Int) : List Int)).bind fun y186 => (if (strOfNums y186).size + x3.size ≤ 9223372036854775807 then (laws_markText.l0 k (wrap64 (Int.tdiv x0 10)) ((strOfNums y186) ++ x3)) else (none))) else (if 1 + x3.size ≤ 9223372036854775807 then (some ((⟨#[109]⟩ : ByteArray) ++ x3)) else (none))
def laws_markText.f (k : Nat) (a0 : Int) : Option (ByteArray) := if a0 ≤ 0 then (some (⟨#[109, 48]⟩ : ByteArray)) else (laws_markText.l0 k a0 (⟨#[]⟩ : ByteArray))
set_option maxHeartbeats 8000000 in
set_option maxRecDepth 100000 in
theorem laws_markText.calls (k : Nat) (a0 : Int) (r : ByteArray) (w : World) (h : laws_markText.f k a0 = some r) :
    Calls Try.prog 29 #[.int .i64 a0] w fun e w' => e = .returned (.string r) ∧ Below w.heap.size w w' := by
  have HB := Aside0.mk (Below.refl w.heap.size w)
  have H : (if a0 ≤ 0 then (some (⟨#[109, 48]⟩ : ByteArray)) else (laws_markText.l0 k a0 (⟨#[]⟩ : ByteArray))) = some r := h
  clear h
  by_cases c2 : a0 ≤ 0
  · rw [if_pos c2] at H
    have c2b0 : decide (a0 ≤ 0) = true := decide_eq_true c2
    clear c2
    obtain rfl := Option.some.inj H
    go_enter Try.func29, Try.ntmps29
    go_wp2
    go_ret
    exact ⟨ER, (BB HB.out)⟩
  · rw [if_neg c2] at H
    have c2b0 : decide (a0 ≤ 0) = false := decide_eq_false c2
    clear c2
    have H' := Aside0.mk H
    clear H
    go_enter Try.func29, Try.ntmps29
    go_wp2
    go_loopg [0, 3] k (fun kq v0 v3 w' => ∃ (x0_1 : Int) (x3_1 : ByteArray), v0 = .int .i64 x0_1 ∧ v3 = .string x3_1 ∧ Aside0 (laws_markText.l0 kq x0_1 x3_1 = some r) ∧ Aside0 (kq ≤ k) ∧ Aside0 (Below w.heap.size w w'))
    case atStart => exact ⟨(a0), ((⟨#[]⟩ : ByteArray)), FR, FR, H', ⟨Nat.le_refl _⟩, ⟨(BB HB.out)⟩⟩
    case round =>
      clear H'
      try clear c2
      try clear c2b0
      try clear p2
      obtain ⟨x0_1, x3_1, rfl, rfl, HA, HK1, HB⟩ := hrel
      cases gk with
      | zero => exact absurd HA.out (by simp [laws_markText.l0])
      | succ k1 =>
        have H := HA.out
        clear HA
        simp only [laws_markText.l0] at H
        by_cases c3 : x0_1 > 0
        · rw [if_pos c3] at H
          have c3b0 : decide (0 < x0_1) = true := decide_eq_true c3
          clear c3
          obtain ⟨y186, hy186⟩ : ∃ y_ : List Int, y_ = (([(wrap64 (48 + (Int.tmod x0_1 10))) % 256] : List Int)) := ⟨_, rfl⟩
          replace H : (if (strOfNums y186).size + x3_1.size ≤ 9223372036854775807 then (laws_markText.l0 k1 (wrap64 (Int.tdiv x0_1 10)) ((strOfNums y186) ++ x3_1)) else (none)) = some r := by first | (rw [hy186]; with_reducible exact H) | (have H2_ := (Option.bind_some _ _).symm.trans H; rw [hy186]; with_reducible exact H2_) | (have H2_ := (Option.bind_some _ _).symm.trans H; with_reducible exact H2_) | with_reducible exact H | (rw [hy186]; exact H) | exact H
          have Ny186 := Aside0.mk hy186
          clear hy186
          by_cases c4 : (strOfNums y186).size + x3_1.size ≤ 9223372036854775807
          · rw [if_pos c4] at H
            have c4b0 := eq_true c4
            have c4b1 : decide ((strOfNums y186).size + x3_1.size ≤ 9223372036854775807) = true := decide_eq_true c4
            try have c4b2 : (9223372036854775807 < (strOfNums y186).size + x3_1.size) = False := eq_false (Nat.not_lt.2 c4)
            have H' := Aside0.mk H
            clear H
            go_wp2_with (first | ((with_reducible refine gate_dst (N := 12) rfl ?_); refine Kd.R_lit (Kd.int .u8) _ 5 ?hg (N := 12) ?hd (xs := ([(wrap64 (48 + (Int.tmod x0_1 10))) % 256] : List Int)) (inner := [.int .u8 ((wrap64 (48 + (Int.tmod x0_1 10))) % 256)]) (ok := fun _ => True) (okp := fun _ => True) ?hr ?hp (fun _ hk => hk) trivial (Below.refl _ _) (Nat.le_refl _) (by simp) ?_; (case hd => rfl); (case hg => rfl); (case hr => first | (go_simp; done) | (go_simp; rfl)); (case hp => exact (Reps.one (show Kd.M (Kd.int .u8) _ _ _ ((wrap64 (48 + (Int.tmod x0_1 10))) % 256) [.int .u8 ((wrap64 (48 + (Int.tmod x0_1 10))) % 256)] from rfl) (Reps.none _ _))); intro v187 w5 ho6 hb hg_ hnew_; clear hg_ hnew_; (first | rw [← Ny186.out] at ho6 | (simp only [Int.reduceToNat] at ho6; rw [← Ny186.out] at ho6)); have HO188 := Aside0.mk (Kd.R_lower ho6 (below_size (BB HB.out))); replace HB := Aside0.mk (below_step (BB HB.out) hb); clear hb ho6; have hcv7 := own_string (P := Try.prog) Try.underlying63 Try.underlying5 Try.underlying9 (Kd.own_of_R HO188.out)))
            go_roundg k1
            case measure => have := HK1.out; omega
            case rel => exact ⟨(wrap64 (Int.tdiv x0_1 10)), ((strOfNums y186) ++ x3_1), FR, FR, H', ⟨by have := HK1.out; omega⟩, ⟨(BB HB.out)⟩⟩
          · rw [if_neg c4] at H
            exact absurd H (by simp)
        · rw [if_neg c3] at H
          have c3b0 : decide (0 < x0_1) = false := decide_eq_false c3
          clear c3
          by_cases c8 : 1 + x3_1.size ≤ 9223372036854775807
          · rw [if_pos c8] at H
            have c8b0 := eq_true c8
            have c8b1 : decide (1 + x3_1.size ≤ 9223372036854775807) = true := decide_eq_true c8
            try have c8b2 : (9223372036854775807 < 1 + x3_1.size) = False := eq_false (Nat.not_lt.2 c8)
            obtain rfl := Option.some.inj H
            go_wp2
            go_ret
            exact ⟨ER, (BB HB.out)⟩
          · rw [if_neg c8] at H
            exact absurd H (by simp)

end Go.Proofs.Ythgmmebkjhjgcaa.Pr

namespace Go.Proofs.Ythgmmebkjhjgcaa.Lw
open Go.RowKit Go.Proofs.YthgmmebkjhjgcaaW.PrintWords Go.Proofs.Ythgmmebkjhjgcaa.Pr Go.Proofs.Ythgmmebkjhjgcaa.Evs
set_option linter.unusedVariables false
theorem strOfNums_one (a : Int) : (strOfNums [a]).size = 1 := rfl
theorem markText_loop (n : Nat) : ∀ (x : Int) (acc : ByteArray), x.toNat ≤ n → acc.size + x.toNat < 9223372036854775806 → ∃ t, Ev (fun k => laws_markText.l0 k x acc) t := by
  induction n with
  | zero =>
    intro x acc hx hs
    exact ⟨_, ev_step (fun k => laws_markText.l0.eq_2 _ _ k) (ev_neg (by omega) (ev_pos (by omega) (ev_some _)))⟩
  | succ n ih =>
    intro x acc hx hs
    by_cases c : x > 0
    · have e : Int.tdiv x 10 = x / 10 := Int.tdiv_eq_ediv_of_nonneg (by omega)
      have ew : wrap64 (Int.tdiv x 10) = x / 10 := by rw [e]; exact wrap_in (by omega) (by omega)
      have es : (strOfNums [(wrap64 (48 + (Int.tmod x 10))) % 256] ++ acc).size = 1 + acc.size := by rw [ByteArray.size_append, strOfNums_one]
      obtain ⟨t, ht⟩ := ih (x / 10) (strOfNums [(wrap64 (48 + (Int.tmod x 10))) % 256] ++ acc) (by omega) (by rw [es]; omega)
      refine ⟨t, ev_step (fun k => laws_markText.l0.eq_2 _ _ k) (ev_pos c (ev_call rfl (ev_pos ?_ (by rw [ew]; exact ht))))⟩
      rw [strOfNums_one]
      omega
    · exact ⟨_, ev_step (fun k => laws_markText.l0.eq_2 _ _ k) (ev_neg c (ev_pos (by omega) (ev_some _)))⟩
theorem markText_some (x : Int) (h0 : x < 9223372036854775800) : ∃ t, Ev (fun k => laws_markText.f k x) t := by
  unfold laws_markText.f
  by_cases c : x ≤ 0
  · exact ⟨_, ev_pos c (ev_some _)⟩
  · obtain ⟨t, ht⟩ := markText_loop x.toNat x ⟨#[]⟩ (Nat.le_refl _) (by simp [ByteArray.size]; omega)
    exact ⟨t, ev_neg c ht⟩
open Classical in
noncomputable def mt (x : Int) : ByteArray := if h : ∃ t, Ev (fun k => laws_markText.f k x) t then Classical.choose h else ⟨#[]⟩
theorem mt_ev (x : Int) (h0 : x < 9223372036854775800) : Ev (fun k => laws_markText.f k x) (mt x) := by
  unfold mt
  rw [dif_pos (markText_some x h0)]
  exact Classical.choose_spec (markText_some x h0)
end Go.Proofs.Ythgmmebkjhjgcaa.Lw

namespace Go.Proofs.Ythgmmebkjhjgcaa.Pr
open Go.RowKit Go.Proofs.YthgmmebkjhjgcaaW.PrintWords Go.Proofs.YthgmmebkjhjgcaaW.PrintLast Go.Proofs.YthgmmebkjhjgcaaW.PrintMore
attribute [local go_sem] max2_int min2_int max_two min_two max_three min_three max_four min_four
set_option linter.unusedVariables false
set_option linter.unusedSimpArgs false
def laws_markUnitS.l0 : Nat → List (S55) → Int → Int → Option (Int × (List (S55)))
  | 0, _, _, _ => none
  | k + 1, x0, x1, x5 => if x5 < (x0.length : Int) then (if 0 ≤ x5 then ((some (x0.set (x5 : Int).toNat (⟨x1, (rd_T55 x0 x5).f1, (rd_T55 x0 x5).f2, (rd_T55 x0 x5).f3⟩ : S55) : List (S55))).bind fun y189 => ((some (y189.set (x5 : Int).toNat (⟨(rd_T55 y189 x5).f0, wrap64 (x1 + 1), (rd_T55 y189 x5).f2, (rd_T55 y189 x5).f3⟩ : S55) : List (S55))).bind fun y190 => ((laws_markText.f k (wrap64 ((wrap64 (x1 + 1)) + 1))).bind fun t191 => ((some (y190.set (x5 : Int).toNat (⟨(rd_T55 y190 x5).f0, (rd_T55 y190 x5).f1, t191, (rd_T55 y190 x5).f3⟩ : S55) : List (S55))).bind fun y192 => (laws_markUnitS.l0 k (y192.set (x5 : Int).toNat (⟨(rd_T55 y192 x5).f0, (rd_T55 y192 x5).f1, (rd_T55 y192 x5).f2, wrap64 ((wrap64 ((wrap64 (x1 + 1)) + 1)) + 1)⟩ : S55)) (wrap64 ((wrap64 ((wrap64 ((wrap64 (x1 + 1)) + 1)) + 1)) + 1)) (wrap64 (x5 + 1))))))) else (none)) else (some (x1, x0))
def laws_markUnitS.f (k : Nat) (l0 : List (S55)) (a1 : Int) : Option (Int × (List (S55))) := laws_markUnitS.l0 k l0 a1 0
set_option maxHeartbeats 8000000 in
set_option maxRecDepth 100000 in
theorem laws_markUnitS.calls (k : Nat) (P0_ : Nat → Prop) (u9000_ : Value) (l0 : List (S55)) (a1 : Int) (r1 : Int) (r2 : List (S55)) (w0 w : World) (hB : Below w0.heap.size w0 w) (ho0 : Kd.R k55 55 w w0.heap.size P0_ u9000_ l0) (h : laws_markUnitS.f k l0 a1 = some (r1, r2)) :
    Calls Try.prog 19 #[u9000_, .int .i64 a1] w fun e w' => e = .returned (.int .i64 r1) ∧ Kd.R k55 55 w' w0.heap.size (fun k_ => (P0_ k_ ∨ w.heap.size ≤ k_)) u9000_ r2 ∧ Below w0.heap.size w0 w' ∧ Kept w w' (fun k_ => P0_ k_) := by
  have HO0 := Aside0.mk (show Kd.R k55 55 w w0.heap.size (fun k_ => (P0_ k_ ∨ w.heap.size ≤ k_)) u9000_ l0 from Kd.R_mono ho0 (fun k_ hk => (.inl hk)))
  have HK := Aside0.mk (Kept.refl w (fun k_ => P0_ k_))
  have HW0 := Aside0.mk hB.size
  have HB := Aside0.mk hB
  clear hB
  have H : (laws_markUnitS.l0 k l0 a1 0) = some (r1, r2) := h
  clear h
  have H' := Aside0.mk H
  clear H
  go_enter Try.func19, Try.ntmps19
  go_wp2
  go_loopg [1, 5] k (fun kq v1 v5 w' => ∃ (x0_1 : List (S55)) (x1_1 : Int) (x5_1 : Int), v1 = .int .i64 x1_1 ∧ v5 = .int .i64 x5_1 ∧ Aside0 (laws_markUnitS.l0 kq x0_1 x1_1 x5_1 = some (r1, r2)) ∧ Aside0 (kq ≤ k) ∧ Aside0 (Kd.R k55 55 w' w0.heap.size (fun k_ => (P0_ k_ ∨ w.heap.size ≤ k_)) u9000_ x0_1) ∧ Aside0 (Kept w w' (fun k_ => P0_ k_)) ∧ Aside0 (Below w0.heap.size w0 w'))
  case atStart => exact ⟨(l0), (a1), (0), FR, FR, H', ⟨Nat.le_refl _⟩, ⟨(RR HO0.out)⟩, ⟨by repeat (first | (with_reducible first | exact HK.out | apply Kept.alloc | apply Kept.drewN | apply Kept.drew) | exact HK.out)⟩, ⟨(BB HB.out)⟩⟩
  case round =>
    clear H'
    try clear c1
    try clear p2
    obtain ⟨x0_1, x1_1, x5_1, rfl, rfl, HA, HK1, HO_0, HK, HB⟩ := hrel
    cases gk with
    | zero => exact absurd HA.out (by simp [laws_markUnitS.l0])
    | succ k1 =>
      have H := HA.out
      clear HA
      simp only [laws_markUnitS.l0] at H
      by_cases c3 : x5_1 < (x0_1.length : Int)
      · rw [if_pos c3] at H
        have c3b0 : decide (x5_1 < (x0_1.length : Int)) = true := decide_eq_true c3
        clear c3
        by_cases c4 : 0 ≤ x5_1
        · rw [if_pos c4] at H
          have c4b0 : decide (0 ≤ x5_1) = true := decide_eq_true c4
          clear c4
          obtain ⟨y189, hy189⟩ : ∃ y_ : List (S55), y_ = (x0_1.set (x5_1 : Int).toNat (⟨x1_1, (rd_T55 x0_1 x5_1).f1, (rd_T55 x0_1 x5_1).f2, (rd_T55 x0_1 x5_1).f3⟩ : S55)) := ⟨_, rfl⟩
          replace H : ((some (y189.set (x5_1 : Int).toNat (⟨(rd_T55 y189 x5_1).f0, wrap64 (x1_1 + 1), (rd_T55 y189 x5_1).f2, (rd_T55 y189 x5_1).f3⟩ : S55) : List (S55))).bind fun y190 => ((laws_markText.f k1 (wrap64 ((wrap64 (x1_1 + 1)) + 1))).bind fun t191 => ((some (y190.set (x5_1 : Int).toNat (⟨(rd_T55 y190 x5_1).f0, (rd_T55 y190 x5_1).f1, t191, (rd_T55 y190 x5_1).f3⟩ : S55) : List (S55))).bind fun y192 => (laws_markUnitS.l0 k1 (y192.set (x5_1 : Int).toNat (⟨(rd_T55 y192 x5_1).f0, (rd_T55 y192 x5_1).f1, (rd_T55 y192 x5_1).f2, wrap64 ((wrap64 ((wrap64 (x1_1 + 1)) + 1)) + 1)⟩ : S55)) (wrap64 ((wrap64 ((wrap64 ((wrap64 (x1_1 + 1)) + 1)) + 1)) + 1)) (wrap64 (x5_1 + 1)))))) = some (r1, r2) := by first | (rw [hy189]; with_reducible exact H) | (have H2_ := (Option.bind_some _ _).symm.trans H; rw [hy189]; with_reducible exact H2_) | (have H2_ := (Option.bind_some _ _).symm.trans H; with_reducible exact H2_) | with_reducible exact H | (rw [hy189]; exact H) | exact H
          have Ny189 := Aside0.mk hy189
          clear hy189
          obtain ⟨y190, hy190⟩ : ∃ y_ : List (S55), y_ = (y189.set (x5_1 : Int).toNat (⟨(rd_T55 y189 x5_1).f0, wrap64 (x1_1 + 1), (rd_T55 y189 x5_1).f2, (rd_T55 y189 x5_1).f3⟩ : S55)) := ⟨_, rfl⟩
          replace H : ((laws_markText.f k1 (wrap64 ((wrap64 (x1_1 + 1)) + 1))).bind fun t191 => ((some (y190.set (x5_1 : Int).toNat (⟨(rd_T55 y190 x5_1).f0, (rd_T55 y190 x5_1).f1, t191, (rd_T55 y190 x5_1).f3⟩ : S55) : List (S55))).bind fun y192 => (laws_markUnitS.l0 k1 (y192.set (x5_1 : Int).toNat (⟨(rd_T55 y192 x5_1).f0, (rd_T55 y192 x5_1).f1, (rd_T55 y192 x5_1).f2, wrap64 ((wrap64 ((wrap64 (x1_1 + 1)) + 1)) + 1)⟩ : S55)) (wrap64 ((wrap64 ((wrap64 ((wrap64 (x1_1 + 1)) + 1)) + 1)) + 1)) (wrap64 (x5_1 + 1))))) = some (r1, r2) := by first | (rw [hy190]; with_reducible exact H) | (have H2_ := (Option.bind_some _ _).symm.trans H; rw [hy190]; with_reducible exact H2_) | (have H2_ := (Option.bind_some _ _).symm.trans H; with_reducible exact H2_) | with_reducible exact H | (rw [hy190]; exact H) | exact H
          have Ny190 := Aside0.mk hy190
          clear hy190
          replace H := Option.bind_eq_some_iff.mp H
          obtain ⟨t191, A70, H⟩ := H
          replace H : ((some (y190.set (x5_1 : Int).toNat (⟨(rd_T55 y190 x5_1).f0, (rd_T55 y190 x5_1).f1, t191, (rd_T55 y190 x5_1).f3⟩ : S55) : List (S55))).bind fun y192 => (laws_markUnitS.l0 k1 (y192.set (x5_1 : Int).toNat (⟨(rd_T55 y192 x5_1).f0, (rd_T55 y192 x5_1).f1, (rd_T55 y192 x5_1).f2, wrap64 ((wrap64 ((wrap64 (x1_1 + 1)) + 1)) + 1)⟩ : S55)) (wrap64 ((wrap64 ((wrap64 ((wrap64 (x1_1 + 1)) + 1)) + 1)) + 1)) (wrap64 (x5_1 + 1)))) = some (r1, r2) := H
          have A7 := Aside0.mk A70
          clear A70
          obtain ⟨y192, hy192⟩ : ∃ y_ : List (S55), y_ = (y190.set (x5_1 : Int).toNat (⟨(rd_T55 y190 x5_1).f0, (rd_T55 y190 x5_1).f1, t191, (rd_T55 y190 x5_1).f3⟩ : S55)) := ⟨_, rfl⟩
          replace H : (laws_markUnitS.l0 k1 (y192.set (x5_1 : Int).toNat (⟨(rd_T55 y192 x5_1).f0, (rd_T55 y192 x5_1).f1, (rd_T55 y192 x5_1).f2, wrap64 ((wrap64 ((wrap64 (x1_1 + 1)) + 1)) + 1)⟩ : S55)) (wrap64 ((wrap64 ((wrap64 ((wrap64 (x1_1 + 1)) + 1)) + 1)) + 1)) (wrap64 (x5_1 + 1))) = some (r1, r2) := by first | (rw [hy192]; with_reducible exact H) | (have H2_ := (Option.bind_some _ _).symm.trans H; rw [hy192]; with_reducible exact H2_) | (have H2_ := (Option.bind_some _ _).symm.trans H; with_reducible exact H2_) | with_reducible exact H | (rw [hy192]; exact H) | exact H
          have Ny192 := Aside0.mk hy192
          clear hy192
          obtain ⟨y193, hy193⟩ : ∃ y_ : List (S55), y_ = (y192.set (x5_1 : Int).toNat (⟨(rd_T55 y192 x5_1).f0, (rd_T55 y192 x5_1).f1, (rd_T55 y192 x5_1).f2, wrap64 ((wrap64 ((wrap64 (x1_1 + 1)) + 1)) + 1)⟩ : S55)) := ⟨_, rfl⟩
          replace H : (laws_markUnitS.l0 k1 y193 (wrap64 ((wrap64 ((wrap64 ((wrap64 (x1_1 + 1)) + 1)) + 1)) + 1)) (wrap64 (x5_1 + 1))) = some (r1, r2) := by first | (rw [hy193]; with_reducible exact H) | (have H2_ := (Option.bind_some _ _).symm.trans H; rw [hy193]; with_reducible exact H2_) | (have H2_ := (Option.bind_some _ _).symm.trans H; with_reducible exact H2_) | with_reducible exact H | (rw [hy193]; exact H) | exact H
          have Ny193 := Aside0.mk hy193
          clear hy193
          have H' := Aside0.mk H
          clear H
          obtain ⟨Ao10, co10, eo10⟩ := Kd.R_slice HO_0.out
          subst eo10
          have p5 : 0 ≤ (x5_1 : Int) := DT
          have q5 : (x5_1 : Int) < ((x0_1.length : Int) : Int) := DT
          obtain ⟨go5, co5, eo5, gb5, gl5, cl5, HG5⟩ := Kd.R_form HO_0.out (by omega)
          (first | cases eo5 | (injection eo5 with ea_ en_ ec_; (first | subst ea_ | (injection ea_ with ea_; subst ea_)); subst ec_; clear en_))
          have GB5 := Aside0.mk gb5
          have GG5 := Aside0.mk HG5
          clear gb5 gl5 HG5
          have HMgo5 := Aside0.mk (show (P0_ go5 ∨ w.heap.size ≤ go5) from (HO_0.out.1 _ rfl))
          obtain ⟨ce5, hcl5, hM5, hcc5, hfr5⟩ := Kd.R_elem HO_0.out z55 (x5_1 : Int) p5 q5
          obtain rfl := k55_openM hM5
          have hx5_0 : wr.cell? ⟨go5, (x5_1 : Int).toNat * 4, none⟩ = some (.int .i64 ((rd_T55 x0_1 x5_1).f0)) := hcc5 0 _ rfl
          have hx5_1 : wr.cell? ⟨go5, (x5_1 : Int).toNat * 4 + 1, none⟩ = some (.int .i64 ((rd_T55 x0_1 x5_1).f1)) := hcc5 1 _ rfl
          have hx5_2 : wr.cell? ⟨go5, (x5_1 : Int).toNat * 4 + 2, none⟩ = some (.string ((rd_T55 x0_1 x5_1).f2)) := hcc5 2 _ rfl
          have hx5_3 : wr.cell? ⟨go5, (x5_1 : Int).toNat * 4 + 3, none⟩ = some (.int .i64 ((rd_T55 x0_1 x5_1).f3)) := hcc5 3 _ rfl
          have hf5_0 : wr.frozen? ⟨go5, (x5_1 : Int).toNat * 4, none⟩ = false := hfr5 0
          have hf5_1 : wr.frozen? ⟨go5, (x5_1 : Int).toNat * 4 + 1, none⟩ = false := hfr5 1
          have hf5_2 : wr.frozen? ⟨go5, (x5_1 : Int).toNat * 4 + 2, none⟩ = false := hfr5 2
          have hf5_3 : wr.frozen? ⟨go5, (x5_1 : Int).toNat * 4 + 3, none⟩ = false := hfr5 3
          clear hcl5 hcc5 hfr5 hM5
          replace p5 := eq_true p5
          replace q5 := eq_true q5
          have HX11 := Aside0.mk (show Kd.R k55 55 wr w0.heap.size (fun k_ => (P0_ k_ ∨ w.heap.size ≤ k_)) (.slice (some ⟨go5, 0, none⟩) x0_1.length co10) x0_1 from (RR HO_0.out))
          obtain ⟨ce11, hcl11, hM11, hcc11, hfr11⟩ := Kd.R_elem HX11.out z55 (x5_1 : Int) DT (by have h_ : (x5_1 : Int) < ((x0_1.length : Int) : Int) := DT; first | exact h_ | (have e_ := (Kd.R_reads' HO_0.out).1; omega) | simpa using h_)
          obtain rfl := k55_openM hM11
          have HP11 := Kd.R_seg HX11.out (x5_1 : Int) DT (by have h_ : (x5_1 : Int) < ((x0_1.length : Int) : Int) := DT; first | exact h_ | (have e_ := (Kd.R_reads' HO_0.out).1; omega) | simpa using h_) (seg := [.int .i64 x1_1]) (j := 0) hcl11 hcc11 (show 1 ≤ 4 from by decide) (x' := (⟨x1_1, (rd_T55 x0_1 x5_1).f1, (rd_T55 x0_1 x5_1).f2, (rd_T55 x0_1 x5_1).f3⟩ : S55)) (k55_mkM _ _ _ (⟨x1_1, (rd_T55 x0_1 x5_1).f1, (rd_T55 x0_1 x5_1).f2, (rd_T55 x0_1 x5_1).f3⟩ : S55) ) (fun _ hk => hk)
          have hx11_0 := hcc11 0 _ rfl
          (try simp only [show (k55).sz = 4 from rfl, Nat.mul_one, Nat.add_zero] at hx11_0)
          have hf11_0 := hfr11 0
          (try simp only [show (k55).sz = 4 from rfl, Nat.mul_one, Nat.add_zero] at hf11_0)
          clear hcl11 hcc11 hfr11 hM11
          go_wp2_with (first | ((with_reducible refine gate_store (t := 3) (p := 16) rfl ?_); refine store_event (t := 3) (p := 16) (v := ?vo_w12) (w1 := (wr.setCell ⟨go5, (x5_1 : Int).toNat * 4, none⟩ (.int .i64 x1_1))) ?hg ?ho ?hn ?hr ?_; (case ho => rfl); (case hg => rfl); (case hn => rfl); (case hr => first | (go_simp; done) | (go_simp; rfl)); intro w12 hw; have hg : wr.grownBy w12 (some go5) := (by rw [hw]; exact HP11.2); have hp_ : Kd.R k55 55 w12 w0.heap.size (fun k_ => (P0_ k_ ∨ w.heap.size ≤ k_)) (.slice (some ⟨go5, 0, none⟩) x0_1.length co10) y189 := (by rw [hw, Ny189.out]; exact HP11.1); clear HP11; have n0_ := Aside0.mk (hp_); have n1_ := Aside0.mk ((by rw [hw]; exact below_set (HB.out) GB5.out : Below w0.heap.size w0 w12)); have n2_ := Aside0.mk (Kept.of_grown (S := (fun k_ => P0_ k_)) hg (by repeat (first | (with_reducible first | exact HK.out | apply Kept.alloc | apply Kept.drewN | apply Kept.drew) | exact HK.out)) (fun k_ e_ => (HO_0.out.1 k_ e_))); clear HO_0; clear HB; clear HK; have HO_0 := n0_; have HB := n1_; have HK := n2_; clear n0_ n1_ n2_; clear hg hw hp_; have p6 : 0 ≤ (x5_1 : Int) := DT; have q6 : (x5_1 : Int) < ((x0_1.length : Int) : Int) := DT; obtain ⟨ce6, hcl6, hM6, hcc6, hfr6⟩ := Kd.R_elem HO_0.out z55 (x5_1 : Int) p6 q6; obtain rfl := k55_openM hM6; have hx6_0 : w12.cell? ⟨go5, (x5_1 : Int).toNat * 4, none⟩ = some (.int .i64 ((rd_T55 y189 x5_1).f0)) := hcc6 0 _ rfl; have hx6_1 : w12.cell? ⟨go5, (x5_1 : Int).toNat * 4 + 1, none⟩ = some (.int .i64 ((rd_T55 y189 x5_1).f1)) := hcc6 1 _ rfl; have hx6_2 : w12.cell? ⟨go5, (x5_1 : Int).toNat * 4 + 2, none⟩ = some (.string ((rd_T55 y189 x5_1).f2)) := hcc6 2 _ rfl; have hx6_3 : w12.cell? ⟨go5, (x5_1 : Int).toNat * 4 + 3, none⟩ = some (.int .i64 ((rd_T55 y189 x5_1).f3)) := hcc6 3 _ rfl; have hf6_0 : w12.frozen? ⟨go5, (x5_1 : Int).toNat * 4, none⟩ = false := hfr6 0; have hf6_1 : w12.frozen? ⟨go5, (x5_1 : Int).toNat * 4 + 1, none⟩ = false := hfr6 1; have hf6_2 : w12.frozen? ⟨go5, (x5_1 : Int).toNat * 4 + 2, none⟩ = false := hfr6 2; have hf6_3 : w12.frozen? ⟨go5, (x5_1 : Int).toNat * 4 + 3, none⟩ = false := hfr6 3; clear hcl6 hcc6 hfr6 hM6; replace p6 := eq_true p6; replace q6 := eq_true q6; have HX13 := Aside0.mk (show Kd.R k55 55 w12 w0.heap.size (fun k_ => (P0_ k_ ∨ w.heap.size ≤ k_)) (.slice (some ⟨go5, 0, none⟩) x0_1.length co10) y189 from (RR HO_0.out)); obtain ⟨ce13, hcl13, hM13, hcc13, hfr13⟩ := Kd.R_elem HX13.out z55 (x5_1 : Int) DT (by have h_ : (x5_1 : Int) < ((x0_1.length : Int) : Int) := DT; first | exact h_ | (have e_ := (Kd.R_reads' HO_0.out).1; omega) | simpa using h_); obtain rfl := k55_openM hM13; have HP13 := Kd.R_seg HX13.out (x5_1 : Int) DT (by have h_ : (x5_1 : Int) < ((x0_1.length : Int) : Int) := DT; first | exact h_ | (have e_ := (Kd.R_reads' HO_0.out).1; omega) | simpa using h_) (seg := [.int .i64 (wrap64 (x1_1 + 1))]) (j := 1) hcl13 hcc13 (show 2 ≤ 4 from by decide) (x' := (⟨(rd_T55 y189 x5_1).f0, wrap64 (x1_1 + 1), (rd_T55 y189 x5_1).f2, (rd_T55 y189 x5_1).f3⟩ : S55)) (k55_mkM _ _ _ (⟨(rd_T55 y189 x5_1).f0, wrap64 (x1_1 + 1), (rd_T55 y189 x5_1).f2, (rd_T55 y189 x5_1).f3⟩ : S55) ) (fun _ hk => hk); have hx13_1 := hcc13 1 _ rfl; (try simp only [show (k55).sz = 4 from rfl, Nat.mul_one, Nat.add_zero] at hx13_1); have hf13_1 := hfr13 1; (try simp only [show (k55).sz = 4 from rfl, Nat.mul_one, Nat.add_zero] at hf13_1); clear hcl13 hcc13 hfr13 hM13) | ((with_reducible refine gate_store (t := 3) (p := 23) rfl ?_); refine store_event (t := 3) (p := 23) (v := ?vo_w14) (w1 := (w12.setCell ⟨go5, (x5_1 : Int).toNat * 4 + 1, none⟩ (.int .i64 (wrap64 (x1_1 + 1))))) ?hg ?ho ?hn ?hr ?_; (case ho => rfl); (case hg => rfl); (case hn => rfl); (case hr => first | (go_simp; done) | (go_simp; rfl)); intro w14 hw; have hg : w12.grownBy w14 (some go5) := (by rw [hw]; exact HP13.2); have hp_ : Kd.R k55 55 w14 w0.heap.size (fun k_ => (P0_ k_ ∨ w.heap.size ≤ k_)) (.slice (some ⟨go5, 0, none⟩) x0_1.length co10) y190 := (by rw [hw, Ny190.out]; exact HP13.1); clear HP13; have n0_ := Aside0.mk (hp_); have n1_ := Aside0.mk ((by rw [hw]; exact below_set (HB.out) GB5.out : Below w0.heap.size w0 w14)); have n2_ := Aside0.mk (Kept.of_grown (S := (fun k_ => P0_ k_)) hg (by repeat (first | (with_reducible first | exact HK.out | apply Kept.alloc | apply Kept.drewN | apply Kept.drew) | exact HK.out)) (fun k_ e_ => (HO_0.out.1 k_ e_))); clear HO_0; clear HB; clear HK; have HO_0 := n0_; have HB := n1_; have HK := n2_; clear n0_ n1_ n2_; clear hg hw hp_) | ((with_reducible refine gate_callee (f := 29) rfl ?_); refine GL (some 29) rfl rfl Try.func29 #[.int .i64 (wrap64 ((wrap64 (x1_1 + 1)) + 1))] rfl ?_; (with_reducible refine (laws_markText.calls k1 (wrap64 ((wrap64 (x1_1 + 1)) + 1)) t191 _ A7.out).mono ?_); rintro e w15 ⟨rfl, hb⟩; refine ⟨_, rfl, ?_⟩; replace HO_0 := Aside0.mk (Kd.R_below (RR HO_0.out) hb); replace HK := Aside0.mk (Kept.below (S := (fun k_ => P0_ k_)) (by repeat (first | (with_reducible first | exact HK.out | apply Kept.alloc | apply Kept.drewN | apply Kept.drew) | exact HK.out)) hb); replace HB := Aside0.mk (below_step (BB HB.out) hb); (try clear hb); have p8 : 0 ≤ (x5_1 : Int) := DT; have q8 : (x5_1 : Int) < ((x0_1.length : Int) : Int) := DT; obtain ⟨ce8, hcl8, hM8, hcc8, hfr8⟩ := Kd.R_elem HO_0.out z55 (x5_1 : Int) p8 q8; obtain rfl := k55_openM hM8; have hx8_0 : w15.cell? ⟨go5, (x5_1 : Int).toNat * 4, none⟩ = some (.int .i64 ((rd_T55 y190 x5_1).f0)) := hcc8 0 _ rfl; have hx8_1 : w15.cell? ⟨go5, (x5_1 : Int).toNat * 4 + 1, none⟩ = some (.int .i64 ((rd_T55 y190 x5_1).f1)) := hcc8 1 _ rfl; have hx8_2 : w15.cell? ⟨go5, (x5_1 : Int).toNat * 4 + 2, none⟩ = some (.string ((rd_T55 y190 x5_1).f2)) := hcc8 2 _ rfl; have hx8_3 : w15.cell? ⟨go5, (x5_1 : Int).toNat * 4 + 3, none⟩ = some (.int .i64 ((rd_T55 y190 x5_1).f3)) := hcc8 3 _ rfl; have hf8_0 : w15.frozen? ⟨go5, (x5_1 : Int).toNat * 4, none⟩ = false := hfr8 0; have hf8_1 : w15.frozen? ⟨go5, (x5_1 : Int).toNat * 4 + 1, none⟩ = false := hfr8 1; have hf8_2 : w15.frozen? ⟨go5, (x5_1 : Int).toNat * 4 + 2, none⟩ = false := hfr8 2; have hf8_3 : w15.frozen? ⟨go5, (x5_1 : Int).toNat * 4 + 3, none⟩ = false := hfr8 3; clear hcl8 hcc8 hfr8 hM8; replace p8 := eq_true p8; replace q8 := eq_true q8; have HX16 := Aside0.mk (show Kd.R k55 55 w15 w0.heap.size (fun k_ => (P0_ k_ ∨ w.heap.size ≤ k_)) (.slice (some ⟨go5, 0, none⟩) x0_1.length co10) y190 from (RR HO_0.out)); obtain ⟨ce16, hcl16, hM16, hcc16, hfr16⟩ := Kd.R_elem HX16.out z55 (x5_1 : Int) DT (by have h_ : (x5_1 : Int) < ((x0_1.length : Int) : Int) := DT; first | exact h_ | (have e_ := (Kd.R_reads' HO_0.out).1; omega) | simpa using h_); obtain rfl := k55_openM hM16; have HP16 := Kd.R_seg HX16.out (x5_1 : Int) DT (by have h_ : (x5_1 : Int) < ((x0_1.length : Int) : Int) := DT; first | exact h_ | (have e_ := (Kd.R_reads' HO_0.out).1; omega) | simpa using h_) (seg := [.string t191]) (j := 2) hcl16 hcc16 (show 3 ≤ 4 from by decide) (x' := (⟨(rd_T55 y190 x5_1).f0, (rd_T55 y190 x5_1).f1, t191, (rd_T55 y190 x5_1).f3⟩ : S55)) (k55_mkM _ _ _ (⟨(rd_T55 y190 x5_1).f0, (rd_T55 y190 x5_1).f1, t191, (rd_T55 y190 x5_1).f3⟩ : S55) ) (fun _ hk => hk); have hx16_2 := hcc16 2 _ rfl; (try simp only [show (k55).sz = 4 from rfl, Nat.mul_one, Nat.add_zero] at hx16_2); have hf16_2 := hfr16 2; (try simp only [show (k55).sz = 4 from rfl, Nat.mul_one, Nat.add_zero] at hf16_2); clear hcl16 hcc16 hfr16 hM16) | ((with_reducible refine gate_store (t := 9) (p := 31) rfl ?_); refine store_event (t := 9) (p := 31) (v := ?vo_w17) (w1 := (w15.setCell ⟨go5, (x5_1 : Int).toNat * 4 + 2, none⟩ (.string t191))) ?hg ?ho ?hn ?hr ?_; (case ho => rfl); (case hg => rfl); (case hn => rfl); (case hr => first | (go_simp; done) | (go_simp; rfl)); intro w17 hw; have hg : w15.grownBy w17 (some go5) := (by rw [hw]; exact HP16.2); have hp_ : Kd.R k55 55 w17 w0.heap.size (fun k_ => (P0_ k_ ∨ w.heap.size ≤ k_)) (.slice (some ⟨go5, 0, none⟩) x0_1.length co10) y192 := (by rw [hw, Ny192.out]; exact HP16.1); clear HP16; have n0_ := Aside0.mk (hp_); have n1_ := Aside0.mk ((by rw [hw]; exact below_set (HB.out) GB5.out : Below w0.heap.size w0 w17)); have n2_ := Aside0.mk (Kept.of_grown (S := (fun k_ => P0_ k_)) hg (by repeat (first | (with_reducible first | exact HK.out | apply Kept.alloc | apply Kept.drewN | apply Kept.drew) | exact HK.out)) (fun k_ e_ => (HO_0.out.1 k_ e_))); clear HO_0; clear HB; clear HK; have HO_0 := n0_; have HB := n1_; have HK := n2_; clear n0_ n1_ n2_; clear hg hw hp_; have p9 : 0 ≤ (x5_1 : Int) := DT; have q9 : (x5_1 : Int) < ((x0_1.length : Int) : Int) := DT; obtain ⟨ce9, hcl9, hM9, hcc9, hfr9⟩ := Kd.R_elem HO_0.out z55 (x5_1 : Int) p9 q9; obtain rfl := k55_openM hM9; have hx9_0 : w17.cell? ⟨go5, (x5_1 : Int).toNat * 4, none⟩ = some (.int .i64 ((rd_T55 y192 x5_1).f0)) := hcc9 0 _ rfl; have hx9_1 : w17.cell? ⟨go5, (x5_1 : Int).toNat * 4 + 1, none⟩ = some (.int .i64 ((rd_T55 y192 x5_1).f1)) := hcc9 1 _ rfl; have hx9_2 : w17.cell? ⟨go5, (x5_1 : Int).toNat * 4 + 2, none⟩ = some (.string ((rd_T55 y192 x5_1).f2)) := hcc9 2 _ rfl; have hx9_3 : w17.cell? ⟨go5, (x5_1 : Int).toNat * 4 + 3, none⟩ = some (.int .i64 ((rd_T55 y192 x5_1).f3)) := hcc9 3 _ rfl; have hf9_0 : w17.frozen? ⟨go5, (x5_1 : Int).toNat * 4, none⟩ = false := hfr9 0; have hf9_1 : w17.frozen? ⟨go5, (x5_1 : Int).toNat * 4 + 1, none⟩ = false := hfr9 1; have hf9_2 : w17.frozen? ⟨go5, (x5_1 : Int).toNat * 4 + 2, none⟩ = false := hfr9 2; have hf9_3 : w17.frozen? ⟨go5, (x5_1 : Int).toNat * 4 + 3, none⟩ = false := hfr9 3; clear hcl9 hcc9 hfr9 hM9; replace p9 := eq_true p9; replace q9 := eq_true q9; have HX18 := Aside0.mk (show Kd.R k55 55 w17 w0.heap.size (fun k_ => (P0_ k_ ∨ w.heap.size ≤ k_)) (.slice (some ⟨go5, 0, none⟩) x0_1.length co10) y192 from (RR HO_0.out)); obtain ⟨ce18, hcl18, hM18, hcc18, hfr18⟩ := Kd.R_elem HX18.out z55 (x5_1 : Int) DT (by have h_ : (x5_1 : Int) < ((x0_1.length : Int) : Int) := DT; first | exact h_ | (have e_ := (Kd.R_reads' HO_0.out).1; omega) | simpa using h_); obtain rfl := k55_openM hM18; have HP18 := Kd.R_seg HX18.out (x5_1 : Int) DT (by have h_ : (x5_1 : Int) < ((x0_1.length : Int) : Int) := DT; first | exact h_ | (have e_ := (Kd.R_reads' HO_0.out).1; omega) | simpa using h_) (seg := [.int .i64 (wrap64 ((wrap64 ((wrap64 (x1_1 + 1)) + 1)) + 1))]) (j := 3) hcl18 hcc18 (show 4 ≤ 4 from by decide) (x' := (⟨(rd_T55 y192 x5_1).f0, (rd_T55 y192 x5_1).f1, (rd_T55 y192 x5_1).f2, wrap64 ((wrap64 ((wrap64 (x1_1 + 1)) + 1)) + 1)⟩ : S55)) (k55_mkM _ _ _ (⟨(rd_T55 y192 x5_1).f0, (rd_T55 y192 x5_1).f1, (rd_T55 y192 x5_1).f2, wrap64 ((wrap64 ((wrap64 (x1_1 + 1)) + 1)) + 1)⟩ : S55) ) (fun _ hk => hk); have hx18_3 := hcc18 3 _ rfl; (try simp only [show (k55).sz = 4 from rfl, Nat.mul_one, Nat.add_zero] at hx18_3); have hf18_3 := hfr18 3; (try simp only [show (k55).sz = 4 from rfl, Nat.mul_one, Nat.add_zero] at hf18_3); clear hcl18 hcc18 hfr18 hM18) | ((with_reducible refine gate_store (t := 3) (p := 38) rfl ?_); refine store_event (t := 3) (p := 38) (v := ?vo_w19) (w1 := (w17.setCell ⟨go5, (x5_1 : Int).toNat * 4 + 3, none⟩ (.int .i64 (wrap64 ((wrap64 ((wrap64 (x1_1 + 1)) + 1)) + 1))))) ?hg ?ho ?hn ?hr ?_; (case ho => rfl); (case hg => rfl); (case hn => rfl); (case hr => first | (go_simp; done) | (go_simp; rfl)); intro w19 hw; have hg : w17.grownBy w19 (some go5) := (by rw [hw]; exact HP18.2); have hp_ : Kd.R k55 55 w19 w0.heap.size (fun k_ => (P0_ k_ ∨ w.heap.size ≤ k_)) (.slice (some ⟨go5, 0, none⟩) x0_1.length co10) y193 := (by rw [hw, Ny193.out]; exact HP18.1); clear HP18; have n0_ := Aside0.mk (hp_); have n1_ := Aside0.mk ((by rw [hw]; exact below_set (HB.out) GB5.out : Below w0.heap.size w0 w19)); have n2_ := Aside0.mk (Kept.of_grown (S := (fun k_ => P0_ k_)) hg (by repeat (first | (with_reducible first | exact HK.out | apply Kept.alloc | apply Kept.drewN | apply Kept.drew) | exact HK.out)) (fun k_ e_ => (HO_0.out.1 k_ e_))); clear HO_0; clear HB; clear HK; have HO_0 := n0_; have HB := n1_; have HK := n2_; clear n0_ n1_ n2_; clear hg hw hp_))
          go_roundg k1
          case measure => have := HK1.out; omega
          case rel => exact ⟨(y193), (wrap64 ((wrap64 ((wrap64 ((wrap64 (x1_1 + 1)) + 1)) + 1)) + 1)), (wrap64 (x5_1 + 1)), FR, FR, H', ⟨by have := HK1.out; omega⟩, ⟨(RR HO_0.out)⟩, ⟨by repeat (first | (with_reducible first | exact HK.out | apply Kept.alloc | apply Kept.drewN | apply Kept.drew) | exact HK.out)⟩, ⟨(BB HB.out)⟩⟩
        · rw [if_neg c4] at H
          exact absurd H (by simp)
      · rw [if_neg c3] at H
        have c3b0 : decide (x5_1 < (x0_1.length : Int)) = false := decide_eq_false c3
        clear c3
        simp only [Option.some.injEq, Prod.mk.injEq] at H
        obtain ⟨rfl, rfl⟩ := H
        obtain ⟨Ao20, co20, eo20⟩ := Kd.R_slice HO_0.out
        subst eo20
        go_wp2
        go_ret
        exact ⟨ER, by (with_reducible repeat (first | apply Kd.R_alloc | apply Kd.R_drewN | apply Kd.R_drew)); exact HO_0.out, (BB HB.out), by repeat (first | (with_reducible first | exact HK.out | apply Kept.alloc | apply Kept.drewN | apply Kept.drew) | exact HK.out)⟩

end Go.Proofs.Ythgmmebkjhjgcaa.Pr

namespace Go.Proofs.Ythgmmebkjhjgcaa.Lw
open Go.RowKit Go.Proofs.YthgmmebkjhjgcaaW.PrintWords Go.Proofs.Ythgmmebkjhjgcaa.Pr Go.Proofs.Ythgmmebkjhjgcaa.Evs
set_option linter.unusedVariables false
noncomputable def mkUnit (x : ImUnit) (n : Int) : ImUnit := ⟨n, n + 1, mt (n + 1 + 1), n + 1 + 1 + 1⟩
noncomputable def mkUnitS : List ImUnit → Int → List ImUnit
  | [], _ => []
  | x :: s, n => mkUnit x n :: mkUnitS s (n + 4)
theorem markUnitS_loop (s : List ImUnit) : ∀ (q : List ImUnit) (n : Int), 0 ≤ n → n + 4 * s.length < 9223372036854775000 → q.length + s.length < 9223372036854775807 →
    Ev (fun k => laws_markUnitS.l0 k (q ++ s) n (q.length : Int)) (n + 4 * s.length, q ++ mkUnitS s n) := by
  induction s with
  | nil => intro q n h0 h1 hl; exact ev_step (fun k => laws_markUnitS.l0.eq_2 _ _ _ k) (ev_neg (by simp) (ev_eq (ev_some _) (by simp [mkUnitS])))
  | cons x s ih =>
    intro q n h0 h1 hl
    simp at h1 hl
    have e1 : wrap64 (n + 1) = n + 1 := wrap_in (by omega) (by omega)
    have e2 : wrap64 (n + 1 + 1) = n + 1 + 1 := wrap_in (by omega) (by omega)
    have e3 : wrap64 (n + 1 + 1 + 1) = n + 1 + 1 + 1 := wrap_in (by omega) (by omega)
    have e4 : wrap64 (n + 1 + 1 + 1 + 1) = n + 1 + 1 + 1 + 1 := wrap_in (by omega) (by omega)
    have e0 : wrap64 ((q.length : Int) + 1) = (q.length : Int) + 1 := wrap_in (by omega) (by omega)
    have hr : (n + 4 * ((x :: s).length : Int), q ++ mkUnitS (x :: s) n) = (n + 1 + 1 + 1 + 1 + 4 * (s.length : Int), (q ++ [mkUnit x n]) ++ mkUnitS s (n + 1 + 1 + 1 + 1)) := by
      have : n + 1 + 1 + 1 + 1 = n + 4 := by omega
      simp [mkUnitS, this]
      omega
    rw [hr]
    have h := ih (q ++ [mkUnit x n]) (n + 1 + 1 + 1 + 1) (by omega) (by omega) (by simp; omega)
    refine ev_step (fun k => laws_markUnitS.l0.eq_2 _ _ _ k) ?_
    simp only [e0, e1, e2, e3, e4]
    repeat (first | with_reducible refine ev_pos (by first | omega | (simp; omega)) ?_ | with_reducible refine ev_bind (mt_ev _ (by omega)) ?_ | with_reducible refine ev_call rfl ?_)
    simp only [rd55, set_mid _ _ _ _ _ rfl]
    simpa [mkUnit] using h
theorem markUnitS_ev (l : List ImUnit) (n : Int) (h0 : 0 ≤ n) (h1 : n + 4 * l.length < 9223372036854775000) : Ev (fun k => laws_markUnitS.f k l n) (n + 4 * l.length, mkUnitS l n) := by
  unfold laws_markUnitS.f
  simpa using markUnitS_loop l [] n h0 h1 (by simp; omega)
end Go.Proofs.Ythgmmebkjhjgcaa.Lw

namespace Go.Proofs.Ythgmmebkjhjgcaa.Pr
open Go.RowKit Go.Proofs.YthgmmebkjhjgcaaW.PrintWords Go.Proofs.YthgmmebkjhjgcaaW.PrintLast Go.Proofs.YthgmmebkjhjgcaaW.PrintMore
set_option linter.unusedVariables false
set_option linter.unusedSimpArgs false
open Go.Proofs.Ythgmmebkjhjgcaa.Evs
noncomputable def mkHost (x : S41) (n : Int) : S41 := ⟨n, ((n + 1) % 3 == 0), Lw.mkUnitS x.f2 (n + 1 + 1)⟩
def cntHost (x : S41) : Int := 2 + 4 * (x.f2.length : Int)
noncomputable def mkHostS : List S41 → Int → List S41
  | [], _ => []
  | x :: s, n => mkHost x n :: mkHostS s (n + cntHost x)
def cntHostS : List S41 → Int
  | [] => 0
  | x :: s => cntHost x + cntHostS s
theorem cntHostS_pos : ∀ l : List S41, 0 ≤ cntHostS l
  | [] => Int.le_refl _
  | x :: s => by have := cntHostS_pos s; simp only [cntHostS, cntHost]; omega
set_option maxHeartbeats 8000000 in
set_option maxRecDepth 100000 in
theorem laws_markHostS.calls (P0 : Nat → Prop) (u : Value) (l0 : List S41) (a1 : Int) (w0 w : World) (hB : Below w0.heap.size w0 w) (ho0 : Kd.S k41 41 w w0.heap.size P0 u l0) (ha : 0 ≤ a1) (hb : a1 + cntHostS l0 < 9223372036854775000) :
    Calls Try.prog 10 #[u, .int .i64 a1] w fun e w' => e = .returned (.int .i64 (a1 + cntHostS l0)) ∧ Kd.S k41 41 w' w0.heap.size P0 u (mkHostS l0 a1) ∧ Below w0.heap.size w0 w' ∧ Kept w w' P0 := by
  have hu41 := Try.underlying41
  obtain ⟨Au, cap, rfl⟩ := Kd.S_slice ho0
  have hlen : l0.length ≤ 9223372036854775807 := (Kd.S_reads' ho0).2.2.2.1
  have hcap : l0.length ≤ cap := (Kd.S_reads' ho0).2.1
  obtain ⟨fin, hfin⟩ : ∃ fin, fin = a1 + cntHostS l0 := ⟨_, rfl⟩
  obtain ⟨res, hres⟩ : ∃ res, res = mkHostS l0 a1 := ⟨_, rfl⟩
  rw [← hfin, ← hres]
  have HS0 := Aside0.mk ho0
  have HB00 := Aside0.mk hB
  have HR0 := Aside0.mk (show l0.take 0 ++ mkHostS (l0.drop 0) a1 = res from hres.symm)
  have hcn0 : a1 + cntHostS (l0.drop 0) = fin := hfin.symm
  rw [← hfin] at hb
  clear ho0 hB hfin hres
  go_enter Try.func10, Try.ntmps10
  go_wp2
  go_loopg [1, 5] l0.length (fun gg s1 s5 wr => ∃ (ii : Nat) (kk : Int) (ys : List S41), s1 = .int .i64 kk ∧ s5 = .int .i64 ii ∧ ii ≤ l0.length ∧ l0.length - ii ≤ gg ∧ 0 ≤ kk ∧ kk + cntHostS (ys.drop ii) = fin ∧ Aside0 (ys.take ii ++ mkHostS (ys.drop ii) kk = res) ∧ Aside0 (ys.length = l0.length) ∧ Aside0 (Kd.S k41 41 wr w0.heap.size P0 (.slice Au l0.length cap) ys) ∧ Aside0 (Below w0.heap.size w0 wr) ∧ Aside0 (Kept w wr P0))
  case atStart => exact ⟨0, a1, l0, rfl, rfl, Nat.zero_le _, by omega, ha, hcn0, HR0, ⟨rfl⟩, HS0, HB00, ⟨Kept.refl _ _⟩⟩
  case round =>
    obtain ⟨ii, kk, ys, rfl, rfl, hii, hgg, hk0, hcn, HR, HYL, HS, HB0, HK0⟩ := hrel
    have hyl := HYL.out
    by_cases hlt : ii < l0.length
    · have hltz : (ii : Int) < (l0.length : Int) := by omega
      have HDr := Aside0.mk (List.drop_eq_getElem_cons (show ii < ys.length by omega))
      obtain ⟨g0, cap', ev, hg1, -, -⟩ := Kd.S_form HS.out (by omega)
      injection ev with ea len_ ec
      subst ea; subst ec
      clear len_
      have HG : Aside0 (P0 g0) := ⟨(Kd.S_R HS.out).1 g0 rfl⟩
      obtain ⟨oki, c, hcl, hM, hcc, hfr, hoki, hH⟩ := Kd.S_elem HS.out z41 (ii : Int) (by omega) hltz
      have ey : ys.getD ((ii : Int)).toNat z41 = ys[ii]'(by omega) := by simp [List.getD, List.getElem?_eq_getElem (show ii < ys.length by omega)]
      rw [ey] at hM
      have hcn2 := hcn
      rw [HDr.out, cntHostS, cntHost] at hcn2
      have hpos := cntHostS_pos (ys.drop (ii + 1))
      generalize ys[ii]'(by omega) = y at hM HDr hcn2
      clear ey hcc hfr hcl
      obtain ⟨v_, rfl, hI⟩ := k41_openM hM
      obtain ⟨Av, cv, rfl⟩ := Kd.R_slice hI
      have HI0 := Aside0.mk hI
      have HH0 := Aside0.mk hH
      have hoki := Aside0.mk hoki
      clear hI hH hM hyl
      obtain ⟨-, hcc, hfr⟩ := H_open HH0.out (by omega) (by omega)
      have hc0_0 : wr.cell? ⟨g0, ii * 3, none⟩ = some (.int .i64 y.f0) := hcc 0 _ rfl
      have hf0_0 : wr.frozen? ⟨g0, ii * 3, none⟩ = false := hfr 0
      have hc0_1 : wr.cell? ⟨g0, ii * 3 + 1, none⟩ = some (.bool y.f1) := hcc 1 _ rfl
      have hf0_1 : wr.frozen? ⟨g0, ii * 3 + 1, none⟩ = false := hfr 1
      have hc0_2 : wr.cell? ⟨g0, ii * 3 + 2, none⟩ = some (.slice Av y.f2.length cv) := hcc 2 _ rfl
      have hf0_2 : wr.frozen? ⟨g0, ii * 3 + 2, none⟩ = false := hfr 2
      clear hcc hfr
      have hgs0 : g0 < wr.heap.size := World.block_lt_of_cell? wr _ hc0_0
      have GG1 := Aside0.mk (Kd.H_seg HH0.out (by omega) (by omega) (seg := [.int .i64 (kk), .bool ((kk + 1) % 3 == 0)]) (j := 0) (show 0 + 2 ≤ 3 by decide) (by intro q hq; simp only [List.mem_cons, List.not_mem_nil, or_false] at hq; rcases hq with rfl | rfl <;> rfl))
      have HH1 : Aside0 (Kd.H k41 41 (((wr).setCell ⟨g0, ii * 3, none⟩ (.int .i64 (kk))).setCell ⟨g0, ii * 3 + 1, none⟩ (.bool ((kk + 1) % 3 == 0))) w0.heap.size P0 (.slice (some ⟨g0, 0, none⟩) l0.length cap) ys (ii : Int) oki [.int .i64 (kk), .bool ((kk + 1) % 3 == 0), .slice Av y.f2.length cv]) := Aside0.mk GG1.out.1
      have HI1 : Aside0 (Kd.R k55 55 (((wr).setCell ⟨g0, ii * 3, none⟩ (.int .i64 (kk))).setCell ⟨g0, ii * 3 + 1, none⟩ (.bool ((kk + 1) % 3 == 0))) w0.heap.size oki (.slice Av y.f2.length cv) y.f2) := Aside0.mk (Kd.R_step HI0.out (fun k ho hlt => GG1.out.2.block k hlt (fun he => (hoki.out k ho).2 (by injection he))))
      have HB1 : Aside0 (Below w0.heap.size w0 (((wr).setCell ⟨g0, ii * 3, none⟩ (.int .i64 (kk))).setCell ⟨g0, ii * 3 + 1, none⟩ (.bool ((kk + 1) % 3 == 0)))) := Aside0.mk (below_cells hg1 [.int .i64 (kk), .bool ((kk + 1) % 3 == 0)] _ _ _ HB0.out)
      have HK1 : Aside0 (Kept w (((wr).setCell ⟨g0, ii * 3, none⟩ (.int .i64 (kk))).setCell ⟨g0, ii * 3 + 1, none⟩ (.bool ((kk + 1) % 3 == 0))) P0) := Aside0.mk (Kept.of_grown GG1.out.2 HK0.out (fun k hk => by injection hk with hk; subst hk; exact .inl HG.out))
      obtain ⟨q2, hq2⟩ := (Lw.markUnitS_ev y.f2 (kk + 1 + 1) (by omega) (by omega)).rounds
      go_wp2_with fail
      refine (laws_markUnitS.calls q2 oki (.slice Av y.f2.length cv) y.f2 (kk + 1 + 1) _ _ w0 _ HB1.out HI1.out hq2).mono ?_
      rintro e w3 ⟨rfl, hr, hb, hk⟩
      have HH2 := Aside0.mk (Kd.H_step HH1.out (fun k _ hn hlt => hk.2 k hlt hn))
      have HI2 : Aside0 (Kd.R k55 55 w3 w0.heap.size oki (.slice Av y.f2.length cv) (Lw.mkUnitS y.f2 (kk + 1 + 1))) := Aside0.mk (R_reok hr (fun k hk => HI1.out.1 k hk) (fun _ _ x cs hM => by obtain rfl := k55_openM hM; exact k55_mkM _ _ _ x))
      have HB2 := Aside0.mk hb
      have HK2 := Aside0.mk (HK1.out.then_ hk (fun k ho => .inl (hoki.out k ho).1))
      clear hb hk hr
      obtain ⟨-, hcc, hfr⟩ := H_open HH2.out (by omega) (by omega)
      have hc1_0 : w3.cell? ⟨g0, ii * 3, none⟩ = some (.int .i64 (kk)) := hcc 0 _ rfl
      have hf1_0 : w3.frozen? ⟨g0, ii * 3, none⟩ = false := hfr 0
      have hc1_1 : w3.cell? ⟨g0, ii * 3 + 1, none⟩ = some (.bool ((kk + 1) % 3 == 0)) := hcc 1 _ rfl
      have hf1_1 : w3.frozen? ⟨g0, ii * 3 + 1, none⟩ = false := hfr 1
      have hc1_2 : w3.cell? ⟨g0, ii * 3 + 2, none⟩ = some (.slice Av y.f2.length cv) := hcc 2 _ rfl
      have hf1_2 : w3.frozen? ⟨g0, ii * 3 + 2, none⟩ = false := hfr 2
      clear hcc hfr
      have hgs1 : g0 < w3.heap.size := World.block_lt_of_cell? w3 _ hc1_0
      go_wp2
      go_roundg (l0.length - (ii + 1))
      case measure => omega
      case rel =>
        have hyl := HYL.out
        refine ⟨ii + 1, kk + 1 + 1 + 4 * (y.f2.length : Int), ys.set ii (mkHost y kk), rfl, by go_num, by omega, Nat.le_refl _, by omega, ?_, ?_, ⟨by rw [List.length_set]; exact hyl⟩, ?_, HB2, HK2⟩
        · rw [← hcn, HDr.out, cntHostS, cntHost, List.drop_set_of_lt (by omega)]; omega
        · refine ⟨?_⟩
          rw [← HR.out, HDr.out, mkHostS]
          rw [show kk + cntHost y = kk + 1 + 1 + 4 * (y.f2.length : Int) from by unfold cntHost; omega, List.drop_set_of_lt (by omega), ← List.take_append_getElem (by rw [List.length_set]; omega), List.take_set, List.set_eq_of_length_le (by simp; omega), List.getElem_set_self, List.append_assoc, List.singleton_append]
        · exact ⟨Kd.H_back HH2.out (k41_mkM _ _ _ (mkHost y kk) HI2.out) (fun _ hk => hk)⟩
    · have hltz : ¬ (ii : Int) < (l0.length : Int) := by omega
      have hd1 : decide ((ii : Int) < (l0.length : Int)) = false := decide_eq_false hltz
      have hd2 : decide (ii < l0.length) = false := decide_eq_false hlt
      have hnil : ys.drop ii = [] := List.drop_eq_nil_of_le (by omega)
      have htk : ys.take ii = ys := List.take_of_length_le (by omega)
      have HF : Aside0 (ys = res) := ⟨by rw [← HR.out, hnil, htk]; simp [mkHostS]⟩
      have hfk : fin = kk := by rw [← hcn, hnil]; simp [cntHostS]
      subst hfk
      clear hcn hnil htk hyl
      go_wp2
      go_ret
      exact ⟨rfl, by rw [← HF.out]; exact HS.out, HB0.out, HK0.out⟩
end Go.Proofs.Ythgmmebkjhjgcaa.Pr

namespace Go.Proofs.Ythgmmebkjhjgcaa.Pure
open Go.RowKit Go.Proofs.YthgmmebkjhjgcaaW.PrintWords Go.Proofs.YthgmmebkjhjgcaaW.PrintLast Go.Proofs.YthgmmebkjhjgcaaW.PrintMore Go.Proofs.Ythgmmebkjhjgcaa.Pr Go.Proofs.Ythgmmebkjhjgcaa.Evs Go.Proofs.Ythgmmebkjhjgcaa.Lw Go.Proofs.Ythgmmebkjhjgcaa.SFnExactPlaceGroup Go.Proofs.Ythgmmebkjhjgcaa.Pu
set_option linter.unusedVariables false
set_option linter.unusedSimpArgs false
theorem cntHostS_le (M : Nat) : ∀ l : List ImHost, (∀ x ∈ l, x.f2.length ≤ M) → cntHostS l ≤ l.length * (2 + 4 * (M : Int))
  | [], _ => by simp [cntHostS]
  | x :: s, h => by
    have h1 := cntHostS_le M s (fun y hy => h y (List.mem_cons_of_mem _ hy))
    have h2 := h x (List.mem_cons_self ..)
    simp only [cntHostS, cntHost, List.length_cons, Int.natCast_add, Int.add_mul]
    have : ((1 : Nat) : Int) * (2 + 4 * (M : Int)) = 2 + 4 * (M : Int) := by simp
    rw [this]
    omega
set_option maxHeartbeats 8000000 in
set_option maxRecDepth 100000 in
theorem FnExactPlaceGroup : SFnExactPlaceGroup.Direct := by
  intro l n A0 c0 w hr0 hc0 hl hn
  have ho : ∀ x ∈ l, okHost x := fun x hx => ok_wfHost (hl.2 x hx)
  have hl1 := hl.1
  obtain ⟨r, hE, hR⟩ := szHostS_ev l hl1 ho 1048576 (by omega) (by omega)
  obtain ⟨q0, h0⟩ := ev_rounds hE
  have HC0 := Aside0.mk hr0
  have HN0 := Aside0.mk hc0
  clear hr0 hc0 hn
  by_cases c : r < 0
  · clear hl ho hE hR hl1
    go_enter Try.func3, Try.ntmps3
    have HB := Aside0.mk (Below.refl w.heap.size w)
    have hcall := laws_szHostS.calls q0 A0 c0 l 1048576 r w (Kd.C_below HC0.out HB.out) HN0.out h0
    go_wp2_with fail
    refine hcall.mono ?_
    clear hcall
    rintro e w1 ⟨rfl, hb⟩
    have HZw1 := Aside0.mk hb.size
    replace HB := Aside0.mk (HB.out.trans (hb.mono HB.out.size))
    clear hb
    have hd : decide (r < 0) = true := decide_eq_true c
    go_wp2
    go_ret
    exact ⟨rfl, HB.out⟩
  · have hd : decide (r < 0) = false := decide_eq_false c
    have hw : wtHostS l ≤ 1048576 := by omega
    have hT := toHostS_ev l hw
    have hb := bd_toHostS l hw
    have hS := spec_PlaceGroup_ev (l.map toHost) (by have := hb.1; omega) n
    have hI := impl_PlaceGroup_eq (l.map toHost) hb.1 n
    have hq3 := eqHostS_ev _ (by have := hb.1; omega) (fun x hx => ln_bdHost (hb.2 x hx))
    have hcnt : 1 + cntHostS (l.map toHost) < 9223372036854775000 := by
      have h1 := cntHostS_le 1048576 (l.map toHost) (fun x hx => (hb.2 x hx).1)
      have h2 := hb.1
      have h3 : ((l.map toHost).length : Int) * (2 + 4 * ((1048576 : Nat) : Int)) ≤ 1048576 * (2 + 4 * 1048576) := Int.mul_le_mul_of_nonneg_right (by omega) (by omega)
      omega
    have hpos := cntHostS_pos (l.map toHost)
    have hu : (placeH (l.map toHost) n).1.length ≤ 1048576 := Nat.le_trans (placeH_len _ n) hb.1
    generalize placeH (l.map toHost) n = uv at hS hI hu
    obtain ⟨u, bb⟩ := uv
    simp only at hu
    have hq1 := eqIntS_ev u (by omega)
    have hm1 := markIntS_ev u 1 (by omega) (by omega)
    have hh1 := heldIntS_ev u 1 (by omega) (by omega)
    obtain ⟨m1, em1⟩ : ∃ m1 : Int, m1 = 1 + u.length := ⟨_, rfl⟩
    rw [← em1] at hm1 hh1
    have hd1 : decide (m1 < 0) = false := decide_eq_false (by omega)
    have hd3 : decide (1 + cntHostS (l.map toHost) < 0) = false := decide_eq_false (by omega)
    generalize mkIntS u 1 = u' at hm1 hh1
    clear hl ho hE hR hl1 hw hb hpos hu em1
    generalize l.map toHost = z at *
    go_enter Try.func3, Try.ntmps3
    have HB := Aside0.mk (Below.refl w.heap.size w)
    have hcall := laws_szHostS.calls q0 A0 c0 l 1048576 r w (Kd.C_below HC0.out HB.out) HN0.out h0
    go_wp2_with fail
    refine hcall.mono ?_
    clear hcall
    rintro e w1 ⟨rfl, hb⟩
    have HZw1 := Aside0.mk hb.size
    replace HB := Aside0.mk (HB.out.trans (hb.mono HB.out.size))
    clear hb
    obtain ⟨fu2, hfu2⟩ := ev_rounds (hT)
    have hcall := laws_toHostS.calls fu2 A0 c0 l z w1 (Kd.C_below HC0.out HB.out) HN0.out hfu2
    go_wp2_with fail
    refine hcall.mono ?_
    clear hcall
    rintro e w2 ⟨vy, rfl, oy, hb⟩
    obtain ⟨Ay, cy, rfl⟩ := Kd.S_slice oy
    have Hy := Aside0.mk (Kd.S_lower (Kd.S_mono (Kd.S_bound oy) (ok' := (fun k_ => (w1.heap.size ≤ k_ ∧ k_ < w2.heap.size) ∧ ∃ q, q ∈ 41 :: Kd.E (k41) ∧ ∃ cells, w2.heap[k_]? = some (.cells cells q (0, 0)))) (fun k hk => ⟨⟨hk.2.1, hk.2.2.1⟩, hk.2.2.2⟩)) HB.out.size)
    have HZw2 := Aside0.mk hb.size
    replace HB := Aside0.mk (HB.out.trans (hb.mono HB.out.size))
    clear hb oy
    obtain ⟨fu3, hfu3⟩ := ev_rounds (hS)
    have hcall := spec_PlaceGroup.calls fu3 Ay cy z n u bb w2 (Kd.S_reads' Hy.out).2.2 ((Kd.S_reads' Hy.out).1 ▸ (Kd.S_reads' Hy.out).2.1) hfu3
    go_wp2_with fail
    refine hcall.mono ?_
    clear hcall
    rintro e w3 ⟨va, rfl, oa, hb⟩
    obtain ⟨Aa, ca, rfl⟩ := Kd.R_slice oa
    have Ha := Aside0.mk (Kd.R_lower (Kd.R_mono (Kd.R_bound oa) (ok' := (fun k_ => (w2.heap.size ≤ k_ ∧ k_ < w3.heap.size) ∧ ∃ q, q ∈ 3 :: Kd.E ((Kd.int .i64)) ∧ ∃ cells, w3.heap[k_]? = some (.cells cells q (0, 0)))) (fun k hk => ⟨⟨hk.2.1, hk.2.2.1⟩, hk.2.2.2⟩)) HB.out.size)
    replace Hy := Aside0.mk (Kd.S_below Hy.out hb)
    have HZw3 := Aside0.mk hb.size
    replace HB := Aside0.mk (HB.out.trans (hb.mono HB.out.size))
    clear hb oa
    clear Hy
    obtain ⟨fu4, hfu4⟩ := ev_rounds (hT)
    have hcall := laws_toHostS.calls fu4 A0 c0 l z w3 (Kd.C_below HC0.out HB.out) HN0.out hfu4
    go_wp2_with fail
    refine hcall.mono ?_
    clear hcall
    rintro e w4 ⟨vx, rfl, ox, hb⟩
    obtain ⟨Ax, cx, rfl⟩ := Kd.S_slice ox
    have Hx := Aside0.mk (Kd.S_lower (Kd.S_mono (Kd.S_bound ox) (ok' := (fun k_ => (w3.heap.size ≤ k_ ∧ k_ < w4.heap.size) ∧ ∃ q, q ∈ 41 :: Kd.E (k41) ∧ ∃ cells, w4.heap[k_]? = some (.cells cells q (0, 0)))) (fun k hk => ⟨⟨hk.2.1, hk.2.2.1⟩, hk.2.2.2⟩)) HB.out.size)
    replace Ha := Aside0.mk (Kd.R_below Ha.out hb)
    have HZw4 := Aside0.mk hb.size
    replace HB := Aside0.mk (HB.out.trans (hb.mono HB.out.size))
    clear hb ox
    have hcall := impl_PlaceGroup.calls Ax cx z n u bb w4 (Kd.S_reads' Hx.out).2.2 ((Kd.S_reads' Hx.out).1 ▸ (Kd.S_reads' Hx.out).2.1) hI
    go_wp2_with fail
    refine hcall.mono ?_
    clear hcall
    rintro e w5 ⟨vc, rfl, oc, hb⟩
    obtain ⟨Ac, cc, rfl⟩ := Kd.R_slice oc
    have Hc := Aside0.mk (Kd.R_lower (Kd.R_mono (Kd.R_bound oc) (ok' := (fun k_ => (w4.heap.size ≤ k_ ∧ k_ < w5.heap.size) ∧ ∃ q, q ∈ 3 :: Kd.E ((Kd.int .i64)) ∧ ∃ cells, w5.heap[k_]? = some (.cells cells q (0, 0)))) (fun k hk => ⟨⟨hk.2.1, hk.2.2.1⟩, hk.2.2.2⟩)) HB.out.size)
    replace Ha := Aside0.mk (Kd.R_below Ha.out hb)
    replace Hx := Aside0.mk (Kd.S_below Hx.out hb)
    have HZw5 := Aside0.mk hb.size
    replace HB := Aside0.mk (HB.out.trans (hb.mono HB.out.size))
    clear hb oc
    obtain ⟨fu6, hfu6⟩ := ev_rounds (hq1)
    have hcall := laws_eqIntS.calls fu6 Ac cc u Aa ca u true w5 (Kd.R_reads' Hc.out).2.2 ((Kd.R_reads' Hc.out).1 ▸ (Kd.R_reads' Hc.out).2.1) (Kd.R_reads' Ha.out).2.2 ((Kd.R_reads' Ha.out).1 ▸ (Kd.R_reads' Ha.out).2.1) hfu6
    go_wp2_with fail
    refine hcall.mono ?_
    clear hcall
    rintro e w6 ⟨rfl, hd⟩
    have hb := hd.below
    clear hd
    replace Ha := Aside0.mk (Kd.R_below Ha.out hb)
    replace Hx := Aside0.mk (Kd.S_below Hx.out hb)
    replace Hc := Aside0.mk (Kd.R_below Hc.out hb)
    have HZw6 := Aside0.mk hb.size
    replace HB := Aside0.mk (HB.out.trans (hb.mono HB.out.size))
    clear hb
    obtain ⟨fu7, hfu7⟩ := ev_rounds (hT)
    have hcall := laws_toHostS.calls fu7 A0 c0 l z w6 (Kd.C_below HC0.out HB.out) HN0.out hfu7
    go_wp2_with fail
    refine hcall.mono ?_
    clear hcall
    rintro e w7 ⟨vy, rfl, oy, hb⟩
    obtain ⟨Ay, cy, rfl⟩ := Kd.S_slice oy
    have Hy := Aside0.mk (Kd.S_lower (Kd.S_mono (Kd.S_bound oy) (ok' := (fun k_ => (w6.heap.size ≤ k_ ∧ k_ < w7.heap.size) ∧ ∃ q, q ∈ 41 :: Kd.E (k41) ∧ ∃ cells, w7.heap[k_]? = some (.cells cells q (0, 0)))) (fun k hk => ⟨⟨hk.2.1, hk.2.2.1⟩, hk.2.2.2⟩)) HB.out.size)
    replace Ha := Aside0.mk (Kd.R_below Ha.out hb)
    replace Hx := Aside0.mk (Kd.S_below Hx.out hb)
    replace Hc := Aside0.mk (Kd.R_below Hc.out hb)
    have HZw7 := Aside0.mk hb.size
    replace HB := Aside0.mk (HB.out.trans (hb.mono HB.out.size))
    clear hb oy
    obtain ⟨fu8, hfu8⟩ := ev_rounds (hq3)
    have hcall := laws_eqHostS.calls fu8 Ax cx z Ay cy z true w7 (Kd.S_reads' Hx.out).2.2 ((Kd.S_reads' Hx.out).1 ▸ (Kd.S_reads' Hx.out).2.1) (Kd.S_reads' Hy.out).2.2 ((Kd.S_reads' Hy.out).1 ▸ (Kd.S_reads' Hy.out).2.1) hfu8
    go_wp2_with fail
    refine hcall.mono ?_
    clear hcall
    rintro e w8 ⟨rfl, hb⟩
    replace Ha := Aside0.mk (Kd.R_below Ha.out hb)
    replace Hx := Aside0.mk (Kd.S_below Hx.out hb)
    replace Hc := Aside0.mk (Kd.R_below Hc.out hb)
    replace Hy := Aside0.mk (Kd.S_below Hy.out hb)
    have HZw8 := Aside0.mk hb.size
    replace HB := Aside0.mk (HB.out.trans (hb.mono HB.out.size))
    clear hb
    clear Hy
    have hcall := laws_markHostS.calls (fun k_ => (w3.heap.size ≤ k_ ∧ k_ < w4.heap.size) ∧ ∃ q, q ∈ 41 :: Kd.E (k41) ∧ ∃ cells, w4.heap[k_]? = some (.cells cells q (0, 0))) (.slice Ax z.length cx) z 1 w w8 HB.out Hx.out (by decide) hcnt
    go_wp2_with fail
    refine hcall.mono ?_
    clear hcall
    rintro e w9 ⟨rfl, rx, hb, hk⟩
    replace Ha := Aside0.mk (Kd.R_step Ha.out (fun k ho hlt => hk.2 k hlt (fun hm => (by have h1 := ho.1.1; have h2 := ho.1.2; have h3 := hm.1.1; have h4 := hm.1.2; have := HZw1.out; have := HZw2.out; have := HZw3.out; have := HZw4.out; have := HZw5.out; have := HZw6.out; have := HZw7.out; have := HZw8.out; omega))))
    replace Hc := Aside0.mk (Kd.R_step Hc.out (fun k ho hlt => hk.2 k hlt (fun hm => (by have h1 := ho.1.1; have h2 := ho.1.2; have h3 := hm.1.1; have h4 := hm.1.2; have := HZw1.out; have := HZw2.out; have := HZw3.out; have := HZw4.out; have := HZw5.out; have := HZw6.out; have := HZw7.out; have := HZw8.out; omega))))
    replace Hx := Aside0.mk rx
    have HZw9 := Aside0.mk hk.1
    replace HB := Aside0.mk hb
    clear hb hk rx
    clear Hx
    obtain ⟨fu10, hfu10⟩ := ev_rounds (hq1)
    have hcall := laws_eqIntS.calls fu10 Ac cc u Aa ca u true w9 (Kd.R_reads' Hc.out).2.2 ((Kd.R_reads' Hc.out).1 ▸ (Kd.R_reads' Hc.out).2.1) (Kd.R_reads' Ha.out).2.2 ((Kd.R_reads' Ha.out).1 ▸ (Kd.R_reads' Ha.out).2.1) hfu10
    go_wp2_with fail
    refine hcall.mono ?_
    clear hcall
    rintro e w10 ⟨rfl, hd⟩
    have hb := hd.below
    clear hd
    replace Ha := Aside0.mk (Kd.R_below Ha.out hb)
    replace Hc := Aside0.mk (Kd.R_below Hc.out hb)
    have HZw10 := Aside0.mk hb.size
    replace HB := Aside0.mk (HB.out.trans (hb.mono HB.out.size))
    clear hb
    obtain ⟨fu11, hfu11⟩ := ev_rounds (hm1)
    have hcall := laws_markIntS.calls fu11 (fun k_ => (w4.heap.size ≤ k_ ∧ k_ < w5.heap.size) ∧ ∃ q, q ∈ 3 :: Kd.E ((Kd.int .i64)) ∧ ∃ cells, w5.heap[k_]? = some (.cells cells q (0, 0))) (.slice Ac u.length cc) u 1 m1 u' w w10 HB.out Hc.out hfu11
    go_wp2_with fail
    refine hcall.mono ?_
    clear hcall
    rintro e w11 ⟨rfl, rc, hb, hk⟩
    replace Ha := Aside0.mk (Kd.R_step Ha.out (fun k ho hlt => hk.2 k hlt (fun hm => (by have h1 := ho.1.1; have h2 := ho.1.2; have h3 := hm.1.1; have h4 := hm.1.2; have := HZw1.out; have := HZw2.out; have := HZw3.out; have := HZw4.out; have := HZw5.out; have := HZw6.out; have := HZw7.out; have := HZw8.out; have := HZw9.out; have := HZw10.out; omega))))
    replace Hc := Aside0.mk (R_reok rc (fun k hk => Hc.out.1 k hk) (fun _ _ x cs hM => hM))
    have HZw11 := Aside0.mk hk.1
    replace HB := Aside0.mk hb
    clear hb hk rc
    obtain ⟨fu12, hfu12⟩ := ev_rounds (hh1)
    have hcall := laws_heldIntS.calls fu12 Ac cc u' 1 m1 w11 (Kd.R_reads' Hc.out).2.2 ((Kd.R_reads' Hc.out).1 ▸ (Kd.R_reads' Hc.out).2.1) hfu12
    rw [← (Kd.R_reads' Hc.out).1] at hcall
    go_wp2_with fail
    refine hcall.mono ?_
    clear hcall
    rintro e w12 ⟨rfl, hd⟩
    have hb := hd.below
    clear hd
    replace Ha := Aside0.mk (Kd.R_below Ha.out hb)
    replace Hc := Aside0.mk (Kd.R_below Hc.out hb)
    have HZw12 := Aside0.mk hb.size
    replace HB := Aside0.mk (HB.out.trans (hb.mono HB.out.size))
    clear hb
    obtain ⟨fu13, hfu13⟩ := ev_rounds (hT)
    have hcall := laws_toHostS.calls fu13 A0 c0 l z w12 (Kd.C_below HC0.out HB.out) HN0.out hfu13
    go_wp2_with fail
    refine hcall.mono ?_
    clear hcall
    rintro e w13 ⟨vy, rfl, oy, hb⟩
    obtain ⟨Ay, cy, rfl⟩ := Kd.S_slice oy
    have Hy := Aside0.mk (Kd.S_lower (Kd.S_mono (Kd.S_bound oy) (ok' := (fun k_ => (w12.heap.size ≤ k_ ∧ k_ < w13.heap.size) ∧ ∃ q, q ∈ 41 :: Kd.E (k41) ∧ ∃ cells, w13.heap[k_]? = some (.cells cells q (0, 0)))) (fun k hk => ⟨⟨hk.2.1, hk.2.2.1⟩, hk.2.2.2⟩)) HB.out.size)
    replace Ha := Aside0.mk (Kd.R_below Ha.out hb)
    replace Hc := Aside0.mk (Kd.R_below Hc.out hb)
    have HZw13 := Aside0.mk hb.size
    replace HB := Aside0.mk (HB.out.trans (hb.mono HB.out.size))
    clear hb oy
    have hcall := impl_PlaceGroup.calls Ay cy z n u bb w13 (Kd.S_reads' Hy.out).2.2 ((Kd.S_reads' Hy.out).1 ▸ (Kd.S_reads' Hy.out).2.1) hI
    go_wp2_with fail
    refine hcall.mono ?_
    clear hcall
    rintro e w14 ⟨vp, rfl, op, hb⟩
    obtain ⟨Ap, cp, rfl⟩ := Kd.R_slice op
    have Hp := Aside0.mk (Kd.R_lower (Kd.R_mono (Kd.R_bound op) (ok' := (fun k_ => (w13.heap.size ≤ k_ ∧ k_ < w14.heap.size) ∧ ∃ q, q ∈ 3 :: Kd.E ((Kd.int .i64)) ∧ ∃ cells, w14.heap[k_]? = some (.cells cells q (0, 0)))) (fun k hk => ⟨⟨hk.2.1, hk.2.2.1⟩, hk.2.2.2⟩)) HB.out.size)
    replace Ha := Aside0.mk (Kd.R_below Ha.out hb)
    replace Hc := Aside0.mk (Kd.R_below Hc.out hb)
    replace Hy := Aside0.mk (Kd.S_below Hy.out hb)
    have HZw14 := Aside0.mk hb.size
    replace HB := Aside0.mk (HB.out.trans (hb.mono HB.out.size))
    clear hb op
    clear Hy
    obtain ⟨fu15, hfu15⟩ := ev_rounds (hq1)
    have hcall := laws_eqIntS.calls fu15 Ap cp u Aa ca u true w14 (Kd.R_reads' Hp.out).2.2 ((Kd.R_reads' Hp.out).1 ▸ (Kd.R_reads' Hp.out).2.1) (Kd.R_reads' Ha.out).2.2 ((Kd.R_reads' Ha.out).1 ▸ (Kd.R_reads' Ha.out).2.1) hfu15
    go_wp2_with fail
    refine hcall.mono ?_
    clear hcall
    rintro e w15 ⟨rfl, hd⟩
    have hb := hd.below
    clear hd
    replace Ha := Aside0.mk (Kd.R_below Ha.out hb)
    replace Hc := Aside0.mk (Kd.R_below Hc.out hb)
    replace Hp := Aside0.mk (Kd.R_below Hp.out hb)
    have HZw15 := Aside0.mk hb.size
    replace HB := Aside0.mk (HB.out.trans (hb.mono HB.out.size))
    clear hb
    obtain ⟨fu16, hfu16⟩ := ev_rounds (hh1)
    have hcall := laws_heldIntS.calls fu16 Ac cc u' 1 m1 w15 (Kd.R_reads' Hc.out).2.2 ((Kd.R_reads' Hc.out).1 ▸ (Kd.R_reads' Hc.out).2.1) hfu16
    rw [← (Kd.R_reads' Hc.out).1] at hcall
    go_wp2_with fail
    refine hcall.mono ?_
    clear hcall
    rintro e w16 ⟨rfl, hd⟩
    have hb := hd.below
    clear hd
    replace Ha := Aside0.mk (Kd.R_below Ha.out hb)
    replace Hc := Aside0.mk (Kd.R_below Hc.out hb)
    replace Hp := Aside0.mk (Kd.R_below Hp.out hb)
    have HZw16 := Aside0.mk hb.size
    replace HB := Aside0.mk (HB.out.trans (hb.mono HB.out.size))
    clear hb
    go_wp2
    go_ret
    exact ⟨rfl, HB.out⟩
end Go.Proofs.Ythgmmebkjhjgcaa.Pure
