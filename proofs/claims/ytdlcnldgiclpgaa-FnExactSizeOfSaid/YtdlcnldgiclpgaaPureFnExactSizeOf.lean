/- SizeOf: the program's answer is the reference's, for every list of sizes and every group. -/
import Derived.Test.YtdlcnldgiclpgaaSFnExactSizeOf
import Derived.Test.YtdlcnldgiclpgaaLwSize
namespace Go.Proofs.Ytdlcnldgiclpgaa.Pure
open Go.RowKit Go.Proofs.YtdlcnldgiclpgaaW.PrintWords Go.Proofs.Ytdlcnldgiclpgaa.Pr Go.Proofs.Ytdlcnldgiclpgaa.Evs Go.Proofs.Ytdlcnldgiclpgaa.Lw Go.Proofs.Ytdlcnldgiclpgaa.SFnExactSizeOf
set_option linter.unusedVariables false

def lastOf : List ImSize → Int → Int × ByteArray → Int × ByteArray
  | [], _, r => r
  | x :: s, g, r => lastOf s g (if x.f0 = g then (x.f0, x.f1) else r)
theorem lastOf_snoc (s : List ImSize) (x : ImSize) (g : Int) : ∀ r, lastOf (s ++ [x]) g r = if x.f0 = g then (x.f0, x.f1) else lastOf s g r := by
  induction s with
  | nil => intro r; rfl
  | cons y s ih => intro r; simp only [List.cons_append, lastOf]; exact ih _
theorem spec_loop (g : Int) (s : List ImSize) : ∀ (p : List ImSize) (a : Int) (b : ByteArray), p.length + s.length < 9223372036854775807 → Ev (fun k => spec_SizeOf.l0 k (p ++ s) g (p.length : Int) a b) (lastOf s g (a, b)) := by
  induction s with
  | nil => intro p a b hl; exact ev_step (fun k => spec_SizeOf.l0.eq_2 _ _ _ _ _ k) (ev_neg (by simp) (ev_some _))
  | cons x s ih =>
    intro p a b hl
    simp at hl
    refine ev_step (fun k => spec_SizeOf.l0.eq_2 _ _ _ _ _ k) (ev_pos (by simp; omega) (ev_pos (by omega) ?_))
    have e0 : wrap64 ((p.length : Int) + 1) = (p.length : Int) + 1 := wrap_in (by omega) (by omega)
    simp only [rd25, e0]
    by_cases c : x.f0 = g
    · refine ev_pos c ?_
      have h := ih (p ++ [x]) x.f0 x.f1 (by simp; omega)
      simpa [lastOf, c] using h
    · refine ev_neg c ?_
      have h := ih (p ++ [x]) a b (by simp; omega)
      simpa [lastOf, c] using h
theorem impl_loop (g : Int) (l : List ImSize) (hl : l.length < 9223372036854775807) (n : Nat) (hn : n ≤ l.length) : Ev (fun k => impl_SizeOf.l0 k l g ((n : Int) - 1)) (lastOf (l.take n) g (0, ⟨#[]⟩)) := by
  induction n with
  | zero => exact ev_step (fun k => impl_SizeOf.l0.eq_2 _ _ _ k) (ev_neg (by omega) (ev_some _))
  | succ n ih =>
    refine ev_step (fun k => impl_SizeOf.l0.eq_2 _ _ _ k) (ev_pos (by omega) (ev_pos (by omega) (ev_pos (by omega) ?_)))
    have e0 : ((n + 1 : Nat) : Int) - 1 = (n : Int) := by omega
    have e1 : wrap64 ((n : Int) - 1) = (n : Int) - 1 := wrap_in (by omega) (by omega)
    have er : rd_T25 l (n : Int) = l[n] := by unfold rd_T25; simp [List.getD, List.getElem?_eq_getElem (show n < l.length by omega)]
    have et : l.take (n + 1) = l.take n ++ [l[n]] := by rw [List.take_succ_eq_append_getElem]
    rw [et, lastOf_snoc]
    simp only [e0, e1, er]
    refine ev_ite (fun _ => ev_some _) (fun _ => ih (by omega))
theorem law_SizeOf (l : List LSize) (g : Int) (hl : l.length ≤ maxLen) (ho : ∀ x ∈ l, okSize x) : Ev (fun k => laws_FnExactSizeOf.f k l g) true := by
  unfold laws_FnExactSizeOf.f
  obtain ⟨r, hE, hR⟩ := szSizeS_ev l hl ho 1048576 (by omega) (by omega)
  refine ev_bind hE ?_
  by_cases c : r < 0
  · exact ev_pos c (ev_some _)
  refine ev_neg c ?_
  have hw := wtSizeS_len l
  have hl2 : l.length ≤ 1048576 := by omega
  have hT := toSizeS_ev l hl2
  have h1 : Ev (fun k => spec_SizeOf.f k (l.map toSize) g) (lastOf (l.map toSize) g (0, ⟨#[]⟩)) := by
    unfold spec_SizeOf.f
    simpa using spec_loop g (l.map toSize) [] 0 ⟨#[]⟩ (by simp; omega)
  have h2 : Ev (fun k => impl_SizeOf.f k (l.map toSize) g) (lastOf (l.map toSize) g (0, ⟨#[]⟩)) := by
    unfold impl_SizeOf.f
    have h := impl_loop g (l.map toSize) (by simp; omega) (l.map toSize).length (Nat.le_refl _)
    rw [List.take_length] at h
    rw [wrap_in (by simp; omega) (by simp; omega)]
    exact h
  exact ev_bind hT (ev_bind h1 (ev_bind hT (ev_bind h2 (ev_call (eqSize_refl ⟨_, _⟩) (ev_pos rfl (ev_bind hT (ev_bind (eqSizeS_ev _ (by simp; omega)) (ev_pos rfl (ev_some _)))))))))
theorem FnExactSizeOf : SFnExactSizeOf.Pure := by
  intro l g hl hg
  exact ev_rounds (law_SizeOf l g hl.1 (fun x hx => (hl.2 x hx).2))
end Go.Proofs.Ytdlcnldgiclpgaa.Pure
