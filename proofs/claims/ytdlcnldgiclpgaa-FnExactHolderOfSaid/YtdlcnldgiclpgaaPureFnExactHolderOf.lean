/- HolderOf: the program's answer is the reference's, for every list of leases and every path. -/
import Derived.Test.YtdlcnldgiclpgaaSFnExactHolderOf
import Derived.Test.YtdlcnldgiclpgaaLwLease
namespace Go.Proofs.Ytdlcnldgiclpgaa.Pure
open Go.RowKit Go.Proofs.YtdlcnldgiclpgaaW.PrintWords Go.Proofs.Ytdlcnldgiclpgaa.Pr Go.Proofs.Ytdlcnldgiclpgaa.Evs Go.Proofs.Ytdlcnldgiclpgaa.Lw Go.Proofs.Ytdlcnldgiclpgaa.SFnExactHolderOf
set_option linter.unusedVariables false

def holder : List ImLease → ByteArray → Int
  | [], _ => 0
  | x :: s, p => if x.f0.toList = p.toList then x.f1 else holder s p
theorem spec_HolderOf_loop (a : ByteArray) (s : List ImLease) : ∀ (p : List ImLease), p.length + s.length < 9223372036854775807 → Ev (fun k => spec_HolderOf.l0 k (p ++ s) a (p.length : Int)) (holder s a) := by
  induction s with
  | nil => intro p hl; exact ev_step (fun k => spec_HolderOf.l0.eq_2 _ _ _ k) (ev_neg (by simp) (ev_some _))
  | cons x s ih =>
    intro p hl
    simp at hl
    refine ev_step (fun k => spec_HolderOf.l0.eq_2 _ _ _ k) (ev_pos (by simp; omega) (ev_pos (by omega) ?_))
    rw [rd64, holder]
    refine ev_ite (fun _ => ev_some _) (fun _ => ?_)
    rw [wrap_succ (by omega) (by omega)]
    simpa using ih (p ++ [x]) (by simp; omega)
theorem impl_HolderOf_loop (a : ByteArray) (n : Int) (s : List ImLease) : ∀ (p : List ImLease), n = ((p ++ s).length : Int) → p.length + s.length < 9223372036854775807 → Ev (fun k => impl_HolderOf.l0 k a (p ++ s) n (p.length : Int)) (holder s a) := by
  induction s with
  | nil => intro p hn hl; exact ev_step (fun k => impl_HolderOf.l0.eq_2 _ _ _ _ k) (ev_neg (by simp at hn; omega) (ev_some _))
  | cons x s ih =>
    intro p hn hl
    simp at hl hn
    refine ev_step (fun k => impl_HolderOf.l0.eq_2 _ _ _ _ k) (ev_pos (by omega) (ev_pos (by omega) (ev_pos (by simp; omega) ?_)))
    rw [rd64, holder]
    refine ev_ite (fun _ => ev_some _) (fun _ => ?_)
    rw [wrap_succ (by omega) (by omega)]
    simpa using ih (p ++ [x]) (by simp; omega) (by simp; omega)
theorem law_HolderOf (l : List LLease) (p : ByteArray) (hl : l.length ≤ maxLen) (ho : ∀ x ∈ l, okLease x) : Ev (fun k => laws_FnExactHolderOf.f k l p) true := by
  unfold laws_FnExactHolderOf.f
  by_cases c : (p.size : Int) > 1048576
  · exact ev_pos c (ev_some _)
  refine ev_neg c ?_
  obtain ⟨r, hE, hR⟩ := szLeaseS_ev l hl ho 1048576 (by omega) (by omega)
  refine ev_bind hE ?_
  by_cases c : r < 0
  · exact ev_pos c (ev_some _)
  refine ev_neg c ?_
  have hw := wtLeaseS_len l
  have hl2 : l.length ≤ 1048576 := by omega
  have hT := toLeaseS_ev l hl2
  have h1 : Ev (fun k => spec_HolderOf.f k (l.map toLease) p) (holder (l.map toLease) p) := by
    unfold spec_HolderOf.f
    simpa using spec_HolderOf_loop p (l.map toLease) [] (by simp; omega)
  have h2 : Ev (fun k => impl_HolderOf.f k (l.map toLease) p) (holder (l.map toLease) p) := by
    unfold impl_HolderOf.f
    simpa using impl_HolderOf_loop p _ (l.map toLease) [] rfl (by simp; omega)
  exact ev_bind hT (ev_bind h1 (ev_bind hT (ev_bind h2 (ev_pos rfl (ev_bind hT (ev_bind (eqLeaseS_ev _ (by simp; omega)) (ev_pos rfl (ev_some _))))))))
theorem FnExactHolderOf : SFnExactHolderOf.Pure := by
  intro l p hl hp
  exact ev_rounds (law_HolderOf l p hl.1 (fun x hx => (hl.2 x hx).1))
end Go.Proofs.Ytdlcnldgiclpgaa.Pure
