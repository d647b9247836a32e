/- Expired: the program's answer is the reference's, for every list of leases and every time. -/
import Derived.Test.YtdlcnldgiclpgaaSFnExactExpired
import Derived.Test.YtdlcnldgiclpgaaLwLease
import Derived.Test.YtdlcnldgiclpgaaLwString
namespace Go.Proofs.Ytdlcnldgiclpgaa.Pure
open Go.RowKit Go.Proofs.YtdlcnldgiclpgaaW.PrintWords Go.Proofs.Ytdlcnldgiclpgaa.Pr Go.Proofs.Ytdlcnldgiclpgaa.Evs Go.Proofs.Ytdlcnldgiclpgaa.Lw Go.Proofs.Ytdlcnldgiclpgaa.SFnExactExpired
set_option linter.unusedVariables false

def old (now : Int) (x : ImLease) : Bool := decide (0 ≤ x.f2 ∧ x.f2 ≤ 1000000000 ∧ 0 ≤ now ∧ now ≤ 1000000000 ∧ now - x.f2 ≥ 12)
def oldOnes (now : Int) : List ImLease → List ByteArray
  | [] => []
  | x :: s => if old now x = true then x.f0 :: oldOnes now s else oldOnes now s
theorem oldOnes_len (now : Int) (l : List ImLease) : (oldOnes now l).length ≤ l.length := by
  induction l with
  | nil => simp [oldOnes]
  | cons x s ih => simp only [oldOnes]; split <;> simp <;> omega
theorem spec_in (a lo hi : Int) : spec_l01In.f a lo hi = some (decide (lo ≤ a ∧ a ≤ hi)) := by
  unfold spec_l01In.f
  by_cases c : a ≥ lo
  · rw [if_pos c]; congr 1; simp; omega
  · rw [if_neg c]; congr 1; simp; omega
theorem impl_in (a lo hi : Int) : impl_within.f a lo hi = some (decide (lo ≤ a ∧ a ≤ hi)) := by
  unfold impl_within.f
  by_cases c : a ≥ lo
  · rw [if_pos c]; congr 1; simp; omega
  · rw [if_neg c]; congr 1; simp; omega
theorem spec_loop (now : Int) (s : List ImLease) : ∀ (p : List ImLease) (a : List ByteArray), p.length + s.length < 9223372036854775807 → a.length + s.length < 8796093022208 → Ev (fun k => spec_Expired.l0 k (p ++ s) now a (p.length : Int)) (a ++ oldOnes now s) := by
  induction s with
  | nil => intro p a hl ha; exact ev_step (fun k => spec_Expired.l0.eq_2 _ _ _ _ k) (ev_neg (by simp) (ev_eq (ev_some _) (by simp [oldOnes])))
  | cons x s ih =>
    intro p a hl ha
    simp at hl ha
    refine ev_step (fun k => spec_Expired.l0.eq_2 _ _ _ _ k) (ev_pos (by simp; omega) (ev_pos (by omega) ?_))
    have e0 : wrap64 ((p.length : Int) + 1) = (p.length : Int) + 1 := wrap_in (by omega) (by omega)
    simp only [rd64, e0]
    have hn := ih (p ++ [x]) a (by simp; omega) (by omega)
    have hy := ih (p ++ [x]) (a ++ [x.f0]) (by simp; omega) (by simp; omega)
    have hn' : old now x = false → Ev (fun k => spec_Expired.l0 k (p ++ x :: s) now a ((p.length : Int) + 1)) (a ++ oldOnes now (x :: s)) := fun c => by simpa [oldOnes, c] using hn
    have hy' : old now x = true → Ev (fun k => spec_Expired.l0 k (p ++ x :: s) now (a ++ [x.f0]) ((p.length : Int) + 1)) (a ++ oldOnes now (x :: s)) := fun c => by simpa [oldOnes, c] using hy
    refine ev_call (spec_in _ _ _) ?_
    by_cases c1 : 0 ≤ x.f2 ∧ x.f2 ≤ 1000000000
    · refine ev_pos (by simpa using c1) (ev_call (spec_in _ _ _) ?_)
      by_cases c2 : 0 ≤ now ∧ now ≤ 1000000000
      · refine ev_pos (by simpa using c2) ?_
        have e1 : wrap64 (now - x.f2) = now - x.f2 := wrap_in (by omega) (by omega)
        rw [e1]
        by_cases c3 : now - x.f2 ≥ 12
        · exact ev_pos c3 (ev_pos (by omega) (hy' (by simp [old]; omega)))
        · exact ev_neg c3 (hn' (by simp [old]; omega))
      · exact ev_neg (by simpa using c2) (hn' (by simp [old]; omega))
    · exact ev_neg (by simpa using c1) (hn' (by simp [old]; omega))
theorem impl_loop (now n : Int) (s : List ImLease) : ∀ (p : List ImLease) (a : List ByteArray), n = ((p ++ s).length : Int) → p.length + s.length < 9223372036854775807 → a.length + s.length < 8796093022208 → Ev (fun k => impl_Expired.l0 k now a (p ++ s) n (p.length : Int)) (a ++ oldOnes now s) := by
  induction s with
  | nil => intro p a hn hl ha; exact ev_step (fun k => impl_Expired.l0.eq_2 _ _ _ _ _ k) (ev_neg (by simp at hn; omega) (ev_eq (ev_some _) (by simp [oldOnes])))
  | cons x s ih =>
    intro p a hn hl ha
    simp at hl ha hn
    refine ev_step (fun k => impl_Expired.l0.eq_2 _ _ _ _ _ k) (ev_pos (by omega) (ev_pos (by omega) (ev_pos (by simp; omega) ?_)))
    have e0 : wrap64 ((p.length : Int) + 1) = (p.length : Int) + 1 := wrap_in (by omega) (by omega)
    simp only [rd64, e0]
    have h0 := ih (p ++ [x]) a (by simp; omega) (by simp; omega) (by omega)
    have h1 := ih (p ++ [x]) (a ++ [x.f0]) (by simp; omega) (by simp; omega) (by simp; omega)
    have hn' : old now x = false → Ev (fun k => impl_Expired.l0 k now a (p ++ x :: s) n ((p.length : Int) + 1)) (a ++ oldOnes now (x :: s)) := fun c => by simpa [oldOnes, c] using h0
    have hy' : old now x = true → Ev (fun k => impl_Expired.l0 k now (a ++ [x.f0]) (p ++ x :: s) n ((p.length : Int) + 1)) (a ++ oldOnes now (x :: s)) := fun c => by simpa [oldOnes, c] using h1
    refine ev_call (impl_in _ _ _) ?_
    by_cases c1 : 0 ≤ x.f2 ∧ x.f2 ≤ 1000000000
    · refine ev_pos (by simpa using c1) (ev_call (impl_in _ _ _) ?_)
      by_cases c2 : 0 ≤ now ∧ now ≤ 1000000000
      · refine ev_pos (by simpa using c2) ?_
        have e1 : wrap64 (now - x.f2) = now - x.f2 := wrap_in (by omega) (by omega)
        rw [e1]
        by_cases c3 : now - x.f2 ≥ 12
        · exact ev_pos c3 (ev_pos (by omega) (hy' (by simp [old]; omega)))
        · exact ev_neg c3 (hn' (by simp [old]; omega))
      · exact ev_neg (by simpa using c2) (hn' (by simp [old]; omega))
    · exact ev_neg (by simpa using c1) (hn' (by simp [old]; omega))
theorem law_Expired (l : List LLease) (now : Int) (hl : l.length ≤ maxLen) (ho : ∀ x ∈ l, okLease x) : Ev (fun k => laws_FnExactExpired.f k l now) true := by
  unfold laws_FnExactExpired.f
  obtain ⟨r, hE, hR⟩ := szLeaseS_ev l hl ho 1048576 (by omega) (by omega)
  refine ev_bind hE ?_
  by_cases c : r < 0
  · exact ev_pos c (ev_some _)
  refine ev_neg c ?_
  have hw := wtLeaseS_len l
  have hl2 : l.length ≤ 1048576 := by omega
  have hT := toLeaseS_ev l hl2
  have ho := oldOnes_len now (l.map toLease)
  have hm : (l.map toLease).length = l.length := List.length_map _
  have h1 : Ev (fun k => spec_Expired.f k (l.map toLease) now) (oldOnes now (l.map toLease)) := by
    unfold spec_Expired.f
    simpa using spec_loop now (l.map toLease) [] [] (by simp; omega) (by simp; omega)
  have h2 : Ev (fun k => impl_Expired.f k (l.map toLease) now) (oldOnes now (l.map toLease)) := by
    unfold impl_Expired.f
    simpa using impl_loop now _ (l.map toLease) [] [] rfl (by simp; omega) (by simp; omega)
  have q1 := eqStringS_ev (oldOnes now (l.map toLease)) (by omega)
  have q2 := eqLeaseS_ev (l.map toLease) (by omega)
  have m1 := markLeaseS_ev (l.map toLease) 1 (by omega) (by omega)
  have m2 := markStringS_ev (oldOnes now (l.map toLease)) 1 (by omega) (by omega)
  have m3 := heldStringS_ev (oldOnes now (l.map toLease)) 1 (by omega) (by omega)
  refine ev_bind hT (ev_bind h1 (ev_bind hT (ev_bind h2 (ev_bind q1 (ev_pos rfl (ev_bind hT (ev_bind q2 (ev_pos rfl (ev_bind m1 (ev_neg (by simp; omega) (ev_bind q1 ?_)))))))))))
  refine ev_step (fun k => laws_FnExactExpired.j0.eq_2 _ _ _ _ _ k) (ev_neg (by simp) (ev_bind m2 (ev_bind m3 (ev_neg (by omega) (ev_pos rfl (ev_bind hT (ev_bind h2 (ev_bind q1 (ev_pos rfl (ev_bind m3 (ev_neg (by omega) (ev_pos rfl (ev_some _)))))))))))))
theorem FnExactExpired : SFnExactExpired.Pure := by
  intro l now hl hn
  exact ev_rounds (law_Expired l now hl.1 (fun x hx => (hl.2 x hx).1))
end Go.Proofs.Ytdlcnldgiclpgaa.Pure
