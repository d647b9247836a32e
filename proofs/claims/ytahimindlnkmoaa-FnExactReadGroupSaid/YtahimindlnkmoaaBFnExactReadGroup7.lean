/- A part of the proof of the law FnExactReadGroup: its texts, one behind the other. -/
import Derived.Test.YtahimindlnkmoaaBFnExactReadGroup1
import Derived.Test.YtahimindlnkmoaaBFnExactReadGroup2
import Derived.Test.YtahimindlnkmoaaBFnExactReadGroup3
import Derived.Test.YtahimindlnkmoaaBFnExactReadGroup4
import Derived.Test.YtahimindlnkmoaaBFnExactReadGroup5
import Derived.Test.YtahimindlnkmoaaBFnExactReadGroup6
namespace Go.Proofs.Ytahimindlnkmoaa.Pu
open Go.RowKit Go.Proofs.YtahimindlnkmoaaW.PrintWords Go.Proofs.Ytahimindlnkmoaa.Pr Go.Proofs.Ytahimindlnkmoaa.Evs
set_option linter.unusedVariables false
set_option linter.unusedSimpArgs false
theorem addT_size (a b : ByteArray) : (addT a b).size = max a.size b.size := by unfold addT; rw [strOfNums_size]; simp
def rowT : List Int → List ByteArray → ByteArray → ByteArray
  | a :: r, u :: us, acc => rowT r us (addT acc (mulT a u))
  | _, _, acc => acc
def applyT (m : List (List Int)) (us : List ByteArray) : List ByteArray := m.map fun row => rowT row us ⟨#[]⟩
def Fits (m : List (List Int)) (us : List ByteArray) : Prop := (∀ row ∈ m, row.length = us.length ∧ ∀ a ∈ row, 0 ≤ a ∧ a < 256) ∧ us.length ≤ 8 ∧ m.length ≤ 8 ∧ ∀ u ∈ us, u.size ≤ 1048576
theorem impl_ApplyM_l1 (us : List ByteArray) (out : List ByteArray) (m : List (List Int)) (i : Int) (v : List ByteArray) (hout : out.length ≤ 8) (n : Nat) (row : List Int) (hl : row.length = n) (hl2 : us.length = n) (hn : n ≤ 8) (hr : ∀ a ∈ row, 0 ≤ a ∧ a < 256) (hu : ∀ u ∈ us, u.size ≤ 1048576)
    (hE : Ev (fun k => impl_ApplyM.l0 k us (out ++ [rowT row us ⟨#[]⟩]) m (m.length : Int) (wrap64 (i + 1))) v) : ∀ (d j : Nat) (acc : ByteArray), j + d = n → acc.size ≤ 1048576 → rowT (row.drop j) (us.drop j) acc = rowT row us ⟨#[]⟩ →
    Ev (fun k => impl_ApplyM.l1 k us out acc m (m.length : Int) i row (n : Int) (j : Int)) v := by
  intro d
  induction d with
  | zero =>
    intro j acc hj ha hacc
    rw [List.drop_eq_nil_of_le (by omega), rowT] at hacc
    · refine ev_step (fun k => impl_ApplyM.l1.eq_2 _ _ _ _ _ _ _ _ _ k) (ev_neg (by omega) (ev_pos (by omega) ?_))
      rw [hacc]
      exact hE
    · intro a r u us' h
      cases h
  | succ d ih =>
    intro j acc hj ha hacc
    have hjr : j < row.length := by omega
    have hju : j < us.length := by omega
    rw [List.drop_eq_getElem_cons hjr, List.drop_eq_getElem_cons hju, rowT] at hacc
    have hb := hr _ (List.getElem_mem hjr)
    have hs := hu _ (List.getElem_mem hju)
    have e : wrap64 ((j : Int) + 1) = ((j + 1 : Nat) : Int) := by rw [wrap_in (by omega) (by omega)]; omega
    have h := ih (j + 1) (addT acc (mulT row[j] us[j])) (by omega) (by rw [addT_size, mulT_size]; omega) hacc
    have e1 : rd row (j : Int) = row[j] := by show row.getD j 0 = _; rw [List.getD_eq_getElem?_getD, List.getElem?_eq_getElem hjr]; rfl
    have e2 : rdOf ByteArray.empty us (j : Int) = us[j] := by show us.getD j _ = _; rw [List.getD_eq_getElem?_getD, List.getElem?_eq_getElem hju]; rfl
    refine ev_step (fun k => impl_ApplyM.l1.eq_2 _ _ _ _ _ _ _ _ _ k) (ev_pos (by omega) (ev_pos (by omega) (ev_pos (by omega) (ev_pos (by omega) ?_))))
    rw [e1, e2, e]
    refine ev_bind (impl_MulText_ev _ _ hb.1 hb.2 hs) (ev_call (by unfold impl_AddText.f; rw [if_pos ⟨ha, by rw [mulT_size]; exact hs⟩]) ?_)
    exact h
theorem impl_ApplyM_l0 (m : List (List Int)) (us : List ByteArray) (hf : Fits m us) : ∀ (d i : Nat), i + d = m.length →
    Ev (fun k => impl_ApplyM.l0 k us (applyT (m.take i) us) m (m.length : Int) (i : Int)) (applyT m us) := by
  obtain ⟨h1, h2, h3, h4⟩ := hf
  intro d
  induction d with
  | zero =>
    intro i hi
    rw [List.take_of_length_le (by omega)]
    exact ev_step (fun k => impl_ApplyM.l0.eq_2 _ _ _ _ _ k) (ev_neg (by omega) (ev_some _))
  | succ d ih =>
    intro i hi
    have him : i < m.length := by omega
    have h := ih (i + 1) (by omega)
    have hrow := h1 _ (List.getElem_mem him)
    have e : wrap64 ((i : Int) + 1) = ((i + 1 : Nat) : Int) := by rw [wrap_in (by omega) (by omega)]; omega
    have e1 : rd_L9 m (i : Int) = m[i] := by show m.getD i [] = _; rw [List.getD_eq_getElem?_getD, List.getElem?_eq_getElem him]; rfl
    refine ev_step (fun k => impl_ApplyM.l0.eq_2 _ _ _ _ _ k) (ev_pos (by omega) (ev_pos (by omega) (ev_pos (by omega) ?_)))
    rw [e1, hrow.1]
    refine impl_ApplyM_l1 us _ m (i : Int) _ (by unfold applyT; rw [List.length_map, List.length_take]; omega) us.length m[i] hrow.1 rfl h2 hrow.2 h4 ?_ us.length 0 ⟨#[]⟩ (by omega) (by show 0 ≤ _; omega) rfl
    rw [e]
    have e3 : applyT (m.take i) us ++ [rowT m[i] us ⟨#[]⟩] = applyT (m.take (i + 1)) us := by
      unfold applyT
      rw [List.take_succ_eq_append_getElem him, List.map_append]
      rfl
    rw [e3]
    exact h
theorem fits_len {m : List (List Int)} {us : List ByteArray} (hf : Fits m us) (hp : 0 < m.length) : (m.getD 0 []).length = us.length := by
  have := (hf.1 _ (List.getElem_mem hp)).1
  rw [List.getD_eq_getElem?_getD, List.getElem?_eq_getElem hp]
  exact this
theorem impl_ApplyM_ev (m : List (List Int)) (us : List ByteArray) (hf : Fits m us) (hm : mOk m = true) (hp : 0 < m.length) : Ev (fun k => impl_ApplyM.f k m us) (applyT m us) := by
  unfold impl_ApplyM.f
  refine ev_call (show impl_MatrixOk.f m = some true by unfold impl_MatrixOk.f; rw [hm]) (ev_pos rfl (ev_pos (by omega) ?_))
  have e : (((rd_L9 m 0).length : Int) != (us.length : Int)) = false := by
    have := fits_len hf hp
    have e1 : rd_L9 m 0 = m.getD 0 [] := rfl
    rw [e1, this]
    simp
  rw [e]
  have h := impl_ApplyM_l0 m us hf m.length 0 (by omega)
  exact ev_step (fun k => impl_ApplyM.j0.eq_2 _ _ _ k) (ev_neg (by decide) h)
theorem l01In_eq (n lo hi : Int) : spec_l01In.f n lo hi = some (decide (lo ≤ n) && decide (n ≤ hi)) := by
  unfold spec_l01In.f
  by_cases h : lo ≤ n <;> by_cases h2 : n ≤ hi <;> simp [h, h2]
theorem spec_MatrixOk_l1 (m : List (List Int)) (i : Nat) (row : List Int) (v : Bool) (him : i < m.length) (hrow : m[i] = row) (hl : row.length ≤ 8) (hr : ∀ a ∈ row, 0 ≤ a ∧ a ≤ 255) (hE : Ev (fun k => spec_MatrixOk.l0 k m (wrap64 ((i : Int) + 1))) v) : ∀ (d j : Nat), j + d = row.length →
    Ev (fun k => spec_MatrixOk.l1 k m (i : Int) (j : Int)) v := by
  have e1 : rd_L9 m (i : Int) = row := by show m.getD i [] = _; rw [List.getD_eq_getElem?_getD, List.getElem?_eq_getElem him]; exact hrow
  intro d
  induction d with
  | zero =>
    intro j hj
    refine ev_step (fun k => spec_MatrixOk.l1.eq_2 _ _ _ k) (ev_pos (by omega) (ev_pos (by omega) (ev_neg (by rw [e1]; omega) hE)))
  | succ d ih =>
    intro j hj
    have hjr : j < row.length := by omega
    have hb := hr _ (List.getElem_mem hjr)
    have e : wrap64 ((j : Int) + 1) = ((j + 1 : Nat) : Int) := by rw [wrap_in (by omega) (by omega)]; omega
    have e2 : rd row (j : Int) = row[j] := by show row.getD j 0 = _; rw [List.getD_eq_getElem?_getD, List.getElem?_eq_getElem hjr]; rfl
    refine ev_step (fun k => spec_MatrixOk.l1.eq_2 _ _ _ k) (ev_pos (by omega) (ev_pos (by omega) (ev_pos (by rw [e1]; omega) (ev_pos (by omega) ?_))))
    rw [e1, e2, e]
    exact ev_call (show spec_l01In.f row[j] 0 255 = some true by rw [l01In_eq, decide_eq_true hb.1, decide_eq_true hb.2]; rfl) (ev_pos rfl (ih (j + 1) (by omega)))
set_option maxHeartbeats 2000000 in
theorem spec_MatrixOk_ev (m : List (List Int)) (us : List ByteArray) (hf : Fits m us) (hp : 0 < m.length) (hu : 0 < us.length) : Ev (fun k => spec_MatrixOk.f k m) true := by
  obtain ⟨h1, h2, h3, h4⟩ := hf
  unfold spec_MatrixOk.f
  have main : ∀ (d i : Nat), i + d = m.length → Ev (fun k => spec_MatrixOk.l0 k m (i : Int)) true := by
    intro d
    induction d with
    | zero =>
      intro i hi
      refine ev_step (fun k => spec_MatrixOk.l0.eq_2 _ _ k) (ev_neg (by omega) (ev_call (show spec_l01In.f (m.length : Int) 1 8 = some true by rw [l01In_eq, decide_eq_true (by omega), decide_eq_true (by omega)]; rfl) (ev_some _)))
    | succ d ih =>
      intro i hi
      have him : i < m.length := by omega
      have hrow := h1 _ (List.getElem_mem him)
      have h := ih (i + 1) (by omega)
      have e : wrap64 ((i : Int) + 1) = ((i + 1 : Nat) : Int) := by rw [wrap_in (by omega) (by omega)]; omega
      have e1 : rd_L9 m (i : Int) = m[i] := by show m.getD i [] = _; rw [List.getD_eq_getElem?_getD, List.getElem?_eq_getElem him]; rfl
      have e0 : (rd_L9 m 0).length = us.length := by
        show (m.getD 0 []).length = _
        rw [List.getD_eq_getElem?_getD, List.getElem?_eq_getElem hp]
        exact (h1 _ (List.getElem_mem hp)).1
      have t : ((rd_L9 m (i : Int)).length : Int) = ((rd_L9 m 0).length : Int) := by rw [e1, hrow.1, e0]
      refine ev_step (fun k => spec_MatrixOk.l0.eq_2 _ _ k) (ev_pos (by omega) (ev_pos (by omega) (ev_pos (by omega) (ev_pos t ?_))))
      rw [e1, hrow.1]
      refine ev_call (show spec_l01In.f (us.length : Int) 1 8 = some true by rw [l01In_eq, decide_eq_true (by omega), decide_eq_true (by omega)]; rfl) ?_
      refine ev_step (fun k => spec_MatrixOk.j1.eq_2 _ _ _ k) (ev_neg (by decide) ?_)
      exact spec_MatrixOk_l1 m i m[i] true him rfl (by rw [hrow.1]; exact h2) (fun a ha => ⟨(hrow.2 a ha).1, by have := (hrow.2 a ha).2; omega⟩) (by rw [e]; exact h) m[i].length 0 (by omega)
  exact main m.length 0 (by omega)
theorem spec_ApplyM_l1 (us : List ByteArray) (out : List ByteArray) (m : List (List Int)) (i : Nat) (him : i < m.length) (v : List ByteArray) (hout : out.length ≤ 8) (n : Nat) (row : List Int) (hrow : m[i] = row) (hl : row.length = n) (hl2 : us.length = n) (hn : n ≤ 8) (hr : ∀ a ∈ row, 0 ≤ a ∧ a < 256) (hu : ∀ u ∈ us, u.size ≤ 1048576)
    (hE : Ev (fun k => spec_ApplyM.l0 k m us (out ++ [rowT row us ⟨#[]⟩]) (wrap64 ((i : Int) + 1))) v) : ∀ (d j : Nat) (acc : ByteArray), j + d = n → acc.size ≤ 1048576 → rowT (row.drop j) (us.drop j) acc = rowT row us ⟨#[]⟩ →
    Ev (fun k => spec_ApplyM.l1 k m us out (i : Int) acc (j : Int)) v := by
  have e0 : rd_L9 m (i : Int) = row := by show m.getD i [] = _; rw [List.getD_eq_getElem?_getD, List.getElem?_eq_getElem him]; exact hrow
  intro d
  induction d with
  | zero =>
    intro j acc hj ha hacc
    rw [List.drop_eq_nil_of_le (by omega), rowT] at hacc
    · refine ev_step (fun k => spec_ApplyM.l1.eq_2 _ _ _ _ _ _ k) (ev_neg (by omega) (ev_pos (by omega) ?_))
      rw [hacc]
      exact hE
    · intro a r u us' h
      cases h
  | succ d ih =>
    intro j acc hj ha hacc
    have hjr : j < row.length := by omega
    have hju : j < us.length := by omega
    rw [List.drop_eq_getElem_cons hjr, List.drop_eq_getElem_cons hju, rowT] at hacc
    have hb := hr _ (List.getElem_mem hjr)
    have hs := hu _ (List.getElem_mem hju)
    have e : wrap64 ((j : Int) + 1) = ((j + 1 : Nat) : Int) := by rw [wrap_in (by omega) (by omega)]; omega
    have h := ih (j + 1) (addT acc (mulT row[j] us[j])) (by omega) (by rw [addT_size, mulT_size]; omega) hacc
    have e1 : rd row (j : Int) = row[j] := by show row.getD j 0 = _; rw [List.getD_eq_getElem?_getD, List.getElem?_eq_getElem hjr]; rfl
    have e2 : rdOf ByteArray.empty us (j : Int) = us[j] := by show us.getD j _ = _; rw [List.getD_eq_getElem?_getD, List.getElem?_eq_getElem hju]; rfl
    have t1 : (j : Int) < (us.length : Int) := Int.ofNat_lt.2 hju
    have t2 : (i : Int) < (m.length : Int) := Int.ofNat_lt.2 him
    have t3 : (j : Int) < ((rd_L9 m (i : Int)).length : Int) := by rw [e0]; exact Int.ofNat_lt.2 hjr
    refine ev_step (fun k => spec_ApplyM.l1.eq_2 _ _ _ _ _ _ k) (ev_pos t1 (ev_pos (Int.natCast_nonneg _) (ev_pos t2 (ev_pos (Int.natCast_nonneg _) (ev_pos t3 ?_)))))
    rw [e0, e1, e2, e]
    refine ev_bind (spec_MulText_ev _ _ hb.1 hb.2 hs) (ev_call (by unfold spec_AddText.f; rw [if_pos ⟨ha, by rw [mulT_size]; exact hs⟩]) ?_)
    exact h
theorem spec_ApplyM_l0 (m : List (List Int)) (us : List ByteArray) (hf : Fits m us) : ∀ (d i : Nat), i + d = m.length →
    Ev (fun k => spec_ApplyM.l0 k m us (applyT (m.take i) us) (i : Int)) (applyT m us) := by
  obtain ⟨h1, h2, h3, h4⟩ := hf
  intro d
  induction d with
  | zero =>
    intro i hi
    rw [List.take_of_length_le (by omega)]
    exact ev_step (fun k => spec_ApplyM.l0.eq_2 _ _ _ _ k) (ev_neg (by omega) (ev_some _))
  | succ d ih =>
    intro i hi
    have him : i < m.length := by omega
    have h := ih (i + 1) (by omega)
    have hrow := h1 _ (List.getElem_mem him)
    have e : wrap64 ((i : Int) + 1) = ((i + 1 : Nat) : Int) := by rw [wrap_in (by omega) (by omega)]; omega
    refine ev_step (fun k => spec_ApplyM.l0.eq_2 _ _ _ _ k) (ev_pos (by omega) ?_)
    refine spec_ApplyM_l1 us _ m i him _ (by unfold applyT; rw [List.length_map, List.length_take]; omega) us.length m[i] rfl hrow.1 rfl h2 hrow.2 h4 ?_ us.length 0 ⟨#[]⟩ (by omega) (by show 0 ≤ _; omega) rfl
    rw [e]
    have e3 : applyT (m.take i) us ++ [rowT m[i] us ⟨#[]⟩] = applyT (m.take (i + 1)) us := by
      unfold applyT
      rw [List.take_succ_eq_append_getElem him, List.map_append]
      rfl
    rw [e3]
    exact h
theorem spec_ApplyM_ev (m : List (List Int)) (us : List ByteArray) (hf : Fits m us) (hp : 0 < m.length) (hu : 0 < us.length) : Ev (fun k => spec_ApplyM.f k m us) (applyT m us) := by
  unfold spec_ApplyM.f
  refine ev_call rfl (ev_bind (spec_MatrixOk_ev m us hf hp hu) (ev_pos rfl (ev_pos (by omega) ?_)))
  have e : (((rd_L9 m 0).length : Int) != (us.length : Int)) = false := by
    have := fits_len hf hp
    have e1 : rd_L9 m 0 = m.getD 0 [] := rfl
    rw [e1, this]
    simp
  rw [e]
  have h := spec_ApplyM_l0 m us hf m.length 0 (by omega)
  exact ev_step (fun k => spec_ApplyM.j0.eq_2 _ _ _ _ k) (ev_neg (by decide) h)
end Go.Proofs.Ytahimindlnkmoaa.Pu

namespace Go.Proofs.Ytahimindlnkmoaa.Pu
open Go.RowKit Go.Proofs.YtahimindlnkmoaaW.PrintWords Go.Proofs.Ytahimindlnkmoaa.Pr
set_option linter.unusedVariables false
def takeT : List Bool → List ByteArray → List (List Int) → List (List Int × ByteArray)
  | true :: h, u :: us, r :: rs => (r, u) :: takeT h us rs
  | false :: h, _ :: us, _ :: rs => takeT h us rs
  | _, _, _ => []
theorem subs_mem : ∀ (h : List Bool) (us : List ByteArray) (rs : List (List Int)) (m : Nat), m ≤ (takeT h us rs).length → ((takeT h us rs).take m).map Prod.fst ∈ subs m rs
  | h, us, rs, 0, _ => by unfold subs; simp
  | [], us, rs, m + 1, hm => by unfold takeT at hm; simp at hm
  | true :: h, [], rs, m + 1, hm => by unfold takeT at hm; simp at hm
  | true :: h, u :: us, [], m + 1, hm => by unfold takeT at hm; simp at hm
  | true :: h, u :: us, r :: rs, m + 1, hm => by
    unfold takeT at hm ⊢
    unfold subs
    simp only [List.take_succ_cons, List.map_cons, List.mem_append, List.mem_map]
    refine Or.inl ⟨_, subs_mem h us rs m (by simp only [List.length_cons] at hm; omega), rfl⟩
  | false :: h, [], rs, m + 1, hm => by unfold takeT at hm; simp at hm
  | false :: h, u :: us, [], m + 1, hm => by unfold takeT at hm; simp at hm
  | false :: h, u :: us, r :: rs, m + 1, hm => by
    unfold takeT at hm ⊢
    unfold subs
    exact List.mem_append.mpr (Or.inr (subs_mem h us rs (m + 1) hm))
theorem takeT_mem : ∀ (h : List Bool) (us : List ByteArray) (rs : List (List Int)), ∀ p ∈ takeT h us rs, p.2 ∈ us
  | [], us, rs => by unfold takeT; intro p hp; cases hp
  | true :: h, [], rs => by unfold takeT; intro p hp; cases hp
  | true :: h, u :: us, [] => by unfold takeT; intro p hp; cases hp
  | true :: h, u :: us, r :: rs => by
    unfold takeT
    intro p hp
    rcases List.mem_cons.mp hp with rfl | hp
    · exact List.mem_cons_self
    · exact List.mem_cons_of_mem _ (takeT_mem h us rs p hp)
  | false :: h, [], rs => by unfold takeT; intro p hp; cases hp
  | false :: h, u :: us, [] => by unfold takeT; intro p hp; cases hp
  | false :: h, u :: us, r :: rs => by
    unfold takeT
    intro p hp
    exact List.mem_cons_of_mem _ (takeT_mem h us rs p hp)
def oneSize (T : List (List Int × ByteArray)) : Prop := ∀ p ∈ T, ∀ q ∈ T, p.2.size = q.2.size
instance (T : List (List Int × ByteArray)) : Decidable (oneSize T) := by unfold oneSize; infer_instance
def finT (m : Nat) (T : List (List Int × ByteArray)) : List ByteArray × Bool :=
  if oneSize T ∧ m ≤ T.length then (applyT ((spec_InvM.f 400 ((T.take m).map Prod.fst)).getD ([], false)).1 ((T.take m).map Prod.snd), true) else ([], false)
theorem inv_400 {l : List (List (List Int))} (h : same l = true) {m : List (List Int)} (hm : m ∈ l) : ∃ i, spec_InvM.f 400 m = some (i, true) ∧ Ev (fun k => spec_InvM.f k m) (i, true) := by
  have h1 := List.all_eq_true.mp h m hm
  split at h1
  · rename_i a b ha hb
    simp only [Bool.and_eq_true, beq_iff_eq, List.all_eq_true, decide_eq_true_eq] at h1
    obtain ⟨⟨⟨⟨⟨rfl, h2⟩, h3⟩, h4⟩, h5⟩, h6⟩ := h1
    obtain ⟨a1, a2⟩ := a
    cases h2
    exact ⟨a1, hb, Ev.of (spec_InvM.mono m) hb⟩
  · cases h1
end Go.Proofs.Ytahimindlnkmoaa.Pu

namespace Go.Proofs.Ytahimindlnkmoaa.Pu
open Go.RowKit Go.Proofs.YtahimindlnkmoaaW.PrintWords Go.Proofs.Ytahimindlnkmoaa.Pr Go.Proofs.Ytahimindlnkmoaa.Evs
set_option linter.unusedVariables false
theorem impl_Decode_end {C : List (List Int)} {m : Nat} (hC : same (subs m C) = true) (hm : 0 < m) (hm8 : m ≤ 8) (h : List Bool) (us : List ByteArray) (hsz : ∀ u ∈ us, u.size ≤ 1048576) (hl : m ≤ (takeT h us C).length) (ho : oneSize (takeT h us C)) :
    Ev (fun k => (impl_InvM.f k (((takeT h us C).map Prod.fst).take m)).bind fun b => if b.2 = true then (if (m : Int) ≤ (((takeT h us C).map Prod.snd).length : Int) then (impl_ApplyM.f k b.1 (((takeT h us C).map Prod.snd).take m)).bind fun t => some (t, true) else none) else some (([] : List ByteArray), false)) (finT m (takeT h us C)) := by
  have hmem := subs_mem h us C m hl
  obtain ⟨i, h1, h2, h3, h4, h5⟩ := inv_ev hC hmem
  have hlen : (((takeT h us C).take m).map Prod.fst).length = m := by simp; omega
  rw [hlen] at h4 h5
  have hs := inv_400 hC hmem
  obtain ⟨j, hj, hE⟩ := hs
  have e := ev_one h2 hE
  injection e with e1 e2
  subst e1
  unfold finT
  rw [if_pos ⟨ho, hl⟩, hj]
  rw [show ((takeT h us C).map Prod.fst).take m = ((takeT h us C).take m).map Prod.fst from (List.map_take).symm, show ((takeT h us C).map Prod.snd).take m = ((takeT h us C).take m).map Prod.snd from (List.map_take).symm]
  refine ev_bind h1 (ev_pos rfl (ev_pos (by simp; omega) (ev_bind (impl_ApplyM_ev i _ ⟨?_, ?_, ?_, ?_⟩ h3 (by omega)) (ev_some _))))
  · intro row hrow
    have := h5 row hrow
    refine ⟨?_, this.2⟩
    rw [this.1]
    simp; omega
  · simp; omega
  · show i.length ≤ 8
    omega
  · intro u hu
    obtain ⟨p, hp, rfl⟩ := List.mem_map.mp hu
    exact hsz _ (takeT_mem h us C p (List.mem_of_mem_take hp))
theorem oneSize_app {P : List (List Int × ByteArray)} (h : oneSize P) (x : List Int × ByteArray) (hx : ∀ p ∈ P, x.2.size = p.2.size) : oneSize (P ++ [x]) := by
  intro p hp q hq
  rcases List.mem_append.mp hp with hp | hp <;> rcases List.mem_append.mp hq with hq | hq
  · exact h p hp q hq
  · rw [List.mem_singleton.mp hq]; exact (hx p hp).symm
  · rw [List.mem_singleton.mp hp]; exact hx q hq
  · rw [List.mem_singleton.mp hp, List.mem_singleton.mp hq]
theorem impl_Decode_loop {C : List (List Int)} {m n : Nat} (hC : same (subs m C) = true) (hm : 0 < m) (hm8 : m ≤ 8) (hn : n ≤ 8) (h : List Bool) (us : List ByteArray) (hh : h.length = n) (hu : us.length = n) (hc : C.length = n) (hsz : ∀ u ∈ us, u.size ≤ 1048576) :
    ∀ (d i : Nat) (P : List (List Int × ByteArray)), i + d = n → P ++ takeT (h.drop i) (us.drop i) (C.drop i) = takeT h us C → oneSize P → P.length ≤ i →
    Ev (fun k => impl_Decode.l0 k us (m : Int) C (P.map Prod.fst) (P.map Prod.snd) h (n : Int) (i : Int)) (finT m (takeT h us C)) := by
  intro d
  induction d with
  | zero =>
    intro i P hi hP ho hl
    have e0 : takeT (h.drop i) (us.drop i) (C.drop i) = [] := by rw [List.drop_eq_nil_of_le (by omega : h.length ≤ i)]; unfold takeT; rfl
    rw [e0, List.append_nil] at hP
    subst hP
    refine ev_step (fun k => impl_Decode.l0.eq_2 _ _ _ _ _ _ _ _ k) (ev_neg (by omega) ?_)
    by_cases hlt : m ≤ (takeT h us C).length
    · refine ev_neg (by simp; omega) (ev_pos (by omega) (ev_pos (by simp; omega) ?_))
      rw [Int.toNat_natCast]
      exact impl_Decode_end hC hm hm8 h us hsz hlt ho
    · refine ev_pos (by simp; omega) ?_
      unfold finT
      rw [if_neg (fun x => hlt x.2)]
      exact ev_some _
  | succ d ih =>
    intro i P hi hP ho hl
    have hih : i < h.length := by omega
    have hiu : i < us.length := by omega
    have hic : i < C.length := by omega
    rw [List.drop_eq_getElem_cons hih, List.drop_eq_getElem_cons hiu, List.drop_eq_getElem_cons hic] at hP
    have e : wrap64 ((i : Int) + 1) = ((i + 1 : Nat) : Int) := by rw [wrap_in (by omega) (by omega)]; omega
    have e1 : rdOf false h (i : Int) = h[i] := by show h.getD i _ = _; rw [List.getD_eq_getElem?_getD, List.getElem?_eq_getElem hih]; rfl
    have e2 : rdOf ByteArray.empty us (i : Int) = us[i] := by show us.getD i _ = _; rw [List.getD_eq_getElem?_getD, List.getElem?_eq_getElem hiu]; rfl
    have e3 : rd_L9 C (i : Int) = C[i] := by show C.getD i _ = _; rw [List.getD_eq_getElem?_getD, List.getElem?_eq_getElem hic]; rfl
    refine ev_step (fun k => impl_Decode.l0.eq_2 _ _ _ _ _ _ _ _ k) (ev_pos (by omega) (ev_pos (by omega) (ev_pos (by omega) ?_)))
    rw [e1, e2, e3, e]
    by_cases hb : h[i] = true
    · rw [hb, takeT] at hP
      have hP2 : (P ++ [(C[i], us[i])]) ++ takeT (h.drop (i + 1)) (us.drop (i + 1)) (C.drop (i + 1)) = takeT h us C := by rw [List.append_assoc]; exact hP
      have go : oneSize (P ++ [(C[i], us[i])]) → Ev (fun k => impl_Decode.l0 k us (m : Int) C (P.map Prod.fst ++ [C[i]]) (P.map Prod.snd ++ [us[i]]) h (n : Int) ((i + 1 : Nat) : Int)) (finT m (takeT h us C)) := by
        intro h1
        have h2 := ih (i + 1) (P ++ [(C[i], us[i])]) (by omega) hP2 h1 (by simp; omega)
        rw [List.map_append, List.map_append] at h2
        exact h2
      refine ev_pos hb ?_
      cases P with
      | nil => exact ev_neg (by simp) (ev_pos (by omega) (ev_call rfl (ev_pos (by simp) (ev_pos (by omega) (ev_call rfl (ev_pos (by simp) (go (oneSize_app ho _ (fun p hp => by cases hp)))))))))
      | cons p P =>
        refine ev_pos (by simp) (ev_pos (by omega) (ev_pos (by simp) ?_))
        have e4 : rdOf ByteArray.empty ((p :: P).map Prod.snd) 0 = p.2 := rfl
        rw [e4]
        by_cases hs : us[i].size = p.2.size
        · refine ev_pos (by omega) (ev_pos (by omega) (ev_call rfl (ev_pos (by simp at hl ⊢; omega) (ev_call rfl (ev_pos (by simp at hl ⊢; omega) (go (oneSize_app ho _ (fun q hq => ?_))))))))
          exact hs.trans (ho p List.mem_cons_self q hq)
        · refine ev_neg (by omega) ?_
          unfold finT
          rw [if_neg (fun x => hs ?_)]
          · exact ev_some _
          · rw [← hP2] at x
            exact x.1 (C[i], us[i]) (by simp) p (by simp)
    · have hb2 : h[i] = false := by simpa using hb
      rw [hb2, takeT] at hP
      exact ev_neg hb (ih (i + 1) P (by omega) hP ho (by omega))
end Go.Proofs.Ytahimindlnkmoaa.Pu

namespace Go.Proofs.Ytahimindlnkmoaa.Pu
open Go.RowKit Go.Proofs.YtahimindlnkmoaaW.PrintWords Go.Proofs.Ytahimindlnkmoaa.Pr Go.Proofs.Ytahimindlnkmoaa.Evs
set_option linter.unusedVariables false
def mOf (s : Int) : Nat := if s = 1 then 2 else if s = 2 then 3 else if s = 3 then 4 else 0
def nOf (s : Int) : Nat := if s = 1 then 3 else if s = 2 then 5 else if s = 3 then 6 else 0
def decT (s : Int) (us : List ByteArray) (h : List Bool) : List ByteArray × Bool := if us.length = nOf s ∧ h.length = nOf s ∧ 0 < nOf s then finT (mOf s) (takeT h us (code s)) else ([], false)
theorem impl_Decode_one {s : Int} {m n : Nat} (hs : impl_SchemaOf.f s = some ((m : Int), ((n - m : Nat) : Int), true)) (hmn : m ≤ n) (hC : same (subs m (code s)) = true) (hk : Ev (fun k => impl_CodeOf.f k s) (code s)) (hm : 0 < m) (hn : n ≤ 8) (hc : (code s).length = n) (us : List ByteArray) (h : List Bool) (hsz : ∀ u ∈ us, u.size ≤ 1048576) (hu8 : us.length < 1000) (hh8 : h.length < 1000) :
    Ev (fun k => impl_Decode.f k s us h) (if us.length = n ∧ h.length = n then finT m (takeT h us (code s)) else ([], false)) := by
  have e : wrap64 ((m : Int) + ((n - m : Nat) : Int)) = (n : Int) := by rw [wrap_in (by omega) (by omega)]; omega
  unfold impl_Decode.f
  refine ev_call hs (ev_pos rfl ?_)
  rw [e]
  by_cases h1 : us.length = n
  · refine ev_pos (by omega) ?_
    by_cases h2 : h.length = n
    · rw [if_pos ⟨h1, h2⟩, show ((h.length : Int) != (n : Int)) = false by simp; omega]
      refine ev_step (fun k => impl_Decode.j0.eq_2 _ _ _ _ _ k) (ev_neg (by decide) (ev_bind hk ?_))
      have := impl_Decode_loop (C := code s) (m := m) (n := n) hC hm (by omega) hn h us h2 h1 hc hsz n 0 [] (by omega) (by simp) (fun p hp => by cases hp) (by simp)
      rw [h2]
      exact this
    · rw [if_neg (fun x => h2 x.2), show ((h.length : Int) != (n : Int)) = true by simp; omega]
      exact ev_step (fun k => impl_Decode.j0.eq_2 _ _ _ _ _ k) (ev_pos rfl (ev_some _))
  · rw [if_neg (fun x => h1 x.1)]
    exact ev_neg (by omega) (ev_step (fun k => impl_Decode.j0.eq_2 _ _ _ _ _ k) (ev_pos rfl (ev_some _)))
theorem impl_Decode_ev (s : Int) (us : List ByteArray) (h : List Bool) (hsz : ∀ u ∈ us, u.size ≤ 1048576) (hu8 : us.length < 1000) (hh8 : h.length < 1000) : Ev (fun k => impl_Decode.f k s us h) (decT s us h) := by
  by_cases h1 : s = 1
  · subst h1
    exact ev_eq (impl_Decode_one (m := 2) (n := 3) rfl (by omega) same1 (impl_CodeOf_ev (.inl rfl)) (by omega) (by omega) rfl us h hsz hu8 hh8) (by unfold decT; simp [nOf, mOf])
  · by_cases h2 : s = 2
    · subst h2
      exact ev_eq (impl_Decode_one (m := 3) (n := 5) rfl (by omega) same2 (impl_CodeOf_ev (.inr (.inl rfl))) (by omega) (by omega) rfl us h hsz hu8 hh8) (by unfold decT; simp [nOf, mOf])
    · by_cases h3 : s = 3
      · subst h3
        exact ev_eq (impl_Decode_one (m := 4) (n := 6) rfl (by omega) same3 (impl_CodeOf_ev (.inr (.inr rfl))) (by omega) (by omega) rfl us h hsz hu8 hh8) (by unfold decT; simp [nOf, mOf])
      · have e : impl_SchemaOf.f s = some (0, 0, false) := by unfold impl_SchemaOf.f; rw [if_neg h1, if_neg h2, if_neg h3]
        unfold impl_Decode.f
        refine ev_call e (ev_neg (by decide) ?_)
        refine ev_eq (ev_step (fun k => impl_Decode.j0.eq_2 _ _ _ _ _ k) (ev_pos rfl (ev_some _))) ?_
        unfold decT nOf
        simp [h1, h2, h3]
end Go.Proofs.Ytahimindlnkmoaa.Pu

namespace Go.Proofs.Ytahimindlnkmoaa.Pu
open Go.RowKit Go.Proofs.YtahimindlnkmoaaW.PrintWords Go.Proofs.Ytahimindlnkmoaa.Pr Go.Proofs.Ytahimindlnkmoaa.Evs
set_option linter.unusedVariables false
set_option maxRecDepth 100000
def placeT (s : Int) (i : Nat) : Int × Int × Int := (spec_PlaceOf.f s (i : Int)).getD (0, 0, 0)
def placeOk (s : Int) (i : Nat) : Bool := (spec_PlaceOf.f s (i : Int) == some (placeT s i)) && (impl_PlaceOf.f 1 s (i : Int) == some (placeT s i)) && decide (0 ≤ (placeT s i).2.1 ∧ (placeT s i).2.1 < (mOf s : Int) ∧ 0 ≤ (placeT s i).2.2)
theorem place1 : (List.range 32).all (placeOk 1) = true := by kernel_rfl
theorem place2 : (List.range 32).all (placeOk 2) = true := by kernel_rfl
theorem place3 : (List.range 32).all (placeOk 3) = true := by kernel_rfl
theorem impl_PlaceOf_any (k : Nat) (s a : Int) : impl_PlaceOf.f (k + 1) s a = impl_PlaceOf.f 1 s a := by
  unfold impl_PlaceOf.f
  simp only [impl_PlaceOf.j0]
theorem place_of {s : Int} (h : s = 1 ∨ s = 2 ∨ s = 3) {i : Nat} (hi : i < 32) : spec_PlaceOf.f s (i : Int) = some (placeT s i) ∧ Ev (fun k => impl_PlaceOf.f k s (i : Int)) (placeT s i) ∧ 0 ≤ (placeT s i).2.1 ∧ (placeT s i).2.1 < (mOf s : Int) ∧ 0 ≤ (placeT s i).2.2 := by
  have h1 : placeOk s i = true := by
    rcases h with rfl | rfl | rfl
    · exact List.all_eq_true.mp place1 i (List.mem_range.mpr hi)
    · exact List.all_eq_true.mp place2 i (List.mem_range.mpr hi)
    · exact List.all_eq_true.mp place3 i (List.mem_range.mpr hi)
  simp only [placeOk, Bool.and_eq_true, beq_iff_eq, decide_eq_true_eq] at h1
  exact ⟨h1.1.1, ev_step (fun k => impl_PlaceOf_any k s i) (ev_const h1.1.2), h1.2⟩
end Go.Proofs.Ytahimindlnkmoaa.Pu

namespace Go.Proofs.Ytahimindlnkmoaa.Pu
open Go.RowKit Go.Proofs.YtahimindlnkmoaaW.PrintWords Go.Proofs.Ytahimindlnkmoaa.Pr Go.Proofs.Ytahimindlnkmoaa.Evs
set_option linter.unusedVariables false
def byteT (s : Int) (us : List ByteArray) (i : Nat) : Int := if (placeT s i).2.2 < ((rdOf ByteArray.empty us (placeT s i).2.1).size : Int) then bt (rdOf ByteArray.empty us (placeT s i).2.1) (placeT s i).2.2 else 0
def bytesT (s : Int) (us : List ByteArray) (n : Nat) : List Int := (List.range n).map (byteT s us)
def joinT (s : Int) (us : List ByteArray) (n : Int) : ByteArray × Bool := if (s = 1 ∨ s = 2 ∨ s = 3) ∧ us.length = mOf s ∧ 0 ≤ n ∧ n ≤ ((8 * mOf s : Nat) : Int) then (strOfNums (bytesT s us n.toNat), true) else (⟨#[]⟩, false)
theorem bytesT_succ (s : Int) (us : List ByteArray) (n : Nat) : bytesT s us (n + 1) = bytesT s us n ++ [byteT s us n] := by simp [bytesT, List.range_succ]
theorem bytesT_len (s : Int) (us : List ByteArray) (n : Nat) : (bytesT s us n).length = n := by simp [bytesT]
theorem mOf_le (s : Int) : mOf s ≤ 4 := by unfold mOf; split <;> (try split) <;> (try split) <;> omega
theorem spec_Join_loop {s : Int} (h : s = 1 ∨ s = 2 ∨ s = 3) (us : List ByteArray) (hu : us.length = mOf s) (n : Nat) (hn : n ≤ 32) : ∀ (d i : Nat), i + d = n →
    Ev (fun k => spec_JoinUnits.l0 k s us (n : Int) (bytesT s us i) (i : Int)) (strOfNums (bytesT s us n), true) := by
  intro d
  induction d with
  | zero =>
    intro i hi
    obtain rfl : i = n := by omega
    exact ev_step (fun k => spec_JoinUnits.l0.eq_2 _ _ _ _ _ k) (ev_neg (by omega) (ev_some _))
  | succ d ih =>
    intro i hi
    obtain ⟨h1, _, h2, h3, h4⟩ := place_of h (show i < 32 by omega)
    have e : wrap64 ((i : Int) + 1) = ((i + 1 : Nat) : Int) := by rw [wrap_in (by omega) (by omega)]; omega
    have hh := ih (i + 1) (by omega)
    rw [bytesT_succ] at hh
    refine ev_step (fun k => spec_JoinUnits.l0.eq_2 _ _ _ _ _ k) (ev_pos (by omega) (ev_call h1 (ev_pos h2 (ev_pos (by omega) ?_))))
    rw [e]
    by_cases c : (placeT s i).2.2 < ((rdOf ByteArray.empty us (placeT s i).2.1).size : Int)
    · refine ev_pos c (ev_pos h4 (ev_pos (by rw [bytesT_len]; omega) ?_))
      rw [byteT, if_pos c] at hh
      exact hh
    · refine ev_neg c (ev_pos (by rw [bytesT_len]; omega) ?_)
      rw [byteT, if_neg c] at hh
      exact hh
theorem impl_Join_loop {s : Int} (h : s = 1 ∨ s = 2 ∨ s = 3) (us : List ByteArray) (hu : us.length = mOf s) (n : Nat) (hn : n ≤ 32) : ∀ (d i : Nat), i + d = n →
    Ev (fun k => impl_JoinUnits.l0 k s us (bytesT s us i ++ List.replicate d 0) (n : Int) (i : Int)) (strOfNums (bytesT s us n), true) := by
  intro d
  induction d with
  | zero =>
    intro i hi
    obtain rfl : i = n := by omega
    refine ev_step (fun k => impl_JoinUnits.l0.eq_2 _ _ _ _ _ k) (ev_neg (by omega) (ev_eq (ev_some _) ?_))
    simp
  | succ d ih =>
    intro i hi
    obtain ⟨_, h1, h2, h3, h4⟩ := place_of h (show i < 32 by omega)
    have e : wrap64 ((i : Int) + 1) = ((i + 1 : Nat) : Int) := by rw [wrap_in (by omega) (by omega)]; omega
    have hh := ih (i + 1) (by omega)
    rw [bytesT_succ] at hh
    refine ev_step (fun k => impl_JoinUnits.l0.eq_2 _ _ _ _ _ k) (ev_pos (by omega) (ev_bind h1 (ev_pos h2 (ev_pos (by omega) ?_))))
    rw [e, List.replicate_succ]
    have hl := bytesT_len s us i
    by_cases c : (placeT s i).2.2 < ((rdOf ByteArray.empty us (placeT s i).2.1).size : Int)
    · refine ev_pos c (ev_pos h4 (ev_pos (by omega) (ev_pos (by simp [hl]; omega) ?_)))
      rw [byteT, if_pos c] at hh
      rw [set_mid _ _ _ _ _ (by omega)]
      simpa using hh
    · refine ev_neg c ?_
      rw [byteT, if_neg c] at hh
      simpa using hh
theorem schema_m {s : Int} (h : s = 1 ∨ s = 2 ∨ s = 3) : ∃ q : Int, impl_SchemaOf.f s = some ((mOf s : Int), q, true) ∧ spec_SchemaOf.f s = some ((mOf s : Int), q, true) := by
  rcases h with rfl | rfl | rfl
  · exact ⟨1, rfl, rfl⟩
  · exact ⟨2, rfl, rfl⟩
  · exact ⟨2, rfl, rfl⟩
theorem schema_no {s : Int} (h : ¬ (s = 1 ∨ s = 2 ∨ s = 3)) : impl_SchemaOf.f s = some (0, 0, false) ∧ spec_SchemaOf.f s = some (0, 0, false) := by
  have h1 : s ≠ 1 := fun x => h (.inl x)
  have h2 : s ≠ 2 := fun x => h (.inr (.inl x))
  have h3 : s ≠ 3 := fun x => h (.inr (.inr x))
  unfold impl_SchemaOf.f spec_SchemaOf.f
  rw [if_neg h1, if_neg h2, if_neg h3]
  exact ⟨rfl, rfl⟩
theorem groupSize {s : Int} (h : s = 1 ∨ s = 2 ∨ s = 3) : impl_GroupSize.f s = some ((8 * mOf s : Nat) : Int) ∧ spec_GroupSize.f s = some ((8 * mOf s : Nat) : Int) := by
  obtain ⟨q, h1, h2⟩ := schema_m h
  have hm := mOf_le s
  have e : wrap64 (wrap64 ((mOf s : Int) * 4) * 2) = ((8 * mOf s : Nat) : Int) := by
    rw [wrap_in (i := (mOf s : Int) * 4) (by omega) (by omega), wrap_in (by omega) (by omega)]
    omega
  unfold impl_GroupSize.f spec_GroupSize.f
  rw [h1, h2]
  simp only [Option.bind_some, e]
  exact ⟨trivial, trivial⟩
theorem impl_JoinUnits_ev (s : Int) (us : List ByteArray) (n : Int) : Ev (fun k => impl_JoinUnits.f k s us n) (joinT s us n) := by
  unfold impl_JoinUnits.f
  by_cases h : s = 1 ∨ s = 2 ∨ s = 3
  · obtain ⟨q, h1, h2⟩ := schema_m h
    have hm := mOf_le s
    refine ev_call h1 (ev_pos rfl ?_)
    by_cases hu : us.length = mOf s
    · refine ev_pos (by simp only; omega) (ev_call (groupSize h).1 ?_)
      by_cases hn : 0 ≤ n
      · by_cases hn2 : n ≤ ((8 * mOf s : Nat) : Int)
        · refine ev_call (show impl_within.f n 0 _ = some true by unfold impl_within.f; rw [if_pos hn, decide_eq_true hn2]) ?_
          refine ev_step (fun k => impl_JoinUnits.j0.eq_2 _ _ _ _ k) (ev_neg (by decide) (ev_pos hn (ev_pos (by omega) ?_)))
          have := impl_Join_loop h us hu n.toNat (by omega) n.toNat 0 (by omega)
          rw [joinT, if_pos ⟨h, hu, hn, hn2⟩]
          refine ev_call rfl ?_
          rw [List.length_replicate]
          simpa [bytesT] using this
        · refine ev_call (show impl_within.f n 0 _ = some false by unfold impl_within.f; rw [if_pos hn, decide_eq_false hn2]) ?_
          rw [joinT, if_neg (fun x => hn2 x.2.2.2)]
          exact ev_step (fun k => impl_JoinUnits.j0.eq_2 _ _ _ _ k) (ev_pos rfl (ev_some _))
      · refine ev_call (show impl_within.f n 0 _ = some false by unfold impl_within.f; rw [if_neg hn]) ?_
        rw [joinT, if_neg (fun x => hn x.2.2.1)]
        exact ev_step (fun k => impl_JoinUnits.j0.eq_2 _ _ _ _ k) (ev_pos rfl (ev_some _))
    · rw [joinT, if_neg (fun x => hu x.2.1)]
      exact ev_neg (by simp only; omega) (ev_step (fun k => impl_JoinUnits.j0.eq_2 _ _ _ _ k) (ev_pos rfl (ev_some _)))
  · rw [joinT, if_neg (fun x => h x.1)]
    exact ev_call (schema_no h).1 (ev_neg (by decide) (ev_step (fun k => impl_JoinUnits.j0.eq_2 _ _ _ _ k) (ev_pos rfl (ev_some _))))
theorem spec_JoinUnits_ev (s : Int) (us : List ByteArray) (n : Int) : Ev (fun k => spec_JoinUnits.f k s us n) (joinT s us n) := by
  unfold spec_JoinUnits.f
  by_cases h : s = 1 ∨ s = 2 ∨ s = 3
  · obtain ⟨q, h1, h2⟩ := schema_m h
    have hm := mOf_le s
    refine ev_call h2 (ev_pos rfl ?_)
    by_cases hu : us.length = mOf s
    · refine ev_pos (by simp only; omega) (ev_call (groupSize h).2 ?_)
      by_cases hn : 0 ≤ n
      · by_cases hn2 : n ≤ ((8 * mOf s : Nat) : Int)
        · refine ev_call (show spec_l01In.f n 0 _ = some true by unfold spec_l01In.f; rw [if_pos hn, decide_eq_true hn2]) ?_
          refine ev_step (fun k => spec_JoinUnits.j0.eq_2 _ _ _ _ k) (ev_neg (by decide) ?_)
          have := spec_Join_loop h us hu n.toNat (by omega) n.toNat 0 (by omega)
          rw [joinT, if_pos ⟨h, hu, hn, hn2⟩]
          rw [show ((n.toNat : Nat) : Int) = n by omega] at this
          simpa [bytesT] using this
        · refine ev_call (show spec_l01In.f n 0 _ = some false by unfold spec_l01In.f; rw [if_pos hn, decide_eq_false hn2]) ?_
          rw [joinT, if_neg (fun x => hn2 x.2.2.2)]
          exact ev_step (fun k => spec_JoinUnits.j0.eq_2 _ _ _ _ k) (ev_pos rfl (ev_some _))
      · refine ev_call (show spec_l01In.f n 0 _ = some false by unfold spec_l01In.f; rw [if_neg hn]) ?_
        rw [joinT, if_neg (fun x => hn x.2.2.1)]
        exact ev_step (fun k => spec_JoinUnits.j0.eq_2 _ _ _ _ k) (ev_pos rfl (ev_some _))
    · rw [joinT, if_neg (fun x => hu x.2.1)]
      exact ev_neg (by simp only; omega) (ev_step (fun k => spec_JoinUnits.j0.eq_2 _ _ _ _ k) (ev_pos rfl (ev_some _)))
  · rw [joinT, if_neg (fun x => h x.1)]
    exact ev_call (schema_no h).2 (ev_neg (by decide) (ev_step (fun k => spec_JoinUnits.j0.eq_2 _ _ _ _ k) (ev_pos rfl (ev_some _))))
end Go.Proofs.Ytahimindlnkmoaa.Pu

namespace Go.Proofs.Ytahimindlnkmoaa.Pu
open Go.RowKit Go.Proofs.YtahimindlnkmoaaW.PrintWords Go.Proofs.Ytahimindlnkmoaa.Pr Go.Proofs.Ytahimindlnkmoaa.Evs
set_option linter.unusedVariables false
theorem spec_Decode_end {C : List (List Int)} {m : Nat} (hC : same (subs m C) = true) (hm : 0 < m) (hm8 : m ≤ 8) (h : List Bool) (us : List ByteArray) (hsz : ∀ u ∈ us, u.size ≤ 1048576) (hl : m ≤ (takeT h us C).length) (ho : oneSize (takeT h us C)) :
    Ev (fun k => (spec_InvM.f k (((takeT h us C).take m).map Prod.fst)).bind fun b => if b.2 = true then (spec_ApplyM.f k b.1 (((takeT h us C).take m).map Prod.snd)).bind fun t => some (t, true) else some (([] : List ByteArray), false)) (finT m (takeT h us C)) := by
  have hmem := subs_mem h us C m hl
  obtain ⟨i, h1, h2, h3, h4, h5⟩ := inv_ev hC hmem
  have hlen : (((takeT h us C).take m).map Prod.fst).length = m := by simp; omega
  rw [hlen] at h4 h5
  have hs := inv_400 hC hmem
  obtain ⟨j, hj, hE⟩ := hs
  have e := ev_one h2 hE
  injection e with e1 e2
  subst e1
  unfold finT
  rw [if_pos ⟨ho, hl⟩, hj]
  refine ev_bind h2 (ev_pos rfl (ev_bind (spec_ApplyM_ev i _ ⟨?_, ?_, ?_, ?_⟩ (by omega) (by simp; omega)) (ev_some _)))
  · intro row hrow
    have := h5 row hrow
    refine ⟨?_, this.2⟩
    rw [this.1]
    simp; omega
  · simp; omega
  · show i.length ≤ 8
    omega
  · intro u hu
    obtain ⟨p, hp, rfl⟩ := List.mem_map.mp hu
    exact hsz _ (takeT_mem h us C p (List.mem_of_mem_take hp))
def szOf : List (List Int × ByteArray) → Int
  | [] => -1
  | p :: _ => (p.2.size : Int)
theorem spec_Decode_loop {C : List (List Int)} {m n : Nat} (hC : same (subs m C) = true) (hm : 0 < m) (hmn : m ≤ n) (hn : n ≤ 8) (h : List Bool) (us : List ByteArray) (hh : h.length = n) (hu : us.length = n) (hc : C.length = n) (hsz : ∀ u ∈ us, u.size ≤ 1048576) (y : Int) (hy : wrap64 ((m : Int) + y) = (n : Int)) :
    ∀ (d i : Nat) (P : List (List Int × ByteArray)), i + d = n → P ++ takeT (h.drop i) (us.drop i) (C.drop i) = takeT h us C → oneSize P → P.length ≤ i →
    Ev (fun k => spec_Decode.l0 k us h (m : Int) y ((P.take m).map Prod.fst) ((P.take m).map Prod.snd) (szOf P) C (i : Int)) (finT m (takeT h us C)) := by
  intro d
  induction d with
  | zero =>
    intro i P hi hP ho hl
    have e0 : takeT (h.drop i) (us.drop i) (C.drop i) = [] := by rw [List.drop_eq_nil_of_le (by omega : h.length ≤ i)]; unfold takeT; rfl
    rw [e0, List.append_nil] at hP
    subst hP
    refine ev_step (fun k => spec_Decode.l0.eq_2 _ _ _ _ _ _ _ _ _ k) ?_
    rw [hy]
    refine ev_neg (by omega) ?_
    by_cases hlt : m ≤ (takeT h us C).length
    · exact ev_neg (by simp; omega) (spec_Decode_end hC hm (by omega) h us hsz hlt ho)
    · refine ev_pos (by simp; omega) ?_
      unfold finT
      rw [if_neg (fun x => hlt x.2)]
      exact ev_some _
  | succ d ih =>
    intro i P hi hP ho hl
    have hih : i < h.length := by omega
    have hiu : i < us.length := by omega
    have hic : i < C.length := by omega
    rw [List.drop_eq_getElem_cons hih, List.drop_eq_getElem_cons hiu, List.drop_eq_getElem_cons hic] at hP
    have e : wrap64 ((i : Int) + 1) = ((i + 1 : Nat) : Int) := by rw [wrap_in (by omega) (by omega)]; omega
    have e1 : rdOf false h (i : Int) = h[i] := by show h.getD i _ = _; rw [List.getD_eq_getElem?_getD, List.getElem?_eq_getElem hih]; rfl
    have e2 : rdOf ByteArray.empty us (i : Int) = us[i] := by show us.getD i _ = _; rw [List.getD_eq_getElem?_getD, List.getElem?_eq_getElem hiu]; rfl
    have e3 : rd_L9 C (i : Int) = C[i] := by show C.getD i _ = _; rw [List.getD_eq_getElem?_getD, List.getElem?_eq_getElem hic]; rfl
    refine ev_step (fun k => spec_Decode.l0.eq_2 _ _ _ _ _ _ _ _ _ k) ?_
    rw [hy]
    refine ev_pos (by omega) (ev_pos (by omega) (ev_pos (by omega) ?_))
    rw [e1, e2, e]
    by_cases hb : h[i] = true
    · rw [hb, takeT] at hP
      have hP2 : (P ++ [(C[i], us[i])]) ++ takeT (h.drop (i + 1)) (us.drop (i + 1)) (C.drop (i + 1)) = takeT h us C := by rw [List.append_assoc]; exact hP
      have go : oneSize (P ++ [(C[i], us[i])]) → szOf (P ++ [(C[i], us[i])]) = (us[i].size : Int) → Ev (fun k => spec_Decode.j2 k us h (m : Int) y ((P.take m).map Prod.fst) ((P.take m).map Prod.snd) C (i : Int) false) (finT m (takeT h us C)) := by
        intro h1 hz
        have h2 := ih (i + 1) (P ++ [(C[i], us[i])]) (by omega) hP2 h1 (by simp; omega)
        rw [hz] at h2
        refine ev_step (fun k => spec_Decode.j2.eq_2 _ _ _ _ _ _ _ _ _ k) (ev_neg (by decide) (ev_pos (by omega) (ev_pos (by omega) ?_)))
        rw [e2, e3, e]
        by_cases hpm : P.length < m
        · rw [List.take_of_length_le (by simp; omega), List.map_append, List.map_append] at h2
          rw [List.take_of_length_le (by omega : P.length ≤ m)]
          exact ev_pos (by simp; omega) (ev_pos (by omega) (ev_pos (by simp; omega) (ev_pos (by simp; omega) h2)))
        · rw [List.take_append_of_le_length (by omega)] at h2
          exact ev_neg (by simp; omega) h2
      refine ev_pos hb ?_
      cases P with
      | nil => exact ev_neg (by show ¬ ((-1 : Int) ≥ 0); omega) (go (oneSize_app ho _ (fun p hp => by cases hp)) rfl)
      | cons p P =>
        refine ev_pos (by show ((p.2.size : Nat) : Int) ≥ 0; omega) (ev_pos (by omega) ?_)
        by_cases hs : us[i].size = p.2.size
        · rw [show (((us[i].size : Nat) : Int) != szOf (p :: P)) = false by unfold szOf; simp [hs]]
          exact go (oneSize_app ho _ (fun q hq => hs.trans (ho p List.mem_cons_self q hq))) (by show (p.2.size : Int) = _; omega)
        · rw [show (((us[i].size : Nat) : Int) != szOf (p :: P)) = true by unfold szOf; simp; omega]
          refine ev_step (fun k => spec_Decode.j2.eq_2 _ _ _ _ _ _ _ _ _ k) (ev_pos rfl ?_)
          unfold finT
          rw [if_neg (fun x => hs ?_)]
          · exact ev_some _
          · rw [← hP2] at x
            exact x.1 (C[i], us[i]) (by simp) p (by simp)
    · have hb2 : h[i] = false := by simpa using hb
      rw [hb2, takeT] at hP
      exact ev_neg hb (ih (i + 1) P (by omega) hP ho (by omega))
theorem spec_Decode_one {s : Int} {m n : Nat} (hs : spec_SchemaOf.f s = some ((m : Int), ((n - m : Nat) : Int), true)) (hmn : m ≤ n) (hC : same (subs m (code s)) = true) (hk : Ev (fun k => spec_CodeOf.f k s) (code s)) (hm : 0 < m) (hn : n ≤ 8) (hc : (code s).length = n) (us : List ByteArray) (h : List Bool) (hsz : ∀ u ∈ us, u.size ≤ 1048576) (hu8 : us.length < 1000) (hh8 : h.length < 1000) :
    Ev (fun k => spec_Decode.f k s us h) (if us.length = n ∧ h.length = n then finT m (takeT h us (code s)) else ([], false)) := by
  have e : wrap64 ((m : Int) + ((n - m : Nat) : Int)) = (n : Int) := by rw [wrap_in (by omega) (by omega)]; omega
  unfold spec_Decode.f
  refine ev_call hs (ev_pos rfl ?_)
  rw [e]
  by_cases h1 : us.length = n
  · refine ev_pos (by omega) ?_
    by_cases h2 : h.length = n
    · rw [if_pos ⟨h1, h2⟩, show ((h.length : Int) != (n : Int)) = false by simp; omega]
      refine ev_step (fun k => spec_Decode.j0.eq_2 _ _ _ _ _ _ k) (ev_neg (by decide) (ev_bind hk ?_))
      have := spec_Decode_loop (C := code s) (m := m) (n := n) hC hm hmn hn h us h2 h1 hc hsz _ e n 0 [] (by omega) (by simp) (fun p hp => by cases hp) (by simp)
      rw [List.take_nil] at this
      exact this
    · rw [if_neg (fun x => h2 x.2), show ((h.length : Int) != (n : Int)) = true by simp; omega]
      exact ev_step (fun k => spec_Decode.j0.eq_2 _ _ _ _ _ _ k) (ev_pos rfl (ev_some _))
  · rw [if_neg (fun x => h1 x.1)]
    exact ev_neg (by omega) (ev_step (fun k => spec_Decode.j0.eq_2 _ _ _ _ _ _ k) (ev_pos rfl (ev_some _)))
theorem spec_Decode_ev (s : Int) (us : List ByteArray) (h : List Bool) (hsz : ∀ u ∈ us, u.size ≤ 1048576) (hu8 : us.length < 1000) (hh8 : h.length < 1000) : Ev (fun k => spec_Decode.f k s us h) (decT s us h) := by
  by_cases h1 : s = 1
  · subst h1
    exact ev_eq (spec_Decode_one (m := 2) (n := 3) rfl (by omega) same1 (spec_CodeOf_ev (.inl rfl)) (by omega) (by omega) rfl us h hsz hu8 hh8) (by unfold decT; simp [nOf, mOf])
  · by_cases h2 : s = 2
    · subst h2
      exact ev_eq (spec_Decode_one (m := 3) (n := 5) rfl (by omega) same2 (spec_CodeOf_ev (.inr (.inl rfl))) (by omega) (by omega) rfl us h hsz hu8 hh8) (by unfold decT; simp [nOf, mOf])
    · by_cases h3 : s = 3
      · subst h3
        exact ev_eq (spec_Decode_one (m := 4) (n := 6) rfl (by omega) same3 (spec_CodeOf_ev (.inr (.inr rfl))) (by omega) (by omega) rfl us h hsz hu8 hh8) (by unfold decT; simp [nOf, mOf])
      · have e : spec_SchemaOf.f s = some (0, 0, false) := by unfold spec_SchemaOf.f; rw [if_neg h1, if_neg h2, if_neg h3]
        unfold spec_Decode.f
        refine ev_call e (ev_neg (by decide) ?_)
        refine ev_eq (ev_step (fun k => spec_Decode.j0.eq_2 _ _ _ _ _ _ k) (ev_pos rfl (ev_some _))) ?_
        unfold decT nOf
        simp [h1, h2, h3]
end Go.Proofs.Ytahimindlnkmoaa.Pu

namespace Go.Proofs.Ytahimindlnkmoaa.Pu
open Go.RowKit Go.Proofs.YtahimindlnkmoaaW.PrintWords Go.Proofs.Ytahimindlnkmoaa.Pr Go.Proofs.Ytahimindlnkmoaa.Evs Go.Proofs.Ytahimindlnkmoaa.Lw
set_option linter.unusedVariables false
def bit1 (s : Int) : Int := if Int.tmod s 2 = 1 then Go.bits .xor .u32 ((Int.tdiv s 2) % 4294967296) 3558460437 else (Int.tdiv s 2) % 4294967296
def bitN : Nat → Int → Int
  | 0, s => s
  | d + 1, s => bitN d (bit1 s)
def sumFrom (t : ByteArray) : Int → Nat → Nat → Int
  | s, _, 0 => s
  | s, i, d + 1 => sumFrom t (bitN 8 (Go.bits .xor .u32 s ((bt t (i : Int)) % 4294967296))) (i + 1) d
theorem spec_SumMore_l1 (t : ByteArray) (i r : Int) (d : Nat) : ∀ (s j : Int), 0 ≤ j → j + d = 8 → Ev (fun k => spec_SumMore.l0 k (bitN d s) t (wrap64 (i + 1))) r → Ev (fun k => spec_SumMore.l1 k s t i j) r := by
  induction d with
  | zero => intro s j h0 h8 h; exact ev_step (fun k => spec_SumMore.l1.eq_2 _ _ _ _ k) (ev_neg (by omega) h)
  | succ d ih =>
    intro s j h0 h8 h
    refine ev_step (fun k => spec_SumMore.l1.eq_2 _ _ _ _ k) (ev_pos (by omega) ?_)
    have e : wrap64 (j + 1) = j + 1 := wrap_in (by omega) (by omega)
    rw [e]
    have h' := ih (bit1 s) (j + 1) (by omega) (by omega) h
    unfold bit1 at h'
    by_cases c : Int.tmod s 2 = 1
    · exact ev_pos c (by rw [if_pos c] at h'; exact h')
    · exact ev_neg c (by rw [if_neg c] at h'; exact h')
theorem spec_SumMore_l0 (t : ByteArray) (ht : t.size < 9223372036854775807) (d : Nat) : ∀ (s : Int) (i : Nat), i + d = t.size → Ev (fun k => spec_SumMore.l0 k s t (i : Int)) (sumFrom t s i d) := by
  induction d with
  | zero => intro s i h; exact ev_step (fun k => spec_SumMore.l0.eq_2 _ _ _ k) (ev_neg (by omega) (ev_some _))
  | succ d ih =>
    intro s i h
    refine ev_step (fun k => spec_SumMore.l0.eq_2 _ _ _ k) (ev_pos (by omega) (ev_pos (by omega) (spec_SumMore_l1 _ _ _ 8 _ _ (by omega) (by omega) ?_)))
    rw [wrap_in (by omega) (by omega)]
    exact ih _ (i + 1) (by omega)
theorem impl_SumMore_l1 (t : ByteArray) (i r : Int) (d : Nat) : ∀ (s j : Int), 0 ≤ j → j + d = 8 → Ev (fun k => impl_SumMore.l0 k (bitN d s) t (wrap64 (i + 1))) r → Ev (fun k => impl_SumMore.l1 k s t i j) r := by
  induction d with
  | zero => intro s j h0 h8 h; exact ev_step (fun k => impl_SumMore.l1.eq_2 _ _ _ _ k) (ev_neg (by omega) h)
  | succ d ih =>
    intro s j h0 h8 h
    refine ev_step (fun k => impl_SumMore.l1.eq_2 _ _ _ _ k) (ev_pos (by omega) ?_)
    have e : wrap64 (j + 1) = j + 1 := wrap_in (by omega) (by omega)
    rw [e]
    have h' := ih (bit1 s) (j + 1) (by omega) (by omega) h
    unfold bit1 at h'
    by_cases c : Int.tmod s 2 = 1
    · exact ev_pos c (by rw [if_pos c] at h'; exact h')
    · exact ev_neg c (by rw [if_neg c] at h'; exact h')
theorem impl_SumMore_l0 (t : ByteArray) (ht : t.size < 9223372036854775807) (d : Nat) : ∀ (s : Int) (i : Nat), i + d = t.size → Ev (fun k => impl_SumMore.l0 k s t (i : Int)) (sumFrom t s i d) := by
  induction d with
  | zero => intro s i h; exact ev_step (fun k => impl_SumMore.l0.eq_2 _ _ _ k) (ev_neg (by omega) (ev_some _))
  | succ d ih =>
    intro s i h
    refine ev_step (fun k => impl_SumMore.l0.eq_2 _ _ _ k) (ev_pos (by omega) (ev_pos (by omega) (impl_SumMore_l1 _ _ _ 8 _ _ (by omega) (by omega) ?_)))
    rw [wrap_in (by omega) (by omega)]
    exact ih _ (i + 1) (by omega)
def sumText (t : ByteArray) : Int := wrap64 (sumFrom t 4294967295 0 t.size)
theorem spec_SumText_ev (t : ByteArray) (ht : t.size < 9223372036854775807) : Ev (fun k => spec_SumText.f k t) (sumText t) := by
  unfold spec_SumText.f spec_SumOf.f spec_SumMore.f
  have h := spec_SumMore_l0 t ht t.size 4294967295 0 (by omega)
  exact ev_bind (ev_bind (by simpa using h) (ev_some _)) (ev_some _)
theorem impl_SumText_ev (t : ByteArray) (ht : t.size < 9223372036854775807) : Ev (fun k => impl_SumText.f k t) (sumText t) := by
  unfold impl_SumText.f impl_SumOf.f impl_SumMore.f
  have h := impl_SumMore_l0 t ht t.size 4294967295 0 (by omega)
  exact ev_bind (ev_bind (by simpa using h) (ev_some _)) (ev_some _)
end Go.Proofs.Ytahimindlnkmoaa.Pu

namespace Go.Proofs.Ytahimindlnkmoaa.Pu
open Go.RowKit Go.Proofs.YtahimindlnkmoaaW.PrintWords Go.Proofs.Ytahimindlnkmoaa.Pr Go.Proofs.Ytahimindlnkmoaa.Evs Go.Proofs.Ytahimindlnkmoaa.Lw
set_option linter.unusedVariables false
theorem idxF_range {α : Type} (p : α → Bool) (s : List α) : ∀ j : Nat, idxF p s j = -1 ∨ ((j : Int) ≤ idxF p s j ∧ idxF p s j < j + s.length) := by
  induction s with
  | nil => intro j; exact .inl rfl
  | cons x s ih =>
    intro j
    unfold idxF
    split
    · exact .inr ⟨by omega, by simp; omega⟩
    · rcases ih (j + 1) with h | h
      · exact .inl h
      · exact .inr ⟨by omega, by simp; omega⟩
theorem spec_l14At_loop (g i a : Int) (b : Bool) (s : List ImUnit) : ∀ (p : List ImUnit), p.length + s.length < 9223372036854775807 → Ev (fun k => spec_l14At.l0 k g i (p.length : Int) a b (p ++ s)) (idxF (isAt g i) s p.length) := by
  induction s with
  | nil => intro p hl; exact ev_step (fun k => spec_l14At.l0.eq_2 _ _ _ _ _ _ k) (ev_neg (by simp) (ev_some _))
  | cons x s ih =>
    intro p hl
    simp at hl
    refine ev_step (fun k => spec_l14At.l0.eq_2 _ _ _ _ _ _ k) (ev_pos (by simp; omega) (ev_pos (by omega) ?_))
    have e : wrap64 ((p.length : Int) + 1) = (p.length : Int) + 1 := wrap_in (by omega) (by omega)
    simp only [rd67, e]
    have h := ih (p ++ [x]) (by simp; omega)
    simp only [List.length_append, List.length_cons, List.length_nil, List.append_assoc, List.cons_append, List.nil_append] at h
    have h' : Ev (fun k => spec_l14At.l0 k g i ((p.length : Int) + 1) a b (p ++ x :: s)) (idxF (isAt g i) s (p.length + 1)) := by simpa using h
    by_cases c : x.f0 = g
    · refine ev_pos c ?_
      by_cases c2 : x.f1 = i
      · exact ev_pos c2 (ev_eq (ev_some _) (by rw [idxF, if_pos (by simp [isAt, c, c2])]))
      · exact ev_neg c2 (ev_eq h' (by rw [idxF, if_neg (by simp [isAt, c, c2])]))
    · exact ev_neg c (ev_eq h' (by rw [idxF, if_neg (by simp [isAt, c])]))
def getUnit (up : Bool) (us : List ImUnit) (g i : Int) : ByteArray × Bool :=
  if up = true then (if idxF (isAt g i) us 0 < 0 then (⟨#[]⟩, false) else if (rd_T67 us (idxF (isAt g i) us 0)).f3 = sumText (rd_T67 us (idxF (isAt g i) us 0)).f2 then ((rd_T67 us (idxF (isAt g i) us 0)).f2, true) else (⟨#[]⟩, false)) else (⟨#[]⟩, false)
theorem getUnit_no {up : Bool} {us : List ImUnit} {g i : Int} (h : (getUnit up us g i).2 = false) : (getUnit up us g i).1 = ⟨#[]⟩ := by
  unfold getUnit at h ⊢
  split
  · rename_i h1
    rw [if_pos h1] at h
    split
    · rfl
    · rename_i h2
      rw [if_neg h2] at h
      split
      · rename_i h3
        rw [if_pos h3] at h
        cases h
      · rfl
  · rfl
def shortU (us : List ImUnit) : Prop := us.length < 9223372036854775807 ∧ ∀ u ∈ us, u.f2.size < 9223372036854775807
theorem shortU_at {us : List ImUnit} (h : shortU us) (i : Int) : (rd_T67 us i).f2.size < 9223372036854775807 := by
  unfold rd_T67
  by_cases c : i.toNat < us.length
  · simp only [List.getD, List.getElem?_eq_getElem c, Option.getD_some]
    exact h.2 _ (List.getElem_mem c)
  · have e : us[i.toNat]? = none := List.getElem?_eq_none (by omega)
    rw [List.getD, e]
    decide
theorem spec_GetUnit_ev (a : Int) (up : Bool) (us : List ImUnit) (g i : Int) (h : shortU us) : Ev (fun k => spec_GetUnit.f k a up us g i) (getUnit up us g i) := by
  unfold spec_GetUnit.f spec_l14At.f getUnit
  have h1 := spec_l14At_loop g i a up us [] (by simpa using h.1)
  refine ev_bind (by simpa using h1) ?_
  have hr := idxF_range (isAt g i) us 0
  refine ev_ite (fun c => ev_ite (fun c => ev_some _) (fun c => ev_pos (by omega) (ev_pos (by omega) (ev_bind (spec_SumText_ev _ (shortU_at h _)) ?_)))) (fun c => ev_some _)
  exact ev_ite (fun c => ev_some _) (fun c => ev_some _)
theorem impl_GetUnit_ev (a : Int) (up : Bool) (us : List ImUnit) (g i : Int) (h : shortU us) : Ev (fun k => impl_GetUnit.f k a up us g i) (getUnit up us g i) := by
  unfold impl_GetUnit.f impl_unitAt.f getUnit
  refine ev_call rfl ?_
  have hr := idxF_range (isAt g i) us 0
  refine ev_ite (fun c => ev_ite (fun c => ev_some _) (fun c => ev_pos (by omega) (ev_pos (by omega) (ev_bind (impl_SumText_ev _ (shortU_at h _)) ?_)))) (fun c => ev_some _)
  exact ev_ite (fun c => ev_some _) (fun c => ev_some _)
end Go.Proofs.Ytahimindlnkmoaa.Pu

namespace Go.Proofs.Ytahimindlnkmoaa.Pu
open Go.RowKit Go.Proofs.YtahimindlnkmoaaW.PrintWords Go.Proofs.Ytahimindlnkmoaa.Pr Go.Proofs.Ytahimindlnkmoaa.Evs Go.Proofs.Ytahimindlnkmoaa.Lw
set_option linter.unusedVariables false
def shortH (hs : List ImHost) : Prop := hs.length < 9223372036854775807 ∧ ∀ h ∈ hs, shortU h.f2
def firstU : List ImHost → Int → Int → ByteArray × Bool
  | [], _, _ => (⟨#[]⟩, false)
  | h :: s, g, i => if (getUnit h.f1 h.f2 g i).2 = true then getUnit h.f1 h.f2 g i else firstU s g i
def fromU (hs : List ImHost) (g : Int) : Nat → Nat → List (ByteArray × Bool)
  | _, 0 => []
  | i, d + 1 => firstU hs g (i : Int) :: fromU hs g (i + 1) d
theorem fromU_length (hs : List ImHost) (g : Int) (d : Nat) : ∀ i, (fromU hs g i d).length = d := by
  induction d with
  | zero => intro i; rfl
  | succ d ih => intro i; simp [fromU, ih]
def schemaOf (s : Int) : Int × Int × Bool := if s = 1 then (2, 1, true) else if s = 2 then (3, 2, true) else if s = 3 then (4, 2, true) else (0, 0, false)
theorem spec_SchemaOf_eq (s : Int) : spec_SchemaOf.f s = some (schemaOf s) := by
  unfold spec_SchemaOf.f schemaOf
  split
  · rfl
  · split
    · rfl
    · split <;> rfl
theorem impl_SchemaOf_eq (s : Int) : impl_SchemaOf.f s = some (schemaOf s) := by
  unfold impl_SchemaOf.f schemaOf
  split
  · rfl
  · split
    · rfl
    · split <;> rfl
def many (s : Int) : Nat := if s = 1 then 3 else if s = 2 then 5 else if s = 3 then 6 else 0
theorem many_eq (s : Int) : (schemaOf s).1 + (schemaOf s).2.1 = (many s : Int) := by
  unfold schemaOf many
  split
  · rfl
  · split
    · rfl
    · split <;> rfl
theorem many_le (s : Int) : many s ≤ 6 := by unfold many; split <;> (try split) <;> (try split) <;> omega
theorem many_wrap (s : Int) : wrap64 ((schemaOf s).1 + (schemaOf s).2.1) = (many s : Int) := by
  have := many_le s
  rw [many_eq]
  exact wrap_in (by omega) (by omega)
def unitsOf (hs : List ImHost) (s g : Int) : List ByteArray × List Bool := ((fromU hs g 0 (many s)).map (·.1), (fromU hs g 0 (many s)).map (·.2))
theorem impl_UnitsOf_l1 (hs : List ImHost) (g a b : Int) (i : Int) (xs : List ByteArray) (ys : List Bool) (r : List ByteArray × List Bool) (hx : xs.length < 1000000) (hy : ys.length < 1000000) (s : List ImHost)
    (hE : Ev (fun k => impl_UnitsOf.l0 k hs g a b (xs ++ [(firstU s g i).1]) (ys ++ [(firstU s g i).2]) (wrap64 (i + 1))) r) : ∀ (p : List ImHost) (n : Int), n = ((p ++ s).length : Int) → shortH (p ++ s) →
    Ev (fun k => impl_UnitsOf.l1 k hs g a b xs ys i ⟨#[]⟩ false (p ++ s) n (p.length : Int)) r := by
  induction s with
  | nil =>
    intro p n hn hs
    exact ev_step (fun k => impl_UnitsOf.l1.eq_2 _ _ _ _ _ _ _ _ _ _ _ _ k) (ev_neg (by simp at hn; omega) (ev_pos (by omega) (ev_pos (by omega) hE)))
  | cons x s ih =>
    intro p n hn hs
    have hl := hs.1
    simp at hl hn
    have hu : shortU x.f2 := hs.2 x (by simp)
    refine ev_step (fun k => impl_UnitsOf.l1.eq_2 _ _ _ _ _ _ _ _ _ _ _ _ k) (ev_pos (by omega) (ev_pos (by omega) (ev_pos (by simp; omega) ?_)))
    have e : wrap64 ((p.length : Int) + 1) = (p.length : Int) + 1 := wrap_in (by omega) (by omega)
    simp only [rd43, e]
    refine ev_bind (impl_GetUnit_ev x.f0 x.f1 x.f2 g i hu) ?_
    by_cases c : (getUnit x.f1 x.f2 g i).2 = true
    · refine ev_pos c (ev_pos (by omega) (ev_pos (by omega) ?_))
      rw [firstU, if_pos c] at hE
      exact hE
    · have hf : (getUnit x.f1 x.f2 g i).2 = false := by simpa using c
      refine ev_neg c ?_
      rw [getUnit_no hf, hf]
      rw [firstU, if_neg c] at hE
      have h := ih hE (p ++ [x]) n (by simp; omega) (by simpa using hs)
      simpa using h
theorem impl_UnitsOf_l0 (hs : List ImHost) (hh : shortH hs) (g a b : Int) (m : Nat) (hm : wrap64 (a + b) = (m : Int)) (hm6 : m ≤ 6) (d : Nat) : ∀ (i : Nat) (xs : List ByteArray) (ys : List Bool), i + d = m → xs.length + d ≤ 100 → ys.length + d ≤ 100 →
    Ev (fun k => impl_UnitsOf.l0 k hs g a b xs ys (i : Int)) (xs ++ (fromU hs g i d).map (·.1), ys ++ (fromU hs g i d).map (·.2)) := by
  induction d with
  | zero => intro i xs ys hi hx hy; exact ev_step (fun k => impl_UnitsOf.l0.eq_2 _ _ _ _ _ _ _ k) (ev_neg (by rw [hm]; omega) (ev_eq (ev_some _) (by simp [fromU])))
  | succ d ih =>
    intro i xs ys hi hx hy
    refine ev_step (fun k => impl_UnitsOf.l0.eq_2 _ _ _ _ _ _ _ k) (ev_pos (by rw [hm]; omega) ?_)
    have h := ih (i + 1) (xs ++ [(firstU hs g (i : Int)).1]) (ys ++ [(firstU hs g (i : Int)).2]) (by omega) (by simp; omega) (by simp; omega)
    have e : wrap64 ((i : Int) + 1) = ((i + 1 : Nat) : Int) := by rw [wrap_in (by omega) (by omega)]; omega
    have h2 := impl_UnitsOf_l1 hs g a b (i : Int) xs ys _ (by omega) (by omega) hs (by rw [e]; exact h) [] (hs.length : Int) (by simp) (by simpa using hh)
    refine ev_eq (by simpa using h2) ?_
    simp [fromU]
theorem impl_UnitsOf_ev (hs : List ImHost) (hh : shortH hs) (s g : Int) : Ev (fun k => impl_UnitsOf.f k hs s g) (unitsOf hs s g) := by
  unfold impl_UnitsOf.f
  refine ev_call (impl_SchemaOf_eq s) ?_
  have := many_le s
  have h := impl_UnitsOf_l0 hs hh g _ _ (many s) (many_wrap s) (many_le s) (many s) 0 [] [] (by omega) (by simp; omega) (by simp; omega)
  simpa [unitsOf] using h
theorem rdOf_mid (xs zs : List Bool) (z : Bool) (i : Int) (hi : i = (xs.length : Int)) : rdOf false (xs ++ z :: zs) i = z := by unfold rdOf; exact getD_mid' _ _ _ _ _ hi
theorem spec_UnitsOf_l1 (hs : List ImHost) (g a b : Int) (i : Int) (xs : List ByteArray) (ys : List Bool) (xt : List ByteArray) (yt : List Bool) (r : List ByteArray × List Bool) (hxi : i = (xs.length : Int)) (hyi : i = (ys.length : Int)) (s : List ImHost)
    (hE : Ev (fun k => spec_UnitsOf.l0 k hs g a b (xs ++ (firstU s g i).1 :: xt) (ys ++ (firstU s g i).2 :: yt) (wrap64 (i + 1))) r) : ∀ (p : List ImHost), hs = p ++ s → shortH (p ++ s) →
    Ev (fun k => spec_UnitsOf.l1 k hs g a b (xs ++ ⟨#[]⟩ :: xt) (ys ++ false :: yt) i (p.length : Int)) r := by
  induction s with
  | nil =>
    intro p hp hs'
    subst hp
    exact ev_step (fun k => spec_UnitsOf.l1.eq_2 _ _ _ _ _ _ _ _ k) (ev_neg (by simp) (ev_step (fun k => spec_UnitsOf.j2.eq_2 _ _ _ _ _ _ _ _ _ k) (ev_neg (by simp) hE)))
  | cons x s ih =>
    intro p hp hs'
    have hl := hs'.1
    simp at hl
    have hu : shortU x.f2 := hs'.2 x (by simp)
    have e : wrap64 ((p.length : Int) + 1) = (p.length : Int) + 1 := wrap_in (by omega) (by omega)
    have hrd : rd_T43 hs (p.length : Int) = x := by rw [hp]; exact rd43 p s x
    refine ev_step (fun k => spec_UnitsOf.l1.eq_2 _ _ _ _ _ _ _ _ k) (ev_pos (by rw [hp]; simp; omega) (ev_pos (by omega) (ev_pos (by simp; omega) ?_)))
    rw [rdOf_mid _ _ _ _ hyi]
    refine ev_step (fun k => spec_UnitsOf.j2.eq_2 _ _ _ _ _ _ _ _ _ k) (ev_pos (by simp) (ev_pos (by omega) (ev_pos (by rw [hp]; simp; omega) ?_)))
    simp only [hrd, e]
    refine ev_bind (spec_GetUnit_ev x.f0 x.f1 x.f2 g i hu) ?_
    by_cases c : (getUnit x.f1 x.f2 g i).2 = true
    · refine ev_pos c (ev_pos (by omega) (ev_pos (by simp; omega) (ev_pos (by simp; omega) ?_)))
      rw [firstU, if_pos c, c] at hE
      simp only [set_mid _ _ _ _ _ hxi, set_mid _ _ _ _ _ hyi]
      -- the rest of the hosts is not asked
      have hstop : ∀ q : Int, 0 ≤ q → Ev (fun k => spec_UnitsOf.l1 k hs g a b (xs ++ (getUnit x.f1 x.f2 g i).1 :: xt) (ys ++ true :: yt) i q) r := by
        intro q hq
        refine ev_step (fun k => spec_UnitsOf.l1.eq_2 _ _ _ _ _ _ _ _ k) ?_
        by_cases c2 : q < (hs.length : Int)
        · refine ev_pos c2 (ev_pos (by omega) (ev_pos (by simp; omega) ?_))
          rw [rdOf_mid _ _ _ _ hyi]
          exact ev_step (fun k => spec_UnitsOf.j2.eq_2 _ _ _ _ _ _ _ _ _ k) (ev_neg (by simp) hE)
        · exact ev_neg c2 (ev_step (fun k => spec_UnitsOf.j2.eq_2 _ _ _ _ _ _ _ _ _ k) (ev_neg (by simp) hE))
      exact hstop _ (by omega)
    · refine ev_neg c ?_
      rw [firstU, if_neg c] at hE
      have h := ih hE (p ++ [x]) (by simpa using hp) (by simpa using hs')
      simpa using h
theorem spec_UnitsOf_l0 (hs : List ImHost) (hh : shortH hs) (g a b : Int) (m : Nat) (hm : wrap64 (a + b) = (m : Int)) (hm6 : m ≤ 6) (d : Nat) : ∀ (i : Nat) (xs : List ByteArray) (ys : List Bool), i + d = m → xs.length = i → ys.length = i →
    Ev (fun k => spec_UnitsOf.l0 k hs g a b (xs ++ List.replicate d ⟨#[]⟩) (ys ++ List.replicate d false) (i : Int)) (xs ++ (fromU hs g i d).map (·.1), ys ++ (fromU hs g i d).map (·.2)) := by
  induction d with
  | zero => intro i xs ys hi hx hy; exact ev_step (fun k => spec_UnitsOf.l0.eq_2 _ _ _ _ _ _ _ k) (ev_neg (by rw [hm]; omega) (ev_eq (ev_some _) (by simp [fromU])))
  | succ d ih =>
    intro i xs ys hi hx hy
    refine ev_step (fun k => spec_UnitsOf.l0.eq_2 _ _ _ _ _ _ _ k) (ev_pos (by rw [hm]; omega) ?_)
    have h := ih (i + 1) (xs ++ [(firstU hs g (i : Int)).1]) (ys ++ [(firstU hs g (i : Int)).2]) (by omega) (by simp; omega) (by simp; omega)
    have e : wrap64 ((i : Int) + 1) = ((i + 1 : Nat) : Int) := by rw [wrap_in (by omega) (by omega)]; omega
    have h2 := spec_UnitsOf_l1 hs g a b (i : Int) xs ys (List.replicate d ⟨#[]⟩) (List.replicate d false) _ (by omega) (by omega) hs (by rw [e]; simpa using h) [] (by simp) (by simpa using hh)
    refine ev_eq (by simpa [List.replicate_succ] using h2) ?_
    simp [fromU]
theorem spec_UnitsOf_ev (hs : List ImHost) (hh : shortH hs) (s g : Int) : Ev (fun k => spec_UnitsOf.f k hs s g) (unitsOf hs s g) := by
  unfold spec_UnitsOf.f
  refine ev_call (spec_SchemaOf_eq s) ?_
  have := many_le s
  simp only [many_wrap]
  refine ev_pos (by omega) (ev_pos (by omega) (ev_pos (by omega) ?_))
  have h := spec_UnitsOf_l0 hs hh g _ _ (many s) (many_wrap s) (many_le s) (many s) 0 [] [] (by omega) rfl rfl
  simpa [unitsOf] using h
theorem short_bd {hs : List ImHost} (h : hs.length ≤ 1048576) (h' : ∀ x ∈ hs, bdHost x) : shortH hs :=
  ⟨by omega, fun x hx => ⟨by have := (h' x hx).1; omega, fun u hu => by have := (h' x hx).2 u hu; unfold bdUnit at this; omega⟩⟩
theorem short_to (l : List LHost) (h : wtHostS l ≤ 1048576) : shortH (l.map toHost) := short_bd (bd_toHostS l h).1 (bd_toHostS l h).2
theorem ln_to (l : List LHost) (h : wtHostS l ≤ 1048576) : ∀ x ∈ l.map toHost, lnHost x := fun x hx => ln_bdHost ((bd_toHostS l h).2 x hx)
end Go.Proofs.Ytahimindlnkmoaa.Pu

namespace Go.Proofs.Ytahimindlnkmoaa.Pu
open Go.RowKit Go.Proofs.YtahimindlnkmoaaW.PrintWords Go.Proofs.Ytahimindlnkmoaa.Pr Go.Proofs.Ytahimindlnkmoaa.Evs Go.Proofs.Ytahimindlnkmoaa.Lw
set_option linter.unusedVariables false
def smallH (hs : List ImHost) : Prop := ∀ h ∈ hs, ∀ u ∈ h.f2, u.f2.size ≤ 1048576
theorem small_bd {hs : List ImHost} (h' : ∀ x ∈ hs, bdHost x) : smallH hs := fun x hx u hu => by have := (h' x hx).2 u hu; unfold bdUnit at this; omega
theorem rdU_small (us : List ImUnit) (h : ∀ u ∈ us, u.f2.size ≤ 1048576) (i : Int) : (rd_T67 us i).f2.size ≤ 1048576 := by
  unfold rd_T67
  by_cases c : i.toNat < us.length
  · simp only [List.getD, List.getElem?_eq_getElem c, Option.getD_some]
    exact h _ (List.getElem_mem c)
  · have e : us[i.toNat]? = none := List.getElem?_eq_none (by omega)
    rw [List.getD, e]
    decide
theorem getUnit_small (up : Bool) (us : List ImUnit) (g i : Int) (h : ∀ u ∈ us, u.f2.size ≤ 1048576) : (getUnit up us g i).1.size ≤ 1048576 := by
  unfold getUnit
  split
  · split
    · exact Nat.zero_le _
    · split
      · exact rdU_small us h _
      · exact Nat.zero_le _
  · exact Nat.zero_le _
theorem firstU_small (hs : List ImHost) (h : smallH hs) (g i : Int) : (firstU hs g i).1.size ≤ 1048576 := by
  induction hs with
  | nil => exact Nat.zero_le _
  | cons x s ih =>
    unfold firstU
    split
    · exact getUnit_small x.f1 x.f2 g i (h x List.mem_cons_self)
    · exact ih (fun y hy => h y (List.mem_cons_of_mem _ hy))
theorem fromU_small (hs : List ImHost) (h : smallH hs) (g : Int) (d : Nat) : ∀ i, ∀ p ∈ fromU hs g i d, p.1.size ≤ 1048576 := by
  induction d with
  | zero => intro i p hp; cases hp
  | succ d ih =>
    intro i p hp
    rw [fromU, List.mem_cons] at hp
    rcases hp with rfl | hp
    · exact firstU_small hs h g _
    · exact ih (i + 1) p hp
def readT (hs : List ImHost) (s g n : Int) : ByteArray × Bool := if (decT s (unitsOf hs s g).1 (unitsOf hs s g).2).2 = true then joinT s (decT s (unitsOf hs s g).1 (unitsOf hs s g).2).1 n else (⟨#[]⟩, false)
theorem units_small (hs : List ImHost) (h : smallH hs) (s g : Int) : (∀ u ∈ (unitsOf hs s g).1, u.size ≤ 1048576) ∧ (unitsOf hs s g).1.length < 1000 ∧ (unitsOf hs s g).2.length < 1000 := by
  have := many_le s
  refine ⟨?_, ?_, ?_⟩
  · intro u hu
    obtain ⟨p, hp, rfl⟩ := List.mem_map.mp hu
    exact fromU_small hs h g _ _ p hp
  · simp [unitsOf, fromU_length]; omega
  · simp [unitsOf, fromU_length]; omega
theorem impl_ReadGroup_ev (hs : List ImHost) (hh : shortH hs) (h : smallH hs) (s g n : Int) : Ev (fun k => impl_ReadGroup.f k hs s g n) (readT hs s g n) := by
  obtain ⟨h1, h2, h3⟩ := units_small hs h s g
  unfold impl_ReadGroup.f readT
  refine ev_bind (impl_UnitsOf_ev hs hh s g) (ev_bind (impl_Decode_ev s _ _ h1 h2 h3) ?_)
  exact ev_ite (fun _ => ev_bind (impl_JoinUnits_ev s _ n) (ev_some _)) (fun _ => ev_some _)
theorem spec_ReadGroup_ev (hs : List ImHost) (hh : shortH hs) (h : smallH hs) (s g n : Int) : Ev (fun k => spec_ReadGroup.f k hs s g n) (readT hs s g n) := by
  obtain ⟨h1, h2, h3⟩ := units_small hs h s g
  unfold spec_ReadGroup.f readT
  refine ev_bind (spec_UnitsOf_ev hs hh s g) (ev_bind (spec_Decode_ev s _ _ h1 h2 h3) ?_)
  exact ev_ite (fun _ => ev_bind (spec_JoinUnits_ev s _ n) (ev_some _)) (fun _ => ev_some _)
end Go.Proofs.Ytahimindlnkmoaa.Pu

namespace Go.Proofs.Ytahimindlnkmoaa.Pure
open Go.RowKit Go.Proofs.YtahimindlnkmoaaW.PrintWords Go.Proofs.Ytahimindlnkmoaa.Pr Go.Proofs.Ytahimindlnkmoaa.Evs Go.Proofs.Ytahimindlnkmoaa.Lw Go.Proofs.Ytahimindlnkmoaa.Pu Go.Proofs.Ytahimindlnkmoaa.SFnExactReadGroup
set_option linter.unusedVariables false
theorem ok_host {x : LHost} (h : wf33 x) : okHost x := ⟨h.2.2.1, fun y hy => (h.2.2.2 y hy).2.2.1⟩
theorem law_ReadGroup (l : List LHost) (s g n : Int) (hl : l.length ≤ maxLen) (ho : ∀ x ∈ l, okHost x) : Ev (fun k => laws_FnExactReadGroup.f k l s g n) true := by
  unfold laws_FnExactReadGroup.f
  obtain ⟨r, hE, hR⟩ := szHostS_ev l hl ho 1048576 (by omega) (by omega)
  refine ev_bind hE ?_
  by_cases c : r < 0
  · exact ev_pos c (ev_some _)
  refine ev_neg c ?_
  have hw : wtHostS l ≤ 1048576 := by omega
  have hT := toHostS_ev l hw
  have hs := short_to l hw
  have hm := small_bd (bd_toHostS l hw).2
  refine ev_bind hT (ev_bind (spec_ReadGroup_ev _ hs hm s g n) (ev_bind hT (ev_bind (impl_ReadGroup_ev _ hs hm s g n) (ev_pos rfl ?_))))
  refine ev_step (fun k => laws_FnExactReadGroup.j0.eq_2 _ _ _ k) (ev_neg (by simp) ?_)
  exact ev_bind hT (ev_bind (eqHostS_ev _ hs.1 (ln_to l hw)) (ev_pos rfl (ev_some _)))
theorem FnExactReadGroup : SFnExactReadGroup.Pure := by
  intro l s g n hl hs hg hn
  exact ev_rounds (law_ReadGroup l s g n hl.1 (fun x hx => ok_host (hl.2 x hx)))
end Go.Proofs.Ytahimindlnkmoaa.Pure
