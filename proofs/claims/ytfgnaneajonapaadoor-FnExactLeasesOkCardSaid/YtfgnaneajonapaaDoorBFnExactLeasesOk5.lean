/- A part of the proof of the law FnExactLeasesOk: its texts, one behind the other. -/
import Derived.Lib.Strings
import Derived.Test.YtfgnaneajonapaaDoorBFnExactLeasesOk1
import Derived.Test.YtfgnaneajonapaaDoorBFnExactLeasesOk2
import Derived.Test.YtfgnaneajonapaaDoorBFnExactLeasesOk3
import Derived.Test.YtfgnaneajonapaaDoorBFnExactLeasesOk4
namespace Go.Proofs.YtfgnaneajonapaaDoor.Pu
open Go.RowKit Go.Proofs.YtfgnaneajonapaaDoorW.PrintWords Go.Proofs.YtfgnaneajonapaaDoor.Pr Go.Proofs.YtfgnaneajonapaaDoor.Evs
set_option linter.unusedVariables false
theorem cut_snoc (s : ByteArray) (b i : Nat) (c : UInt8) (r : List UInt8) (hb : b ≤ i) (h : s.data.toList.drop i = c :: r) : (s.extract b (i + 1)).data.toList = (s.extract b i).data.toList ++ [c] := by
  rw [Lib.extract_data, Lib.extract_data]
  have hi : i < s.data.toList.length := by
    rcases Nat.lt_or_ge i s.data.toList.length with h1 | h1
    · exact h1
    · rw [List.drop_eq_nil_of_le h1] at h; cases h
  have e : (s.data.toList.drop b).drop (i - b) = c :: r := by rw [List.drop_drop, show b + (i - b) = i by omega]; exact h
  have hl : i - b < (s.data.toList.drop b).length := by rw [List.length_drop]; omega
  have e2 := List.drop_eq_getElem_cons hl
  rw [e] at e2
  injection e2 with e3 e4
  rw [show i + 1 - b = i - b + 1 by omega, List.take_add_one, List.getElem?_eq_getElem hl, ← e3]
  rfl
theorem cut_nil (s : ByteArray) (b : Nat) : (s.extract b b).data.toList = [] := by rw [Lib.extract_data, Nat.sub_self, List.take_zero]
def told (s : ByteArray) (out : List ByteArray) (P : List (List UInt8)) (r : List ByteArray × Bool) : Prop :=
  if P.all nameL = true then (if out.length + P.length > 4 then r = ([], false) else r.2 = true ∧ r.1.length = out.length + P.length ∧ ∀ x ∈ r.1, x.size ≤ 8) else r = ([], false)
theorem name_size (s : ByteArray) (h : nameL s.data.toList = true) : s.size ≤ 8 := by
  unfold nameL at h
  rw [Bool.and_eq_true, decide_eq_true_eq, size_len] at h
  exact h.2.2
theorem told_push (s x : ByteArray) (out : List ByteArray) (P : List (List UInt8)) (r : List ByteArray × Bool) (hx : nameL x.data.toList = true) (h : told s (out ++ [x]) P r) : told s out (x.data.toList :: P) r := by
  unfold told at h ⊢
  rw [List.all_cons, hx, Bool.true_and]
  rw [List.length_append, List.length_singleton] at h
  rw [List.length_cons]
  have e : out.length + (P.length + 1) = out.length + 1 + P.length := by omega
  rw [e]
  exact h
theorem told_not (s x : ByteArray) (out : List ByteArray) (P : List (List UInt8)) (hx : nameL x.data.toList = false) : told s out (x.data.toList :: P) ([], false) := by
  unfold told
  rw [List.all_cons, hx, Bool.false_and]
  rfl
theorem split_loop (s : ByteArray) (hs : s.size < 8796093022000) (m : Nat) : ∀ (i b : Nat) (out : List ByteArray), i + m = s.size → b ≤ i → out.length ≤ i → (∀ x ∈ out, x.size ≤ 8) →
    ∃ r, Ev (fun k => spec_SplitPath.l0 k s out (b : Int) (i : Int)) r ∧ told s out (((s.extract b i).data.toList ++ (cutS (s.data.toList.drop i)).headD []) :: (cutS (s.data.toList.drop i)).tail) r := by
  induction m with
  | zero =>
    intro i b out hi hb hl ho
    have e : s.data.toList.drop i = [] := List.drop_eq_nil_of_le (by rw [size_len]; omega)
    have ec : (cutS []).headD [] = ([] : List UInt8) := rfl
    have et : (cutS ([] : List UInt8)).tail = [] := rfl
    rw [e, ec, et, List.append_nil]
    have hn := spec_NameOk_ev (s.extract b i) (by rw [ByteArray.size_extract]; omega)
    have ew : wrap64 ((i : Int) + 1) = ((i + 1 : Nat) : Int) := by rw [wrap_in (by omega) (by omega)]; rfl
    cases hx : nameL (s.extract b i).data.toList with
    | false =>
      rw [hx] at hn
      refine ⟨_, ?_, told_not s _ out [] hx⟩
      refine ev_step (fun k => spec_SplitPath.l0.eq_2 _ _ _ _ k) (ev_pos (by omega) (ev_neg (by omega) ?_))
      refine ev_step (fun k => spec_SplitPath.j2.eq_2 _ _ _ _ _ k) (ev_neg (by decide) (ev_pos (by omega) (ev_pos (by omega) (ev_pos (by omega) ?_))))
      simp only [Int.toNat_natCast]
      exact ev_bind hn (ev_neg (by decide) (ev_some _))
    | true =>
      rw [hx] at hn
      by_cases h4 : (out.length : Int) + 1 > 4
      · refine ⟨([], false), ?_, ?_⟩
        · refine ev_step (fun k => spec_SplitPath.l0.eq_2 _ _ _ _ k) (ev_pos (by omega) (ev_neg (by omega) ?_))
          refine ev_step (fun k => spec_SplitPath.j2.eq_2 _ _ _ _ _ k) (ev_neg (by decide) (ev_pos (by omega) (ev_pos (by omega) (ev_pos (by omega) ?_))))
          simp only [Int.toNat_natCast]
          refine ev_bind hn (ev_pos rfl (ev_pos (by omega) ?_))
          rw [ew]
          refine ev_step (fun k => spec_SplitPath.l0.eq_2 _ _ _ _ k) (ev_neg (by omega) (ev_pos (by rw [List.length_append, List.length_singleton]; omega) (ev_some _)))
        · unfold told
          rw [List.all_cons, hx, if_pos (show (true && [].all nameL) = true from rfl), if_pos (by rw [List.length_singleton]; omega)]
      · refine ⟨(out ++ [s.extract b i], true), ?_, ?_⟩
        · refine ev_step (fun k => spec_SplitPath.l0.eq_2 _ _ _ _ k) (ev_pos (by omega) (ev_neg (by omega) ?_))
          refine ev_step (fun k => spec_SplitPath.j2.eq_2 _ _ _ _ _ k) (ev_neg (by decide) (ev_pos (by omega) (ev_pos (by omega) (ev_pos (by omega) ?_))))
          simp only [Int.toNat_natCast]
          refine ev_bind hn (ev_pos rfl (ev_pos (by omega) ?_))
          rw [ew]
          refine ev_step (fun k => spec_SplitPath.l0.eq_2 _ _ _ _ k) (ev_neg (by omega) (ev_neg (by rw [List.length_append, List.length_singleton]; omega) (ev_some _)))
        · unfold told
          rw [List.all_cons, hx, if_pos (show (true && [].all nameL) = true from rfl), if_neg (by rw [List.length_singleton]; omega)]
          refine ⟨rfl, by rw [List.length_append]; rfl, fun x hm => ?_⟩
          rcases List.mem_append.1 hm with hm | hm
          · exact ho x hm
          · rw [List.mem_singleton.1 hm]; exact name_size _ hx
  | succ m ih =>
    intro i b out hi hb hl ho
    obtain ⟨c, r, hd, hr⟩ := drop_size s i (by omega)
    have hbt := bt_nat s i c r hd
    have ew : wrap64 ((i : Int) + 1) = ((i + 1 : Nat) : Int) := by rw [wrap_in (by omega) (by omega)]; rfl
    by_cases hc : c = 47
    · have hn := spec_NameOk_ev (s.extract b i) (by rw [ByteArray.size_extract]; omega)
      have hbf : (bt s (i : Int) != 47) = false := by rw [hbt, hc]; rfl
      have ec : cutS (s.data.toList.drop i) = [] :: cutS r := by rw [hd, cutS, if_pos hc]
      have eh : ([] :: cutS r).headD [] = ([] : List UInt8) := rfl
      have et : (([] : List UInt8) :: cutS r).tail = cutS r := rfl
      rw [ec, eh, et, List.append_nil]
      cases hx : nameL (s.extract b i).data.toList with
      | false =>
        rw [hx] at hn
        refine ⟨_, ?_, told_not s _ out _ hx⟩
        refine ev_step (fun k => spec_SplitPath.l0.eq_2 _ _ _ _ k) (ev_pos (by omega) (ev_pos (by omega) (ev_pos (by omega) ?_)))
        rw [hbf]
        refine ev_step (fun k => spec_SplitPath.j2.eq_2 _ _ _ _ _ k) (ev_neg (by decide) (ev_pos (by omega) (ev_pos (by omega) (ev_pos (by omega) ?_))))
        simp only [Int.toNat_natCast]
        exact ev_bind hn (ev_neg (by decide) (ev_some _))
      | true =>
        rw [hx] at hn
        obtain ⟨q, hq, ht⟩ := ih (i + 1) (i + 1) (out ++ [s.extract b i]) (by omega) (Nat.le_refl _) (by rw [List.length_append, List.length_singleton]; omega) (fun x hm => by
          rcases List.mem_append.1 hm with hm | hm
          · exact ho x hm
          · rw [List.mem_singleton.1 hm]; exact name_size _ hx)
        rw [hr, cut_nil, List.nil_append] at ht
        have ej : (cutS r).headD [] :: (cutS r).tail = cutS r := by
          cases hcs : cutS r with
          | nil => exact absurd hcs (cutS_ne r)
          | cons a t => rfl
        rw [ej] at ht
        refine ⟨q, ?_, told_push s _ out _ q hx ht⟩
        refine ev_step (fun k => spec_SplitPath.l0.eq_2 _ _ _ _ k) (ev_pos (by omega) (ev_pos (by omega) (ev_pos (by omega) ?_)))
        rw [hbf]
        refine ev_step (fun k => spec_SplitPath.j2.eq_2 _ _ _ _ _ k) (ev_neg (by decide) (ev_pos (by omega) (ev_pos (by omega) (ev_pos (by omega) ?_))))
        simp only [Int.toNat_natCast]
        refine ev_bind hn (ev_pos rfl (ev_pos (by omega) ?_))
        rw [ew]
        exact hq
    · have hbf : (bt s (i : Int) != 47) = true := by
        rw [hbt, bne_iff_ne]
        intro h
        refine hc (UInt8.toNat_inj.1 ?_)
        have : ((47 : UInt8).toNat : Int) = 47 := rfl
        omega
      have ec : cutS (s.data.toList.drop i) = (c :: (cutS r).headD []) :: (cutS r).tail := by rw [hd, cutS, if_neg hc]
      have eh : ((c :: (cutS r).headD []) :: (cutS r).tail).headD [] = c :: (cutS r).headD [] := rfl
      have et : ((c :: (cutS r).headD []) :: (cutS r).tail).tail = (cutS r).tail := rfl
      obtain ⟨q, hq, ht⟩ := ih (i + 1) b out (by omega) (by omega) (by omega) ho
      rw [hr, cut_snoc s b i c r hb hd, List.append_assoc] at ht
      rw [ec, eh, et]
      refine ⟨q, ?_, ht⟩
      refine ev_step (fun k => spec_SplitPath.l0.eq_2 _ _ _ _ k) (ev_pos (by omega) (ev_pos (by omega) (ev_pos (by omega) ?_)))
      rw [hbf]
      refine ev_step (fun k => spec_SplitPath.j2.eq_2 _ _ _ _ _ k) (ev_pos rfl ?_)
      rw [ew]
      exact hq
theorem splitPath_ev (p : ByteArray) (hs : p.size < 8796093022000) : ∃ r, Ev (fun k => spec_SplitPath.f k p) r ∧ (r.2 && !r.1.isEmpty) = isNamed p.data.toList ∧ r.1.length ≤ 4 ∧ ∀ x ∈ r.1, x.size ≤ 8 := by
  have hz := size_len p
  cases hl : p.data.toList with
  | nil =>
    rw [hl, List.length_nil] at hz
    refine ⟨([], false), ?_, rfl, by simp, by simp⟩
    unfold spec_SplitPath.f
    exact ev_call rfl (ev_pos (by omega) (ev_step (fun k => spec_SplitPath.j0.eq_2 _ _ _ k) (ev_pos rfl (ev_some _))))
  | cons c rest =>
    rw [hl, List.length_cons] at hz
    have hb : bt p 0 = (c.toNat : Int) := bt_nat p 0 c rest (by rw [List.drop_zero]; exact hl)
    by_cases hc : c = 47
    · have hbf : (bt p 0 != 47) = false := by rw [hb, hc]; rfl
      by_cases hr : rest = []
      · refine ⟨([], true), ?_, by rw [isNamed, hr]; simp, by simp, by simp⟩
        unfold spec_SplitPath.f
        refine ev_call rfl (ev_neg (by omega) (ev_pos (by omega) ?_))
        rw [hbf]
        refine ev_step (fun k => spec_SplitPath.j0.eq_2 _ _ _ k) (ev_neg (by decide) (ev_pos ?_ (ev_some _)))
        rw [Lib.toList_data, hl, hr, hc]
      · obtain ⟨r, hE, ht⟩ := split_loop p hs (p.size - 1) 1 1 [] (by omega) (Nat.le_refl _) (by simp) (by simp)
        have hd : p.data.toList.drop 1 = rest := by rw [hl]; rfl
        have ej : (cutS rest).headD [] :: (cutS rest).tail = cutS rest := by
          cases hcs : cutS rest with
          | nil => exact absurd hcs (cutS_ne rest)
          | cons a t => rfl
        rw [cut_nil, List.nil_append, hd, ej] at ht
        have hne : rest.isEmpty = false := by cases rest with | nil => exact absurd rfl hr | cons _ _ => rfl
        have hf : Ev (fun k => spec_SplitPath.f k p) r := by
          unfold spec_SplitPath.f
          refine ev_call rfl (ev_neg (by omega) (ev_pos (by omega) ?_))
          rw [hbf]
          refine ev_step (fun k => spec_SplitPath.j0.eq_2 _ _ _ k) (ev_neg (by decide) (ev_neg ?_ hE))
          rw [Lib.toList_data, hl, hc]
          intro h
          injection h with _ h
          exact hr h
        refine ⟨r, hf, ?_⟩
        unfold told at ht
        rw [isNamed, decide_eq_true hc, hne]
        rw [List.length_nil, Nat.zero_add] at ht
        cases ha : (cutS rest).all nameL with
        | false =>
          rw [ha, if_neg (by decide)] at ht
          rw [ht]
          simp
        | true =>
          rw [ha, if_pos rfl] at ht
          by_cases h4 : (cutS rest).length > 4
          · rw [if_pos h4] at ht
            rw [ht, decide_eq_false (by omega)]
            simp
          · rw [if_neg h4] at ht
            obtain ⟨t1, t2, t3⟩ := ht
            refine ⟨?_, by omega, t3⟩
            rw [t1, decide_eq_true (by omega)]
            cases hr1 : r.1 with
            | nil =>
              rw [hr1, List.length_nil] at t2
              exact absurd (List.length_eq_zero_iff.1 t2.symm) (cutS_ne rest)
            | cons _ _ => rfl
    · have hbf : (bt p 0 != 47) = true := by
        rw [hb, bne_iff_ne]
        intro h
        refine hc (UInt8.toNat_inj.1 ?_)
        have : ((47 : UInt8).toNat : Int) = 47 := rfl
        omega
      refine ⟨([], false), ?_, by rw [isNamed, decide_eq_false hc]; rfl, by simp, by simp⟩
      unfold spec_SplitPath.f
      refine ev_call rfl (ev_neg (by omega) (ev_pos (by omega) ?_))
      rw [hbf]
      exact ev_step (fun k => spec_SplitPath.j0.eq_2 _ _ _ k) (ev_pos rfl (ev_some _))
theorem rd_size (l : List ByteArray) (h8 : ∀ x ∈ l, x.size ≤ 8) (i : Int) : (rdOf ByteArray.empty l i).size ≤ 8 := by
  unfold rdOf
  rw [List.getD_eq_getElem?_getD]
  cases h : l[i.toNat]? with
  | none => exact Nat.zero_le _
  | some x => exact h8 x (List.mem_of_getElem? h)
theorem join_loop (l : List ByteArray) (h4 : l.length ≤ 4) (h8 : ∀ x ∈ l, x.size ≤ 8) (m : Nat) : ∀ (i : Nat) (acc : ByteArray), i + m = l.length → acc.size ≤ 9 * i → ∃ t, Ev (fun k => spec_JoinPath.l0 k l acc (i : Int)) t := by
  induction m with
  | zero => intro i acc hi ha; exact ⟨_, ev_step (fun k => spec_JoinPath.l0.eq_2 _ _ _ k) (ev_neg (by omega) (ev_some _))⟩
  | succ m ih =>
    intro i acc hi ha
    have hr := rd_size l h8 (i : Int)
    have ew : wrap64 ((i : Int) + 1) = ((i + 1 : Nat) : Int) := by rw [wrap_in (by omega) (by omega)]; rfl
    have hz : (acc ++ (⟨#[47]⟩ : ByteArray)).size = acc.size + 1 := by rw [ByteArray.size_append]; rfl
    obtain ⟨t, ht⟩ := ih (i + 1) ((acc ++ (⟨#[47]⟩ : ByteArray)) ++ rdOf ByteArray.empty l (i : Int)) (by omega) (by rw [ByteArray.size_append, hz]; omega)
    refine ⟨t, ev_step (fun k => spec_JoinPath.l0.eq_2 _ _ _ k) (ev_pos (by omega) (ev_pos (by omega) (ev_pos (by omega) (ev_pos (by rw [hz]; omega) ?_))))⟩
    rw [ew]
    exact ht
theorem joinPath_some (l : List ByteArray) (h4 : l.length ≤ 4) (h8 : ∀ x ∈ l, x.size ≤ 8) : ∃ t, Ev (fun k => spec_JoinPath.f k l) t := by
  unfold spec_JoinPath.f
  by_cases h : (l.length : Int) = 0
  · exact ⟨_, ev_pos h (ev_some _)⟩
  · obtain ⟨t, ht⟩ := join_loop l h4 h8 l.length 0 ⟨#[]⟩ (by omega) (Nat.le_refl _)
    exact ⟨t, ev_neg h ht⟩
theorem l11Named_ev (p : ByteArray) (hs : p.size < 8796093022000) : Ev (fun k => spec_l11Named.f k p) (isNamed p.data.toList) := by
  obtain ⟨r, hE, hn, h4, h8⟩ := splitPath_ev p hs
  unfold spec_l11Named.f spec_ParentPath.f
  rw [← hn]
  obtain ⟨l, ok⟩ := r
  simp only at h4 h8 hn ⊢
  cases ok with
  | false => exact ev_bind (a := (⟨#[]⟩, ⟨#[]⟩, false)) (ev_bind hE (ev_neg Bool.false_ne_true (ev_some _))) (ev_some _)
  | true =>
    cases l with
    | nil => exact ev_bind (a := (⟨#[]⟩, ⟨#[]⟩, false)) (ev_bind hE (ev_pos rfl (ev_pos rfl (ev_some _)))) (ev_some _)
    | cons x s =>
      rw [List.length_cons] at h4
      have ew : wrap64 (((x :: s).length : Int) - 1) = (s.length : Int) := by rw [List.length_cons, wrap_in (by omega) (by omega)]; omega
      obtain ⟨t, ht⟩ := joinPath_some ((x :: s).take s.length) (by rw [List.length_take]; omega) (fun y hy => h8 y (List.mem_of_mem_take hy))
      refine ev_bind (a := (t, rdOf ByteArray.empty (x :: s) (s.length : Int), true)) (ev_bind hE (ev_pos rfl (ev_neg (by rw [List.length_cons]; omega) ?_))) (ev_some _)
      simp only [ew, Int.toNat_natCast]
      exact ev_pos (by omega) (ev_pos (by rw [List.length_cons]; omega) (ev_bind ht (ev_pos (by rw [List.length_cons]; omega) (ev_some _))))
end Go.Proofs.YtfgnaneajonapaaDoor.Pu

namespace Go.Proofs.YtfgnaneajonapaaDoor.Pu
open Go.RowKit Go.Proofs.YtfgnaneajonapaaDoorW.PrintWords Go.Proofs.YtfgnaneajonapaaDoor.Pr Go.Proofs.YtfgnaneajonapaaDoor.Evs Go.Proofs.YtfgnaneajonapaaDoor.Lw
set_option linter.unusedVariables false
theorem impl_in (a b c : Int) : impl_within.f a b c = some (decide (b ≤ a ∧ a ≤ c)) := by
  unfold impl_within.f
  by_cases h : a ≥ b
  · rw [if_pos h]
    by_cases h2 : a ≤ c
    · rw [decide_eq_true h2, decide_eq_true ⟨h, h2⟩]
    · rw [decide_eq_false h2, decide_eq_false (fun h3 => h2 h3.2)]
  · rw [if_neg h, decide_eq_false (fun h3 => h h3.1)]
theorem spec_in (a b c : Int) : spec_l01In.f a b c = some (decide (b ≤ a ∧ a ≤ c)) := impl_in a b c
theorem impl_nm (p : ByteArray) (h : p.size ≤ 1048576) : impl_named.f p = some (isNamed p.data.toList) := if_pos (by omega)
theorem spec_nm (p : ByteArray) (h : p.size ≤ 1048576) : Ev (fun k => spec_l11Named.f k p) (isNamed p.data.toList) := l11Named_ev p (by omega)
def fits (prev : Option ImLease) (x : ImLease) : Bool := match prev with
  | none => true
  | some y => Op.bytesLess y.f0.toList x.f0.toList
def leaseOk (x : ImLease) : Bool := isNamed x.f0.data.toList && (decide (1 ≤ x.f1 ∧ x.f1 ≤ 9) && decide (0 ≤ x.f2 ∧ x.f2 ≤ 1000000000))
def allOk (n : Nat) : Option ImLease → List ImLease → Bool
  | _, [] => decide ((n : Int) ≤ 8)
  | prev, x :: s => leaseOk x && (fits prev x && allOk n (some x) s)
def leasesOk (l : List ImLease) : Bool := allOk l.length none l
def last_of (p : List ImLease) (prev : Option ImLease) : Prop := (p = [] ∧ prev = none) ∨ ∃ q y, p = q ++ [y] ∧ prev = some y
theorem last_next (p : List ImLease) (x : ImLease) : last_of (p ++ [x]) (some x) := .inr ⟨p, x, rfl, rfl⟩
theorem impl_LeasesOk_loop (l : List ImLease) (hl : l.length < 9223372036854775800) (s : List ImLease) : ∀ (p : List ImLease) (prev : Option ImLease), p ++ s = l → last_of p prev → (∀ x ∈ s, bdLease x) → Ev (fun k => impl_LeasesOk.l0 k l l (l.length : Int) (p.length : Int)) (allOk l.length prev s) := by
  induction s with
  | nil =>
    intro p prev he hp hb
    rw [List.append_nil] at he
    rw [he]
    exact ev_step (fun k => impl_LeasesOk.l0.eq_2 _ _ _ _ k) (ev_neg (by omega) (ev_some _))
  | cons x s ih =>
    intro p prev he hp hb
    have hz : l.length = p.length + (s.length + 1) := by rw [← he, List.length_append, List.length_cons]
    have er : rd_T54 l (p.length : Int) = x := by rw [← he]; exact rd54 p s x
    have e : wrap64 ((p.length : Int) + 1) = ((p ++ [x]).length : Int) := by rw [List.length_append, List.length_singleton, wrap_in (by omega) (by omega)]; rfl
    have h := ih (p ++ [x]) (some x) (by rw [← he, List.append_assoc]; rfl) (last_next p x) (fun y hy => hb y (List.mem_cons_of_mem _ hy))
    have hn := impl_nm x.f0 (hb x (List.mem_cons_self ..))
    refine ev_step (fun k => impl_LeasesOk.l0.eq_2 _ _ _ _ k) (ev_pos (by omega) (ev_pos (by omega) (ev_pos (by omega) ?_)))
    simp only [er, e]
    rw [allOk, leaseOk]
    refine ev_call hn ?_
    cases isNamed x.f0.data.toList with
    | false => exact ev_neg (by decide) (ev_some _)
    | true =>
      refine ev_pos rfl (ev_call (impl_in _ _ _) ?_)
      cases hc : decide (1 ≤ x.f1 ∧ x.f1 ≤ 9) with
      | false => exact ev_neg (by decide) (ev_some _)
      | true =>
        refine ev_pos rfl (ev_call (impl_in _ _ _) ?_)
        cases hc2 : decide (0 ≤ x.f2 ∧ x.f2 ≤ 1000000000) with
        | false => exact ev_neg (by decide) (ev_some _)
        | true =>
          refine ev_pos rfl ?_
          rw [Bool.true_and, Bool.true_and, Bool.true_and]
          rcases hp with ⟨hp, rfl⟩ | ⟨q, y, hp, rfl⟩
          · refine ev_neg (by rw [hp]; decide) ?_
            rw [fits, Bool.true_and]
            exact h
          · have hpl : p.length = q.length + 1 := by rw [hp, List.length_append, List.length_singleton]
            have ey : rd_T54 l (wrap64 ((p.length : Int) - 1)) = y := by
              have e3 : wrap64 ((p.length : Int) - 1) = (q.length : Int) := by rw [wrap_in (by omega) (by omega)]; omega
              rw [e3, ← he, hp, List.append_assoc]
              exact rd54 q (x :: s) y
            have e3 : wrap64 ((p.length : Int) - 1) = (q.length : Int) := by rw [wrap_in (by omega) (by omega)]; omega
            refine ev_pos (by omega) (ev_pos (by omega) (ev_pos (by omega) ?_))
            rw [ey, fits]
            cases Op.bytesLess y.f0.toList x.f0.toList with
            | false => exact ev_neg (by decide) (ev_some _)
            | true => exact ev_pos rfl (by rw [Bool.true_and]; exact h)
theorem impl_LeasesOk_ev (l : List ImLease) (hl : l.length < 9223372036854775800) (hb : ∀ x ∈ l, bdLease x) : Ev (fun k => impl_LeasesOk.f k l) (leasesOk l) := by
  unfold impl_LeasesOk.f
  exact impl_LeasesOk_loop l hl l [] none rfl (.inl ⟨rfl, rfl⟩) hb
theorem spec_LeasesOk_loop (l : List ImLease) (hl : l.length < 9223372036854775800) (s : List ImLease) : ∀ (p : List ImLease) (prev : Option ImLease), p ++ s = l → last_of p prev → (∀ x ∈ s, bdLease x) → Ev (fun k => spec_LeasesOk.l0 k l (p.length : Int)) (allOk l.length prev s) := by
  induction s with
  | nil =>
    intro p prev he hp hb
    rw [List.append_nil] at he
    rw [he]
    exact ev_step (fun k => spec_LeasesOk.l0.eq_2 _ _ k) (ev_neg (by omega) (ev_some _))
  | cons x s ih =>
    intro p prev he hp hb
    have hz : l.length = p.length + (s.length + 1) := by rw [← he, List.length_append, List.length_cons]
    have er : rd_T54 l (p.length : Int) = x := by rw [← he]; exact rd54 p s x
    have e : wrap64 ((p.length : Int) + 1) = ((p ++ [x]).length : Int) := by rw [List.length_append, List.length_singleton, wrap_in (by omega) (by omega)]; rfl
    have h := ih (p ++ [x]) (some x) (by rw [← he, List.append_assoc]; rfl) (last_next p x) (fun y hy => hb y (List.mem_cons_of_mem _ hy))
    have hn := spec_nm x.f0 (hb x (List.mem_cons_self ..))
    refine ev_step (fun k => spec_LeasesOk.l0.eq_2 _ _ k) (ev_pos (by omega) (ev_pos (by omega) ?_))
    simp only [er, e]
    rw [allOk, leaseOk]
    refine ev_bind hn ?_
    cases isNamed x.f0.data.toList with
    | false => exact ev_neg (by decide) (ev_some _)
    | true =>
      refine ev_pos rfl (ev_call (spec_in _ _ _) ?_)
      cases hc : decide (1 ≤ x.f1 ∧ x.f1 ≤ 9) with
      | false => exact ev_neg (by decide) (ev_some _)
      | true =>
        refine ev_pos rfl (ev_call (spec_in _ _ _) ?_)
        cases hc2 : decide (0 ≤ x.f2 ∧ x.f2 ≤ 1000000000) with
        | false => exact ev_neg (by decide) (ev_some _)
        | true =>
          refine ev_pos rfl ?_
          rw [Bool.true_and, Bool.true_and, Bool.true_and]
          rcases hp with ⟨hp, rfl⟩ | ⟨q, y, hp, rfl⟩
          · refine ev_neg (by rw [hp]; decide) ?_
            rw [fits, Bool.true_and]
            exact h
          · have hpl : p.length = q.length + 1 := by rw [hp, List.length_append, List.length_singleton]
            have e3 : wrap64 ((p.length : Int) - 1) = (q.length : Int) := by rw [wrap_in (by omega) (by omega)]; omega
            have ey : rd_T54 l (wrap64 ((p.length : Int) - 1)) = y := by
              rw [e3, ← he, hp, List.append_assoc]
              exact rd54 q (x :: s) y
            refine ev_pos (by omega) (ev_pos (by omega) (ev_pos (by omega) ?_))
            rw [ey, fits]
            cases Op.bytesLess y.f0.toList x.f0.toList with
            | false => exact ev_neg (by decide) (ev_some _)
            | true => exact ev_pos rfl (by rw [Bool.true_and]; exact h)
theorem spec_LeasesOk_ev (l : List ImLease) (hl : l.length < 9223372036854775800) (hb : ∀ x ∈ l, bdLease x) : Ev (fun k => spec_LeasesOk.f k l) (leasesOk l) := by
  unfold spec_LeasesOk.f
  exact spec_LeasesOk_loop l hl l [] none rfl (.inl ⟨rfl, rfl⟩) hb
end Go.Proofs.YtfgnaneajonapaaDoor.Pu

namespace Go.Proofs.YtfgnaneajonapaaDoor.Pure
open Go.RowKit Go.Proofs.YtfgnaneajonapaaDoorW.PrintWords Go.Proofs.YtfgnaneajonapaaDoor.Pr Go.Proofs.YtfgnaneajonapaaDoor.Evs Go.Proofs.YtfgnaneajonapaaDoor.Lw Go.Proofs.YtfgnaneajonapaaDoor.Pu
set_option linter.unusedVariables false
open Go.Proofs.YtfgnaneajonapaaDoor.SFnExactLeasesOk
theorem law_LeasesOk (l : List LLease) (hl : l.length ≤ maxLen) (ho : ∀ x ∈ l, okLease x) : Ev (fun k => laws_FnExactLeasesOk.f k l) true := by
  unfold laws_FnExactLeasesOk.f
  obtain ⟨r, hE, hR⟩ := szLeaseS_ev l hl ho 1048576 (by omega) (by omega)
  refine ev_bind hE ?_
  by_cases c : r < 0
  · exact ev_pos c (ev_some _)
  refine ev_neg c ?_
  have hw : wtLeaseS l ≤ 1048576 := by omega
  have hT := toLeaseS_evw l hw
  have hb := bd_toLeaseS l hw
  generalize l.map toLease = z at *
  refine ev_bind hT (ev_bind (spec_LeasesOk_ev z (by omega) hb.2) (ev_bind hT (ev_bind (impl_LeasesOk_ev z (by omega) hb.2) (ev_neg (by simp) (ev_bind hT (ev_bind (eqLeaseS_ev z (by omega)) (ev_pos rfl (ev_some _))))))))
theorem FnExactLeasesOk : Go.Proofs.YtfgnaneajonapaaDoor.SFnExactLeasesOk.Pure := by
  intro l hl
  exact ev_rounds (law_LeasesOk l hl.1 (fun x hx => ok_wfLease (hl.2 x hx)))
end Go.Proofs.YtfgnaneajonapaaDoor.Pure
