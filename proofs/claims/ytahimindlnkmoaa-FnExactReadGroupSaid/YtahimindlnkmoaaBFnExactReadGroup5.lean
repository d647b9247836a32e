/- A part of the proof of the law FnExactReadGroup: its texts, one behind the other. -/
import Derived.Laws.IdiomCopy
import Derived.Lib.LazyBuf
import Derived.Lib.SlBuf
import Derived.Shelf.RegionOpenPlain
import Derived.Shelf.SlSortCmp.QuietGrown
import Derived.Test.YtahimindlnkmoaaBFnExactReadGroup1
import Derived.Test.YtahimindlnkmoaaBFnExactReadGroup2
import Derived.Test.YtahimindlnkmoaaBFnExactReadGroup3
import Derived.Test.YtahimindlnkmoaaBFnExactReadGroup4
namespace Go.Proofs.Ytahimindlnkmoaa.Pr
open Go.RowKit Go.Proofs.YtahimindlnkmoaaW.PrintWords Go.Proofs.YtahimindlnkmoaaW.PrintLast Go.Proofs.YtahimindlnkmoaaW.PrintMore
set_option linter.unusedVariables false
set_option linter.unusedSimpArgs false
def at2 (L : List (List Int)) (i j : Nat) : Int := (L.getD i []).getD j 0
def swpL (L : List (List Int)) (i j : Nat) : List (List Int) := (L.set i (L.getD j [])).set j (L.getD i [])
def findP (L : List (List Int)) (c : Nat) : Nat → Nat → Nat
  | 0, p => p
  | d + 1, p => if at2 L p c = 0 then findP L c d (p + 1) else p
def elimI (k n c : Nat) : Nat → Nat → List (List Int) → List (List Int) → Option (List (List Int) × List (List Int))
  | 0, _, L, O => some (L, O)
  | d + 1, i, L, O => if i ≠ c ∧ at2 L i c ≠ 0 then
      (impl_addTimes.f k (L.getD i []) (L.getD c []) (at2 L i c)).bind fun li => (impl_addTimes.f k (O.getD i []) (O.getD c []) (at2 L i c)).bind fun oi => if li.length = n ∧ oi.length = n then elimI k n c d (i + 1) (L.set i li) (O.set i oi) else none
    else elimI k n c d (i + 1) L O
def colI (k n : Nat) : Nat → Nat → List (List Int) → List (List Int) → Option (List (List Int) × Bool)
  | 0, _, _, O => some (O, true)
  | d + 1, c, L, O => if findP L c (n - c) c = n then some ([], false) else
      (impl_InvG.f k (at2 (swpL L c (findP L c (n - c) c)) c c)).bind fun a => (impl_scale.f k ((swpL L c (findP L c (n - c) c)).getD c []) a).bind fun lc => (impl_scale.f k ((swpL O c (findP L c (n - c) c)).getD c []) a).bind fun oc => if lc.length = n ∧ oc.length = n then
        (elimI k n c n 0 ((swpL L c (findP L c (n - c) c)).set c lc) ((swpL O c (findP L c (n - c) c)).set c oc)).bind fun q => colI k n d (c + 1) q.1 q.2 else none
def sqI (n : Nat) (L : List (List Int)) : Bool := (L.length == n) && L.all fun x => x.length == n
def impl_InvM.f (k : Nat) (l0 : List (List Int)) : Option (List (List Int) × Bool) := if mOk l0 = true ∧ l0.length = (l0.getD 0 []).length then (impl_OneM.f k (l0.length : Int)).bind fun o => if sqI l0.length o = true ∧ sqI l0.length l0 = true then colI k l0.length l0.length 0 l0 o else none else some ([], false)
theorem sqI_len {n : Nat} {L : List (List Int)} (h : sqI n L = true) : L.length = n ∧ ∀ x ∈ L, x.length = n := by
  unfold sqI at h
  simp only [Bool.and_eq_true, beq_iff_eq, List.all_eq_true] at h
  exact h
theorem getD_at (L : List (List Int)) (i : Nat) (h : i < L.length) : L[i]? = some (L.getD i []) := by rw [List.getD_eq_getElem?_getD, List.getElem?_eq_getElem h]; rfl
def Sq (n : Nat) (L : List (List Int)) : Prop := L.length = n ∧ ∀ x ∈ L, x.length = n
theorem Sq.at_ {n : Nat} {L : List (List Int)} (h : Sq n L) (i : Nat) (hi : i < n) : L[i]? = some (L.getD i []) ∧ (L.getD i []).length = n := by
  have e := getD_at L i (by rw [h.1]; exact hi)
  exact ⟨e, h.2 _ (List.mem_of_getElem? e)⟩
theorem Sq.set {n : Nat} {L : List (List Int)} (h : Sq n L) (i : Nat) (x : List Int) (hx : x.length = n) : Sq n (L.set i x) := ⟨by rw [List.length_set]; exact h.1, fun y hy => by
  rcases List.mem_or_eq_of_mem_set hy with h1 | h1
  · exact h.2 y h1
  · rw [h1]; exact hx⟩
theorem Sq.swp {n : Nat} {L : List (List Int)} (h : Sq n L) (i j : Nat) (hi : i < n) (hj : j < n) : Sq n (swpL L i j) := (h.set i _ (h.at_ j hj).2).set j _ (h.at_ i hi).2
def Apart2 (g g' : Nat) (ds ds' : List (Nat × Nat)) : Prop := ∀ k, Mat.blk g ds k → Mat.blk g' ds' k → False
theorem blk_set2 {g : Nat} {ds : List (Nat × Nat)} {i j : Nat} {d e : Nat × Nat} (hd : ds[i]? = some d) (he : ds[j]? = some e) (k : Nat) (h : Mat.blk g ((ds.set i e).set j d) k) : Mat.blk g ds k := by
  rcases h with h | ⟨q, hq, h⟩
  · exact .inl h
  · rcases List.mem_or_eq_of_mem_set hq with h1 | h1
    · rcases List.mem_or_eq_of_mem_set h1 with h2 | h2
      · exact .inr ⟨q, h2, h⟩
      · exact .inr ⟨q, h2 ▸ List.mem_of_getElem? he, h⟩
    · exact .inr ⟨q, h1 ▸ List.mem_of_getElem? hd, h⟩
structure Two (W : World) (B n gL cL gO cO : Nat) (L O : List (List Int)) : Prop where
  sqL : Sq n L
  sqO : Sq n O
  ex : ∃ dL dO, Mat W B gL cL dL L ∧ Mat W B gO cO dO O ∧ Apart2 gL gO dL dO
theorem Two.step {W W' : World} {B n gL cL gO cO : Nat} {L O : List (List Int)} (h : Two W B n gL cL gO cO L O) (hb : Below W.heap.size W W') : Two W' B n gL cL gO cO L O := by
  obtain ⟨s1, s2, dL, dO, m1, m2, ap⟩ := h
  exact ⟨s1, s2, dL, dO, m1.below hb, m2.below hb, ap⟩
theorem Two.drew {W : World} {B n gL cL gO cO : Nat} {L O : List (List Int)} (h : Two W B n gL cL gO cO L O) : Two W.drew B n gL cL gO cO L O := by
  obtain ⟨s1, s2, dL, dO, m1, m2, ap⟩ := h
  exact ⟨s1, s2, dL, dO, m1.drew, m2.drew, ap⟩
theorem Two.drewN {W : World} {B n gL cL gO cO : Nat} {L O : List (List Int)} (h : Two W B n gL cL gO cO L O) (q : Nat) : Two (W.drewN q) B n gL cL gO cO L O := by
  obtain ⟨s1, s2, dL, dO, m1, m2, ap⟩ := h
  exact ⟨s1, s2, dL, dO, m1.drewN q, m2.drewN q, ap⟩
theorem Two.flip {W : World} {B n gL cL gO cO : Nat} {L O : List (List Int)} (h : Two W B n gL cL gO cO L O) : Two W B n gO cO gL cL O L := by
  obtain ⟨s1, s2, dL, dO, m1, m2, ap⟩ := h
  exact ⟨s2, s1, dO, dL, m2, m1, fun k h1 h2 => ap k h2 h1⟩
theorem Two.get {W : World} {B n gL cL gO cO : Nat} {L O : List (List Int)} (h : Two W B n gL cL gO cO L O) (i : Nat) (hi : i < n) : ∃ b c, W.cell? ⟨gL, i, none⟩ = some (.slice (some ⟨b, 0, none⟩) n c) ∧ W.frozen? ⟨gL, i, none⟩ = false ∧ B ≤ b ∧
    (∀ j, j < n → W.cell? ⟨b, j, none⟩ = some (.int .i64 (at2 L i j))) ∧ Kd.R (Kd.int .i64) 3 W B (fun k => k = b) (.slice (some ⟨b, 0, none⟩) n c) (L.getD i []) ∧
    (∀ j, j < n → j ≠ i → ∃ b' c', W.cell? ⟨gL, j, none⟩ = some (.slice (some ⟨b', 0, none⟩) n c') ∧ n ≤ c' ∧ ∀ W', Kept W W' (fun k => k = b) → Kd.C (Kd.int .i64) W' (some ⟨b', 0, none⟩) n (L.getD j [])) ∧
    ∀ W' x', x'.length = n → Kept W W' (fun k => k = b) → ∀ ok, Kd.R (Kd.int .i64) 3 W' B ok (.slice (some ⟨b, 0, none⟩) n c) x' → Two W' B n gL cL gO cO (L.set i x') O := by
  obtain ⟨s1, s2, dL, dO, m1, m2, ap⟩ := h
  obtain ⟨ex, el⟩ := s1.at_ i hi
  have hid : i < dL.length := by rw [m1.len, s1.1]; exact hi
  have hd : dL[i]? = some dL[i] := List.getElem?_eq_getElem hid
  have h1 := m1.outer i _ _ hd ex
  have h2 := m1.row i _ _ hd ex
  rw [el] at h1 h2
  refine ⟨dL[i].1, dL[i].2, h1.1, h1.2, m1.low _ (List.getElem_mem hid), fun j hj => ?_, h2, fun j hj hji => ?_, fun W' x' hx' hk ok hR => ?_⟩
  · have := (Kd.R_celln 0 h2 (j : Int) (Int.natCast_nonneg _) (by omega)).1
    rw [Int.toNat_natCast] at this
    exact this
  · obtain ⟨ey, ely⟩ := s1.at_ j hj
    have hjd : j < dL.length := by rw [m1.len, s1.1]; exact hj
    have hdj : dL[j]? = some dL[j] := List.getElem?_eq_getElem hjd
    have h3 := m1.outer j _ _ hdj ey
    have h4 := m1.row j _ _ hdj ey
    rw [ely] at h3 h4
    refine ⟨dL[j].1, dL[j].2, h3.1, (Kd.R_reads' h4).2.1, fun W' hk => ?_⟩
    have h5 := Kd.R_step h4 (w1 := W') (fun k ho hlt => hk.2 k hlt (fun e => hji (m1.nodup j i _ _ hdj hd (ho.symm.trans e))))
    have h6 := Kd.R_reads' h5
    rw [h6.1]
    exact h6.2.2
  · refine ⟨s1.set i x' hx', s2, dL, dO, m1.put i _ _ x' hd ex (by rw [hx', el]) hk (by rw [el]; exact hR), m2.step hk.1 (fun k hb => hk.2 k ?_ (fun e => ap k (.inr ⟨_, List.getElem_mem hid, e.symm⟩) hb)), ap⟩
    rcases hb with rfl | ⟨q, hq, rfl⟩
    · exact m2.ltg
    · exact m2.lt q hq
theorem Two.swap {W : World} {B n gL cL gO cO : Nat} {L O : List (List Int)} (h : Two W B n gL cL gO cO L O) (i j : Nat) (hi : i < n) (hj : j < n) : ∃ bi ci bj cj, W.cell? ⟨gL, i, none⟩ = some (.slice (some ⟨bi, 0, none⟩) n ci) ∧ W.frozen? ⟨gL, i, none⟩ = false ∧ W.cell? ⟨gL, j, none⟩ = some (.slice (some ⟨bj, 0, none⟩) n cj) ∧ W.frozen? ⟨gL, j, none⟩ = false ∧ B ≤ gL ∧
    Two ((W.setCell ⟨gL, i, none⟩ (.slice (some ⟨bj, 0, none⟩) n cj)).setCell ⟨gL, j, none⟩ (.slice (some ⟨bi, 0, none⟩) n ci)) B n gL cL gO cO (swpL L i j) O := by
  obtain ⟨s1, s2, dL, dO, m1, m2, ap⟩ := h
  obtain ⟨ex, el⟩ := s1.at_ i hi
  obtain ⟨ey, ely⟩ := s1.at_ j hj
  have hid : i < dL.length := by rw [m1.len, s1.1]; exact hi
  have hjd : j < dL.length := by rw [m1.len, s1.1]; exact hj
  have hd : dL[i]? = some dL[i] := List.getElem?_eq_getElem hid
  have he : dL[j]? = some dL[j] := List.getElem?_eq_getElem hjd
  have h1 := m1.outer i _ _ hd ex
  have h2 := m1.outer j _ _ he ey
  have h3 := m1.swap i j _ _ _ _ hd ex he ey
  rw [el] at h1 h3
  rw [ely] at h2 h3
  refine ⟨_, _, _, _, h1.1, h1.2, h2.1, h2.2, m1.lowg, s1.swp i j hi hj, s2, _, dO, h3, m2.step (by simp) (fun k hb => ?_), fun k h4 h5 => ap k (blk_set2 hd he k h4) h5⟩
  have hk : k ≠ gL := fun e => ap k (.inl e) hb
  exact (Below.heap_setCell _ _ _ k hk).trans (Below.heap_setCell _ _ _ k hk)
theorem Mat.lower {W : World} {B B' g cap : Nat} {ds : List (Nat × Nat)} {xs : List (List Int)} (h : Mat W B g cap ds xs) (hb : B' ≤ B) : Mat W B' g cap ds xs :=
  ⟨h.len, h.outer, fun i d x hd hx => Kd.R_lower (h.row i d x hd hx) hb, h.nodup, h.apart, Nat.le_trans hb h.lowg, fun d hd => Nat.le_trans hb (h.low d hd), h.ltg, h.lt⟩
theorem Two.new {w2 wr : World} {B B1 n gL cL gO cO : Nat} {dL dO : List (Nat × Nat)} {L O : List (List Int)} (sL : Sq n L) (sO : Sq n O) (mL : Mat wr w2.heap.size gL cL dL L) (mO : Mat w2 B1 gO cO dO O) (hb : Below w2.heap.size w2 wr) (h1 : B ≤ B1) (h2 : B1 ≤ w2.heap.size) : Two wr B n gL cL gO cO L O := by
  refine ⟨sL, sO, dL, dO, mL.lower (Nat.le_trans h1 h2), (mO.below hb).lower h1, fun k hk1 hk2 => ?_⟩
  have a : w2.heap.size ≤ k := by
    rcases hk1 with rfl | ⟨d, hd, rfl⟩
    · exact mL.lowg
    · exact mL.low d hd
  have b : k < w2.heap.size := by
    rcases hk2 with rfl | ⟨d, hd, rfl⟩
    · exact mO.ltg
    · exact mO.lt d hd
  omega
theorem Two.lt {W : World} {B n gL cL gO cO : Nat} {L O : List (List Int)} (h : Two W B n gL cL gO cO L O) : n ≤ 9223372036854775807 → ∀ c, n ≤ c → ∃ A c', Value.slice (some ⟨gO, 0, none⟩) n c = .slice A O.length c' ∧ O.length ≤ c' ∧ Kd.C (Kd.slice 3 (Kd.int .i64)) W A O.length O := by
  obtain ⟨s1, s2, dL, dO, m1, m2, ap⟩ := h
  intro hn c hc
  exact ⟨_, c, by rw [s2.1], by rw [s2.1]; exact hc, m2.reads (by rw [s2.1]; exact hn)⟩
end Go.Proofs.Ytahimindlnkmoaa.Pr

namespace Go.Proofs.Ytahimindlnkmoaa.Pr
open Go.RowKit Go.Proofs.YtahimindlnkmoaaW.PrintWords Go.Proofs.YtahimindlnkmoaaW.PrintLast Go.Proofs.YtahimindlnkmoaaW.PrintMore
set_option linter.unusedVariables false
set_option linter.unusedSimpArgs false
open Go.Lib Go.Shelf
theorem nil_rows (W : World) : ∃ A c, Value.slice none 0 0 = .slice A ([] : List (List Int)).length c ∧ ([] : List (List Int)).length ≤ c ∧ Kd.C (Kd.slice 3 (Kd.int .i64)) W A ([] : List (List Int)).length [] := ⟨none, 0, rfl, Nat.le_refl _, ⟨rfl, by decide, fun h => absurd h (Nat.lt_irrefl _)⟩⟩
set_option maxHeartbeats 16000000 in
set_option maxRecDepth 100000 in
theorem impl_InvM.calls (k : Nat) (A0 : Option Addr) (c0 : Nat) (l0 : List (List Int)) (r1 : List (List Int)) (r2 : Bool) (w : World) (hr0 : Kd.C (Kd.slice 3 (Kd.int .i64)) w A0 l0.length l0) (hc0 : l0.length ≤ c0) (h : impl_InvM.f k l0 = some (r1, r2)) :
    Calls Try.prog 31 #[.slice A0 l0.length c0] w fun e w' => ∃ v0_ : Value, e = .returned (.tuple #[v0_, .bool r2]) ∧ (∃ A c, v0_ = .slice A r1.length c ∧ r1.length ≤ c ∧ Kd.C (Kd.slice 3 (Kd.int .i64)) w' A r1.length r1) ∧ Below w.heap.size w w' := by
  unfold impl_InvM.f at h
  have HR := Aside0.mk hr0
  have mixed : Try.prog.follows .mixedOrders = true := by kernel_rfl
  have hmo := impl_MatrixOk.calls A0 c0 l0 _ w hr0 hc0 rfl
  clear hr0
  by_cases hg : mOk l0 = true ∧ l0.length = (l0.getD 0 []).length
  case neg =>
    rw [if_neg hg] at h
    have e := Option.some.inj h
    injection e with e1 e2
    subst e1
    subst e2
    clear h
    cases hm : mOk l0 with
    | false =>
      rw [hm] at hmo
      clear hm hg
      go_enter Try.func31, Try.ntmps31
      go_wp2_with fail
      refine hmo.mono ?_
      clear hmo
      rintro e w1 ⟨rfl, hb⟩
      go_wp2
      go_ret2
      exact ⟨_, rfl, nil_rows _, hb⟩
    | true =>
      rw [hm] at hmo
      have hne : l0.length ≠ (l0.getD 0 []).length := fun e => hg ⟨hm, e⟩
      have hpos : 0 < l0.length := by
        have h1 := hm
        unfold mOk inI at h1
        simp at h1
        omega
      obtain ⟨ad, A1, c1, e1, hx, hlc, -⟩ := at_rows HR.out 0 hpos
      subst e1
      rw [show ad.add 0 = ad by unfold Addr.add; split <;> simp_all] at hx
      obtain ⟨m, hmm⟩ : ∃ m, m = (l0.getD 0 []).length := ⟨_, rfl⟩
      rw [← hmm] at hx hlc hne
      have hnb : ((l0.length : Int) != (m : Int)) = true := by simp; omega
      clear hmm hm hg hne
      go_enter Try.func31, Try.ntmps31
      go_wp2_with fail
      refine hmo.mono ?_
      clear hmo
      rintro e w1 ⟨rfl, hb⟩
      replace hx := (hb.cell (World.block_lt_of_cell? _ _ hx)).trans hx
      have HB := Aside0.mk hb
      clear hb
      go_wp2
      go_ret2
      exact ⟨_, rfl, nil_rows _, HB.out⟩
  rw [if_pos hg] at h
  obtain ⟨hm, hsq⟩ := hg
  rw [hm] at hmo
  obtain ⟨o, ho, h'⟩ := Option.bind_eq_some_iff.1 h
  clear h
  have h := h'
  clear h'
  by_cases hs : sqI l0.length o = true ∧ sqI l0.length l0 = true
  case neg => rw [if_neg hs] at h; cases h
  rw [if_pos hs] at h
  have hpos : 0 < l0.length ∧ l0.length ≤ 8 := by
    have h1 := hm
    unfold mOk inI at h1
    simp at h1
    omega
  obtain ⟨hp0, hp8⟩ := hpos
  obtain ⟨ad, A1, c1, e1, hx, hlc, -⟩ := at_rows HR.out 0 hp0
  subst e1
  rw [show ad.add 0 = ad by unfold Addr.add; split <;> simp_all] at hx
  rw [← hsq] at hx hlc
  have HSO : Aside0 (Sq l0.length o) := ⟨sqI_len hs.1⟩
  have HSL : Aside0 (Sq l0.length l0) := ⟨sqI_len hs.2⟩
  have HO := Aside0.mk ho
  have H := Aside0.mk h
  clear h ho hs hsq hm
  obtain ⟨n, hn⟩ : ∃ n, n = l0.length := ⟨_, rfl⟩
  rw [← hn] at hx hlc hmo HSO HSL HO H hp0 hp8 hc0 HR ⊢
  have hnb : ((n : Int) != (n : Int)) = false := by simp
  have HN := Aside0.mk hn
  clear hn
  go_enter Try.func31, Try.ntmps31
  go_wp2_with fail
  refine hmo.mono ?_
  clear hmo
  rintro e w1 ⟨rfl, hb⟩
  replace hx := (hb.cell (World.block_lt_of_cell? _ _ hx)).trans hx
  have HB1 := Aside0.mk hb
  clear hb
  go_wp2_with fail
  refine (impl_OneM.calls k (n : Int) o _ HO.out).mono ?_
  rintro e w2 ⟨vO, rfl, hoO, hb⟩
  have HB2 := Aside0.mk (HB1.out.trans (hb.mono HB1.out.size))
  have hszO : o.length = n := HSO.out.1
  obtain ⟨gO, cO, dO, rfl, hcO, hMO, hokO⟩ := mat_of_S hoO (fun x hx => by rw [HSO.out.2 x hx]; exact hp0) (by rw [hszO]; exact hp0)
  rw [hszO] at hcO ⊢
  have HMO := Aside0.mk (show Mat w2 w1.heap.size gO cO dO o from hMO)
  have HLT := Aside0.mk (show w1.heap.size ≤ w2.heap.size from hb.size)
  have HLT0 := Aside0.mk (show w.heap.size ≤ w1.heap.size from HB1.out.size)
  clear hoO hb hMO hokO hszO hx HB1 HO
  go_wp2
  go_loopg [5, 30] n (fun gg s5 s30 wr => ∃ i : Nat, s30 = .int .i64 i ∧ i ≤ n ∧ n - i ≤ gg ∧ Aside0 (Kd.S (Kd.slice 3 (Kd.int .i64)) 52 wr w2.heap.size (fun _ => True) s5 (l0.take i)) ∧ Aside0 (Below w2.heap.size w2 wr))
  case atStart => exact ⟨0, rfl, Nat.zero_le _, Nat.sub_le _ _, ⟨Kd.S_nil _ _ _ _ _⟩, ⟨Below.refl _ _⟩⟩
  case round =>
    obtain ⟨i, rfl, hin, hgg, HS, HB⟩ := hrel
    by_cases hlt : i < n
    · have hltz : (i : Int) < (n : Int) := by omega
      have HB3 := Aside0.mk (HB2.out.trans (HB.out.mono HB2.out.size))
      obtain ⟨ad', A2, c2, e2, hy, hlc2, hC2⟩ := at_rows (HN.out ▸ HR.out) i (by rw [← HN.out]; exact hlt)
      obtain rfl : ad = ad' := by injection e2
      clear e2
      obtain ⟨hrow, hrl⟩ := HSL.out.at_ i hlt
      obtain ⟨row, hrw⟩ : ∃ q, q = l0.getD i [] := ⟨_, rfl⟩
      rw [← hrw] at hy hlc2 hC2 hrow hrl
      rw [hrl] at hy hlc2
      have HCi := Aside0.mk (Kd.C_below hC2 HB3.out)
      replace hy := (HB3.out.cell (World.block_lt_of_cell? _ _ hy)).trans hy
      have hcl := slices_Clone_int_int.calls A2 c2 row row wr HCi.out (by rw [hrl]; exact hlc2) (by unfold slices_Clone_int_int.f; rw [if_pos (by rw [hrl]; omega)])
      rw [hrl] at hcl
      have HRL := Aside0.mk hrl
      have HT : Aside0 (l0.take (i + 1) = l0.take i ++ [row]) := ⟨by
        have hil : i < l0.length := by rw [← HN.out]; exact hlt
        rw [List.take_succ_eq_append_getElem hil]
        congr 1
        rw [List.getElem?_eq_getElem hil] at hrow
        rw [Option.some.inj hrow]⟩
      have HTL : Aside0 ((l0.take i).length ≤ 8) := ⟨by rw [List.length_take]; omega⟩
      clear hrw hC2 hrow hrl HB3
      go_wp2_with fail
      refine hcl.mono ?_
      clear hcl
      rintro e w3 ⟨vc, rfl, hoc, hb⟩
      obtain ⟨bc, cc, rfl, hbc, hbcl, -⟩ := Kd.R_form hoc (by rw [HRL.out]; exact hp0)
      rw [HRL.out] at hoc ⊢
      have HOC := Aside0.mk (Kd.R_lower (int_reok hoc (ok' := fun k => k = bc) (fun k hk => by simp [Value.ownBlock] at hk; exact hk.symm)) HB.out.size)
      have HBC := Aside0.mk hbc
      have HS3 := Aside0.mk (Kd.S_mono (Kd.S_bound HS.out) (ok' := fun k => True ∧ ¬ k = bc) (fun k hk => ⟨trivial, fun e => by have := hk.2.2.1; have := HBC.out; omega⟩))
      have HS4 := Aside0.mk (Kd.S_below HS3.out hb)
      have HV5 := Aside0.mk (Kd.S_lt HS.out)
      have HB4 := Aside0.mk (HB.out.trans (hb.mono HB.out.size))
      clear hoc hb hbc hbcl HS HS3 hy HCi
      go_wp2_with (first
        | ((with_reducible refine gate_builtin (b := .append) (xs := #[.tmp 34, .tmp 37]) rfl ?_); at_builtin; refine Kd.S_append (Kd.slice 3 (Kd.int .i64)) (w0 := w2) w2.heap.size rfl (.tmp 34) (.tmp 37) 50 52 (.slice none 0 0) 24 rfl Try.underlying50 info52 rfl (by decide) (by omega) _ (l0.take i) row [.slice (some ⟨bc, 0, none⟩) n cc] (fun _ => True) (fun k_ => k_ = bc) rfl rfl ?aP (fun k_ hk_ => ⟨trivial, fun e_ => by have := HV5.out k_ e_.symm; have := HBC.out; omega⟩) ?aF ?aO ?aB ?aS ?aL ?_; (case aP => exact ⟨_, rfl, HOC.out⟩); (case aB => exact HB4.out); (case aF => exact (fun _ _ => trivial)); (case aO => exact HS4.out); (case aS => exact HB4.out.size); (case aL => have := HTL.out; omega); intro v5' w5 ho5 hb5 hg5 hat5; have HS5 := Aside0.mk ho5; have HB5 := Aside0.mk hb5; clear ho5 hb5 hg5 hat5))
      go_roundg (n - (i + 1))
      case measure => omega
      case rel => exact ⟨i + 1, by go_num, hlt, Nat.le_refl _, ⟨by rw [HT.out]; exact HS5.out⟩, HB5⟩
    · have hltz : ¬ (i : Int) < (n : Int) := by omega
      have hi_ : n = i := by omega
      subst hi_
      have htk : l0.take n = l0 := List.take_of_length_le (by rw [← HN.out]; exact Nat.le_refl _)
      rw [htk] at HS
      obtain ⟨gL, cL, dL, rfl, hcL, hML, hokL⟩ := mat_of_S HS.out (fun x hx => by rw [HSL.out.2 x hx]; exact hp0) (by rw [← HN.out]; exact hp0)
      rw [← HN.out] at hcL ⊢
      clear htk
      have HTW := Aside0.mk (Two.new HSL.out HSO.out hML HMO.out HB.out HLT0.out HLT.out)
      have HBW := Aside0.mk (HB2.out.trans (HB.out.mono HB2.out.size))
      clear hML hokL HS HB HB2 HMO HLT HLT0 HR HSL HSO
      have H0 : Aside0 (colI k n n 0 l0 o = some (r1, r2)) := H
      clear H HN hgg hin
      go_wp2
      go_loopg [42] n (fun gg s42 wr2 => ∃ (c : Nat) (L O : List (List Int)), s42 = .int .i64 c ∧ c ≤ n ∧ n - c ≤ gg ∧ Aside0 (colI k n (n - c) c L O = some (r1, r2)) ∧ Aside0 (Two wr2 w.heap.size n gL cL gO cO L O) ∧ Aside0 (Below w.heap.size w wr2))
      case atStart => exact ⟨0, l0, o, rfl, Nat.zero_le _, Nat.sub_le _ _, H0, HTW, HBW⟩
      case round =>
        clear H0 HTW HBW
        obtain ⟨c, L, O, rfl, hcn, hgg, H, HT, HB⟩ := hrel
        by_cases hlt : c < n
        · have hltz : (c : Int) < (n : Int) := by omega
          go_wp2
          -- the row below that has no zero there
          go_loopg [9] n (fun gg s9 wr3 => ∃ p : Nat, s9 = .int .i64 p ∧ c ≤ p ∧ p ≤ n ∧ n - p ≤ gg ∧ Aside0 (findP L c (n - p) p = findP L c (n - c) c) ∧ Aside0 (Two wr3 w.heap.size n gL cL gO cO L O) ∧ Aside0 (Below w.heap.size w wr3))
          case atStart => exact ⟨c, rfl, Nat.le_refl _, hcn, Nat.sub_le _ _, ⟨rfl⟩, HT, HB⟩
          case round =>
            clear HT HB
            obtain ⟨p, rfl, hcp, hpn, hgp, HF, HT, HB⟩ := hrel
            by_cases hp : p < n
            · have hpz : (p : Int) < (n : Int) := by omega
              obtain ⟨b, cc, h1, h2, h3, h4, h5, h6, h7⟩ := HT.out.get p hp
              have hv := h4 c hlt
              clear h2 h3 h4 h5 h6 h7
              obtain ⟨x, hx⟩ : ∃ x, x = at2 L p c := ⟨_, rfl⟩
              rw [← hx] at hv
              have HX := Aside0.mk hx
              clear hx
              by_cases hz : x = 0
              · have hzb : (x == 0) = true := by rw [hz]; rfl
                have HF2 : Aside0 (findP L c (n - (p + 1)) (p + 1) = findP L c (n - c) c) := ⟨by
                  rw [← HF.out, show n - p = (n - (p + 1)) + 1 by omega, findP, if_pos (by rw [← HX.out]; exact hz)]⟩
                subst hz
                go_wp2
                go_roundg (n - (p + 1))
                case measure => omega
                case rel => exact ⟨p + 1, by go_num, by omega, hp, Nat.le_refl _, HF2, HT, HB⟩
              · have hzb : (x == 0) = false := by simpa using hz
                have HP : Aside0 (findP L c (n - c) c = p) := ⟨by
                  rw [← HF.out, show n - p = (n - (p + 1)) + 1 by omega, findP, if_neg (by rw [← HX.out]; exact hz)]⟩
                have hpe : ((p : Int) == (n : Int)) = false := by simp; omega
                go_upto_region 18 with fail
                clear hv h1 hzb hpe
                have H2 := H.out
                rw [show n - c = (n - (c + 1)) + 1 by omega, colI, HP.out, if_neg (by omega)] at H2
                obtain ⟨a, ha, H3⟩ := Option.bind_eq_some_iff.1 H2
                obtain ⟨lc, hlcs, H4⟩ := Option.bind_eq_some_iff.1 H3
                obtain ⟨oc, hocs, H5⟩ := Option.bind_eq_some_iff.1 H4
                by_cases hgd : lc.length = n ∧ oc.length = n
                case neg => rw [if_neg hgd] at H5; cases H5
                rw [if_pos hgd] at H5
                obtain ⟨q, hq, H6⟩ := Option.bind_eq_some_iff.1 H5
                have HA := Aside0.mk ha
                have HLC := Aside0.mk hlcs
                have HOC := Aside0.mk hocs
                have HLL := Aside0.mk hgd
                have HQ := Aside0.mk hq
                have H7 := Aside0.mk H6
                clear H H2 H3 H4 H5 H6 ha hlcs hocs hgd hq HX HP HF hgp hz
                obtain ⟨bi, ci, bj, cj, g1, g2, g3, g4, g5, g6⟩ := HT.out.swap c p hlt hp
                have HB1 := Aside0.mk (((HB.out.setCell (p := ⟨gL, c, none⟩) g5 (.slice (some ⟨bj, 0, none⟩) n cj)).setCell (p := ⟨gL, p, none⟩) g5 (.slice (some ⟨bi, 0, none⟩) n ci)).drew)
                have HT1 := Aside0.mk g6.drew
                obtain ⟨u, hcu⟩ : ∃ u, (wr.setCell ⟨gL, c, none⟩ (.slice (some ⟨bj, 0, none⟩) n cj)).cell? ⟨gL, p, none⟩ = some u := by
                  by_cases e : c = p
                  · subst e
                    exact ⟨_, World.cell?_setCell_same' _ _ _ (by rw [g1]; rfl)⟩
                  · exact ⟨_, (World.cell?_setCell_other _ _ _ _ (by intro e2; simp only [Addr.mk.injEq] at e2; omega)).trans g3⟩
                clear g5 g6 HT HB
                go_big_region_o
                generalize ((wr.setCell ⟨gL, c, none⟩ (.slice (some ⟨bj, 0, none⟩) n cj)).setCell ⟨gL, p, none⟩ (.slice (some ⟨bi, 0, none⟩) n ci)).drew = w4 at HT1 HB1 ⊢
                clear g1 g2 g3 g4 hcu
                obtain ⟨bi, ci, bj, cj, g1, g2, g3, g4, g5, g6⟩ := HT1.out.flip.swap c p hlt hp
                have HB2 := Aside0.mk (((HB1.out.setCell (p := ⟨gO, c, none⟩) g5 (.slice (some ⟨bj, 0, none⟩) n cj)).setCell (p := ⟨gO, p, none⟩) g5 (.slice (some ⟨bi, 0, none⟩) n ci)).drew)
                have HT2 := Aside0.mk g6.flip.drew
                obtain ⟨u2, hcu⟩ : ∃ u, (w4.setCell ⟨gO, c, none⟩ (.slice (some ⟨bj, 0, none⟩) n cj)).cell? ⟨gO, p, none⟩ = some u := by
                  by_cases e : c = p
                  · subst e
                    exact ⟨_, World.cell?_setCell_same' _ _ _ (by rw [g1]; rfl)⟩
                  · exact ⟨_, (World.cell?_setCell_other _ _ _ _ (by intro e2; simp only [Addr.mk.injEq] at e2; omega)).trans g3⟩
                clear g5 g6 HT1 HB1
                go_upto_region 19 with fail
                go_big_region_o
                generalize ((w4.setCell ⟨gO, c, none⟩ (.slice (some ⟨bj, 0, none⟩) n cj)).setCell ⟨gO, p, none⟩ (.slice (some ⟨bi, 0, none⟩) n ci)).drew = w5 at HT2 HB2 ⊢
                clear g1 g2 g3 g4 hcu
                obtain ⟨L1, hL1⟩ : ∃ q, q = swpL L c p := ⟨_, rfl⟩
                obtain ⟨O1, hO1⟩ : ∃ q, q = swpL O c p := ⟨_, rfl⟩
                rw [← hL1, ← hO1] at HT2
                rw [← hL1] at HA HLC
                rw [← hO1] at HOC
                rw [← hL1, ← hO1] at HQ
                clear hL1 hO1
                -- the pivot's inverse
                obtain ⟨b, cc, h1, h2, h3, h4, h5, h6, h7⟩ := HT2.out.get c hlt
                have hv := h4 c hlt
                have HR5 := Aside0.mk h5
                have H7g := Aside0.mk h7
                obtain ⟨x, hx⟩ : ∃ x, x = at2 L1 c c := ⟨_, rfl⟩
                rw [← hx] at hv HA
                clear h2 h4 h5 h6 h7 hx
                go_wp2_with fail
                refine (impl_InvG.calls k x a _ HA.out).mono ?_
                rintro e w6 ⟨rfl, ⟨nd, rfl⟩⟩
                have HT3 := Aside0.mk (HT2.out.drewN nd)
                have HB3 := Aside0.mk (pw_below_drewN HB2.out nd)
                clear HT2 HB2 HR5 H7g h1 hv HA
                generalize w5.drewN nd = w6 at HT3 HB3 ⊢
                obtain ⟨b, cc, h1, h2, h3, h4, h5, h6, h7⟩ := HT3.out.get c hlt
                have HR6 := Aside0.mk h5
                have H7g := Aside0.mk h7
                clear h2 h3 h4 h5 h6 h7 HT3
                go_wp2_with fail
                refine (impl_scale.calls k (fun k_ => k_ = b) _ (L1.getD c []) a lc w w6 HB3.out HR6.out HLC.out).mono ?_
                rintro e w7 ⟨rfl, hR, hb, hk⟩
                have HT4 := Aside0.mk (H7g.out w7 lc HLL.out.1 hk _ hR)
                have HB4 := Aside0.mk hb
                clear hR hb hk H7g HR6 HB3 h1 HLC
                obtain ⟨b, cc, h1, h2, h3, h4, h5, h6, h7⟩ := HT4.out.flip.get c hlt
                have HR7 := Aside0.mk h5
                have H7g := Aside0.mk h7
                clear h2 h3 h4 h5 h6 h7 HT4
                go_wp2_with fail
                refine (impl_scale.calls k (fun k_ => k_ = b) _ (O1.getD c []) a oc w w7 HB4.out HR7.out HOC.out).mono ?_
                rintro e w8 ⟨rfl, hR, hb, hk⟩
                have HT5 := Aside0.mk (H7g.out w8 oc HLL.out.2 hk _ hR).flip
                have HB5 := Aside0.mk hb
                clear hR hb hk H7g HR7 HB4 h1 HOC HLL
                generalize L1.set c lc = L2 at HT5 HQ
                generalize O1.set c oc = O2 at HT5 HQ
                go_wp2
                go_loopg [116] n (fun gg s116 wr5 => ∃ (i : Nat) (L3 O3 : List (List Int)), s116 = .int .i64 i ∧ i ≤ n ∧ n - i ≤ gg ∧ Aside0 (elimI k n c (n - i) i L3 O3 = some q) ∧ Aside0 (Two wr5 w.heap.size n gL cL gO cO L3 O3) ∧ Aside0 (Below w.heap.size w wr5))
                case atStart => exact ⟨0, L2, O2, rfl, Nat.zero_le _, Nat.sub_le _ _, HQ, HT5, HB5⟩
                case round =>
                  clear HQ HT5 HB5
                  obtain ⟨i, L3, O3, rfl, hin, hgi, HQ, HT, HB⟩ := hrel
                  by_cases hi : i < n
                  · have hiz : (i : Int) < (n : Int) := by omega
                    have HQ2 := HQ.out
                    rw [show n - i = (n - (i + 1)) + 1 by omega, elimI] at HQ2
                    obtain ⟨b, cc, h1, h2, h3, h4, h5, h6, h7⟩ := HT.out.get i hi
                    have hv := h4 c hlt
                    clear h2 h3 h4 h5 h6 h7
                    obtain ⟨y, hy⟩ : ∃ y, y = at2 L3 i c := ⟨_, rfl⟩
                    rw [← hy] at hv HQ2
                    have HY := Aside0.mk hy
                    clear hy HQ
                    by_cases hdo : i ≠ c ∧ y ≠ 0
                    · rw [if_pos hdo] at HQ2
                      have hne : ((i : Int) != (c : Int)) = true := by simp; omega
                      have hyb : (y != 0) = true := by simpa using hdo.2
                      obtain ⟨li, hli, HQ3⟩ := Option.bind_eq_some_iff.1 HQ2
                      obtain ⟨oi, hoi, HQ4⟩ := Option.bind_eq_some_iff.1 HQ3
                      by_cases hgd : li.length = n ∧ oi.length = n
                      case neg => rw [if_neg hgd] at HQ4; cases HQ4
                      rw [if_pos hgd] at HQ4
                      have HLI := Aside0.mk hli
                      have HOI := Aside0.mk hoi
                      have HGD := Aside0.mk hgd
                      have HQ5 := Aside0.mk HQ4
                      have HIC := Aside0.mk hdo.1
                      clear hli hoi hgd HQ2 HQ3 HQ4 hdo
                      go_upto_region 28 with fail
                      clear hv h1 hne hyb
                      -- the two rows
                      obtain ⟨b, cc, h1, h2, h3, h4, h5, h6, h7⟩ := HT.out.drew.get i hi
                      obtain ⟨b', c', h8, hcn, h9⟩ := h6 c hlt (Ne.symm HIC.out)
                      have hlen := (HT.out.sqL.at_ c hlt).2
                      have hcall := impl_addTimes.calls k (fun k_ => k_ = b) (.slice (some ⟨b, 0, none⟩) n cc) (L3.getD i []) (some ⟨b', 0, none⟩) c' (L3.getD c []) y li w wr.drew HB.out.drew h5 (fun W_ hk => by rw [hlen]; exact h9 W_ hk) (by rw [hlen]; exact hcn) HLI.out
                      rw [hlen] at hcall
                      have H7g := Aside0.mk h7
                      clear h2 h3 h4 h5 h6 h7 h9 hlen hcn
                      have egA : ∀ args w, (callFunc 55 args).run Try.prog w = .ok (.enter 55 args) w := enters_of Try.func55 (by kernel_rfl) rfl
                      refine start_ (n := 10) (S := fun w' => w'.cell? ⟨gL, i, none⟩ = some (.slice (some ⟨b, 0, none⟩) n cc) ∧ w'.cell? ⟨gL, c, none⟩ = some (.slice (some ⟨b', 0, none⟩) n c')) (ds := [9]) #[false, false, false, false, false, false, false, false, false, false] (by kernel_rfl) rfl rfl ⟨h1, h8⟩ (fun hHeld => ?_)
                      refine pure_ (i := 0) (N := some 133) (v := ?_) (a' := ?_) #[true, false, false, false, false, false, false, false, false, false] rfl rfl (by kernel_rfl) (fun _ _ _ h => h) (Or.inl ⟨by rfl, ?_⟩) ?_ ?_
                      rotate_left
                      · intro w'
                        go_simp
                        with_reducible rfl
                      rotate_left
                      · simp only [Act.put, List.setIfInBounds_toArray, List.set_cons_zero, List.set_cons_succ, i64_w, i32_w]
                        rfl
                      refine pure_ (i := 1) (N := some 134) (v := ?_) (a' := ?_) #[true, true, false, false, false, false, false, false, false, false] rfl rfl (by kernel_rfl) (fun _ _ _ h => h) (Or.inl ⟨by rfl, ?_⟩) ?_ ?_
                      rotate_left
                      · intro w'
                        go_simp
                        with_reducible rfl
                      rotate_left
                      · simp only [Act.put, List.setIfInBounds_toArray, List.set_cons_zero, List.set_cons_succ, i64_w, i32_w]
                        rfl
                      refine pure_ (i := 2) (N := some 135) (v := ?_) (a' := ?_) #[true, true, true, false, false, false, false, false, false, false] rfl rfl (by kernel_rfl) (fun _ _ _ h => h) (Or.inl ⟨by rfl, ?_⟩) ?_ ?_
                      rotate_left
                      · intro w'
                        go_simp
                        with_reducible rfl
                      rotate_left
                      · simp only [Act.put, List.setIfInBounds_toArray, List.set_cons_zero, List.set_cons_succ, i64_w, i32_w]
                        rfl
                      refine pure_ (i := 4) (N := some 137) (v := ?_) (a' := ?_) #[true, true, true, false, true, false, false, false, false, false] rfl rfl (by kernel_rfl) (fun _ _ _ h => h) (Or.inl ⟨by rfl, ?_⟩) ?_ ?_
                      rotate_left
                      · intro w'
                        go_simp
                        with_reducible rfl
                      rotate_left
                      · simp only [Act.put, List.setIfInBounds_toArray, List.set_cons_zero, List.set_cons_succ, i64_w, i32_w]
                        rfl
                      refine pure_ (i := 5) (N := some 138) (v := ?_) (a' := ?_) #[true, true, true, false, true, true, false, false, false, false] rfl rfl (by kernel_rfl) (fun _ _ _ h => h) (Or.inl ⟨by rfl, ?_⟩) ?_ ?_
                      rotate_left
                      · intro w'
                        go_simp
                        with_reducible rfl
                      rotate_left
                      · simp only [Act.put, List.setIfInBounds_toArray, List.set_cons_zero, List.set_cons_succ, i64_w, i32_w]
                        rfl
                      refine pure_ (i := 6) (N := some 139) (v := ?_) (a' := ?_) #[true, true, true, false, true, true, true, false, false, false] rfl rfl (by kernel_rfl) (fun _ _ _ h => h) (Or.inl ⟨by rfl, ?_⟩) ?_ ?_
                      rotate_left
                      · intro w'
                        go_simp
                        with_reducible rfl
                      rotate_left
                      · simp only [Act.put, List.setIfInBounds_toArray, List.set_cons_zero, List.set_cons_succ, i64_w, i32_w]
                        rfl
                      refine pure_ (i := 8) (N := some 141) (v := ?_) (a' := ?_) #[true, true, true, false, true, true, true, false, true, false] rfl rfl (by kernel_rfl) (fun _ _ _ h => h) (Or.inl ⟨by rfl, ?_⟩) ?_ ?_
                      rotate_left
                      · intro w'
                        go_simp
                        with_reducible rfl
                      rotate_left
                      · simp only [Act.put, List.setIfInBounds_toArray, List.set_cons_zero, List.set_cons_succ, i64_w, i32_w]
                        rfl
                      refine take_ (i := 3) (N := some 136) (v := ?_) (a' := ?_) #[true, true, true, true, true, true, true, false, true, false] rfl rfl (by kernel_rfl) (fun _ _ _ h => h) (Or.inl ⟨by rfl, ?_⟩) hHeld ?_ ?_
                      rotate_left
                      · rintro w' ⟨s0, s1⟩
                        go_simp
                        with_reducible rfl
                      rotate_left
                      · simp only [Act.put, List.setIfInBounds_toArray, List.set_cons_zero, List.set_cons_succ, i64_w, i32_w]
                        rfl
                      refine take_ (i := 7) (N := some 140) (v := ?_) (a' := ?_) #[true, true, true, true, true, true, true, true, true, false] rfl rfl (by kernel_rfl) (fun _ _ _ h => h) (Or.inl ⟨by rfl, ?_⟩) hHeld ?_ ?_
                      rotate_left
                      · rintro w' ⟨s0, s1⟩
                        go_simp
                        with_reducible rfl
                      rotate_left
                      · simp only [Act.put, List.setIfInBounds_toArray, List.set_cons_zero, List.set_cons_succ, i64_w, i32_w]
                        rfl
                      refine last_ (i := 9) (N := some 142) #[true, true, true, true, true, true, true, true, true, true] rfl rfl (by kernel_rfl) (by decide) (fun K hK => ?_)
                      refine call_ 55 #[.slice (some ⟨b, 0, none⟩) n cc, .slice (some ⟨b', 0, none⟩) n c', .int .i64 y] (by rfl) rfl ?_ ?_
                      · go_simp
                        try exact egA _ _
                      refine hcall.mono ?_
                      rintro e w9 ⟨rfl, hR, hb, hk⟩
                      refine ⟨_, rfl, ?_⟩
                      refine hK.out _ _ ?_
                      clear hK K
                      refine norm_ (a' := ?_) ?_ ?_
                      rotate_left
                      · show Act.put _ (some 142) _ = _
                        simp only [Act.put, List.setIfInBounds_toArray, List.set_cons_zero, List.set_cons_succ, i64_w, i32_w]
                        rfl
                      refine done_ (by kernel_rfl) ?_
                      have HT6 := Aside0.mk (H7g.out w9 li HGD.out.1 hk _ hR)
                      have HB6 := Aside0.mk hb
                      clear hcall hR hb hk H7g h1 h8 egA HT HB
                      go_upto_region 29 with fail
                      obtain ⟨b, cc, h1, h2, h3, h4, h5, h6, h7⟩ := HT6.out.drew.flip.get i hi
                      obtain ⟨b', c', h8, hcn, h9⟩ := h6 c hlt (Ne.symm HIC.out)
                      have hlen := (HT6.out.flip.sqL.at_ c hlt).2
                      have hcall := impl_addTimes.calls k (fun k_ => k_ = b) (.slice (some ⟨b, 0, none⟩) n cc) (O3.getD i []) (some ⟨b', 0, none⟩) c' (O3.getD c []) y oi w w9.drew HB6.out.drew h5 (fun W_ hk => by rw [hlen]; exact h9 W_ hk) (by rw [hlen]; exact hcn) HOI.out
                      rw [hlen] at hcall
                      have H7g := Aside0.mk h7
                      clear h2 h3 h4 h5 h6 h7 h9 hlen hcn
                      have egA : ∀ args w, (callFunc 55 args).run Try.prog w = .ok (.enter 55 args) w := enters_of Try.func55 (by kernel_rfl) rfl
                      refine start_ (n := 10) (S := fun w' => w'.cell? ⟨gO, i, none⟩ = some (.slice (some ⟨b, 0, none⟩) n cc) ∧ w'.cell? ⟨gO, c, none⟩ = some (.slice (some ⟨b', 0, none⟩) n c')) (ds := [9]) #[false, false, false, false, false, false, false, false, false, false] (by kernel_rfl) rfl rfl ⟨h1, h8⟩ (fun hHeld => ?_)
                      refine pure_ (i := 0) (N := some 143) (v := ?_) (a' := ?_) #[true, false, false, false, false, false, false, false, false, false] rfl rfl (by kernel_rfl) (fun _ _ _ h => h) (Or.inl ⟨by rfl, ?_⟩) ?_ ?_
                      rotate_left
                      · intro w'
                        go_simp
                        with_reducible rfl
                      rotate_left
                      · simp only [Act.put, List.setIfInBounds_toArray, List.set_cons_zero, List.set_cons_succ, i64_w, i32_w]
                        rfl
                      refine pure_ (i := 1) (N := some 144) (v := ?_) (a' := ?_) #[true, true, false, false, false, false, false, false, false, false] rfl rfl (by kernel_rfl) (fun _ _ _ h => h) (Or.inl ⟨by rfl, ?_⟩) ?_ ?_
                      rotate_left
                      · intro w'
                        go_simp
                        with_reducible rfl
                      rotate_left
                      · simp only [Act.put, List.setIfInBounds_toArray, List.set_cons_zero, List.set_cons_succ, i64_w, i32_w]
                        rfl
                      refine pure_ (i := 2) (N := some 145) (v := ?_) (a' := ?_) #[true, true, true, false, false, false, false, false, false, false] rfl rfl (by kernel_rfl) (fun _ _ _ h => h) (Or.inl ⟨by rfl, ?_⟩) ?_ ?_
                      rotate_left
                      · intro w'
                        go_simp
                        with_reducible rfl
                      rotate_left
                      · simp only [Act.put, List.setIfInBounds_toArray, List.set_cons_zero, List.set_cons_succ, i64_w, i32_w]
                        rfl
                      refine pure_ (i := 4) (N := some 147) (v := ?_) (a' := ?_) #[true, true, true, false, true, false, false, false, false, false] rfl rfl (by kernel_rfl) (fun _ _ _ h => h) (Or.inl ⟨by rfl, ?_⟩) ?_ ?_
                      rotate_left
                      · intro w'
                        go_simp
                        with_reducible rfl
                      rotate_left
                      · simp only [Act.put, List.setIfInBounds_toArray, List.set_cons_zero, List.set_cons_succ, i64_w, i32_w]
                        rfl
                      refine pure_ (i := 5) (N := some 148) (v := ?_) (a' := ?_) #[true, true, true, false, true, true, false, false, false, false] rfl rfl (by kernel_rfl) (fun _ _ _ h => h) (Or.inl ⟨by rfl, ?_⟩) ?_ ?_
                      rotate_left
                      · intro w'
                        go_simp
                        with_reducible rfl
                      rotate_left
                      · simp only [Act.put, List.setIfInBounds_toArray, List.set_cons_zero, List.set_cons_succ, i64_w, i32_w]
                        rfl
                      refine pure_ (i := 6) (N := some 149) (v := ?_) (a' := ?_) #[true, true, true, false, true, true, true, false, false, false] rfl rfl (by kernel_rfl) (fun _ _ _ h => h) (Or.inl ⟨by rfl, ?_⟩) ?_ ?_
                      rotate_left
                      · intro w'
                        go_simp
                        with_reducible rfl
                      rotate_left
                      · simp only [Act.put, List.setIfInBounds_toArray, List.set_cons_zero, List.set_cons_succ, i64_w, i32_w]
                        rfl
                      refine pure_ (i := 8) (N := some 151) (v := ?_) (a' := ?_) #[true, true, true, false, true, true, true, false, true, false] rfl rfl (by kernel_rfl) (fun _ _ _ h => h) (Or.inl ⟨by rfl, ?_⟩) ?_ ?_
                      rotate_left
                      · intro w'
                        go_simp
                        with_reducible rfl
                      rotate_left
                      · simp only [Act.put, List.setIfInBounds_toArray, List.set_cons_zero, List.set_cons_succ, i64_w, i32_w]
                        rfl
                      refine take_ (i := 3) (N := some 146) (v := ?_) (a' := ?_) #[true, true, true, true, true, true, true, false, true, false] rfl rfl (by kernel_rfl) (fun _ _ _ h => h) (Or.inl ⟨by rfl, ?_⟩) hHeld ?_ ?_
                      rotate_left
                      · rintro w' ⟨s0, s1⟩
                        go_simp
                        with_reducible rfl
                      rotate_left
                      · simp only [Act.put, List.setIfInBounds_toArray, List.set_cons_zero, List.set_cons_succ, i64_w, i32_w]
                        rfl
                      refine take_ (i := 7) (N := some 150) (v := ?_) (a' := ?_) #[true, true, true, true, true, true, true, true, true, false] rfl rfl (by kernel_rfl) (fun _ _ _ h => h) (Or.inl ⟨by rfl, ?_⟩) hHeld ?_ ?_
                      rotate_left
                      · rintro w' ⟨s0, s1⟩
                        go_simp
                        with_reducible rfl
                      rotate_left
                      · simp only [Act.put, List.setIfInBounds_toArray, List.set_cons_zero, List.set_cons_succ, i64_w, i32_w]
                        rfl
                      refine last_ (i := 9) (N := some 152) #[true, true, true, true, true, true, true, true, true, true] rfl rfl (by kernel_rfl) (by decide) (fun K hK => ?_)
                      refine call_ 55 #[.slice (some ⟨b, 0, none⟩) n cc, .slice (some ⟨b', 0, none⟩) n c', .int .i64 y] (by rfl) rfl ?_ ?_
                      · go_simp
                        try exact egA _ _
                      refine hcall.mono ?_
                      rintro e w10 ⟨rfl, hR, hb, hk⟩
                      refine ⟨_, rfl, ?_⟩
                      refine hK.out _ _ ?_
                      clear hK K
                      refine norm_ (a' := ?_) ?_ ?_
                      rotate_left
                      · show Act.put _ (some 152) _ = _
                        simp only [Act.put, List.setIfInBounds_toArray, List.set_cons_zero, List.set_cons_succ, i64_w, i32_w]
                        rfl
                      refine done_ (by kernel_rfl) ?_
                      have HT7 := Aside0.mk (H7g.out w10 oi HGD.out.2 hk _ hR).flip
                      have HB7 := Aside0.mk hb
                      clear hcall hR hb hk H7g h1 h8 egA HT6 HB6
                      go_wp2
                      go_roundg (n - (i + 1))
                      case measure => omega
                      case rel => exact ⟨i + 1, _, _, by go_num, hi, Nat.le_refl _, HQ5, HT7, HB7⟩
                      -- the two rows done
                    · rw [if_neg hdo] at HQ2
                      have HQ5 := Aside0.mk HQ2
                      clear HQ2
                      by_cases hic : i = c
                      · have hne : ((i : Int) != (c : Int)) = false := by simp; omega
                        clear hdo hic
                        go_wp2
                        go_roundg (n - (i + 1))
                        case measure => omega
                        case rel => exact ⟨i + 1, L3, O3, by go_num, hi, Nat.le_refl _, HQ5, HT, HB⟩
                      · have hne : ((i : Int) != (c : Int)) = true := by simp; omega
                        have hy0 : y = 0 := Decidable.byContradiction fun e => hdo ⟨hic, e⟩
                        have hyb : (y != 0) = false := by rw [hy0]; rfl
                        clear hdo hy0
                        go_wp2
                        go_roundg (n - (i + 1))
                        case measure => omega
                        case rel => exact ⟨i + 1, L3, O3, by go_num, hi, Nat.le_refl _, HQ5, HT, HB⟩
                  · have hiz : ¬ (i : Int) < (n : Int) := by omega
                    have hi_ : n = i := by omega
                    subst hi_
                    have hq : (L3, O3) = q := by
                      have := HQ.out
                      rw [Nat.sub_self] at this
                      exact Option.some.inj this
                    subst hq
                    go_wp2
                    go_roundg (n - (c + 1))
                    case measure => omega
                    case rel => exact ⟨c + 1, L3, O3, by go_num, hlt, Nat.le_refl _, H7, HT, HB⟩
            · have hpz : ¬ (p : Int) < (n : Int) := by omega
              have hp_ : n = p := by omega
              subst hp_
              have hpe : ((n : Int) == (n : Int)) = true := by simp
              have hf : ([], false) = (r1, r2) := by
                have H2 := H.out
                have e := HF.out
                rw [Nat.sub_self, findP] at e
                rw [show n - c = (n - (c + 1)) + 1 by omega, colI, ← e, if_pos rfl] at H2
                exact Option.some.inj H2
              have HFF := Aside0.mk hf
              clear H HF hf
              go_wp2
              go_ret2
              have hf := HFF.out
              injection hf with hf1 hf2
              subst hf1
              subst hf2
              exact ⟨_, rfl, nil_rows _, HB.out⟩
        · have hltz : ¬ (c : Int) < (n : Int) := by omega
          have hc_ : n = c := by omega
          subst hc_
          have hf : (O, true) = (r1, r2) := by
            have := H.out
            rw [Nat.sub_self] at this
            exact Option.some.inj this
          injection hf with hf1 hf2
          subst hf1
          subst hf2
          go_wp2
          go_ret2
          exact ⟨_, rfl, HT.out.lt (by omega) cO hcO, HB.out⟩
end Go.Proofs.Ytahimindlnkmoaa.Pr

namespace Go.Proofs.Ytahimindlnkmoaa.Pr
open Go.RowKit Go.Proofs.YtahimindlnkmoaaW.PrintWords Go.Proofs.YtahimindlnkmoaaW.PrintLast Go.Proofs.YtahimindlnkmoaaW.PrintMore
attribute [local go_sem] max2_int min2_int max_two min_two max_three min_three max_four min_four
set_option linter.unusedVariables false
set_option linter.unusedSimpArgs false
mutual
def impl_CodeOf.l0 : Nat → Int → Int → List (List Int) → Int → Option ((List (List Int)))
 | 0, _, _, _, _ => none
 | k + 1, x3, x4, x6, x7 => if x7 < x4 then (if 0 ≤ x3 then (if (x3 : Int).toNat ≤ 35184372088832 then ((some (List.replicate (x3 : Int).toNat 0 : List Int)).bind fun y426 => (impl_CodeOf.l1 k x3 x4 x6 x7 y426 (y426.length : Int) 0)) else (none)) else (none)) else (some x6)
def impl_CodeOf.l1 : Nat → Int → Int → List (List Int) → Int → List Int → Int → Int → Option ((List (List Int)))
 | 0, _, _, _, _, _, _, _ => none
 | k + 1, x3, x4, x6, x7, x8, x28, x29 => if x29 < x28 then ((impl_InvG.f k (Go.bits .xor .i64 (wrap64 (x3 + x7)) x29)).bind fun t429 => (if 0 ≤ x29 then (if x29 < (x8.length : Int) then (impl_CodeOf.l1 k x3 x4 x6 x7 (x8.set (x29 : Int).toNat t429) x28 (wrap64 (x29 + 1))) else (none)) else (none))) else (if x6.length < 5864062014805 then (impl_CodeOf.l0 k x3 x4 (x6 ++ [x8]) (wrap64 (x7 + 1))) else (none))
end
def impl_CodeOf.f (k : Nat) (a0 : Int) : Option ((List (List Int))) := (impl_SchemaOf.f a0).bind fun bt420 => (if bt420.2.2 = true then ((impl_OneM.f k bt420.1).bind fun t423 => (impl_CodeOf.l0 k bt420.1 bt420.2.1 t423 0)) else (some ([] : List (List Int))))
theorem impl_CodeOf.mono_l : ∀ k, (∀ y0 y1 y2 y3, LeO (impl_CodeOf.l0 k y0 y1 y2 y3) (impl_CodeOf.l0 (k + 1) y0 y1 y2 y3)) ∧ (∀ y0 y1 y2 y3 y4 y5 y6, LeO (impl_CodeOf.l1 k y0 y1 y2 y3 y4 y5 y6) (impl_CodeOf.l1 (k + 1) y0 y1 y2 y3 y4 y5 y6))
 | 0 => ⟨fun _ _ _ _ r h => by simp [impl_CodeOf.l0] at h, fun _ _ _ _ _ _ _ r h => by simp [impl_CodeOf.l1] at h⟩
 | k + 1 => by
  obtain ⟨ih0, ih1⟩ := impl_CodeOf.mono_l k
  refine ⟨?_, ?_⟩
  ·intro y0 y1 y2 y3
   unfold impl_CodeOf.l0
   repeat' first
   | (with_reducible exact ih0 _ _ _ _)
   | (with_reducible exact ih1 _ _ _ _ _ _ _)
   | (with_reducible exact impl_InvG.mono _ _)
   | (with_reducible exact impl_OneM.mono _ _)
   | (with_reducible exact LeO.refl _)
   | (with_reducible exact LeO.none _)
   | (with_reducible refine LeO.ite ?_ ?_)
   | (with_reducible refine LeO.bind ?_ (fun _ => ?_))
   | exact ih0 _ _ _ _
   | exact ih1 _ _ _ _ _ _ _
   | exact impl_InvG.mono _ _
   | exact impl_OneM.mono _ _
   | exact LeO.none _
   | refine LeO.ite ?_ ?_
   | refine LeO.bind ?_ (fun _ => ?_)
  ·intro y0 y1 y2 y3 y4 y5 y6
   unfold impl_CodeOf.l1
   repeat' first
   | (with_reducible exact ih0 _ _ _ _)
   | (with_reducible exact ih1 _ _ _ _ _ _ _)
   | (with_reducible exact impl_InvG.mono _ _)
   | (with_reducible exact impl_OneM.mono _ _)
   | (with_reducible exact LeO.refl _)
   | (with_reducible exact LeO.none _)
   | (with_reducible refine LeO.ite ?_ ?_)
   | (with_reducible refine LeO.bind ?_ (fun _ => ?_))
   | exact ih0 _ _ _ _
   | exact ih1 _ _ _ _ _ _ _
   | exact impl_InvG.mono _ _
   | exact impl_OneM.mono _ _
   | exact LeO.none _
   | refine LeO.ite ?_ ?_
   | refine LeO.bind ?_ (fun _ => ?_)
theorem impl_CodeOf.mono : ∀ a0 k, LeO (impl_CodeOf.f k a0) (impl_CodeOf.f (k + 1) a0) := by
 intro a0 k
 obtain ⟨ih0, ih1⟩ := impl_CodeOf.mono_l k
 unfold impl_CodeOf.f
 repeat' first
   | (with_reducible exact ih0 _ _ _ _)
   | (with_reducible exact ih1 _ _ _ _ _ _ _)
   | (with_reducible exact impl_InvG.mono _ _)
   | (with_reducible exact impl_OneM.mono _ _)
   | (with_reducible exact LeO.refl _)
   | (with_reducible exact LeO.none _)
   | (with_reducible refine LeO.ite ?_ ?_)
   | (with_reducible refine LeO.bind ?_ (fun _ => ?_))
   | exact ih0 _ _ _ _
   | exact ih1 _ _ _ _ _ _ _
   | exact impl_InvG.mono _ _
   | exact impl_OneM.mono _ _
   | exact LeO.none _
   | refine LeO.ite ?_ ?_
   | refine LeO.bind ?_ (fun _ => ?_)
set_option maxHeartbeats 8000000 in
set_option maxRecDepth 100000 in
theorem impl_CodeOf.calls (k : Nat) (a0 : Int) (r : List (List Int)) (w : World) (h : impl_CodeOf.f k a0 = some r) :
  Calls Try.prog 30 #[.int .i64 a0] w fun e w' => ∃ v0_ : Value, e = .returned (v0_) ∧ Kd.S (Kd.slice 3 (Kd.int .i64)) 52 w' w.heap.size (fun _ => True) v0_ r ∧ Below w.heap.size w w' := by
 have HB := Aside0.mk (Below.refl w.heap.size w)
 have H : ((impl_SchemaOf.f a0).bind fun bt420 => (if bt420.2.2 = true then ((impl_OneM.f k bt420.1).bind fun t423 => (impl_CodeOf.l0 k bt420.1 bt420.2.1 t423 0)) else (some ([] : List (List Int))))) = some r := h
 clear h
 replace H := Option.bind_eq_some_iff.mp H
 obtain ⟨⟨t420, t421, t422⟩, A20, H⟩ := H
 replace H : (if t422 = true then ((impl_OneM.f k t420).bind fun t423 => (impl_CodeOf.l0 k t420 t421 t423 0)) else (some ([] : List (List Int)))) = some r := H
 have A2 := Aside0.mk A20
 clear A20
 by_cases c3 : t422 = true
 ·subst c3
  have H1 : ((impl_OneM.f k t420).bind fun t423 => (impl_CodeOf.l0 k t420 t421 t423 0)) = some r := by rw [if_pos rfl] at H; exact H
  clear H
  have H := H1
  clear H1
  replace H := Option.bind_eq_some_iff.mp H
  obtain ⟨t423, A40, H⟩ := H
  replace H : (impl_CodeOf.l0 k t420 t421 t423 0) = some r := H
  have A4 := Aside0.mk A40
  clear A40
  have H' := Aside0.mk H
  clear H
  go_enter Try.func30, Try.ntmps30
  go_wp2_with (first | ((with_reducible refine gate_callee (f := 28) rfl ?_); refine GL (some 12) rfl rfl Try.func28 #[.int .i64 a0] rfl ?_; (with_reducible refine (impl_SchemaOf.calls a0 t420 t421 true _ A2.out).mono ?_); rintro e w' ⟨rfl, ⟨nd, rfl⟩⟩; refine ⟨_, rfl, ?_⟩) | ((with_reducible refine gate_callee (f := 50) rfl ?_); refine GL (some 19) rfl rfl Try.func50 #[.int .i64 t420] rfl ?_; (with_reducible refine (impl_OneM.calls k t420 t423 _ A4.out).mono ?_); rintro e w5 ⟨v424, rfl, ho0, hb⟩; refine ⟨_, rfl, ?_⟩; have HO425 := Aside0.mk (Kd.S_lower ho0 (below_size (BB HB.out))); replace HB := Aside0.mk (below_step (BB HB.out) hb); (try clear hb); (try clear ho0)))
  go_loopg [6, 7] k (fun kq v6 v7 w' => ∃ (x6_1 : List (List Int)) (x7_1 : Int), v7 = .int .i64 x7_1 ∧ Aside0 (impl_CodeOf.l0 kq t420 t421 x6_1 x7_1 = some r) ∧ Aside0 (kq ≤ k) ∧ Aside0 (Kd.S (Kd.slice 3 (Kd.int .i64)) 52 w' w.heap.size (fun _ => True) v6 x6_1) ∧ Aside0 (Below w.heap.size w w'))
  case atStart => exact ⟨(t423), (0), FR, H', ⟨Nat.le_refl _⟩, ⟨(SS HO425.out)⟩, ⟨(BB HB.out)⟩⟩
  case round =>
   clear H'
   try clear c2
   try clear p2
   try clear c3
   try clear c5
   obtain ⟨x6_1, x7_1, rfl, HA, HK1, HO_6, HB⟩ := hrel
   cases gk with
   | zero => exact absurd HA.out (by simp [impl_CodeOf.l0])
   | succ k1 =>
    have H := HA.out
    clear HA
    simp only [impl_CodeOf.l0] at H
    by_cases c6 : x7_1 < t421
    ·rw [if_pos c6] at H
     have c6b0 : decide (x7_1 < t421) = true := decide_eq_true c6
     clear c6
     by_cases c7 : 0 ≤ t420
     ·rw [if_pos c7] at H
      have c7b0 := eq_true c7
      have c7b1 : decide (0 ≤ t420) = true := decide_eq_true c7
      clear c7
      by_cases c8 : (t420 : Int).toNat ≤ 35184372088832
      ·rw [if_pos c8] at H
       have c8b0 := eq_true c8
       have c8b1 : decide ((t420 : Int).toNat ≤ 35184372088832) = true := decide_eq_true c8
       clear c8
       obtain ⟨y426, hy426⟩ : ∃ y_ : List Int, y_ = (List.replicate (t420 : Int).toNat 0) := ⟨_, rfl⟩
       replace H : (impl_CodeOf.l1 k1 t420 t421 x6_1 x7_1 y426 (y426.length : Int) 0) = some r := by first | (rw [hy426]; with_reducible exact H) | (have H2_ := (Option.bind_some _ _).symm.trans H; rw [hy426]; with_reducible exact H2_) | (have H2_ := (Option.bind_some _ _).symm.trans H; with_reducible exact H2_) | with_reducible exact H | (rw [hy426]; exact H) | exact H
       have Ny426 := Aside0.mk hy426
       clear hy426
       have H' := Aside0.mk H
       clear H
       go_wp2_with (first | ((with_reducible refine gate_dst (N := 26) rfl ?_); refine Kd.R_make (Kd.int .i64) _ 3 rfl (N := 26) rfl 52 _ _ rfl t420 rfl rfl Try.underlying52 (.int .i64 0) 8 info3 rfl (by decide) (by omega) 0 (ok := fun _ => True) (okp := fun _ => True) rfl (fun _ hk => hk) trivial DT (Nat.le_trans (Nat.mul_le_mul_right _ (DT : t420.toNat ≤ 35184372088832)) (by omega)) (Below.refl _ _) (Nat.le_refl _) ?_; intro v427 w9 ho10 hb hg_ hnew_; clear hg_ hnew_; (first | rw [← Ny426.out] at ho10 | (simp only [Int.reduceToNat] at ho10; rw [← Ny426.out] at ho10)); have HO428 := Aside0.mk (Kd.R_lower ho10 (below_size (BB HB.out))); replace HO_6 := Aside0.mk (Kd.S_elder' (SS HO_6.out) (Kd.R_base ho10) hb); replace HB := Aside0.mk (below_step (BB HB.out) hb); clear hb ho10; obtain ⟨Ao11, co11, eo11⟩ := Kd.R_slice HO428.out; subst eo11))
       go_loopg [29] k1 (fun kq v29 w' => ∃ (x8_2 : List Int) (x29_2 : Int), v29 = .int .i64 x29_2 ∧ Aside0 (impl_CodeOf.l1 kq t420 t421 x6_1 x7_1 x8_2 (y426.length : Int) x29_2 = some r) ∧ Aside0 (kq ≤ k1) ∧ Aside0 (Kd.S (Kd.slice 3 (Kd.int .i64)) 52 w' w.heap.size (fun k_ => some k_ ≠ ((.slice Ao11 y426.length co11) : Value).ownBlock) u6 x6_1) ∧ Aside0 (Kd.R (Kd.int .i64) 3 w' w.heap.size (fun _ => True) (.slice Ao11 y426.length co11) x8_2) ∧ Aside0 (Below w.heap.size w w'))
       case atStart => exact ⟨(y426), (0), FR, H', ⟨Nat.le_refl _⟩, ⟨by (with_reducible repeat (first | apply Kd.S_alloc | apply Kd.S_drewN | apply Kd.S_drew)); exact Kd.S_mono HO_6.out (fun _ hk => hk.2)⟩, ⟨(RR HO428.out)⟩, ⟨(BB HB.out)⟩⟩
       case round =>
        clear H'
        try clear c2
        try clear p2
        try clear c3
        try clear c5
        try clear c6
        try clear c6b0
        try clear c7
        try clear c7b0
        try clear c7b1
        try clear c8
        try clear c8b0
        try clear c8b1
        try clear p2
        obtain ⟨x8_2, x29_2, rfl, HA, HK2, HO_6, HO_8, HB⟩ := hrel
        have hl8_2 := (Kd.R_reads' HO_8.out).1
        rw [hl8_2] at HO_8
        (try simp only [hl8_2])
        (try simp only [hl8_2] at HO_6)
        cases gk with
        | zero => exact absurd HA.out (by simp [impl_CodeOf.l1])
        | succ k2 =>
         have H := HA.out
         clear HA
         simp only [impl_CodeOf.l1] at H
         by_cases c12 : x29_2 < (y426.length : Int)
         ·rw [if_pos c12] at H
          have c12b0 : decide (x29_2 < (y426.length : Int)) = true := decide_eq_true c12
          (try (have c12b0_hl8_2 := c12b0; rw [hl8_2] at c12b0_hl8_2))
          clear c12
          replace H := Option.bind_eq_some_iff.mp H
          obtain ⟨t429, A130, H⟩ := H
          replace H : (if 0 ≤ x29_2 then (if x29_2 < (x8_2.length : Int) then (impl_CodeOf.l1 k2 t420 t421 x6_1 x7_1 (x8_2.set (x29_2 : Int).toNat t429) (y426.length : Int) (wrap64 (x29_2 + 1))) else (none)) else (none)) = some r := H
          have A13 := Aside0.mk A130
          clear A130
          by_cases c14 : 0 ≤ x29_2
          ·rw [if_pos c14] at H
           have c14b0 : decide (0 ≤ x29_2) = true := decide_eq_true c14
           clear c14
           by_cases c15 : x29_2 < (x8_2.length : Int)
           ·rw [if_pos c15] at H
            have c15b0 : decide (x29_2 < (x8_2.length : Int)) = true := decide_eq_true c15
            (try (have c15b0_hl8_2 := c15b0; rw [hl8_2] at c15b0_hl8_2))
            clear c15
            obtain ⟨y430, hy430⟩ : ∃ y_ : List Int, y_ = (x8_2.set (x29_2 : Int).toNat t429) := ⟨_, rfl⟩
            replace H : (impl_CodeOf.l1 k2 t420 t421 x6_1 x7_1 y430 (y426.length : Int) (wrap64 (x29_2 + 1))) = some r := by first | (rw [hy430]; with_reducible exact H) | (have H2_ := (Option.bind_some _ _).symm.trans H; rw [hy430]; with_reducible exact H2_) | (have H2_ := (Option.bind_some _ _).symm.trans H; with_reducible exact H2_) | with_reducible exact H | (rw [hy430]; exact H) | exact H
            have Ny430 := Aside0.mk hy430
            clear hy430
            have H' := Aside0.mk H
            clear H
            go_wp2_with (first | ((with_reducible refine gate_callee (f := 51) rfl ?_); refine GL (some 39) rfl rfl Try.func51 #[.int .i64 (Go.bits .xor .i64 (wrap64 (t420 + x7_1)) x29_2)] rfl ?_; (with_reducible refine (impl_InvG.calls k2 (Go.bits .xor .i64 (wrap64 (t420 + x7_1)) x29_2) t429 _ A13.out).mono ?_); rintro e w' ⟨rfl, ⟨nd, rfl⟩⟩; refine ⟨_, rfl, ?_⟩; (try (rw [drewN_self wr]; generalize hq_ : World.drewN wr _ = wr; have n0_ : Aside0 (Kd.S (Kd.slice 3 (Kd.int .i64)) 52 wr w.heap.size (fun k_ => some k_ ≠ (.slice Ao11 x8_2.length co11 : Value).ownBlock) u6 x6_1) := ⟨by rw [← hq_]; exact (SS HO_6.out)⟩; have n1_ : Aside0 (Kd.R (Kd.int .i64) 3 wr w.heap.size (fun _ => True) (.slice Ao11 x8_2.length co11) x8_2) := ⟨by rw [← hq_]; exact (RR HO_8.out)⟩; have n2_ : Aside0 (Below w.heap.size w wr) := ⟨by rw [← hq_]; exact (BB HB.out)⟩; clear HO_6 HO_8 HB hq_; have HO_6 := n0_; have HO_8 := n1_; have HB := n2_; clear n0_ n1_ n2_)); have p16 : 0 ≤ (x29_2 : Int) := DT; have q16 : (x29_2 : Int) < ((x8_2.length : Int) : Int) := DT; obtain ⟨go16, co16, eo16, gb16, gl16, cl16, HG16⟩ := Kd.R_form HO_8.out (by omega); (first | cases eo16 | (injection eo16 with ea_ en_ ec_; (first | subst ea_ | (injection ea_ with ea_; subst ea_)); subst ec_; clear en_)); have GB16 := Aside0.mk gb16; have GG16 := Aside0.mk HG16; clear gb16 gl16 HG16; obtain ⟨hx16_0, hf16_0⟩ := Kd.R_celln 0 HO_8.out (x29_2 : Int) p16 q16; replace p16 := eq_true p16; replace q16 := eq_true q16; obtain ⟨hy17_, hz17_⟩ := Kd.R_celln 0 HO_8.out (x29_2 : Int) DT DT; have HP17 := Kd.R_putg HO_8.out (x29_2 : Int) t429) | ((with_reducible refine gate_store (t := 3) (p := 40) rfl ?_); refine store_event (t := 3) (p := 40) (v := ?vo_w18) (w1 := (wr.setCell ⟨go16, (x29_2 : Int).toNat, none⟩ (.int .i64 t429))) ?hg ?ho ?hn ?hr ?_; (case ho => rfl); (case hg => rfl); (case hn => rfl); (case hr => first | (go_simp; done) | (go_simp; rfl)); intro w18 hw; have hg : wr.grownBy w18 (some go16) := (by rw [hw]; exact HP17.2); have hp_ : Kd.R (Kd.int .i64) 3 w18 w.heap.size (fun _ => True) (.slice (some ⟨go16, 0, none⟩) x8_2.length co11) y430 := (by rw [hw, Ny430.out]; exact HP17.1); clear HP17; have n0_ := Aside0.mk (Kd.S_after (v := (.slice (some ⟨go16, 0, none⟩) x8_2.length co11)) (v1 := (.slice (some ⟨go16, 0, none⟩) x8_2.length co11)) (ok := (fun _ => True)) (by (with_reducible repeat (first | apply Kd.S_alloc | apply Kd.S_drewN | apply Kd.S_drew)); exact Kd.S_mono HO_6.out (fun _ hk => ⟨trivial, hk⟩)) hg (.inl rfl)); have n1_ := Aside0.mk (hp_); have n2_ := Aside0.mk ((by rw [hw]; exact below_set (HB.out) GB16.out : Below w.heap.size w w18)); clear HO_6; clear HO_8; clear HB; have HO_6 := n0_; have HO_8 := n1_; have HB := n2_; clear n0_ n1_ n2_; clear hg hw hp_))
            (try simp only [← hl8_2])
            go_roundg k2
            case measure => have := HK1.out; have := HK2.out; omega
            case rel => exact ⟨(y430), (wrap64 (x29_2 + 1)), FR, H', ⟨by have := HK1.out; have := HK2.out; omega⟩, ⟨by (try simp only [hl8_2]); (with_reducible repeat (first | apply Kd.S_alloc | apply Kd.S_drewN | apply Kd.S_drew)); exact Kd.S_mono HO_6.out (fun _ hk => hk.2)⟩, ⟨by (try simp only [hl8_2]); (with_reducible repeat (first | apply Kd.R_alloc | apply Kd.R_drewN | apply Kd.R_drew)); exact HO_8.out⟩, ⟨(BB HB.out)⟩⟩
           ·rw [if_neg c15] at H
            exact absurd H (by simp)
          ·rw [if_neg c14] at H
           exact absurd H (by simp)
         ·rw [if_neg c12] at H
          have c12b0 : decide (x29_2 < (y426.length : Int)) = false := decide_eq_false c12
          (try (have c12b0_hl8_2 := c12b0; rw [hl8_2] at c12b0_hl8_2))
          clear c12
          by_cases c19 : x6_1.length < 5864062014805
          ·rw [if_pos c19] at H
           have LMc19 := Aside0.mk c19
           clear c19
           obtain ⟨y431, hy431⟩ : ∃ y_ : List (List Int), y_ = (x6_1 ++ [x8_2]) := ⟨_, rfl⟩
           replace H : (impl_CodeOf.l0 k2 t420 t421 y431 (wrap64 (x7_1 + 1))) = some r := by first | (rw [hy431]; with_reducible exact H) | (have H2_ := (Option.bind_some _ _).symm.trans H; rw [hy431]; with_reducible exact H2_) | (have H2_ := (Option.bind_some _ _).symm.trans H; with_reducible exact H2_) | with_reducible exact H | (rw [hy431]; exact H) | exact H
           have Ny431 := Aside0.mk hy431
           clear hy431
           have H' := Aside0.mk H
           clear H
           go_wp2_with (first | ((with_reducible refine gate_builtin (b := .append) (xs := #[.tmp 42, .tmp 44]) rfl ?_); at_builtin; refine Kd.S_append (Kd.slice 3 (Kd.int .i64)) (w0 := w) w.heap.size rfl (.tmp 42) (.tmp 44) 50 52 (.slice none 0 0) 24 rfl Try.underlying50 info52 rfl (by decide) (by omega) u6 x6_1 x8_2 [.slice Ao11 x8_2.length co11] (fun _ => True) (fun k_ => some k_ = (.slice Ao11 x8_2.length co11 : Value).ownBlock) rfl rfl ?aP (fun k_ hk_ => ((Kd.R_mono (ok' := fun k_ => ((fun _ => True)) k_ ∧ some k_ ≠ (u6 : Value).ownBlock) (Kd.R_apart' (HO_8.out) (Kd.S_typed HO_6.out) (by decide)) (fun k_ hk => ⟨trivial, hk.2⟩))).1 k_ hk_.symm) ?aF ?aO ?aB ?aS ?aL ?_; (case aP => exact Kd.M_row (Kd.R_mono (Kd.R_tight rfl (Kd.R_mono (ok' := fun k_ => ((fun _ => True)) k_ ∧ some k_ ≠ (u6 : Value).ownBlock) (Kd.R_apart' (HO_8.out) (Kd.S_typed HO_6.out) (by decide)) (fun k_ hk => ⟨trivial, hk.2⟩))) (fun _ h_ => h_))); (case aB => exact (BB HB.out)); (case aF => exact (fun _ _ => trivial)); (case aO => exact (by (with_reducible repeat (first | apply Kd.S_alloc | apply Kd.S_drewN | apply Kd.S_drew)); exact Kd.S_mono HO_6.out (fun k_ hk => ⟨trivial, fun e_ => hk e_⟩))); (case aS => exact (below_size (BB HB.out))); (case aL => have := LMc19.out; omega); intro v432 w20 ho hb hg hat; rw [← Ny431.out] at ho; have HO433 := Aside0.mk (ho); replace HB := Aside0.mk (hb); clear HO_6; clear HO_8; clear ho hb hg hat))
           (try simp only [← hl8_2])
           go_roundg k2
           case measure => have := HK1.out; have := HK2.out; omega
           case rel => exact ⟨(y431), (wrap64 (x7_1 + 1)), FR, H', ⟨by have := HK1.out; have := HK2.out; omega⟩, ⟨by (try simp only [hl8_2]); (with_reducible repeat (first | apply Kd.S_alloc | apply Kd.S_drewN | apply Kd.S_drew)); exact HO433.out⟩, ⟨(BB HB.out)⟩⟩
          ·rw [if_neg c19] at H
           exact absurd H (by simp)
      ·rw [if_neg c8] at H
       exact absurd H (by simp)
     ·rw [if_neg c7] at H
      exact absurd H (by simp)
    ·rw [if_neg c6] at H
     have c6b0 : decide (x7_1 < t421) = false := decide_eq_false c6
     clear c6
     obtain rfl := Option.some.inj H
     go_wp2
     go_ret
     exact ⟨_, ER, by (with_reducible repeat (first | apply Kd.S_alloc | apply Kd.S_drewN | apply Kd.S_drew)); exact HO_6.out, (BB HB.out)⟩
 ·replace c3 := Bool.eq_false_iff.mpr c3
  subst c3
  have H1 : (some ([] : List (List Int))) = some r := by rw [if_neg (show ¬ (false = true) by decide)] at H; exact H
  clear H
  have H := H1
  clear H1
  obtain rfl := Option.some.inj H
  go_enter Try.func30, Try.ntmps30
  go_wp2_with (first | ((with_reducible refine gate_callee (f := 28) rfl ?_); refine GL (some 12) rfl rfl Try.func28 #[.int .i64 a0] rfl ?_; (with_reducible refine (impl_SchemaOf.calls a0 t420 t421 false _ A2.out).mono ?_); rintro e w' ⟨rfl, ⟨nd, rfl⟩⟩; refine ⟨_, rfl, ?_⟩))
  go_ret
  exact ⟨_, ER, by first | exact Kd.S_nil _ _ _ _ _ | exact Kd.N_nil _ _ _ _ _ | exact Kd.V_nil _ _ _ _ _ | exact Kd.Q_nil _ _ _ _ _ | exact Kd.R_nil _ _ _ _ _, (BB HB.out)⟩

end Go.Proofs.Ytahimindlnkmoaa.Pr

namespace Go.Proofs.Ytahimindlnkmoaa.Pr
open Go.RowKit Go.Proofs.YtahimindlnkmoaaW.PrintWords Go.Proofs.YtahimindlnkmoaaW.PrintLast Go.Proofs.YtahimindlnkmoaaW.PrintMore
set_option linter.unusedVariables false
set_option linter.unusedSimpArgs false
open Go.Lib Go.Shelf
theorem u8_reps {w : World} {base : Nat} {ok : Nat → Prop} : ∀ (xs : List Int) (cs : List Value), Reps ((Kd.int .u8).M w base ok) 1 xs cs → cs = xs.map (Value.int .u8)
  | [], cs, h => List.eq_nil_of_length_eq_zero (by rw [h.1]; rfl)
  | x :: s, cs, h => by
    have h0 : (cs.drop (0 * 1)).take 1 = [.int .u8 x] := h.2 0 x rfl
    rw [Nat.zero_mul, List.drop_zero] at h0
    have ht : Reps ((Kd.int .u8).M w base ok) 1 s (cs.drop 1) := ⟨by rw [List.length_drop, h.1, List.length_cons]; omega, fun j p hj => by
      have := h.2 (j + 1) p (by simpa using hj)
      rw [List.drop_drop, show 1 + j * 1 = (j + 1) * 1 by omega]
      exact this⟩
    have := u8_reps s _ ht
    rw [List.map_cons, ← this]
    have e : cs = cs.take 1 ++ cs.drop 1 := (List.take_append_drop 1 cs).symm
    rw [h0] at e
    exact e
theorem u8_buf {W : World} {base : Nat} {ok : Nat → Prop} {v : Value} {xs : List Int} (h : Kd.R (Kd.int .u8) 5 W base ok v xs) (hb : ∃ b, v.ownBlock = some b ∧ base ≤ b) : ∃ g cap, v = .slice (some ⟨g, 0, none⟩) xs.length cap ∧ base ≤ g ∧ Buf W g xs.length (fun j => xs.getD j 0) := by
  obtain ⟨h0, inner, ho, hr⟩ := h
  rcases ho.2 with ⟨rfl, hn⟩ | ⟨g, cap, cur, rfl, hb, hg, hn, hm, hs, ht⟩
  · obtain ⟨b, hb, _⟩ := hb
    simp [Value.ownBlock] at hb
  · refine ⟨g, cap, rfl, hb, fun j hj => ⟨?_, by simp [World.frozen?, hg]⟩⟩
    have e := u8_reps _ _ hr
    rw [show xs.length * (Kd.int .u8).sz = xs.length from Nat.mul_one _] at ht
    rw [e] at ht
    have h1 : (cur.toList.take xs.length)[j]? = (xs.map (Value.int .u8))[j]? := by rw [ht]
    rw [List.getElem?_take_of_lt hj] at h1
    simp only [World.cell?, hg, Option.isSome_none, Bool.false_eq_true, if_false]
    rw [← Array.getElem?_toList, h1, List.getElem?_map, List.getElem?_eq_getElem hj, List.getD_eq_getElem?_getD, List.getElem?_eq_getElem hj]
    rfl
theorem buf_zero {W : World} {g n m : Nat} (h : Buf W g n (fun j => (List.replicate m (0 : Int)).getD j 0)) : Buf W g n (fun _ => 0) := fun j hj => by
  have h1 := h j hj
  have e : (List.replicate m (0 : Int)).getD j 0 = 0 := by
    rw [List.getD_eq_getElem?_getD, List.getElem?_replicate]
    split <;> rfl
  exact ⟨h1.1.trans (by show some (Value.int .u8 ((List.replicate m (0 : Int)).getD j 0)) = _; rw [e]), h1.2⟩
theorem copy_buf (W : World) (g n cap : Nat) (a : ByteArray) (ty : TypeId) (hle : a.size ≤ n) (h : Buf W g n (fun _ => 0)) :
    ∃ W2, (Builtin.copy_ #[58, 9] ty #[.slice (some ⟨g, 0, none⟩) n cap, .string a]).run Try.prog W = .ok (goInt a.size) W2 ∧ Buf W2 g n (btN a) ∧ ∀ B w0, Below B w0 W → B ≤ g → Below B w0 W2 := by
  have hsz : ∀ w, (Go.sizeOf 5).run Try.prog w = .ok 1 w := fun w => by
    obtain ⟨i0, hi, hzz⟩ := Option.map_eq_some_iff.1 info5
    simp only [Prod.mk.injEq] at hzz
    simp [sizeOf, typeInfo, hi, hzz.2.1]
  have hc := run_copy_string W 58 9 ty 5 g 0 n cap a Try.underlying58 hsz hle (fun j hj => by rw [Nat.zero_add, (h j (by omega)).1]; rfl) (fun j hj => by rw [Nat.zero_add]; exact (h j (by omega)).2)
  have hl : (a.data.toList.map fun x => Value.int .u8 (x.toNat : Int)).length = a.size := by rw [List.length_map]; rfl
  refine ⟨_, hc, fun j hj => ⟨?_, ?_⟩, fun B w0 hB hg => ?_⟩
  · by_cases hj2 : j < a.size
    · have := World.cell?_setCells_in g (a.data.toList.map fun x => Value.int .u8 (x.toNat : Int)) 0 W (fun j hj => by rw [Nat.zero_add, (h j (by rw [hl] at hj; omega)).1]; rfl) j (by rw [hl]; exact hj2)
      rw [Nat.zero_add] at this
      rw [this]
      simp [btN, List.getD_eq_getElem?_getD, hj2]
    · rw [World.cell?_setCells_out g _ 0 W _ (fun _ _ => Or.inr (by rw [hl]; show 0 + a.size ≤ j; omega)), (h j hj).1, btN_end a j (by omega)]
  · rw [World.frozen?_setCells]
    exact (h j hj).2
  · generalize (a.data.toList.map fun x => Value.int .u8 (x.toNat : Int)) = vs
    have : ∀ (vs : List Value) (o : Nat) (w : World), Below B w0 w → Below B w0 (w.setCells g o vs) := by
      intro vs
      induction vs with
      | nil => intro o w h; exact h
      | cons v r ih => intro o w h; exact ih (o + 1) _ (h.setCell hg v)
    exact this vs 0 W hB
def impl_AddText.f (a0 a1 : ByteArray) : Option ByteArray := if a0.size ≤ 1048576 ∧ a1.size ≤ 1048576 then some (addT a0 a1) else none
set_option maxHeartbeats 8000000 in
set_option maxRecDepth 100000 in
theorem impl_AddText.calls (a0 a1 : ByteArray) (r : ByteArray) (w : World) (h : impl_AddText.f a0 a1 = some r) :
    Calls Try.prog 56 #[.string a0, .string a1] w fun e w' => e = .returned (.string r) ∧ Below w.heap.size w w' := by
  unfold impl_AddText.f at h
  by_cases hz : a0.size ≤ 1048576 ∧ a1.size ≤ 1048576
  case neg => rw [if_neg hz] at h; cases h
  rw [if_pos hz] at h
  obtain ⟨hz0, hz1⟩ := hz
  have HR : Aside0 (r = addT a0 a1) := ⟨(Option.some.inj h).symm⟩
  clear h
  have mixed : Try.prog.follows .mixedOrders = true := by kernel_rfl
  have u58 := Try.underlying58
  obtain ⟨n, hn⟩ : ∃ n : Nat, max (a0.size : Int) (a1.size : Int) = (n : Int) := ⟨max a0.size a1.size, by omega⟩
  have HN : Aside0 (n = max a0.size a1.size) := ⟨by omega⟩
  have hn0 : a0.size ≤ n := by have := HN.out; omega
  have hn1 : a1.size ≤ n := by have := HN.out; omega
  have hn2 : n ≤ 1048576 := by have := HN.out; omega
  go_enter Try.func56, Try.ntmps56
  go_upto_region 2 with (first | ((with_reducible refine gate_dst (N := 12) rfl ?_); refine Kd.R_make (Kd.int .u8) _ 5 rfl (N := 12) rfl 58 _ _ rfl (n : Int) (by first | rfl | (simp [Act.eval, Act.put, hn]; done)) (by first | rfl | (simp [Act.eval, Act.put, hn]; done)) Try.underlying58 (.int .u8 0) 1 info5 rfl (by decide) (by omega) 0 (ok := fun _ => True) (okp := fun _ => True) rfl (fun _ hk => hk) trivial (by omega) (by rw [Int.toNat_natCast]; omega) (Below.refl _ _) (Nat.le_refl _) ?_; intro v1 W1 ho1 hb1 hg_ hnew_; clear hg_; obtain ⟨g, cap, rfl, hbg, hbuf⟩ := u8_buf ho1 hnew_; clear ho1 hnew_; rw [List.length_replicate, Int.toNat_natCast] at hbuf ⊢; have HBU := Aside0.mk (buf_zero hbuf); have HB1 := Aside0.mk hb1; have GE := Aside0.mk hbg; clear hb1 hbg hbuf))
  obtain ⟨W2, hcp, hb2, hbw⟩ := copy_buf W1 g n cap a0 3 hn0 HBU.out
  have HU0 := Aside0.mk hb2
  have HB0 := Aside0.mk (hbw _ _ HB1.out GE.out)
  clear hb2 hbw HB1 HBU
  have HU1 : Aside0 (Buf W2 g n (fun j => xB (btN a0 j) (if j < 0 then btN a1 j else 0))) := ⟨fun j hj => by
    show _ = some (Value.int .u8 (xB (btN a0 j) (if j < 0 then btN a1 j else 0))) ∧ _
    rw [if_neg (Nat.not_lt_zero _), xB_zero _ (btN_lo a0 j) (btN_hi a0 j)]
    exact HU0.out j hj⟩
  clear HU0
  go_wp2_with (first | (at_builtin; refine wpList_copy_run _ rfl _ _ 58 9 rfl _ _ rfl rfl hcp ?_))
  clear hcp
  go_loopg [6] a1.size (fun gg s6 wr => ∃ i : Nat, s6 = .int .i64 i ∧ i ≤ a1.size ∧ a1.size - i ≤ gg ∧ Aside0 (Buf wr g n (fun j => xB (btN a0 j) (if j < i then btN a1 j else 0))) ∧ Aside0 (Below w.heap.size w wr))
  case atStart => exact ⟨0, rfl, Nat.zero_le _, Nat.sub_le _ _, HU1, HB0⟩
  case round =>
    clear HU1 HB0
    obtain ⟨i, rfl, hin, hgg, HU, HB⟩ := hrel
    by_cases hlt : i < a1.size
    · have hltz : (i : Int) < (a1.size : Int) := by omega
      have hixz : (i : Int) < (n : Int) := by omega
      obtain ⟨hc, hf⟩ := HU.out i (by omega)
      replace hc : wr.cell? ⟨g, i, none⟩ = some (.int .u8 (xB (btN a0 i) (if i < i then btN a1 i else 0))) := hc
      rw [if_neg (Nat.lt_irrefl _), xB_zero _ (btN_lo a0 i) (btN_hi a0 i)] at hc
      have hu : btN a1 i = ((a1[i]'hlt).toNat : Int) := btN_get a1 i hlt
      have HU2 : Aside0 (Buf (wr.setCell ⟨g, i, none⟩ (.int .u8 (Go.bits .xor .u8 (btN a0 i) ((a1[i]'hlt).toNat : Int)))).drew g n (fun j => xB (btN a0 j) (if j < i + 1 then btN a1 j else 0))) := ⟨Buf.drew (HU.out.set i _ _ (by
        show xB (btN a0 i) (if i < i + 1 then btN a1 i else 0) = _
        rw [if_pos (Nat.lt_succ_self _), hu]; rfl) (fun j hj => by
        show xB (btN a0 j) (if j < i + 1 then btN a1 j else 0) = xB (btN a0 j) (if j < i then btN a1 j else 0)
        by_cases h1 : j < i
        · rw [if_pos h1, if_pos (by omega)]
        · rw [if_neg h1, if_neg (by omega)]))⟩
      have HB2 : Aside0 (Below w.heap.size w (wr.setCell ⟨g, i, none⟩ (.int .u8 (Go.bits .xor .u8 (btN a0 i) ((a1[i]'hlt).toNat : Int)))).drew) := ⟨(HB.out.setCell (p := ⟨g, i, none⟩) GE.out _).drew⟩
      clear HU HB hu
      go_wp2_with fail
      go_big_region_o
      go_wp2
      go_roundg (a1.size - (i + 1))
      case measure => omega
      case rel => exact ⟨i + 1, by go_num, hlt, Nat.le_refl _, HU2, HB2⟩
    · have hltz : ¬ (i : Int) < (a1.size : Int) := by omega
      obtain rfl : i = a1.size := by omega
      have hcv2 := HU.out.conv 58 5 Try.underlying58 Try.underlying5 cap 9 Try.underlying9
      have e : strOfNums ((List.range n).map fun j => xB (btN a0 j) (if j < a1.size then btN a1 j else 0)) = r := by
        rw [HR.out, HN.out]
        unfold addT
        congr 1
        refine List.map_congr_left fun j _ => ?_
        by_cases h1 : j < a1.size
        · rw [if_pos h1]
        · rw [if_neg h1, btN_end a1 j (by omega)]
      rw [e] at hcv2
      clear e
      go_wp2
      go_ret
      exact ⟨rfl, HB.out⟩
end Go.Proofs.Ytahimindlnkmoaa.Pr

namespace Go.Proofs.Ytahimindlnkmoaa.Pr
open Go.RowKit Go.Proofs.YtahimindlnkmoaaW.PrintWords Go.Proofs.YtahimindlnkmoaaW.PrintLast Go.Proofs.YtahimindlnkmoaaW.PrintMore
attribute [local go_sem] max2_int min2_int max_two min_two max_three min_three max_four min_four
set_option linter.unusedVariables false
set_option linter.unusedSimpArgs false
def impl_MulText.l0 : Nat → Int → ByteArray → List Int → Int → Int → Option (ByteArray)
 | 0, _, _, _, _, _ => none
 | k + 1, x0, x1, x5, x11, x12 => if x12 < x11 then (if 0 ≤ x12 then (if x12 < (x1.size : Int) then ((impl_MulG.f k x0 (wrap64 (bt x1 x12))).bind fun t441 => (if x12 < (x5.length : Int) then (impl_MulText.l0 k x0 x1 (x5.set (x12 : Int).toNat ((t441) % 256)) x11 (wrap64 (x12 + 1))) else (none))) else (none)) else (none)) else (some (strOfNums x5))
def impl_MulText.f (k : Nat) (a0 : Int) (a1 : ByteArray) : Option (ByteArray) := if 0 ≤ (a1.size : Int) then (if ((a1.size : Int) : Int).toNat ≤ 281474976710656 then ((some (List.replicate ((a1.size : Int) : Int).toNat 0 : List Int)).bind fun y438 => (impl_MulText.l0 k a0 a1 y438 (y438.length : Int) 0)) else (none)) else (none)
set_option maxHeartbeats 8000000 in
set_option maxRecDepth 100000 in
theorem impl_MulText.calls (k : Nat) (a0 : Int) (a1 : ByteArray) (r : ByteArray) (w : World) (h : impl_MulText.f k a0 a1 = some r) :
  Calls Try.prog 57 #[.int .i64 a0, .string a1] w fun e w' => e = .returned (.string r) ∧ Below w.heap.size w w' := by
 have HB := Aside0.mk (Below.refl w.heap.size w)
 have H : (if 0 ≤ (a1.size : Int) then (if ((a1.size : Int) : Int).toNat ≤ 281474976710656 then ((some (List.replicate ((a1.size : Int) : Int).toNat 0 : List Int)).bind fun y438 => (impl_MulText.l0 k a0 a1 y438 (y438.length : Int) 0)) else (none)) else (none)) = some r := h
 clear h
 by_cases c3 : 0 ≤ (a1.size : Int)
 ·rw [if_pos c3] at H
  have c3b0 := eq_true c3
  have c3b1 : decide (0 ≤ (a1.size : Int)) = true := decide_eq_true c3
  clear c3
  by_cases c4 : ((a1.size : Int) : Int).toNat ≤ 281474976710656
  ·rw [if_pos c4] at H
   have c4b0 := eq_true c4
   have c4b1 : decide (((a1.size : Int) : Int).toNat ≤ 281474976710656) = true := decide_eq_true c4
   clear c4
   obtain ⟨y438, hy438⟩ : ∃ y_ : List Int, y_ = (List.replicate ((a1.size : Int) : Int).toNat 0) := ⟨_, rfl⟩
   replace H : (impl_MulText.l0 k a0 a1 y438 (y438.length : Int) 0) = some r := by first | (rw [hy438]; with_reducible exact H) | (have H2_ := (Option.bind_some _ _).symm.trans H; rw [hy438]; with_reducible exact H2_) | (have H2_ := (Option.bind_some _ _).symm.trans H; with_reducible exact H2_) | with_reducible exact H | (rw [hy438]; exact H) | exact H
   have Ny438 := Aside0.mk hy438
   clear hy438
   have H' := Aside0.mk H
   clear H
   go_enter Try.func57, Try.ntmps57
   go_wp2_with (first | ((with_reducible refine gate_dst (N := 9) rfl ?_); refine Kd.R_make (Kd.int .u8) _ 5 rfl (N := 9) rfl 58 _ _ rfl (a1.size : Int) rfl rfl Try.underlying58 (.int .u8 0) 1 info5 rfl (by decide) (by omega) 0 (ok := fun _ => True) (okp := fun _ => True) rfl (fun _ hk => hk) trivial DT (Nat.le_trans (Nat.mul_le_mul_right _ (DT : (a1.size : Int).toNat ≤ 281474976710656)) (by omega)) (Below.refl _ _) (Nat.le_refl _) ?_; intro v439 w5 ho6 hb hg_ hnew_; clear hg_ hnew_; (first | rw [← Ny438.out] at ho6 | (simp only [Int.reduceToNat] at ho6; rw [← Ny438.out] at ho6)); have HO440 := Aside0.mk (Kd.R_lower ho6 (below_size (BB HB.out))); replace HB := Aside0.mk (below_step (BB HB.out) hb); clear hb ho6; obtain ⟨Ao7, co7, eo7⟩ := Kd.R_slice HO440.out; subst eo7))
   go_loopg [12] k (fun kq v12 w' => ∃ (x5_1 : List Int) (x12_1 : Int), v12 = .int .i64 x12_1 ∧ Aside0 (impl_MulText.l0 kq a0 a1 x5_1 (y438.length : Int) x12_1 = some r) ∧ Aside0 (kq ≤ k) ∧ Aside0 (Kd.R (Kd.int .u8) 5 w' w.heap.size (fun _ => True) (.slice Ao7 y438.length co7) x5_1) ∧ Aside0 (Below w.heap.size w w'))
   case atStart => exact ⟨(y438), (0), FR, H', ⟨Nat.le_refl _⟩, ⟨(RR HO440.out)⟩, ⟨(BB HB.out)⟩⟩
   case round =>
    clear H'
    try clear p2
    try clear c3
    try clear c3b0
    try clear c3b1
    try clear c4
    try clear c4b0
    try clear c4b1
    try clear c5
    obtain ⟨x5_1, x12_1, rfl, HA, HK1, HO_5, HB⟩ := hrel
    have hl5_1 := (Kd.R_reads' HO_5.out).1
    rw [hl5_1] at HO_5
    (try simp only [hl5_1])
    cases gk with
    | zero => exact absurd HA.out (by simp [impl_MulText.l0])
    | succ k1 =>
     have H := HA.out
     clear HA
     simp only [impl_MulText.l0] at H
     by_cases c8 : x12_1 < (y438.length : Int)
     ·rw [if_pos c8] at H
      have c8b0 : decide (x12_1 < (y438.length : Int)) = true := decide_eq_true c8
      (try (have c8b0_hl5_1 := c8b0; rw [hl5_1] at c8b0_hl5_1))
      clear c8
      by_cases c9 : 0 ≤ x12_1
      ·rw [if_pos c9] at H
       have c9b0 : decide (0 ≤ x12_1) = true := decide_eq_true c9
       clear c9
       by_cases c10 : x12_1 < (a1.size : Int)
       ·rw [if_pos c10] at H
        have c10b0 : decide (x12_1 < (a1.size : Int)) = true := decide_eq_true c10
        clear c10
        replace H := Option.bind_eq_some_iff.mp H
        obtain ⟨t441, A120, H⟩ := H
        replace H : (if x12_1 < (x5_1.length : Int) then (impl_MulText.l0 k1 a0 a1 (x5_1.set (x12_1 : Int).toNat ((t441) % 256)) (y438.length : Int) (wrap64 (x12_1 + 1))) else (none)) = some r := H
        have A12 := Aside0.mk A120
        clear A120
        by_cases c13 : x12_1 < (x5_1.length : Int)
        ·rw [if_pos c13] at H
         have c13b0 : decide (x12_1 < (x5_1.length : Int)) = true := decide_eq_true c13
         (try (have c13b0_hl5_1 := c13b0; rw [hl5_1] at c13b0_hl5_1))
         clear c13
         obtain ⟨y442, hy442⟩ : ∃ y_ : List Int, y_ = (x5_1.set (x12_1 : Int).toNat ((t441) % 256)) := ⟨_, rfl⟩
         replace H : (impl_MulText.l0 k1 a0 a1 y442 (y438.length : Int) (wrap64 (x12_1 + 1))) = some r := by first | (rw [hy442]; with_reducible exact H) | (have H2_ := (Option.bind_some _ _).symm.trans H; rw [hy442]; with_reducible exact H2_) | (have H2_ := (Option.bind_some _ _).symm.trans H; with_reducible exact H2_) | with_reducible exact H | (rw [hy442]; exact H) | exact H
         have Ny442 := Aside0.mk hy442
         clear hy442
         have H' := Aside0.mk H
         clear H
         have p11 : 0 ≤ (x12_1 : Int) := DT
         have q11 : x12_1 < (a1.size : Int) := DT
         have hx11 := bt_at a1 x12_1
         replace p11 := eq_true p11
         replace q11 := eq_true q11
         go_wp2_with (first | ((with_reducible refine gate_callee (f := 66) rfl ?_); refine GL (some 22) rfl rfl Try.func66 #[.int .i64 a0, .int .i64 (wrap64 (bt a1 x12_1))] rfl ?_; (with_reducible refine (impl_MulG.calls k1 a0 (wrap64 (bt a1 x12_1)) t441 _ A12.out).mono ?_); rintro e w' ⟨rfl, ⟨nd, rfl⟩⟩; refine ⟨_, rfl, ?_⟩; (try (rw [drewN_self wr]; generalize hq_ : World.drewN wr _ = wr; have n0_ : Aside0 (Kd.R (Kd.int .u8) 5 wr w.heap.size (fun _ => True) (.slice Ao7 x5_1.length co7) x5_1) := ⟨by rw [← hq_]; exact (RR HO_5.out)⟩; have n1_ : Aside0 (Below w.heap.size w wr) := ⟨by rw [← hq_]; exact (BB HB.out)⟩; clear HO_5 HB hq_; have HO_5 := n0_; have HB := n1_; clear n0_ n1_)); have p14 : 0 ≤ (x12_1 : Int) := DT; have q14 : (x12_1 : Int) < ((x5_1.length : Int) : Int) := DT; obtain ⟨go14, co14, eo14, gb14, gl14, cl14, HG14⟩ := Kd.R_form HO_5.out (by omega); (first | cases eo14 | (injection eo14 with ea_ en_ ec_; (first | subst ea_ | (injection ea_ with ea_; subst ea_)); subst ec_; clear en_)); have GB14 := Aside0.mk gb14; have GG14 := Aside0.mk HG14; clear gb14 gl14 HG14; obtain ⟨hx14_0, hf14_0⟩ := Kd.R_celln 0 HO_5.out (x12_1 : Int) p14 q14; replace p14 := eq_true p14; replace q14 := eq_true q14; obtain ⟨hy15_, hz15_⟩ := Kd.R_celln 0 HO_5.out (x12_1 : Int) DT DT; have HP15 := Kd.R_putg HO_5.out (x12_1 : Int) ((t441) % 256)) | ((with_reducible refine gate_store (t := 5) (p := 24) rfl ?_); refine store_event (t := 5) (p := 24) (v := ?vo_w16) (w1 := (wr.setCell ⟨go14, (x12_1 : Int).toNat, none⟩ (.int .u8 ((t441) % 256)))) ?hg ?ho ?hn ?hr ?_; (case ho => rfl); (case hg => rfl); (case hn => rfl); (case hr => first | (go_simp; done) | (go_simp; rfl)); intro w16 hw; have hg : wr.grownBy w16 (some go14) := (by rw [hw]; exact HP15.2); have hp_ : Kd.R (Kd.int .u8) 5 w16 w.heap.size (fun _ => True) (.slice (some ⟨go14, 0, none⟩) x5_1.length co7) y442 := (by rw [hw, Ny442.out]; exact HP15.1); clear HP15; have n0_ := Aside0.mk (hp_); have n1_ := Aside0.mk ((by rw [hw]; exact below_set (HB.out) GB14.out : Below w.heap.size w w16)); clear HO_5; clear HB; have HO_5 := n0_; have HB := n1_; clear n0_ n1_; clear hg hw hp_))
         (try simp only [← hl5_1])
         go_roundg k1
         case measure => have := HK1.out; omega
         case rel => exact ⟨(y442), (wrap64 (x12_1 + 1)), FR, H', ⟨by have := HK1.out; omega⟩, ⟨by (try simp only [hl5_1]); (with_reducible repeat (first | apply Kd.R_alloc | apply Kd.R_drewN | apply Kd.R_drew)); exact HO_5.out⟩, ⟨(BB HB.out)⟩⟩
        ·rw [if_neg c13] at H
         exact absurd H (by simp)
       ·rw [if_neg c10] at H
        exact absurd H (by simp)
      ·rw [if_neg c9] at H
       exact absurd H (by simp)
     ·rw [if_neg c8] at H
      have c8b0 : decide (x12_1 < (y438.length : Int)) = false := decide_eq_false c8
      (try (have c8b0_hl5_1 := c8b0; rw [hl5_1] at c8b0_hl5_1))
      clear c8
      obtain rfl := Option.some.inj H
      have hcv17 := own_string (P := Try.prog) Try.underlying58 Try.underlying5 Try.underlying9 (Kd.own_of_R HO_5.out)
      go_wp2
      go_ret
      exact ⟨ER, (BB HB.out)⟩
  ·rw [if_neg c4] at H
   exact absurd H (by simp)
 ·rw [if_neg c3] at H
  exact absurd H (by simp)

end Go.Proofs.Ytahimindlnkmoaa.Pr

namespace Go.Proofs.Ytahimindlnkmoaa.Pr
open Go.RowKit Go.Proofs.YtahimindlnkmoaaW.PrintWords Go.Proofs.YtahimindlnkmoaaW.PrintLast Go.Proofs.YtahimindlnkmoaaW.PrintMore
attribute [local go_sem] max2_int min2_int max_two min_two max_three min_three max_four min_four
set_option linter.unusedVariables false
set_option linter.unusedSimpArgs false
mutual
def impl_ApplyM.j0 : Nat → List (List Int) → List ByteArray → Bool → Option (List ByteArray)
 | 0, _, _, _ => none
 | k + 1, x0, x1, x22 => if x22 = true then (some ([] : List ByteArray)) else (impl_ApplyM.l0 k x1 ([] : List ByteArray) x0 (x0.length : Int) 0)
def impl_ApplyM.l0 : Nat → List ByteArray → List ByteArray → List (List Int) → Int → Int → Option (List ByteArray)
 | 0, _, _, _, _, _ => none
 | k + 1, x1, x5, x23, x24, x25 => if x25 < x24 then (if 0 ≤ x25 then (if x25 < (x23.length : Int) then (impl_ApplyM.l1 k x1 x5 (⟨#[]⟩ : ByteArray) x23 x24 x25 (rd_L9 x23 x25) ((rd_L9 x23 x25).length : Int) 0) else (none)) else (none)) else (some x5)
def impl_ApplyM.l1 : Nat → List ByteArray → List ByteArray → ByteArray → List (List Int) → Int → Int → List Int → Int → Int → Option (List ByteArray)
 | 0, _, _, _, _, _, _, _, _, _ => none
 | k + 1, x1, x5, x8, x23, x24, x25, x29, x30, x31 => if x31 < x30 then (if 0 ≤ x31 then (if x31 < (x29.length : Int) then (if x31 < (x1.length : Int) then ((impl_MulText.f k (rd x29 x31) (rdOf ByteArray.empty x1 x31)).bind fun t448 => ((impl_AddText.f x8 t448).bind fun t449 => (impl_ApplyM.l1 k x1 x5 t449 x23 x24 x25 x29 x30 (wrap64 (x31 + 1))))) else (none)) else (none)) else (none)) else (if x5.length < 8796093022208 then (impl_ApplyM.l0 k x1 (x5 ++ [x8]) x23 x24 (wrap64 (x25 + 1))) else (none))
end
def impl_ApplyM.f (k : Nat) (l0 : List (List Int)) (l1 : List ByteArray) : Option (List ByteArray) := (impl_MatrixOk.f l0).bind fun t443 => (if t443 = true then (if 0 < (l0.length : Int) then (impl_ApplyM.j0 k l0 l1 (((rd_L9 l0 0).length : Int) != (l1.length : Int))) else (none)) else (impl_ApplyM.j0 k l0 l1 true))
set_option maxHeartbeats 8000000 in
set_option maxRecDepth 100000 in
theorem impl_ApplyM.calls (k : Nat) (A0 : Option Addr) (c0 : Nat) (l0 : List (List Int)) (A1 : Option Addr) (c1 : Nat) (l1 : List ByteArray) (r : List ByteArray) (w : World) (hr0 : Kd.C (Kd.slice 3 (Kd.int .i64)) w A0 l0.length l0) (hc0 : l0.length ≤ c0) (hr1 : Kd.C Kd.string w A1 l1.length l1) (hc1 : l1.length ≤ c1) (h : impl_ApplyM.f k l0 l1 = some r) :
  Calls Try.prog 32 #[.slice A0 l0.length c0, .slice A1 l1.length c1] w fun e w' => ∃ v0_ : Value, e = .returned (v0_) ∧ Kd.R Kd.string 9 w' w.heap.size (fun _ => True) v0_ r ∧ Below w.heap.size w w' := by
 have HR0 := Aside0.mk hr0
 have HC0 := Aside0.mk hc0
 clear hr0 hc0
 have HR1 := Aside0.mk hr1
 have HC1 := Aside0.mk hc1
 clear hr1 hc1
 have HB := Aside0.mk (Below.refl w.heap.size w)
 have H : ((impl_MatrixOk.f l0).bind fun t443 => (if t443 = true then (if 0 < (l0.length : Int) then (impl_ApplyM.j0 k l0 l1 (((rd_L9 l0 0).length : Int) != (l1.length : Int))) else (none)) else (impl_ApplyM.j0 k l0 l1 true))) = some r := h
 clear h
 have HC3 := Aside0.mk H
 clear H
 go_enter Try.func32, Try.ntmps32
 go_upto_region 1 with (fail)
 go_cut [22] (fun v22 wc => ∃ (kq : Nat) (x22_2 : Bool), v22 = .bool x22_2 ∧ Aside0 (impl_ApplyM.j0 kq l0 l1 x22_2 = some r) ∧ Aside0 (kq ≤ k) ∧ Aside0 (Below w.heap.size w wc))
 case first =>
  have H := HC3.out
  clear HC3
  replace H := Option.bind_eq_some_iff.mp H
  obtain ⟨t443, A40, H⟩ := H
  replace H : (if t443 = true then (if 0 < (l0.length : Int) then (impl_ApplyM.j0 k l0 l1 (((rd_L9 l0 0).length : Int) != (l1.length : Int))) else (none)) else (impl_ApplyM.j0 k l0 l1 true)) = some r := H
  have A4 := Aside0.mk A40
  clear A40
  by_cases c5 : t443 = true
  ·subst c5
   have H1 : (if 0 < (l0.length : Int) then (impl_ApplyM.j0 k l0 l1 (((rd_L9 l0 0).length : Int) != (l1.length : Int))) else (none)) = some r := by rw [if_pos rfl] at H; exact H
   clear H
   have H := H1
   clear H1
   by_cases c6 : 0 < (l0.length : Int)
   ·rw [if_pos c6] at H
    have c6b0 : decide (0 < (l0.length : Int)) = true := decide_eq_true c6
    have c6b1 : decide (0 < l0.length) = true := decide_eq_true (by omega)
    clear c6
    (first | rw [c6b0] | (simp only [i64_w, i32_w]; rw [c6b0]) | skip)
    have H' := Aside0.mk H
    clear H
    go_wp2_with (first | ((with_reducible refine gate_callee (f := 52) rfl ?_); refine GL (some 12) rfl rfl Try.func52 #[.slice A0 l0.length c0] rfl ?_; (with_reducible refine (impl_MatrixOk.calls _ _ l0 true _ ?side1 ?side2 A4.out).mono ?_); (case side1 => exact CC (Kd.C_below HR0.out HB.out)); (case side2 => exact HC0.out); rintro e w7 ⟨rfl, hb⟩; refine ⟨_, rfl, ?_⟩; replace HB := Aside0.mk (below_step (BB HB.out) hb); (try clear hb); have p444 : 0 ≤ (0 : Int) := (by omega); have q444 : 0 < (l0.length : Int) := DT; obtain ⟨ad444, A444_0, c444_0, e444, hx444_0, hl444_0, hi444_0⟩ := at_L9 HR0.out 0 p444 q444; cases e444; have qi444 : (0 < l0.length) = True := eq_true (by omega); (try rw [show ((0 : Int)).toNat = 0 from rfl] at hx444_0); (try rw [Addr.add_zero'] at hx444_0); replace hx444_0 := (HB.out.cell (World.block_lt_of_cell? w _ hx444_0)).trans hx444_0; have HR444_0 := Aside0.mk hi444_0; have HC444_0 := Aside0.mk hl444_0; clear hi444_0 hl444_0; replace p444 := eq_true p444; replace q444 := eq_true q444))
    go_meet
    case rel => exact ⟨_, ((((rd_L9 l0 0).length : Int) != (l1.length : Int))), FR, H', ⟨by first | omega | exact Nat.le_refl _⟩, ⟨(BB HB.out)⟩⟩
   ·rw [if_neg c6] at H
    exact absurd H (by simp)
  ·replace c5 := Bool.eq_false_iff.mpr c5
   subst c5
   have H1 : (impl_ApplyM.j0 k l0 l1 true) = some r := by rw [if_neg (show ¬ (false = true) by decide)] at H; exact H
   clear H
   have H := H1
   clear H1
   have H' := Aside0.mk H
   clear H
   go_wp2_with (first | ((with_reducible refine gate_callee (f := 52) rfl ?_); refine GL (some 12) rfl rfl Try.func52 #[.slice A0 l0.length c0] rfl ?_; (with_reducible refine (impl_MatrixOk.calls _ _ l0 false _ ?side1 ?side2 A4.out).mono ?_); (case side1 => exact CC (Kd.C_below HR0.out HB.out)); (case side2 => exact HC0.out); rintro e w8 ⟨rfl, hb⟩; refine ⟨_, rfl, ?_⟩; replace HB := Aside0.mk (below_step (BB HB.out) hb); (try clear hb)))
   go_meet
   case rel => exact ⟨_, (true), FR, H', ⟨by first | omega | exact Nat.le_refl _⟩, ⟨(BB HB.out)⟩⟩
 case rest =>
  clear HC3
  try clear c1
  try clear p2
  try clear c3
  try clear c4
  try clear p4
  try clear q4
  try clear hx4
  try clear qi4
  try clear c5
  try clear c6
  try clear c6b0
  try clear c6b1
  try clear hx444_0
  try clear p444
  try clear q444
  obtain ⟨kq, x22_2, rfl, HA, HJ2, HB⟩ := hcut
  cases kq with
  | zero => exact absurd HA.out (by simp [impl_ApplyM.j0])
  | succ kj2 =>
   have H := HA.out
   clear HA
   simp only [impl_ApplyM.j0] at H
   by_cases c9 : x22_2 = true
   ·subst c9
    have H1 : (some ([] : List ByteArray)) = some r := by rw [if_pos rfl] at H; exact H
    clear H
    have H := H1
    clear H1
    obtain rfl := Option.some.inj H
    go_wp2
    go_ret
    exact ⟨_, ER, by first | exact Kd.R_nil _ _ _ _ _ | exact Kd.N_nil _ _ _ _ _ | exact Kd.V_nil _ _ _ _ _ | exact Kd.Q_nil _ _ _ _ _ | exact Kd.S_nil _ _ _ _ _, (BB HB.out)⟩
   ·replace c9 := Bool.eq_false_iff.mpr c9
    subst c9
    have H1 : (impl_ApplyM.l0 kj2 l1 ([] : List ByteArray) l0 (l0.length : Int) 0) = some r := by rw [if_neg (show ¬ (false = true) by decide)] at H; exact H
    clear H
    have H := H1
    clear H1
    have H' := Aside0.mk H
    clear H
    go_wp2
    go_loopg [5, 25] kj2 (fun kq v5 v25 w' => ∃ (x5_2 : List ByteArray) (x25_2 : Int), v25 = .int .i64 x25_2 ∧ Aside0 (impl_ApplyM.l0 kq l1 x5_2 l0 (l0.length : Int) x25_2 = some r) ∧ Aside0 (kq ≤ kj2) ∧ Aside0 (Kd.R Kd.string 9 w' w.heap.size (fun _ => True) v5 x5_2) ∧ Aside0 (Below w.heap.size w w'))
    case atStart => exact ⟨(([] : List ByteArray)), (0), FR, H', ⟨Nat.le_refl _⟩, ⟨by first | exact Kd.R_nil _ _ _ _ _ | exact Kd.N_nil _ _ _ _ _ | exact Kd.V_nil _ _ _ _ _ | exact Kd.Q_nil _ _ _ _ _ | exact Kd.S_nil _ _ _ _ _⟩, ⟨(BB HB.out)⟩⟩
    case round =>
     clear H'
     try clear c1
     try clear p2
     try clear c3
     try clear c4
     try clear p4
     try clear q4
     try clear hx4
     try clear qi4
     try clear c5
     try clear c6
     try clear c6b0
     try clear c6b1
     try clear c9
     try clear hx444_0
     try clear p2
     try clear p4
     try clear p444
     try clear q4
     try clear q444
     obtain ⟨x5_2, x25_2, rfl, HA, HK2, HO_5, HB⟩ := hrel
     cases gk with
     | zero => exact absurd HA.out (by simp [impl_ApplyM.l0])
     | succ k2 =>
      have H := HA.out
      clear HA
      simp only [impl_ApplyM.l0] at H
      by_cases c10 : x25_2 < (l0.length : Int)
      ·rw [if_pos c10] at H
       have c10b0 : decide (x25_2 < (l0.length : Int)) = true := decide_eq_true c10
       clear c10
       by_cases c11 : 0 ≤ x25_2
       ·rw [if_pos c11] at H
        have c11b0 : decide (0 ≤ x25_2) = true := decide_eq_true c11
        clear c11
        by_cases c12 : x25_2 < (l0.length : Int)
        ·rw [if_pos c12] at H
         have c12b0 : decide (x25_2 < (l0.length : Int)) = true := decide_eq_true c12
         clear c12
         have H' := Aside0.mk H
         clear H
         have p445 : 0 ≤ (x25_2 : Int) := DT
         have q445 : x25_2 < (l0.length : Int) := DT
         obtain ⟨ad445, A445_0, c445_0, e445, hx445_0, hl445_0, hi445_0⟩ := at_L9 HR0.out x25_2 p445 q445
         cases e445
         replace hx445_0 := (HB.out.cell (World.block_lt_of_cell? w _ hx445_0)).trans hx445_0
         have HR445_0 := Aside0.mk hi445_0
         have HC445_0 := Aside0.mk hl445_0
         clear hi445_0 hl445_0
         replace p445 := eq_true p445
         replace q445 := eq_true q445
         go_wp2
         go_loopg [8, 31] k2 (fun kq v8 v31 w' => ∃ (x8_3 : ByteArray) (x31_3 : Int), v8 = .string x8_3 ∧ v31 = .int .i64 x31_3 ∧ Aside0 (impl_ApplyM.l1 kq l1 x5_2 x8_3 l0 (l0.length : Int) x25_2 (rd_L9 l0 x25_2) ((rd_L9 l0 x25_2).length : Int) x31_3 = some r) ∧ Aside0 (kq ≤ k2) ∧ Aside0 (Kd.R Kd.string 9 w' w.heap.size (fun _ => True) u5 x5_2) ∧ Aside0 (Below w.heap.size w w'))
         case atStart => exact ⟨((⟨#[]⟩ : ByteArray)), (0), FR, FR, H', ⟨Nat.le_refl _⟩, ⟨(RR HO_5.out)⟩, ⟨(BB HB.out)⟩⟩
         case round =>
          clear H'
          try clear c1
          try clear p2
          try clear c3
          try clear c4
          try clear p4
          try clear q4
          try clear hx4
          try clear qi4
          try clear c5
          try clear c6
          try clear c6b0
          try clear c6b1
          try clear c9
          try clear c10
          try clear c10b0
          try clear c11
          try clear c11b0
          try clear c12
          try clear c12b0
          try clear hx444_0
          try clear hx445_0
          try clear p2
          try clear p4
          try clear p444
          try clear p445
          try clear q4
          try clear q444
          try clear q445
          obtain ⟨x8_3, x31_3, rfl, rfl, HA, HK3, HO_5, HB⟩ := hrel
          cases gk with
          | zero => exact absurd HA.out (by simp [impl_ApplyM.l1])
          | succ k3 =>
           have H := HA.out
           clear HA
           simp only [impl_ApplyM.l1] at H
           by_cases c13 : x31_3 < ((rd_L9 l0 x25_2).length : Int)
           ·rw [if_pos c13] at H
            have c13b0 : decide (x31_3 < ((rd_L9 l0 x25_2).length : Int)) = true := decide_eq_true c13
            clear c13
            by_cases c14 : 0 ≤ x31_3
            ·rw [if_pos c14] at H
             have c14b0 : decide (0 ≤ x31_3) = true := decide_eq_true c14
             clear c14
             by_cases c15 : x31_3 < ((rd_L9 l0 x25_2).length : Int)
             ·rw [if_pos c15] at H
              have c15b0 : decide (x31_3 < ((rd_L9 l0 x25_2).length : Int)) = true := decide_eq_true c15
              clear c15
              by_cases c16 : x31_3 < (l1.length : Int)
              ·rw [if_pos c16] at H
               have c16b0 : decide (x31_3 < (l1.length : Int)) = true := decide_eq_true c16
               clear c16
               replace H := Option.bind_eq_some_iff.mp H
               obtain ⟨t448, A170, H⟩ := H
               replace H : ((impl_AddText.f x8_3 t448).bind fun t449 => (impl_ApplyM.l1 k3 l1 x5_2 t449 l0 (l0.length : Int) x25_2 (rd_L9 l0 x25_2) ((rd_L9 l0 x25_2).length : Int) (wrap64 (x31_3 + 1)))) = some r := H
               have A17 := Aside0.mk A170
               clear A170
               replace H := Option.bind_eq_some_iff.mp H
               obtain ⟨t449, A180, H⟩ := H
               replace H : (impl_ApplyM.l1 k3 l1 x5_2 t449 l0 (l0.length : Int) x25_2 (rd_L9 l0 x25_2) ((rd_L9 l0 x25_2).length : Int) (wrap64 (x31_3 + 1))) = some r := H
               have A18 := Aside0.mk A180
               clear A180
               have H' := Aside0.mk H
               clear H
               have p446 : 0 ≤ (x31_3 : Int) := DT
               have q446 : x31_3 < ((rd_L9 l0 x25_2).length : Int) := DT
               obtain ⟨ad446, e446, hx446_0⟩ := Kd.at_int HR445_0.out x31_3 p446 q446
               cases e446
               replace hx446_0 := (HB.out.cell (World.block_lt_of_cell? w _ hx446_0)).trans hx446_0
               replace p446 := eq_true p446
               replace q446 := eq_true q446
               have p447 : 0 ≤ (x31_3 : Int) := DT
               have q447 : x31_3 < (l1.length : Int) := DT
               obtain ⟨ad447, e447, hx447_0⟩ := Kd.at_string HR1.out x31_3 p447 q447
               cases e447
               replace hx447_0 := (HB.out.cell (World.block_lt_of_cell? w _ hx447_0)).trans hx447_0
               replace p447 := eq_true p447
               replace q447 := eq_true q447
               go_wp2_with (first | ((with_reducible refine gate_callee (f := 57) rfl ?_); refine GL (some 42) rfl rfl Try.func57 #[.int .i64 (rd (rd_L9 l0 x25_2) x31_3), .string (rdOf ByteArray.empty l1 x31_3)] rfl ?_; (with_reducible refine (impl_MulText.calls k3 (rd (rd_L9 l0 x25_2) x31_3) (rdOf ByteArray.empty l1 x31_3) t448 _ A17.out).mono ?_); rintro e w19 ⟨rfl, hb⟩; refine ⟨_, rfl, ?_⟩; replace HO_5 := Aside0.mk (Kd.R_below (RR HO_5.out) hb); replace HB := Aside0.mk (below_step (BB HB.out) hb); (try clear hb)) | ((with_reducible refine gate_callee (f := 56) rfl ?_); refine GL (some 43) rfl rfl Try.func56 #[.string x8_3, .string t448] rfl ?_; (with_reducible refine (impl_AddText.calls x8_3 t448 t449 _ A18.out).mono ?_); rintro e w20 ⟨rfl, hb⟩; refine ⟨_, rfl, ?_⟩; replace HO_5 := Aside0.mk (Kd.R_below (RR HO_5.out) hb); replace HB := Aside0.mk (below_step (BB HB.out) hb); (try clear hb)))
               go_roundg k3
               case measure => have := HJ2.out; have := HK2.out; have := HK3.out; omega
               case rel => exact ⟨(t449), (wrap64 (x31_3 + 1)), FR, FR, H', ⟨by have := HJ2.out; have := HK2.out; have := HK3.out; omega⟩, ⟨(RR HO_5.out)⟩, ⟨(BB HB.out)⟩⟩
              ·rw [if_neg c16] at H
               exact absurd H (by simp)
             ·rw [if_neg c15] at H
              exact absurd H (by simp)
            ·rw [if_neg c14] at H
             exact absurd H (by simp)
           ·rw [if_neg c13] at H
            have c13b0 : decide (x31_3 < ((rd_L9 l0 x25_2).length : Int)) = false := decide_eq_false c13
            clear c13
            by_cases c21 : x5_2.length < 8796093022208
            ·rw [if_pos c21] at H
             have LMc21 := Aside0.mk c21
             clear c21
             obtain ⟨y450, hy450⟩ : ∃ y_ : List ByteArray, y_ = (x5_2 ++ [x8_3]) := ⟨_, rfl⟩
             replace H : (impl_ApplyM.l0 k3 l1 y450 l0 (l0.length : Int) (wrap64 (x25_2 + 1))) = some r := by first | (rw [hy450]; with_reducible exact H) | (have H2_ := (Option.bind_some _ _).symm.trans H; rw [hy450]; with_reducible exact H2_) | (have H2_ := (Option.bind_some _ _).symm.trans H; with_reducible exact H2_) | with_reducible exact H | (rw [hy450]; exact H) | exact H
             have Ny450 := Aside0.mk hy450
             clear hy450
             have H' := Aside0.mk H
             clear H
             go_wp2_with (first | ((with_reducible refine gate_builtin (b := .append) (xs := #[.tmp 45, .tmp 47]) rfl ?_); (try (refine gate_guard (by rfl) ?_; dsimp only)); at_builtin; refine Kd.R_append Kd.string (w0 := w) w.heap.size rfl (.tmp 45) (.tmp 47) 34 9 (.string ⟨#[]⟩) 16 rfl Try.underlying34 info9 rfl (by decide) (by omega) u5 x5_2 x8_3 [.string x8_3] (fun _ => True) (fun _ => False) rfl rfl ?aP (fun _ hk => hk.elim) ?aF ?aO ?aB ?aS ?aL ?_; (case aP => exact rfl); (case aB => exact (BB HB.out)); (case aF => exact (fun _ _ => trivial)); (case aO => exact (RR HO_5.out)); (case aS => exact (below_size (BB HB.out))); (case aL => have := LMc21.out; omega); intro v451 w22 ho hb hg hat; rw [← Ny450.out] at ho; have HO452 := Aside0.mk (ho); replace HB := Aside0.mk (hb); clear HO_5; clear ho hb hg hat))
             go_roundg k3
             case measure => have := HJ2.out; have := HK2.out; have := HK3.out; omega
             case rel => exact ⟨(y450), (wrap64 (x25_2 + 1)), FR, H', ⟨by have := HJ2.out; have := HK2.out; have := HK3.out; omega⟩, ⟨(RR HO452.out)⟩, ⟨(BB HB.out)⟩⟩
            ·rw [if_neg c21] at H
             exact absurd H (by simp)
        ·rw [if_neg c12] at H
         exact absurd H (by simp)
       ·rw [if_neg c11] at H
        exact absurd H (by simp)
      ·rw [if_neg c10] at H
       have c10b0 : decide (x25_2 < (l0.length : Int)) = false := decide_eq_false c10
       clear c10
       obtain rfl := Option.some.inj H
       go_wp2
       go_ret
       exact ⟨_, ER, by (with_reducible repeat (first | apply Kd.R_alloc | apply Kd.R_drewN | apply Kd.R_drew)); exact HO_5.out, (BB HB.out)⟩

end Go.Proofs.Ytahimindlnkmoaa.Pr
