/- A part of the proof of the law FnLoads: its texts, one behind the other. -/
import Derived.Deep.Upon
import Derived.Great.FillDense
import Derived.Tactics
import Derived.Test.YthamiihdoicjkaaBFnLoads1
import Derived.Test.YthamiihdoicjkaaBFnLoads2
set_option linter.unusedVariables false
set_option linter.unusedSimpArgs false
namespace Go.Proofs.Ythamiihdoicjkaa.Pv
open Go
section
variable {E : Env} {s : St} {a : Act} {w w' : World} {ω ω' : Nat → Option Tag} {φ φ' : Nat → Nat → Option Value} {β β' : Nat → Option Nat}
variable {P : Program} {o : Oper} {g : Option (Nat × Bool)} {d : Nat}
structure Writes (w w' : World) (ω ω' : Nat → Option Tag) (M : Nat × Nat → Prop) (X : Nat → Prop) : Prop where
 size : w'.heap.size = w.heap.size
 heap : ∀ b, ¬ X b → w'.heap[b]? = w.heap[b]?
 own : ∀ b, X b → ω b ≠ none
 tag : ∀ b, (∀ ρ l, ω b = some (.own ρ l) → ¬ M ρ) → ω' b = ω b
 io : Like w w'

theorem Writes.S {M : Nat × Nat → Prop} {X : Nat → Prop} (hg : Writes w w' ω ω' M X) {b : Nat} (h : E.S w ω b) : E.S w' ω' b ∧ ∀ o1, cel w' b o1 = cel w b o1 := by
 obtain ⟨h1, h2, h3⟩ := h
 have hx : ¬ X b := fun hx => hg.own b hx h2
 refine ⟨⟨by rw [hg.size]; exact h1, ?_, h3⟩, fun o1 => ?_⟩
 ·rw [hg.tag b (fun ρ l hl => by rw [h2] at hl; cases hl), h2]
 ·simp only [cel, World.cell?, hg.heap b hx]

theorem Sh_write {M : Nat × Nat → Prop} {X : Nat → Prop} (hg : Writes w w' ω ω' M X) {k : K} {x : k.ty} {c : Nat → Option Value} (h : Sh (E.S w ω) w k x c) : Sh (E.S w' ω') w' k x c :=
 Sh.mono (fun _ hb => (hg.S hb).1) (fun _ hb => (hg.S hb).2) _ _ _ h

theorem TLr_write {M : Nat × Nat → Prop} {X : Nat → Prop} (hg : Writes w w' ω ω' M X) {q : Kill} (hβ : ∀ r, q.roots.elem r = false → β' r = β r)
  (hval : ∀ r k, q.hits r k = false → (E.g w' ω' φ').val (locR β' r k) = (E.g w ω φ).val (locR β r k)) :
  Stays (TLr (E.g w ω φ) β) (TLr (E.g w' ω' φ') β') q := by
 intro l v h
 cases l with
 | d k x => exact ⟨h.1, Sh_write hg h.2⟩
 | nil => exact h
 | x => trivial
 | ref r k =>
  simp only [TL.kill]
  split
  ·trivial
  ·rename_i hq
   exact (hval r k (by simpa using hq)).trans h
 | sub r k e lo n =>
  simp only [TL.kill]
  split
  ·trivial
  ·rename_i hq
   obtain ⟨a1, len, cap, a', cap', h1, h2⟩ := h
   exact ⟨a1, len, cap, a', cap', (hval r k (by simpa using hq)).trans h1, h2⟩
 | ead r k e i off =>
  simp only [TL.kill]
  split
  ·trivial
  ·rename_i hq
   obtain ⟨b, o1, len, cap, h1, h2⟩ := h
   exact ⟨b, o1, len, cap, (hval r k (by simpa using hq)).trans h1, h2⟩
 | adr r off =>
  simp only [TL.kill]
  split
  ·trivial
  ·rename_i hq
   obtain ⟨b, h1, h2⟩ := h
   exact ⟨b, by rw [hβ r (by simpa using hq)]; exact h1, h2⟩
 | iad e x off =>
  obtain ⟨b, o1, h1, h2, h3⟩ := h
  refine ⟨b, o1, h1, (hg.S h2).1, ?_⟩
  have := Sh_write (E := E) hg h3
  refine Sh.congr _ _ _ _ (fun j _ => ?_) this
  exact (hg.S h2).2 _
 | clo fn caps =>
  simp only [TL.kill]
  split
  ·trivial
  ·rename_i hq
   obtain ⟨vs, h1, h2, h3⟩ := h
   refine ⟨vs, h1, h2, fun i r hi => ?_⟩
   obtain ⟨b, h4, h5⟩ := h3 i r hi
   have hr : q.roots.elem r = false := by
    have hq' : ∀ x, x ∈ caps → x ∉ q.roots := by simpa using hq
    simpa using hq' r (List.mem_of_getElem? hi)
   exact ⟨b, by rw [hβ r hr]; exact h4, h5⟩

theorem LCr_write {M : Nat × Nat → Prop} {X : Nat → Prop} (hg : Writes w w' ω ω' M X) {q : Kill} (hβ : ∀ r, q.roots.elem r = false → β' r = β r)
  (hval : ∀ r k, q.hits r k = false → (E.g w' ω' φ').val (locR β' r k) = (E.g w ω φ).val (locR β r k))
  {r k : Nat} {c : LC} (hr : q.roots.elem r = false) (hv : (E.g w' ω' φ').val (locR β' r k) = (E.g w ω φ).val (locR β r k)) (hM : ¬ M (r, k)) (hX : ∀ b l, ω b = some (.own (r, k) l) → ¬ X b)
  (hc : LCr (E.g w ω φ) β r k c) : LCr (E.g w' ω' φ') β' r k (c.kill q) := by
 have hl : locR β' r k = locR β r k := by unfold locR; rw [hβ r hr]
 cases c with
 | own o1 e xs hole =>
  refine ⟨hc.1, ?_⟩
  rw [hl] at hv ⊢
  refine OW.frame (g := E.g w ω φ) (g' := E.g w' ω' φ') (fun b hb => hg.S hb) (fun b l hb => ?_) _ _ _ _ (fun j hj => ?_) hc.2
  ·have hb : ω b = some (.own (r, k) l) := hb
   exact ⟨by show ω' b = _; rw [hg.tag b (fun ρ l' hl' => by rw [hb] at hl'; cases hl'; exact hM)]; exact hb, hg.heap b (hX b l hb)⟩
  ·obtain rfl : j = 0 := by simp [K.width] at hj; omega
   rw [Loc.add_zero]; exact hv
 | tl l =>
  obtain ⟨v, h1, h2⟩ := hc
  exact ⟨v, hv.trans h1, TLr_write hg hβ hval _ _ h2⟩

theorem Rel.write {M : Nat × Nat → Prop} {X : Nat → Prop} {u : Upd} {v : Value} (h : Rel E s a w ω φ β) (hg : Writes w w' ω ω' M X) (hpin : ∀ r b, E.pin r = some b → β' r = some b)
  (hβ : ∀ r, u.kill.roots.elem r = false → β' r = β r) (hval : ∀ r k, u.kill.hits r k = false → (E.g w' ω' φ').val (locR β' r k) = (E.g w ω φ).val (locR β r k))
  (hβ' : ∀ r b, β' r = some b → ω' b = some (.box r)) (hbd : ∀ b tag, ω' b = some tag → b < w'.heap.size)
  (hroot : ∀ r root, look s.r r = some root → lastPut u.put r = none → u.kill.roots.elem r = false ∧ (∀ b, β r = some b → ¬ X b) ∧
   ∀ k, k < root.ls.length → u.kill.hits r k = false ∧ ¬ M (r, k) ∧ ∀ b l, ω b = some (.own (r, k) l) → ¬ X b)
  (hput : ∀ r root, lastPut u.put r = some (some root) → boxOk w' β' r root ∧ ∀ k c, root.ls[k]? = some c → LCr (E.g w' ω' φ') β' r k c)
  (hdst : ∀ d tv, u.dst = some (d, tv) → TVr (TLr (E.g w' ω' φ') β') (a.put (some d) v).tmps tv v ∧ s.t.any (grdOn d) = false) :
  Rel E (s.app u) (a.put (u.dst.map (·.1)) v) w' ω' φ' β' := by
 refine h.step ⟨hβ', hbd, fun b hb h0 => ?_, by rw [hg.size]; exact h.wr.bs, hpin, h.wr.io.trans hg.io⟩ (TLr_write hg hβ hval) (fun r root hr hp => ?_) hput ?_
 ·obtain ⟨h1, h2⟩ := h.wr.old b hb h0
  have hx : ¬ X b := fun hx => hg.own b hx h1
  exact ⟨by rw [hg.tag b (fun ρ l hl => by rw [h1] at hl; cases hl), h1], by rw [hg.heap b hx, h2]⟩
 ·obtain ⟨g1, g2, g3⟩ := hroot r root hr hp
  have hb := h.bx r root hr
  refine ⟨⟨by rw [hβ r g1]; exact hb.1, fun b hb' => ?_⟩, fun k c hc hl => ?_⟩
  ·rw [hβ r g1] at hb'
   obtain ⟨cs, t, fr, h1, h2⟩ := hb.2 b hb'
   exact ⟨cs, t, fr, by rw [hg.heap b (g2 b hb')]; exact h1, h2⟩
  ·obtain ⟨q1, q2, q3⟩ := g3 k (List.getElem?_eq_some_iff.1 hc).1
   exact LCr_write hg hβ hval g1 (hval r k q1) q2 q3 hl
 ·intro d tv hd
  obtain ⟨h1, h2⟩ := hdst d tv hd
  refine ⟨h1, fun t t' wt tv' ht he => ?_⟩
  subst he
  rw [List.any_eq_false] at h2
  exact h2 _ (List.mem_of_getElem? ht) (by simp [grdOn])

theorem kill_hits {q : Kill} {r k : Nat} (h1 : q.roots.elem r = false) (h2 : ∀ r' k', (r', k') ∈ q.homes → ¬ (r' = r ∧ k' = k)) : q.hits r k = false := by
 unfold Kill.hits
 rw [h1, Bool.false_or, List.any_eq_false]
 rintro ⟨r', k'⟩ hm hc
 simp only [Bool.and_eq_true, beq_iff_eq] at hc
 exact h2 r' k' hm hc

theorem setCells_like (b : Nat) : ∀ (vs : List Value) (o : Nat) (w : World), Like w (w.setCells b o vs)
 | [], _, w => Like.refl w
 | v :: vs, o, w => Like.trans (b := w.setCell ⟨b, o, none⟩ v) ⟨rfl, rfl, rfl⟩ (setCells_like b vs (o + 1) _)

theorem setCells_heap (b : Nat) : ∀ (vs : List Value) (o : Nat) (w : World) (cs : Array Value) (t : TypeId) (fr : Nat × Nat), w.heap[b]? = some (.cells cs t fr) →
  (w.setCells b o vs).heap.size = w.heap.size ∧ (∀ b', b' ≠ b → (w.setCells b o vs).heap[b']? = w.heap[b']?) ∧
  ∃ cs', (w.setCells b o vs).heap[b]? = some (.cells cs' t fr) ∧ cs'.size = cs.size ∧ ∀ p, cs'[p]? = if o ≤ p ∧ p < o + vs.length ∧ p < cs.size then vs[p - o]? else cs[p]?
 | [], o, w, cs, t, fr, h => ⟨rfl, fun _ _ => rfl, cs, h, rfl, fun p => by rw [if_neg]; simp; omega⟩
 | v :: vs, o, w, cs, t, fr, h => by
  have hs : (w.setCell ⟨b, o, none⟩ v).heap[b]? = some (.cells (cs.setIfInBounds o v) t fr) := by
   have hlt : b < w.heap.size := by
    rcases Nat.lt_or_ge b w.heap.size with h' | h'
    ·exact h'
    ·rw [Array.getElem?_eq_none h'] at h; cases h
   simp only [World.setCell]
   rw [Array.getElem?_modify, if_pos rfl, h]
   rfl
  have ho : ∀ b', b' ≠ b → (w.setCell ⟨b, o, none⟩ v).heap[b']? = w.heap[b']? := fun b' hb' => heap_setCell_other w ⟨b, o, none⟩ b' v hb'
  have hz : (w.setCell ⟨b, o, none⟩ v).heap.size = w.heap.size := by simp [World.setCell]
  obtain ⟨i1, i2, cs', i3, i4, i5⟩ := setCells_heap b vs (o + 1) (w.setCell ⟨b, o, none⟩ v) _ t fr hs
  refine ⟨i1.trans hz, fun b' hb' => (i2 b' hb').trans (ho b' hb'), cs', i3, by rw [i4]; simp, fun p => ?_⟩
  rw [i5 p]
  simp only [Array.size_setIfInBounds, List.length_cons]
  by_cases hp : o = p
  ·subst hp
   rw [if_neg (by omega)]
   by_cases hlt : o < cs.size
   ·rw [if_pos ⟨Nat.le_refl _, by omega, hlt⟩]; simp [hlt]
   ·rw [if_neg (by omega)]; simp [hlt]
  ·by_cases hin : o + 1 ≤ p ∧ p < o + 1 + vs.length ∧ p < cs.size
   ·rw [if_pos hin, if_pos (by omega), show p - o = (p - (o + 1)) + 1 by omega, List.getElem?_cons_succ]
   ·rw [if_neg hin, if_neg (by omega)]
    simp [hp]


theorem setLs_length {α : Type} : ∀ (ys : List α) (xs : List α) (i : Nat), (setLs xs i ys).length = xs.length
 | [], _, _ => rfl
 | y :: ys, xs, i => by simp only [setLs]; rw [setLs_length ys]; simp

theorem setLs_get {α : Type} : ∀ (ys : List α) (xs : List α) (i k : Nat), (setLs xs i ys)[k]? = if i ≤ k ∧ k < i + ys.length ∧ k < xs.length then ys[k - i]? else xs[k]?
 | [], xs, i, k => by simp only [setLs]; rw [if_neg]; simp; omega
 | y :: ys, xs, i, k => by
  simp only [setLs]
  rw [setLs_get ys]
  simp only [List.length_set, List.length_cons]
  by_cases hk : i = k
  ·subst hk
   rw [if_neg (by omega)]
   by_cases hlt : i < xs.length
   ·rw [if_pos ⟨Nat.le_refl _, by omega, hlt⟩]; simp [hlt]
   ·rw [if_neg (by omega)]; simp [hlt]
  ·by_cases hin : i + 1 ≤ k ∧ k < i + 1 + ys.length ∧ k < xs.length
   ·rw [if_pos hin, if_pos (by omega), show k - i = (k - (i + 1)) + 1 by omega, List.getElem?_cons_succ]
   ·rw [if_neg hin, if_neg (by omega), List.getElem?_set_ne hk]

theorem run_storeVar {t : TypeId} {v : Value} {n b off : Nat} {cs : Array Value} {tt : TypeId} {fr : Nat × Nat} (hn : sizeT P t = some n) (hv : v.cells.size = n) (hh : w.heap[b]? = some (.cells cs tt fr))
  (hf : Unfz fr cs.size) (hle : off + n ≤ cs.size) (h1 : ∀ u, u ∈ v.cells.toList → u.oneCell' = true) :
  (storeVar t ⟨b, off, none⟩ v).run P w = .ok () (w.setCells b off v.cells.toList) := by
 have hst := run_storeCells_cells (P := P) b off v.cells.toList 0 w (fun j hj => by
   rw [cell_of_row w b _ cs tt fr hh]
   have : off + j < cs.size := by simp [hv] at hj; omega
   simp [this])
  (fun j hj => by
   have : off + 0 + j < cs.size := by simp [hv] at hj; omega
   have := hf _ this
   simp only [World.frozen?, hh]
   simpa using this) h1
 simp only [Nat.add_zero] at hst
 simp [storeVar, run_sizeOf hn, hv, hst]

theorem storeBox_ok {t : TypeId} {ad x : Operand} {n r off : Nat} {ls : List TL} {root : Root} {cs : List LC} {ms : List (Nat × Nat)} (h : Rel E s a w ω φ β) (hg : Met a g) (ho : o.dst = none)
  (hop : o.op = .store t ad x) (hn : sizeT P t = some n) (had : (tvOf s g ad).tl = .adr r off) (hls : (tvOf s g x).ls = some ls) (hr : look s.r r = some root) (hi : intoBoxAll s.r off (kindsT P t) ls = some (cs, ms))
  (hc : root.box = true ∧ ls.length = n ∧ off + n ≤ root.ls.length ∧ (ms.map (·.1)).Nodup ∧ ¬ r ∈ ms.map (·.1) ∧ cellsOk s.r (tvOf s g x) = true) :
  Good E P s a w o { kill := ⟨ms.map (·.1), (List.range n).map fun j => (r, off + j)⟩, put := (ms.map fun m => (m.1, none)) ++ [(r, some (Root.kill ⟨ms.map (·.1), (List.range n).map fun j => (r, off + j)⟩ ⟨true, setLs root.ls off cs⟩))] } := by
 obtain ⟨hbox, hlen, hle, hnd, hrm, hck⟩ := hc
 have hx := tlOf_ok h hg ad
 rw [had] at hx
 obtain ⟨b0, hb0, hv⟩ := hx
 obtain ⟨c0, tt, fr, hh, hfz, hsz⟩ := (h.bx r root hr).2 b0 hb0
 have hcl := cells_ls h hg hls hck
 obtain ⟨i1, i2, i3⟩ := intoBoxAll_ok hi
 have hvn : (a.eval x).cells.size = n := by rw [hcl.1, hlen]
 have h1c : ∀ u, u ∈ (a.eval x).cells.toList → u.oneCell' = true := by
  intro u hu
  obtain ⟨j, hj⟩ := List.mem_iff_getElem?.1 hu
  have hlt : j < ls.length := by rw [← hcl.1]; simpa using (List.getElem?_eq_some_iff.1 hj).1
  have hlj : ls[j]? = some ls[j] := List.getElem?_eq_getElem hlt
  obtain ⟨v, hvj, hvr⟩ := hcl.2 j _ hlj
  have : u = v := by rw [Array.getElem?_toList, hvj] at hj; exact (Option.some.inj hj).symm
  subst this
  obtain ⟨c, _, hcase⟩ := i3 j _ hlj
  have hok : cellOk s.r ls[j] = true := by
   rcases hcase with ⟨h1, _⟩ | ⟨q1, o1, e, xs, h1, h2, _⟩ | ⟨_, h1⟩
   ·rw [h1]; rfl
   ·rw [h1]; simp [cellOk, rowAt, h2]
   ·exact h1
  exact (cell_one h hvr hok).2
 have hrun := run_storeVar (P := P) hn hvn hh hfz (by rw [hsz]; exact hle) h1c
 obtain ⟨s1, s2, c1, s3, s4, s5⟩ := setCells_heap b0 (a.eval x).cells.toList off w c0 tt fr hh
 have htb := h.wr.bj r b0 hb0
 refine Good.skip (w' := w.setCells b0 off (a.eval x).cells.toList) (by simp [execOp, hop, hv, Instr.storeAt, Instr.sureAddr, hrun]) ?_
 rw [ho]
 generalize hu : ({ kill := ⟨ms.map (·.1), (List.range n).map fun j => (r, off + j)⟩, put := (ms.map fun m => (m.1, none)) ++ [(r, some (Root.kill ⟨ms.map (·.1), (List.range n).map fun j => (r, off + j)⟩ ⟨true, setLs root.ls off cs⟩))] } : Upd) = u
 have hk : u.kill = ⟨ms.map (·.1), (List.range n).map fun j => (r, off + j)⟩ := by rw [← hu]
 have hlast : ∀ m, lastPut u.put m = if m = r then some (some (Root.kill u.kill ⟨true, setLs root.ls off cs⟩)) else if m ∈ ms.map (·.1) then some none else none := by
  intro m
  rw [hk, ← hu]
  simp only
  rw [lastPut_append, lastPut_drops]
  simp only [lastPut]
  by_cases h1 : m = r
  ·subst h1; simp
  ·simp [h1, Ne.symm h1]
 have hgw : Writes w (w.setCells b0 off (a.eval x).cells.toList) ω (boxω ms r b0 ω) (fun ρ => ρ.2 = 0 ∧ ρ.1 ∈ ms.map (·.1)) (· = b0) :=
  ⟨s1, fun b hb => s2 b hb, fun b hb hn => (by subst hb; rw [htb] at hn; cases hn), fun b hn => boxω_keep hn, setCells_like ..⟩
 have hne : ∀ r' b', β r' = some b' → r' ≠ r → b' ≠ b0 := by
  rintro r' b' hb' hrr rfl
  have := h.wr.bj r' _ hb'
  rw [htb] at this
  exact hrr (by cases this; rfl)
 have hcell : ∀ k, ¬ (off ≤ k ∧ k < off + n) → (E.g (w.setCells b0 off (a.eval x).cells.toList) (boxω ms r b0 ω) φ).val (locR β r k) = (E.g w ω φ).val (locR β r k) := by
  intro k hk'
  simp only [locR, hb0, GW.val, Env.g, cel]
  rw [cell_of_row _ b0 k c1 tt fr s3, cell_of_row w b0 k c0 tt fr hh, s5, if_neg]
  simp [hvn]; omega
 have hoth : ∀ r' k, r' ≠ r → (E.g (w.setCells b0 off (a.eval x).cells.toList) (boxω ms r b0 ω) φ).val (locR β r' k) = (E.g w ω φ).val (locR β r' k) := by
  intro r' k hrr
  unfold locR
  cases hb' : β r' with
  | none => rfl
  | some b' => simp only [GW.val, Env.g, cel, World.cell?, s2 b' (hne r' b' hb' hrr)]
 have hhit : ∀ k, u.kill.hits r k = false → ¬ (off ≤ k ∧ k < off + n) := by
  rintro k hq ⟨h1, h2⟩
  have : u.kill.hits r k = true := by
   rw [hk]
   unfold Kill.hits
   rw [Bool.or_eq_true]
   right
   rw [List.any_eq_true]
   exact ⟨(r, k), List.mem_map.2 ⟨k - off, by simp; omega, by simp; omega⟩, by simp⟩
  rw [this] at hq; cases hq
 have hval : ∀ r' k, u.kill.hits r' k = false → (E.g (w.setCells b0 off (a.eval x).cells.toList) (boxω ms r b0 ω) φ).val (locR β r' k) = (E.g w ω φ).val (locR β r' k) := by
  intro r' k hq
  by_cases hrr : r' = r
  ·subst hrr; exact hcell k (hhit k hq)
  ·exact hoth r' k hrr
 have hrq : u.kill.roots.elem r = false := by rw [hk]; simpa using hrm
 refine ⟨boxω ms r b0 ω, φ, β, ?_⟩
 have key := Rel.write (φ' := φ) (β' := β) (u := u) (v := undef) h hgw h.wr.pin (fun _ _ => rfl) hval ?_ ?_ ?_ ?_ (fun d tv hd => by rw [← hu] at hd; cases hd)
 ·have hd : u.dst = none := by rw [← hu]
  rw [hd] at key; exact key
 ·intro r' b hb
  have := h.wr.bj r' b hb
  rw [boxω_keep (fun ρ l hl => by rw [this] at hl; cases hl), this]
 ·intro b tag hb
  obtain ⟨t', ht'⟩ := boxω_some hb
  rw [s1]; exact h.wr.bd _ _ ht'
 ·intro r' root' hr' hp
  rw [hlast] at hp
  split at hp
  ·cases hp
  ·rename_i hrr
   have hrms : ¬ r' ∈ ms.map (·.1) := fun hm => by rw [if_pos hm] at hp; cases hp
   have hq : u.kill.roots.elem r' = false := by rw [hk]; simpa using hrms
   refine ⟨hq, fun b hb => hne r' b hb hrr, fun k _ => ⟨kill_hits hq (fun q1 k1 hm => ?_), fun hm => hrms hm.2, fun b l hb => ?_⟩⟩
   ·rw [hk] at hm
    obtain ⟨j, _, he⟩ := List.mem_map.1 hm
    cases he
    rintro ⟨rfl, _⟩; exact hrr rfl
   ·rintro rfl; rw [htb] at hb; cases hb
 ·intro r' root' hp
  rw [hlast] at hp
  split at hp
  ·rename_i hrr
   subst hrr
   cases hp
   refine ⟨⟨by simp [Root.kill, hb0], fun b hb => ?_⟩, fun k c hc => ?_⟩
   ·rw [hb0] at hb; cases hb
    exact ⟨c1, tt, fr, s3, by rw [s4]; exact hfz, by simp [Root.kill, s4, hsz, setLs_length]⟩
   ·simp only [Root.kill, List.getElem?_map] at hc
    obtain ⟨c', hc', rfl⟩ := Option.map_eq_some_iff.1 hc
    rw [setLs_get] at hc'
    by_cases hin : off ≤ k ∧ k < off + cs.length ∧ k < root.ls.length
    ·rw [if_pos hin] at hc'
     have hlt : k - off < ls.length := by omega
     have hlk : ls[k - off]? = some ls[k - off] := List.getElem?_eq_getElem hlt
     obtain ⟨c2, hc2, hcase⟩ := i3 _ _ hlk
     rw [hc'] at hc2; cases hc2
     obtain ⟨v, hvk, hvr⟩ := hcl.2 _ _ hlk
     have hloc : locR β r' k = .cell b0 k := by simp [locR, hb0]
     have hvv : (E.g (w.setCells b0 off (a.eval x).cells.toList) (boxω ms r' b0 ω) φ).val (.cell b0 k) = some v := by
      simp only [GW.val, Env.g, cel]
      rw [cell_of_row _ b0 k c1 tt fr s3, s5, if_pos]
      ·rw [Array.getElem?_toList]; exact hvk
      ·simp [hvn]; omega
     rcases hcase with ⟨h1, e, rfl⟩ | ⟨q1, o1, e, xs, h1, h2, rfl, h4⟩ | ⟨rfl, _⟩
     ·rw [h1] at hvr
      have hvr : v = .slice none 0 0 := hvr
      refine ⟨Nat.le_refl _, ?_⟩
      rw [hloc]
      simp only [OW]
      exact .inr ⟨none, 0, 0, by rw [hvv, hvr], rfl, .inl ⟨rfl, trivial⟩⟩
     ·rw [h1] at hvr
      rw [show off + (k - off) = k by omega] at h4
      have hq1 := float_none h h2
      have hl1 : locR β q1 0 = .fl q1 0 := by simp [locR, hq1]
      obtain ⟨o2, rfl, hown⟩ := lc_own (h.lc q1 _ 0 _ h2 rfl)
      have hvr : (E.g w ω φ).val (locR β q1 0) = some v := hvr
      refine ⟨Nat.succ_le_succ (Nat.zero_le _), ?_⟩
      rw [hloc]
      rw [hl1] at hown hvr
      refine OW.move (G := E.g w ω φ) (G' := E.g (w.setCells b0 off (a.eval x).cells.toList) (boxω ms r' b0 ω) φ) (ρ := (q1, 0)) (ρ' := (r', k)) (ℓ := .fl q1 0) (ℓ' := .cell b0 k) (fun b hb => hgw.S hb) (fun b l hb => ?_) (fun b l hb => ?_) (fun b y l _ he => by cases he) ?_ hown
      ·exact boxω_own hnd h4 hb
      ·refine s2 b ?_
       rintro rfl
       have hb : ω b = some (.own (q1, 0) l) := hb
       rw [htb] at hb; cases hb
      ·rw [hvv, hvr]
     ·refine ⟨v, by rw [hloc]; exact hvv, ?_⟩
      exact TLr_write hgw (fun _ _ => rfl) hval _ _ hvr
    ·rw [if_neg hin] at hc'
     have hlt : k < root.ls.length := (List.getElem?_eq_some_iff.1 hc').1
     refine LCr_write hgw (fun _ _ => rfl) hval hrq (hcell k (by omega)) (fun hm => hrm hm.2) (fun b l hb => ?_) (h.lc r' root k c' hr hc')
     rintro rfl; rw [htb] at hb; cases hb
  ·split at hp <;> cases hp


theorem updLs_ok {e : K} : ∀ {fs : List Leaf} {x : e.ty} {j : Nat} {x' : e.ty}, updLs e x j fs = some x' → (0 < fs.length → j + fs.length ≤ e.width) ∧ leaves e x' = setLs (leaves e x) j fs
 | [], x, j, x', h => by simp [updLs] at h; subst h; exact ⟨fun h => absurd h (Nat.lt_irrefl _), rfl⟩
 | f :: fs, x, j, x', h => by
  simp only [updLs] at h
  obtain ⟨y, hy, h⟩ := Option.bind_eq_some_iff.1 h
  obtain ⟨h1, h2⟩ := leaves_updL _ _ _ _ _ hy
  obtain ⟨h3, h4⟩ := updLs_ok h
  refine ⟨fun _ => ?_, by rw [h4, h2]; rfl⟩
  cases fs with
  | nil => simp; omega
  | cons f' fs' => have := h3 (by simp); simp at this ⊢; omega

theorem intoRow_cells (h : Rel E s a w ω φ β) : ∀ {ls : List TL} {ks : List K} {fs : List Leaf} {fz : List (Nat × Nat)}, intoRowAll s.r ks ls = some (fs, fz) → ∀ l, l ∈ ls → cellOk s.r l = true
 | [], _, _, _, _, l, hl => by cases hl
 | l :: ls, ks, fs, fz, hi, l', hl => by
  simp only [intoRowAll] at hi
  split at hi
  ·rename_i p q hp hq
   rcases List.mem_cons.1 hl with rfl | hl
   ·unfold intoRow at hp
    split at hp
    ·rfl
    ·rfl
    ·split at hp
     ·rename_i hr; simp [cellOk, hr]
     ·cases hp
    ·cases hp
   ·exact intoRow_cells h hq l' hl
  ·cases hi

theorem cells_one (h : Rel E s a w ω φ β) {ls : List TL} {vs : Array Value} (hcl : listR (TLr (E.g w ω φ) β) ls vs) (hok : ∀ l, l ∈ ls → cellOk s.r l = true) : ∀ u, u ∈ vs.toList → u.oneCell' = true := by
 intro u hu
 obtain ⟨j, hj⟩ := List.mem_iff_getElem?.1 hu
 have hlt : j < ls.length := by rw [← hcl.1]; simpa using (List.getElem?_eq_some_iff.1 hj).1
 have hlj : ls[j]? = some ls[j] := List.getElem?_eq_getElem hlt
 obtain ⟨v, hvj, hvr⟩ := hcl.2 j _ hlj
 have : u = v := by rw [Array.getElem?_toList, hvj] at hj; exact (Option.some.inj hj).symm
 subst this
 exact (cell_one h hvr (hok _ (List.getElem_mem hlt))).2

theorem rset_get {α : Type} {xs : List α} {i : Int} {x : α} {j : Nat} (hj : j < (rset xs i x).length) : ∃ hj' : j < xs.length, (rset xs i x)[j] = if j = i.toNat then x else xs[j] := by
 have hj' : j < xs.length := by simpa [rset] using hj
 refine ⟨hj', ?_⟩
 simp only [rset, List.getElem_set]
 by_cases h : i.toNat = j
 ·simp [h]
 ·simp [h, Ne.symm h]

theorem storeElem_ok {t : TypeId} {ad x : Operand} {n r k off : Nat} {i : Int} {e : K} {xs : List e.ty} {x' : e.ty} {ls : List TL} {root : Root} {fs : List Leaf} {fz : List (Nat × Nat)} (h : Rel E s a w ω φ β) (hg : Met a g) (ho : o.dst = none)
  (hop : o.op = .store t ad x) (hn : sizeT P t = some n) (had : (tvOf s g ad).tl = .ead r k e i off) (hls : (tvOf s g x).ls = some ls) (hr : look s.r r = some root) (hrow : rowAt s.r r k = some (.own 1 e xs none))
  (hi : intoRowAll s.r (kindsT P t) ls = some (fs, fz)) (hlen : ls.length = n) (hn1 : 0 < n) (hfl : fz.length ≤ 1) (hfa : fz.all (fun h => !(h.1 == r)) = true) (hck : cellsOk s.r (tvOf s g x) = true)
  (hx' : updLs e (rget xs i e.dflt) off fs = some x') :
  Good E P s a w o { kill := { homes := fz }, put := freezePut { homes := fz } s.r fz ++ [(r, some (Root.kill { homes := fz } { root with ls := root.ls.set k (.own 1 e (rset xs i x') none) }))] } := by
 have hx := tlOf_ok h hg ad
 rw [had] at hx
 obtain ⟨b, o1, len, cap, hval0, hi0, hi1, hv⟩ := hx
 have hrk : root.ls[k]? = some (.own 1 e xs none) := by unfold rowAt at hrow; rw [hr] at hrow; exact hrow
 have hown : OW (E.g w ω φ) (r, k) none (.row e) (0 + 1) xs (locR β r k) := (h.lc r root k _ hr hrk).2
 have hown0 := hown
 simp only [OW] at hown
 obtain ⟨a1, len1, cap1, w1, w2, w3⟩ := hown.resolve_left (by simp)
 rw [hval0] at w1; cases w1
 rcases w3 with ⟨w3, w4⟩ | ⟨b', off', c0, tt, fr, w3, w4, w5, w6, w7, w8, w9⟩
 ·subst w4; simp at w2; omega
 cases w3
 have htb : ω b = some (.own (r, k) (locR β r k)) := w5
 have hh : w.heap[b]? = some (.cells c0 tt fr) := w6
 have hcl := cells_ls h hg hls hck
 obtain ⟨r1, r2, r3⟩ := intoRowAll_ok (w' := w) (ω' := ω) h hi
 have hvn : (a.eval x).cells.size = n := by rw [hcl.1, hlen]
 have hilt : i.toNat < xs.length := by omega
 obtain ⟨u1, u2⟩ := updLs_ok hx'
 have hfn : fs.length = n := by rw [r1, hlen]
 have hoff : off + n ≤ e.width := by have := u1 (by omega); omega
 have hmul : (i.toNat + 1) * e.width ≤ cap * e.width := Nat.mul_le_mul_right _ (by omega)
 rw [Nat.add_mul, Nat.one_mul] at hmul
 have hbd : o1 + i.toNat * e.width + off + n ≤ c0.size := by omega
 have hrun := run_storeVar (P := P) hn hvn hh w7 hbd (cells_one h hcl (intoRow_cells h hi))
 obtain ⟨s1, s2, c1, s3, s4, s5⟩ := setCells_heap b (a.eval x).cells.toList (o1 + i.toNat * e.width + off) w c0 tt fr hh
 refine Good.skip (w' := w.setCells b (o1 + i.toNat * e.width + off) (a.eval x).cells.toList) (by simp [execOp, hop, hv, Instr.storeAt, Instr.sureAddr, hrun]) ?_
 rw [ho]
 have hio := setCells_like b (a.eval x).cells.toList (o1 + i.toNat * e.width + off) w
 generalize hw' : w.setCells b (o1 + i.toNat * e.width + off) (a.eval x).cells.toList = w' at s1 s2 s3 hio
 generalize hu : ({ kill := { homes := fz }, put := freezePut { homes := fz } s.r fz ++ [(r, some (Root.kill { homes := fz } { root with ls := root.ls.set k (.own 1 e (rset xs i x') none) }))] } : Upd) = u
 have hk : u.kill = { homes := fz } := by rw [← hu]
 have hlast : ∀ m, lastPut u.put m = if r = m then some (some (Root.kill { homes := fz } { root with ls := root.ls.set k (.own 1 e (rset xs i x') none) })) else lastPut (freezePut { homes := fz } s.r fz) m := by
  intro m
  rw [← hu]
  simp only
  rw [lastPut_append]
  simp only [lastPut]
  by_cases h1 : r = m <;> simp [h1]
 have hgw : Writes w w' ω (thaw fz ω) (· ∈ fz) (· = b) :=
  ⟨s1, fun b' hb => s2 b' hb, fun b' hb hn => (by subst hb; rw [htb] at hn; cases hn), fun b' hn => thaw_keep hn, hio⟩
 have hfzr : ∀ r0 k0, (r0, k0) ∈ fz → r0 ≠ r := by
  intro r0 k0 hm he
  have := List.all_eq_true.1 hfa _ hm
  simp [he] at this
 have hbox : ∀ r' b', β r' = some b' → b' ≠ b := by
  rintro r' b' hb' rfl
  have := h.wr.bj r' _ hb'
  rw [htb] at this; cases this
 have hval : ∀ r' k', (E.g w' (thaw fz ω) φ).val (locR β r' k') = (E.g w ω φ).val (locR β r' k') := by
  intro r' k'
  unfold locR
  cases hb' : β r' with
  | none => rfl
  | some b' => simp only [GW.val, Env.g, cel, World.cell?, s2 b' (hbox r' b' hb')]
 have hroots : ∀ r', u.kill.roots.elem r' = false := by intro r'; rw [hk]; rfl
 have hT : ∀ r0 k0, (r0, k0) ∈ fz → ∀ b' l, ω b' = some (.own (r0, k0) l) → E.S w' (thaw fz ω) b' ∧ ∀ o1, cel w' b' o1 = cel w b' o1 := by
  intro r0 k0 hm b' l hb'
  have hne : b' ≠ b := by rintro rfl; rw [htb] at hb'; cases hb'; exact hfzr _ _ hm rfl
  exact ⟨untag_S h hb' (thaw_own hb' hm) (by rw [s1]; exact Nat.le_refl _), fun o2 => by simp only [cel, World.cell?, s2 b' hne]⟩
 obtain ⟨_, r2', r3'⟩ := intoRowAll_ok (w' := w') (ω' := thaw fz ω) h hi
 have hbxk : ∀ r' root', look s.r r' = some root' → boxOk w' β r' root' := by
  intro r' root' hr'
  have hb := h.bx r' root' hr'
  refine ⟨hb.1, fun b' hb' => ?_⟩
  obtain ⟨cs, t', fr', h1, h2⟩ := hb.2 b' hb'
  exact ⟨cs, t', fr', by rw [s2 b' (hbox r' b' hb')]; exact h1, h2⟩
 have hlck : ∀ r' root' k' c, look s.r r' = some root' → root'.ls[k']? = some c → ¬ (r', k') ∈ fz → (r', k') ≠ (r, k) → LCr (E.g w' (thaw fz ω) φ) β r' k' (c.kill u.kill) := by
  intro r' root' k' c hr' hc hm hne
  refine LCr_write hgw (fun _ _ => rfl) (fun r k _ => hval r k) (hroots r') (hval r' k') hm (fun b' l hb' => ?_) (h.lc r' root' k' c hr' hc)
  rintro rfl
  rw [htb] at hb'; cases hb'; exact hne rfl
 have hfp := freezePut_ok (E := E) (s := s) (w' := w') (ω' := thaw fz ω) (φ' := φ) (β' := β) (q := u.kill) hfl r2 (fun r0 k0 root0 _ hro => hbxk r0 root0 hro)
  (fun r0 k0 root0 k' c hm hro hc hk0 => hlck r0 root0 k' c hro hc (fun hm' => by
   match fz, hfl, hm, hm' with
   | [y], _, hm, hm' =>
    simp at hm hm'
    rw [← hm] at hm'; cases hm'; exact hk0 rfl) (fun he => by cases he; exact hfzr _ _ hm rfl))
  (fun r0 k0 o2 e1 xs1 hm hr0 => by
   obtain ⟨o3, rfl, hown1⟩ := lc_own (rowAt_ok h hr0)
   obtain ⟨a2, cap2, hv2⟩ := own_len hown1
   exact ⟨_, (hval r0 k0).trans hv2, rfl, frozen_sh h (fun b hb => hgw.S hb) hr0 (hT r0 k0 hm) hv2⟩)
 rw [hk] at hfp
 refine ⟨thaw fz ω, φ, β, ?_⟩
 have key := Rel.write (φ' := φ) (β' := β) (u := u) (v := undef) h hgw h.wr.pin (fun _ _ => rfl) (fun r k _ => hval r k) ?_ ?_ ?_ ?_ (fun d tv hd => by rw [← hu] at hd; cases hd)
 ·have hd : u.dst = none := by rw [← hu]
  rw [hd] at key; exact key
 ·intro r' b' hb
  have := h.wr.bj r' b' hb
  rw [thaw_keep (fun ρ l hl => by rw [this] at hl; cases hl), this]
 ·intro b' tag hb
  rw [s1]; exact h.wr.bd _ _ (thaw_some hb)
 ·intro r' root' hr' hp
  rw [hlast] at hp
  split at hp
  ·cases hp
  ·rename_i hrr
   refine ⟨hroots r', fun b' hb' => hbox r' b' hb', fun k' _ => ⟨kill_hits (hroots r') (fun q1 k1 hm => ?_), hfp.1 r' root' k' hr' hp, fun b' l hb' => ?_⟩⟩
   ·rw [hk] at hm
    rintro ⟨rfl, rfl⟩
    exact hfp.1 _ root' _ hr' hp hm
   ·rintro rfl; rw [htb] at hb'; cases hb'; exact hrr rfl
 ·intro r' root' hp
  rw [hlast] at hp
  split at hp
  ·rename_i hrr
   subst hrr
   cases hp
   refine ⟨⟨by simp [Root.kill, (hbxk _ root hr).1], fun b' hb' => ?_⟩, fun k' c hc => ?_⟩
   ·obtain ⟨cs, t', fr', h1, h2, h3⟩ := (hbxk _ root hr).2 b' hb'
    exact ⟨cs, t', fr', h1, h2, by simp [Root.kill, h3]⟩
   ·simp only [Root.kill, List.getElem?_map] at hc
    obtain ⟨c', hc', rfl⟩ := Option.map_eq_some_iff.1 hc
    by_cases hkk : k = k'
    ·subst hkk
     rw [List.getElem?_set_self (List.getElem?_eq_some_iff.1 hrk).1] at hc'
     cases hc'
     refine ⟨Nat.le_refl _, ?_⟩
     simp only [OW]
     right
     have hrl : (rset xs i x').length = xs.length := by simp [rset]
     refine ⟨_, len, cap, (hval _ k).trans hval0, by rw [hrl, w2], .inr ⟨b, o1, c1, tt, fr, rfl, w4, ?_, s3, by rw [s4]; exact w7, by rw [s4]; exact w8, fun j hj => ?_⟩⟩
     ·show thaw fz ω b = _
      rw [thaw_keep (fun ρ l hl => by rw [htb] at hl; cases hl; exact fun hm => hfzr _ _ hm rfl)]; exact htb
     ·obtain ⟨hj', hget⟩ := rset_get (x := x') hj
      rw [OW_zero, hget]
      have hcell : ∀ q, (E.g w' (thaw fz ω) φ).val ((Loc.cell b (o1 + j * e.width)).add q) = c1[o1 + j * e.width + q]? := by
       intro q; simp only [Loc.add, GW.val, Env.g, cel]; exact cell_of_row _ b _ c1 tt fr s3
      have hold : Sh (E.S w' (thaw fz ω)) w' e xs[j] (fun q => c0[o1 + j * e.width + q]?) := by
       have := w9 j hj'
       rw [OW_zero] at this
       have := Sh_write (E := E) hgw this
       refine Sh.congr _ _ _ _ (fun q _ => ?_) this
       simp only [Loc.add, GW.val, Env.g, cel]; exact (cell_of_row _ b _ c0 tt fr hh).symm
      by_cases hji : j = i.toNat
      ·subst hji
       rw [if_pos rfl, Sh_leaves]
       intro q lf hq
       rw [u2] at hq
       rw [setLs_get] at hq
       have hgx : rget xs i e.dflt = xs[i.toNat] := by unfold rget; simp [List.getD, List.getElem?_eq_getElem hilt]
       by_cases hin : off ≤ q ∧ q < off + fs.length ∧ q < (leaves e (rget xs i e.dflt)).length
       ·rw [if_pos hin] at hq
        have hlt : q - off < ls.length := by omega
        have hlq : ls[q - off]? = some ls[q - off] := List.getElem?_eq_getElem hlt
        obtain ⟨v, hvq, hvr⟩ := hcl.2 _ _ hlq
        obtain ⟨f', hf', hs⟩ := r3' (fun b hb => hgw.S hb) hT _ _ v hlq hvr
        rw [hq] at hf'; cases hf'
        have hleaf : lf.k.isLeaf = true := by
         have hall : (leaves e x')[q]? = some lf := by rw [u2, setLs_get, if_pos hin]; exact hq
         exact leaves_isLeaf e x' q lf hall
        refine Sh.congr _ _ _ _ (fun p hp => ?_) hs
        rw [leaf_width hleaf] at hp
        obtain rfl : p = 0 := by omega
        rw [hcell, Nat.add_zero, s5, if_pos]
        ·rw [show o1 + i.toNat * e.width + q - (o1 + i.toNat * e.width + off) = q - off by omega, Array.getElem?_toList]; exact hvq
        ·simp [hvn]; omega
       ·rw [if_neg hin, hgx] at hq
        have hs := (Sh_leaves _ _ _).1 hold q lf hq
        have hqw : q < e.width := by rw [← leaves_length e xs[i.toNat]]; exact (List.getElem?_eq_some_iff.1 hq).1
        have hleaf := leaves_isLeaf e _ q lf hq
        refine Sh.congr _ _ _ _ (fun p hp => ?_) hs
        rw [leaf_width hleaf] at hp
        obtain rfl : p = 0 := by omega
        rw [hcell, Nat.add_zero, s5, if_neg]
        rw [leaves_length] at hin
        simp [hvn]; omega
      ·rw [if_neg hji]
       refine Sh.congr _ _ _ _ (fun q hq => ?_) hold
       rw [hcell, s5, if_neg]
       simp only [Array.length_toList, hvn]
       rintro ⟨h1, h2, _⟩
       rcases Nat.lt_or_gt_of_ne hji with hlt | hgt
       ·have := Nat.mul_le_mul_right e.width (show j + 1 ≤ i.toNat by omega)
        rw [Nat.add_mul, Nat.one_mul] at this; omega
       ·have := Nat.mul_le_mul_right e.width (show i.toNat + 1 ≤ j by omega)
        rw [Nat.add_mul, Nat.one_mul] at this; omega
    ·rw [List.getElem?_set_ne hkk] at hc'
     have := hlck _ root k' c' hr hc' (fun hm => hfzr _ _ hm rfl) (fun he => by cases he; exact hkk rfl)
     rw [hk] at this; exact this
  ·exact hfp.2.1 r' root' hp

theorem stStore_ok {t : TypeId} {ad x : Operand} {st : Step} (h : Rel E s a w ω φ β) (hg : Met a g) (ho : o.dst = none) (hop : o.op = .store t ad x) (hst : stStore P s g t ad x = some st) : StepOk E P s a w o st := by
 unfold stStore at hst
 split at hst
 ·rename_i n r off ls hn had hls
  split at hst
  ·rename_i root cs ms hr hi
   split at hst
   ·rename_i hc
    cases hst
    exact storeBox_ok h hg ho hop hn had hls hr hi hc
   ·cases hst
  ·cases hst
 ·rename_i n r k e i off ls hn had hls
  split at hst
  ·rename_i root o1 e' xs fs fz hr hrow hi
   split at hst
   ·rename_i he
    subst he
    split at hst
    ·rename_i hc
     obtain ⟨c1, c0, rfl, c2, c3, c4⟩ := hc
     obtain ⟨x', hx', rfl⟩ := Option.map_eq_some_iff.1 hst
     exact storeElem_ok h hg ho hop hn had hls hr hrow hi c1 c0 c2 c3 c4 hx'
    ·cases hst
   ·cases hst
  ·cases hst
 ·cases hst

end
section
variable {E : Env} {s : St} {a : Act} {w w' : World} {ω ω' : Nat → Option Tag} {φ φ' : Nat → Nat → Option Value} {β β' : Nat → Option Nat}
variable {P : Program} {o : Oper} {g : Option (Nat × Bool)} {d : Nat}
theorem Sh_one {S : Nat → Prop} {w : World} : ∀ (k : K) (x : k.ty) (c : Nat → Option Value), Sh S w k x c → ∀ j, j < k.width → ∃ v, c j = some v ∧ v.oneCell' = true
  | .unit, _, _, _, j, hj => by simp [K.width] at hj
  | .pair a b, x, c, h, j, hj => by
    simp only [K.width] at hj
    by_cases hj' : j < a.width
    · exact Sh_one a _ _ h.1 j hj'
    · obtain ⟨v, hv, h1⟩ := Sh_one b _ _ h.2 (j - a.width) (by omega)
      exact ⟨v, by rw [← hv]; congr 1; omega, h1⟩
  | .int _, _, _, h, j, hj => by obtain rfl : j = 0 := by simp [K.width] at hj; omega
                                 exact ⟨_, h, rfl⟩
  | .bool, _, _, h, j, hj => by obtain rfl : j = 0 := by simp [K.width] at hj; omega
                                exact ⟨_, h, rfl⟩
  | .str, _, _, h, j, hj => by obtain rfl : j = 0 := by simp [K.width] at hj; omega
                               exact ⟨_, h, rfl⟩
  | .row _, _, _, ⟨_, _, _, h, _⟩, j, hj => by obtain rfl : j = 0 := by simp [K.width] at hj; omega
                                               exact ⟨_, h, rfl⟩
  | .clo _ _, _, _, ⟨_, h, _⟩, j, hj => by obtain rfl : j = 0 := by simp [K.width] at hj; omega
                                           exact ⟨_, h, rfl⟩
  | .iptr _, _, _, ⟨_, _, h, _⟩, j, hj => by obtain rfl : j = 0 := by simp [K.width] at hj; omega
                                             exact ⟨_, h, rfl⟩

def cellsAt (w : World) (b o n : Nat) : List Value := (List.range n).map fun j => (cel w b (o + j)).getD undef

theorem cellsAt_length (w : World) (b o n : Nat) : (cellsAt w b o n).length = n := by simp [cellsAt]

theorem row_cells {S : Nat → Prop} {e : K} {xs : List e.ty} {b o1 : Nat} (h : ∀ i (hi : i < xs.length), Sh S w e xs[i] (fun j => cel w b (o1 + i * e.width + j))) :
    (∀ j v, (cellsAt w b o1 (xs.length * e.width))[j]? = some v → w.cell? ((⟨b, o1, none⟩ : Addr).add j) = some v ∧ v.oneCell' = true) ∧
    ∀ i (hi : i < xs.length), Sh S w e xs[i] (fun j => (cellsAt w b o1 (xs.length * e.width))[i * e.width + j]?) := by
  have key : ∀ j, j < xs.length * e.width → ∃ v, cel w b (o1 + j) = some v ∧ v.oneCell' = true := by
    intro j hj
    have hw : 0 < e.width := by
      rcases Nat.eq_zero_or_pos e.width with h0 | h0
      · rw [h0] at hj; simp at hj
      · exact h0
    have hi : j / e.width < xs.length := (Nat.div_lt_iff_lt_mul hw).2 hj
    obtain ⟨v, h1, h2⟩ := Sh_one _ _ _ (h _ hi) (j % e.width) (Nat.mod_lt _ hw)
    refine ⟨v, ?_, h2⟩
    rw [← h1]
    show cel w b _ = cel w b _
    congr 1
    have := Nat.div_add_mod j e.width
    rw [Nat.mul_comm] at this
    omega
  have hget : ∀ j, j < xs.length * e.width → (cellsAt w b o1 (xs.length * e.width))[j]? = cel w b (o1 + j) := by
    intro j hj
    obtain ⟨v, h1, _⟩ := key j hj
    simp [cellsAt, hj, h1]
  refine ⟨fun j v hj => ?_, fun i hi => ?_⟩
  · have hlt : j < xs.length * e.width := by have := (List.getElem?_eq_some_iff.1 hj).1; simpa [cellsAt] using this
    rw [hget j hlt] at hj
    obtain ⟨v', h1, h2⟩ := key j hlt
    rw [hj] at h1; cases h1
    refine ⟨?_, h2⟩
    rw [add_none]; exact hj
  · refine Sh.congr _ _ _ _ (fun j hj => ?_) (h i hi)
    rw [hget]
    · show cel w b _ = cel w b _
      congr 1; omega
    · have := Nat.mul_le_mul_right e.width (show i + 1 ≤ xs.length by omega)
      rw [Nat.add_mul, Nat.one_mul] at this; omega

def RowR (S : Nat → Prop) (w : World) (e : K) (xs : List e.ty) (v : Value) : Prop :=
  ∃ a len cap, v = .slice a len cap ∧ xs.length = len ∧ len ≤ cap ∧ (xs = [] ∨ ∃ b o, a = some ⟨b, o, none⟩ ∧ ∀ i (h : i < xs.length), Sh S w e xs[i] (fun j => cel w b (o + i * e.width + j)))

theorem src_slice {S : Nat → Prop} {e : K} {xs : List e.ty} {v : Value} {tx e' : TypeId} (hk : P.underlying tx = some (.slice e')) (h : RowR S w e xs v) :
    ∃ news, Src P e.width tx v xs.length news w ∧ ∀ i (hi : i < xs.length), Sh S w e xs[i] (fun j => news[i * e.width + j]?) := by
  obtain ⟨a1, len, cap, rfl, hl, hle, h3⟩ := h
  subst hl
  rcases h3 with h3 | ⟨b, o1, rfl, h5⟩
  · subst h3
    refine ⟨[], ?_, fun i hi => by simp at hi⟩
    cases a1 with
    | none => exact Src.ofNil w hk cap
    | some ad => exact Src.ofSlice w hk ad 0 cap [] (by simp) (fun j u h => by simp at h) (fun u h => by cases h)
  · obtain ⟨h6, h7⟩ := row_cells h5
    refine ⟨_, Src.ofSlice w hk ⟨b, o1, none⟩ xs.length cap _ (cellsAt_length _ _ _ _) (fun j u hj => (h6 j u hj).1) (fun u hu => ?_), h7⟩
    obtain ⟨j, hj⟩ := List.mem_iff_getElem?.1 hu
    exact (h6 j u hj).2

theorem own_RowR {G : GW} {ρ : Nat × Nat} {e : K} {o : Nat} {xs : List e.ty} {l : Loc} {v : Value} (h : OW G ρ none (.row e) (o + 1) xs l) (ho : o + 1 = 1 ∨ e.hasRow = false) (hv : G.val l = some v) : RowR G.S G.w e xs v := by
  have h0 := h
  simp only [OW] at h
  obtain ⟨a1, len1, cap1, h2, h3, h4⟩ := h.resolve_left (by simp)
  rw [hv] at h2; cases h2
  refine ⟨a1, len1, cap1, rfl, h3, ?_, ?_⟩
  · rcases h4 with ⟨h4, h5⟩ | ⟨b, off, cs, t, fr, h5, h6, _⟩
    · subst h5; simp at h3; omega
    · exact h6
  · rcases h4 with ⟨_, h5⟩ | ⟨b, off, cs, t, fr, h5, h6, _⟩
    · exact .inl h5
    · subst h5
      exact .inr ⟨b, off, rfl, fun i hi => own_elem h0 ho hv hi⟩

theorem readRow_src (h : Rel E s a w ω φ β) {l : TL} {v : Value} (hl : TLr (E.g w ω φ) β l v) {p : (e : K) × List e.ty} (hp : readRow s.r l = some p) (hs : srcOk s.r l = true) :
    RowR (E.S w ω) w p.1 p.2 v := by
  unfold readRow at hp
  simp only [iplus] at hp
  split at hp
  · cases hp
    obtain ⟨a1, len, cap, h1, h2, h3, h4⟩ := slice_of hl.2
    exact ⟨a1, len, cap, h1, h2, h3, h4.imp id fun ⟨b, o1, h5, _, h6⟩ => ⟨b, o1, h5, h6⟩⟩
  · rename_i r k
    split at hp
    · rename_i o1 e xs hr
      cases hp
      simp only [srcOk, hr, Bool.or_eq_true, decide_eq_true_eq, Bool.not_eq_true'] at hs
      obtain ⟨o2, rfl, hown⟩ := lc_own (rowAt_ok h hr)
      exact own_RowR (G := E.g w ω φ) hown hs hl
    · cases hp
  · rename_i r k e lo n
    split at hp
    · rename_i o1 e' xs hr
      split at hp
      · rename_i he
        subst he
        cases hp
        simp only [srcOk, hr, Bool.or_eq_true, decide_eq_true_eq, Bool.not_eq_true'] at hs
        obtain ⟨o2, rfl, hown⟩ := lc_own (rowAt_ok h hr)
        obtain ⟨a1, len, cap, a', cap', h1, h2, hcap, h3, h4, h5, h6⟩ := hl
        obtain ⟨a2, len2, cap2, g1, g2, gle, g3⟩ := own_RowR (G := E.g w ω φ) hown hs h1
        cases g1
        have hcut : (rcut xs lo (lo + n)).length = n.toNat := by
          simp only [rcut, List.length_take, List.length_drop]; omega
        refine ⟨a', n.toNat, cap', h2, hcut, hcap, ?_⟩
        rcases h6 with h6 | ⟨b, o1, h6, h7⟩
        · left; apply List.eq_nil_of_length_eq_zero; rw [hcut, h6]; rfl
        · rcases g3 with g3 | ⟨b2, o2, g3, g5⟩
          · left; subst g3; simp [rcut]
          · right
            rw [h6] at g3; cases g3
            refine ⟨b, o1 + lo.toNat * e'.width, h7, fun i hi => ?_⟩
            have hi' : lo.toNat + i < xs.length := by rw [hcut] at hi; omega
            have hg := g5 (lo.toNat + i) hi'
            have he : (rcut xs lo (lo + n))[i] = xs[lo.toNat + i] := by simp [rcut]
            simp only [he]
            refine Sh.congr _ _ _ _ (fun j _ => ?_) hg
            show cel w b _ = cel w b _
            congr 1
            rw [Nat.add_mul]; omega
      · cases hp
    · cases hp
  · cases hp

theorem srcT_slice {t : TypeId} {l : TL} (h : srcT P t l = true) (hl : ∀ v, l ≠ .d .str v) : ∃ e', P.underlying t = some (.slice e') := by
  unfold srcT at h
  split at h
  · exact absurd rfl (hl _)
  · split at h
    · exact ⟨_, by assumption⟩
    · cases h

theorem appSrc_ok (h : Rel E s a w ω φ β) {l : TL} {v : Value} {e : K} {ys : List e.ty} {tx : TypeId} (hl : TLr (E.g w ω φ) β l v) (hs : appSrc s.r e l = some ys) (ht : srcT P tx l = true) :
    ∃ news, Src P e.width tx v ys.length news w ∧ ∀ i (hi : i < ys.length), Sh (E.S w ω) w e ys[i] (fun j => news[i * e.width + j]?) := by
  unfold appSrc at hs
  split at hs
  · rename_i v0
    cases hs
    have hv := str_of hl.2
    subst hv
    have hk : P.underlying tx = some .string := by
      simp only [srcT] at ht
      split at ht
      · assumption
      · cases ht
    have hlen : (sbytes v0).length = v0.size := by simp [sbytes]
    refine ⟨byteCells v0, by rw [hlen]; exact Src.ofString w hk v0, fun i hi => ?_⟩
    obtain ⟨h1, h2⟩ := sbytes_get hi
    simp only [Sh, K.width, Nat.mul_one, Nat.add_zero]
    rw [h2]
    simp only [byteCells, List.getElem?_map, Array.getElem?_toList, Array.getElem?_eq_getElem h1, Option.map_some]
  · cases hs
    have hv : v = .slice none 0 0 := hl
    subst hv
    obtain ⟨e', hk⟩ := srcT_slice ht (fun v h => by cases h)
    exact ⟨[], Src.ofNil w hk 0, fun i hi => by simp at hi⟩
  · split at hs
    · rename_i hso
      split at hs
      · rename_i p hp
        split at hs
        · rename_i he
          obtain ⟨e0, zs⟩ := p
          simp only at he
          subst he
          cases hs
          have hr := readRow_src h hl hp hso
          obtain ⟨e', hk⟩ := srcT_slice ht (fun v he => by rw [he] at hso; cases hso)
          exact src_slice hk hr
        · cases hs
      · cases hs
    · cases hs

def upω (bo : Option Nat) (f : Nat) (ω : Nat → Option Tag) : Nat → Option Tag := fun b => if bo = some b then some (.own (f, 0) (.fl f 0)) else ω b

theorem Rel.inplace {u : Upd} {f r k : Nat} {e : K} {xs ys : List e.ty} {root : Root} {base : Option Addr} {cap : Nat} {bo : Option Nat} {news : List Value} (h : Rel E s a w ω φ β) (hpf : E.pin f = none)
    (hr : look s.r r = some root) (hrk : root.ls[k]? = some (.own 1 e xs none)) (hf : f = r ∨ (f ≠ r ∧ root.box = true))
    (hv : (E.g w ω φ).val (locR β r k) = some (.slice base xs.length cap)) (hle : xs.length + ys.length ≤ cap) (hnl : news.length = ys.length * e.width)
    (hcase : (bo = none ∧ w' = w ∧ xs = [] ∧ ys = [] ∧ cap = 0) ∨ ∃ b off cs t fr, bo = some b ∧ base = some ⟨b, off, none⟩ ∧ ω b = some (.own (r, k) (locR β r k)) ∧ w.heap[b]? = some (.cells cs t fr) ∧ Unfz fr cs.size ∧
      off + cap * e.width ≤ cs.size ∧ w' = w.setCells b (off + xs.length * e.width) news ∧ ∀ i (hi : i < xs.length), Sh (E.S w ω) w e xs[i] (fun j => cs[off + i * e.width + j]?))
    (hel : ∀ i (hi : i < ys.length), Sh (E.S w ω) w e ys[i] (fun j => news[i * e.width + j]?))
    (hk : ∀ r', u.kill.roots.elem r' = true ↔ r' = f) (hkh : ∀ r' k', (r', k') ∈ u.kill.homes → r' = r ∧ k' = k) (hd : u.dst = some (d, .one (.ref f 0))) (hgr : s.t.any (grdOn d) = false)
    (hlf : lastPut u.put f = some (some (floatRow e (xs ++ ys)))) (hlr : f ≠ r → lastPut u.put r = some (some (Root.kill u.kill { root with ls := root.ls.set k (.tl .x) })) ∧ ∀ k', k' ≠ k → u.kill.hits r k' = false)
    (hlo : ∀ r', r' ≠ f → r' ≠ r → lastPut u.put r' = none) :
    RelX E (s.app u) (a.put (some d) (.slice base (xs.length + ys.length) cap)) w' := by
  have hX : ∀ b, bo = some b → ω b = some (.own (r, k) (locR β r k)) := by
    intro b hb
    rcases hcase with ⟨h1, _⟩ | ⟨b', off, cs, t, fr, h1, h2, h3, _⟩
    · rw [h1] at hb; cases hb
    · rw [h1] at hb; cases hb; exact h3
  have hW : w'.heap.size = w.heap.size ∧ ∀ b, ¬ bo = some b → w'.heap[b]? = w.heap[b]? := by
    rcases hcase with ⟨h1, h2, _⟩ | ⟨b', off, cs, t, fr, h1, h2, h3, h4, h5, h6, h7, h8⟩
    · subst h2; exact ⟨rfl, fun _ _ => rfl⟩
    · obtain ⟨s1, s2, _⟩ := setCells_heap b' news (off + xs.length * e.width) w cs t fr h4
      subst h7
      exact ⟨s1, fun b hb => s2 b (fun he => hb (by rw [h1, he]))⟩
  have hio : Like w w' := by
    rcases hcase with ⟨h1, h2, _⟩ | ⟨b', off, cs, t, fr, h1, h2, h3, h4, h5, h6, h7, h8⟩
    · subst h2; exact Like.refl _
    · subst h7; exact setCells_like ..
  have hgw : Writes w w' ω (upω bo f ω) (· = (r, k)) (fun b => bo = some b) :=
    ⟨hW.1, hW.2, fun b hb hn => by (rw [hX b hb] at hn; cases hn), fun b hn => by
      unfold upω
      split
      · rename_i hb; exact absurd rfl (hn _ _ (hX b hb))
      · rfl, hio⟩
  have hbox : ∀ r' b', β r' = some b' → ¬ bo = some b' := by
    intro r' b' hb' he
    have := h.wr.bj r' _ hb'
    rw [hX b' he] at this; cases this
  have hcell : ∀ r' b' k', β r' = some b' → cel w' b' k' = cel w b' k' := by
    intro r' b' k' hb'
    simp only [cel, World.cell?, hW.2 b' (hbox r' b' hb')]
  have hval : ∀ r' k', r' ≠ f → (E.g w' (upω bo f ω) (nφ f (.slice base (xs.length + ys.length) cap) φ)).val (locR (nβ f β) r' k') = (E.g w ω φ).val (locR β r' k') := by
    intro r' k' hne
    unfold locR
    have : nβ f β r' = β r' := by simp [nβ, hne]
    rw [this]
    cases hb' : β r' with
    | none => simp [GW.val, Env.g, nφ, hne]
    | some b' => simp only [GW.val, Env.g]; exact hcell r' b' k' hb'
  refine ⟨upω bo f ω, nφ f (.slice base (xs.length + ys.length) cap) φ, nβ f β, ?_⟩
  have hnf : ∀ r', u.kill.roots.elem r' = false → r' ≠ f := fun r' hr' he => by rw [(hk r').2 he] at hr'; cases hr'
  have hnf' : ∀ r', r' ≠ f → u.kill.roots.elem r' = false := fun r' hr' => by
    cases hq : u.kill.roots.elem r' with
    | false => rfl
    | true => exact absurd ((hk r').1 hq) hr'
  have key := Rel.write (φ' := nφ f (.slice base (xs.length + ys.length) cap) φ) (β' := nβ f β) (u := u) (v := .slice base (xs.length + ys.length) cap) h hgw (h.wr.pin_nβ hpf)
    (fun r' hr' => by simp [nβ, hnf r' hr']) (fun r' k' hq => hval r' k' (hnf r' (hits_root hq))) ?_ ?_ ?_ ?_ ?_
  · rw [hd] at key; exact key
  · intro r' b' hb
    unfold nβ at hb
    split at hb
    · cases hb
    · unfold upω
      rw [if_neg (hbox r' b' hb)]; exact h.wr.bj r' b' hb
  · intro b' tag hb
    unfold upω at hb
    rw [hW.1]
    split at hb
    · rename_i hb'; exact h.wr.bd _ _ (hX b' hb')
    · exact h.wr.bd _ _ hb
  · intro r' root' hr' hp
    have h1 : r' ≠ f := by rintro rfl; rw [hlf] at hp; cases hp
    have h2 : r' ≠ r := by
      rintro rfl
      rw [(hlr (Ne.symm h1)).1] at hp; cases hp
    refine ⟨hnf' r' h1, fun b' hb' => hbox r' b' hb', fun k' _ => ⟨kill_hits (hnf' r' h1) (fun q1 k1 hm => ?_), fun he => by cases he; exact h2 rfl, fun b' l hb' he => ?_⟩⟩
    · rintro ⟨rfl, rfl⟩; exact h2 (hkh _ _ hm).1
    · rw [hX b' he] at hb'; cases hb'; exact h2 rfl
  · intro r' root' hp
    by_cases h1 : r' = f
    · subst h1
      rw [hlf] at hp; cases hp
      refine ⟨⟨by simp [floatRow, nβ], fun b hb => by simp [nβ] at hb⟩, fun k' c hc => ?_⟩
      cases k' with
      | succ k' => simp [floatRow] at hc
      | zero =>
        simp [floatRow] at hc
        subst hc
        refine ⟨Nat.le_refl _, ?_⟩
        have hloc : locR (nβ r' β) r' 0 = .fl r' 0 := by simp [locR, nβ]
        rw [hloc]
        simp only [OW]
        right
        refine ⟨base, xs.length + ys.length, cap, by simp only [GW.val, Env.g, nφ, if_true], by simp, ?_⟩
        rcases hcase with ⟨_, _, h3, h4, h5⟩ | ⟨b', off, cs, t, fr, h3, h4, h5, h6, h7, h8, h9, h10⟩
        · exact .inl ⟨h5, by rw [h3, h4]; rfl⟩
        · right
          obtain ⟨s1, s2, c1, s3, s4, s5⟩ := setCells_heap b' news (off + xs.length * e.width) w cs t fr h6
          rw [← h9] at s3
          refine ⟨b', off, c1, t, fr, h4, hle, by show upω bo r' ω b' = _; simp [upω, h3], s3, by rw [s4]; exact h7, by rw [s4]; exact h8, fun i hi => ?_⟩
          rw [OW_zero]
          have hc1 : ∀ q, (E.g w' (upω bo r' ω) (nφ r' (.slice base (xs.length + ys.length) cap) φ)).val ((Loc.cell b' (off + i * e.width)).add q) = c1[off + i * e.width + q]? := by
            intro q; simp only [Loc.add, GW.val, Env.g, cel]; exact cell_of_row _ b' _ c1 t fr s3
          have hcapw := Nat.mul_le_mul_right e.width hle
          rw [Nat.add_mul] at hcapw
          by_cases hix : i < xs.length
          · have he : (xs ++ ys)[i] = xs[i] := List.getElem_append_left hix
            rw [he]
            have := Sh_write (E := E) hgw (h10 i hix)
            refine Sh.congr _ _ _ _ (fun q hq => ?_) this
            rw [hc1, s5, if_neg]
            have := Nat.mul_le_mul_right e.width (show i + 1 ≤ xs.length by omega)
            rw [Nat.add_mul, Nat.one_mul] at this
            omega
          · have hi' : i < xs.length + ys.length := by simpa using hi
            have hiy : i - xs.length < ys.length := by omega
            have he : (xs ++ ys)[i] = ys[i - xs.length] := List.getElem_append_right (by omega)
            rw [he]
            have := Sh_write (E := E) hgw (hel _ hiy)
            refine Sh.congr _ _ _ _ (fun q hq => ?_) this
            have e1 : i * e.width = xs.length * e.width + (i - xs.length) * e.width := by rw [← Nat.add_mul]; congr 1; omega
            have e2 := Nat.mul_le_mul_right e.width (show (i - xs.length) + 1 ≤ ys.length by omega)
            rw [Nat.add_mul, Nat.one_mul] at e2
            rw [hc1, s5, if_pos (by omega)]
            congr 1
            omega
    · by_cases h2 : r' = r
      · subst h2
        obtain ⟨g1, g2⟩ := hlr (Ne.symm h1)
        rw [g1] at hp; cases hp
        have hb := h.bx r' root hr
        have hβ : nβ f β r' = β r' := by simp [nβ, h1]
        refine ⟨⟨by simp [Root.kill, hβ, hb.1], fun b' hb' => ?_⟩, fun k' c hc => ?_⟩
        · rw [hβ] at hb'
          obtain ⟨cs, t', fr', h1, h2, h3⟩ := hb.2 b' hb'
          exact ⟨cs, t', fr', by rw [hW.2 b' (hbox r' b' hb')]; exact h1, h2, by simp [Root.kill, h3]⟩
        · simp only [Root.kill, List.getElem?_map] at hc
          obtain ⟨c', hc', rfl⟩ := Option.map_eq_some_iff.1 hc
          by_cases hkk : k = k'
          · subst hkk
            rw [List.getElem?_set_self (List.getElem?_eq_some_iff.1 hrk).1] at hc'
            cases hc'
            exact ⟨_, (hval r' k h1).trans hv, trivial⟩
          · rw [List.getElem?_set_ne hkk] at hc'
            refine LCr_write hgw (fun r0 hr0 => by simp [nβ, hnf r0 hr0]) (fun r0 k0 hq => hval r0 k0 (hnf r0 (hits_root hq))) (hnf' r' h1) (hval r' k' h1) (fun he => by cases he; exact hkk rfl) (fun b' l hb' he => ?_) (h.lc r' root k' c' hr hc')
            rw [hX b' he] at hb'; cases hb'; exact hkk rfl
      · rw [hlo r' h1 h2] at hp; cases hp
  · intro d' tv hd'
    rw [hd] at hd'
    cases hd'
    refine ⟨?_, hgr⟩
    show (E.g w' _ _).val (locR (nβ f β) f 0) = _
    simp [locR, nβ, GW.val, Env.g, nφ]

end
section
variable {E : Env} {s : St} {a : Act} {w w' : World} {ω ω' : Nat → Option Tag} {φ φ' : Nat → Nat → Option Value} {β β' : Nat → Option Nat}
variable {P : Program} {o : Oper} {g : Option (Nat × Bool)} {d : Nat}
theorem olds_of {S : Nat → Prop} {e : K} {xs : List e.ty} {base : Option Addr} {len cap : Nat} (h : RowR S w e xs (.slice base len cap)) :
  ∃ olds : List Value, (Builtin.firstCells e.width len (.slice base len cap)).run P w.drew = .ok olds.toArray w.drew ∧ olds.length = len * e.width ∧ ∀ i (hi : i < xs.length), Sh S w e xs[i] (fun j => olds[i * e.width + j]?) := by
 obtain ⟨a1, len1, cap1, h1, hl, hle, h3⟩ := h
 cases h1
 subst hl
 rcases h3 with h3 | ⟨b, o1, rfl, h5⟩
 ·subst h3
  refine ⟨[], ?_, by simp, fun i hi => by simp at hi⟩
  cases base with
  | none => exact run_firstCells_none w.drew _ _ _ _
  | some ad => exact run_firstCells_some w.drew _ 0 ad 0 cap [] (by simp) (fun j v h => by simp at h)
 ·obtain ⟨h6, h7⟩ := row_cells h5
  exact ⟨_, run_firstCells_some w.drew _ _ _ _ cap _ (cellsAt_length _ _ _ _) (fun j v hj => by simpa using (h6 j v hj).1), cellsAt_length _ _ _ _, h7⟩

theorem append_grow {S : Nat → Prop} {t tx ty el : TypeId} {i : TypeInfo} {z : Value} {e : K} {xs ys : List e.ty} {base : Option Addr} {cap : Nat} {vx : Value} {news : List Value} (ht : P.underlying t = some (.slice el)) (hi : P.info? el = some i) (hz : i.zero = some z)
  (hzo : zerosOk e.kinds z = true) (hw : e.width = i.size) (hby : i.bytes ≤ 4096) (hx : RowR S w e xs (.slice base xs.length cap)) (hs : Src P e.width tx vx ys.length news w)
  (hel : ∀ i (hi : i < ys.length), Sh S w e ys[i] (fun j => news[i * e.width + j]?)) (hc : cap < xs.length + ys.length) (hb : xs.length + ys.length ≤ 1073741824) :
  ∃ cs cap' w', (Builtin.append_ #[t, tx] ty #[.slice base xs.length cap, vx]).run P w = .ok (.slice (some ⟨w.heap.size, 0, none⟩) (xs.length + ys.length) cap') w' ∧
   w'.heap.size = w.heap.size + 1 ∧ (∀ b, b < w.heap.size → w'.heap[b]? = w.heap[b]?) ∧ w'.heap[w.heap.size]? = some (.cells cs el (0, 0)) ∧ xs.length + ys.length ≤ cap' ∧ cap' * e.width ≤ cs.size ∧
   (∀ i (hi : i < (xs ++ ys).length), Sh S w e (xs ++ ys)[i] (fun j => cs[i * e.width + j]?)) ∧ Like w w' := by
 obtain ⟨olds, h1, h2, h3⟩ := olds_of (P := P) hx
 obtain ⟨hz1, _⟩ := zerosOk_at hzo
 rw [kinds_length] at hz1
 have hfit : Builtin.nextslicecap (xs.length + ys.length) cap * i.bytes ≤ 281474976710656 := by
  refine growslice_fits hc ?_
  have := Nat.mul_le_mul hb hby
  omega
 rw [hw] at h1 hs
 have hrun := run_append_grow_src (P := P) w t tx ty el i z ht hi hz base xs.length cap olds h1 vx ys.length news hs hc (by omega) hfit
 have hge := grownCap_ge w (xs.length + ys.length) cap el
 have hnl : news.length = ys.length * e.width := by rw [hw]; exact hs.newsLen
 have al := alloc_heap w.drew (.cells ((olds ++ news).toArray ++ Builtin.zeroCells z.cells (grownCap w (xs.length + ys.length) cap el - (xs.length + ys.length))) el)
 refine ⟨_, _, _, hrun, al.1, al.2.1, al.2.2, hge, ?_, fun k hk => ?_, rfl, rfl, rfl⟩
 ·rw [Array.size_append, size_zeroCells, ← hz1]
  simp only [List.size_toArray, List.length_append, h2, hnl]
  rw [← Nat.add_mul, ← Nat.add_mul]
  exact Nat.mul_le_mul_right _ (by omega)
 ·have hk' : k < xs.length + ys.length := by simpa using hk
  by_cases hkx : k < xs.length
  ·have he : (xs ++ ys)[k] = xs[k] := List.getElem_append_left hkx
   rw [he]
   refine Sh.congr _ _ _ _ (fun j hj => ?_) (h3 k hkx)
   have := Nat.mul_le_mul_right e.width (show k + 1 ≤ xs.length by omega)
   rw [Nat.add_mul, Nat.one_mul] at this
   rw [Array.getElem?_append_left (by simp [h2]; omega), List.getElem?_toArray, List.getElem?_append_left (by omega)]
  ·have hky : k - xs.length < ys.length := by omega
   have he : (xs ++ ys)[k] = ys[k - xs.length] := List.getElem_append_right (by omega)
   rw [he]
   refine Sh.congr _ _ _ _ (fun j hj => ?_) (hel _ hky)
   have e1 : k * e.width = xs.length * e.width + (k - xs.length) * e.width := by rw [← Nat.add_mul]; congr 1; omega
   have e2 := Nat.mul_le_mul_right e.width (show (k - xs.length) + 1 ≤ ys.length by omega)
   rw [Nat.add_mul, Nat.one_mul] at e2
   rw [Array.getElem?_append_left (by simp [h2, hnl]; omega), List.getElem?_toArray, List.getElem?_append_right (by omega)]
   congr 1
   omega

theorem rowAt_root {rs : List (Nat × Root)} {r k : Nat} {root : Root} {c : LC} (hr : look rs r = some root) (h : rowAt rs r k = some c) : root.ls[k]? = some c := by
 unfold rowAt at h; rw [hr] at h; exact h

theorem stAppend_ok {x y : Operand} {t tx : TypeId} {st : Step} {c : Call} (h : Rel E s a w ω φ β) (hg : Met a g) (hgr : s.t.any (grdOn d) = false) (ho : o.dst = some d)
  (hop : o.op = .call c) (hc : c.callee = .builtin .append) (ha : c.args.toList = [x, y]) (hat : c.argTypes.toList = [t, tx])
  (hst : stAppend P s g d t tx x y = some st) : StepOk E P s a w o st := by
 have hx := tlOf_ok h hg x
 have hy := tlOf_ok h hg y
 have ha := toList2 ha
 have hat := toList2 hat
 have run : ∀ v w1, (Builtin.append_ #[t, tx] o.type #[a.eval x, a.eval y]).run P w = .ok v w1 → (execOp a.eval o).run P w = .ok (.value v) w1 := by
  intro v w1 hv
  simp [execOp, hop, resolve, hc, ha, invoke, builtin, hat, hv]
 unfold stAppend at hst
 simp only [iplus] at hst
 split at hst
 ·rename_i e i he hi
  obtain ⟨el, ht, hk, hi⟩ := elem_info he hi
  split at hst
  ·rename_i hcond
   obtain ⟨hw, hby, hzi, hsT⟩ := hcond
   obtain ⟨z, hz, hzo⟩ := zeroI_eq hzi
   split at hst
   ·rename_i ys hsrc
    obtain ⟨news, hs, hel⟩ := appSrc_ok h hy hsrc hsT
    split at hst
    ·rename_i hl
     cases hst
     rw [hl] at hx
     have hx : a.eval x = .slice none 0 0 := hx
     intro p hp
     have hb : rlen ys ≤ 1073741824 := by have := must_true hp; simpa [ile] using this
     have hb' : ys.length ≤ 1073741824 := by unfold rlen at hb; omega
     rcases Nat.eq_zero_or_pos ys.length with h0 | hpos
     ·obtain rfl : ys = [] := List.eq_nil_of_length_eq_zero h0
      have hn0 : news = [] := List.eq_nil_of_length_eq_zero (by have := hs.newsLen; simpa using this)
      subst hn0
      rw [hw] at hs
      refine Good.value (run (.slice none 0 0) w (by rw [hx]; exact run_append_nothing w t tx o.type el i ht hi none 0 0 (Nat.le_refl _) _ hs)) ?_
      rw [ho]
      exact nil_row h hgr
     ·obtain ⟨cs, cap', w1, h1, h2, h3, h4, h5, h6, h7, h8⟩ := append_grow (xs := ([] : List e.ty)) (ty := o.type) ht hi hz hzo hw hby ⟨none, 0, 0, rfl, rfl, Nat.le_refl _, .inl rfl⟩ hs hel (by simpa using hpos) (by simpa using hb')
      refine Good.value (run _ _ (by rw [hx]; exact h1)) ?_
      rw [ho]
      simp only [List.length_nil, Nat.zero_add] at h5 ⊢
      exact fresh_row h hgr h8 h2 h3 h4 (fun o2 _ => by simp) h5 h6 h7
    ·rename_i r k hl
     rw [hl] at hx
     have hv : (E.g w ω φ).val (locR β r k) = some (a.eval x) := hx
     split at hst
     ·rename_i root o1 e' xs hroot hrow
      split at hst
      ·rename_i he'
       subst he'
       split at hst
       ·rename_i ho1
        subst ho1
        have hrk := rowAt_root hroot hrow
        have hown : OW (E.g w ω φ) (r, k) none (.row e') (0 + 1) xs (locR β r k) := (h.lc r root k _ hroot hrk).2
        obtain ⟨base, cap, hv0⟩ := own_len hown
        have hev : a.eval x = .slice base xs.length cap := by rw [hv] at hv0; exact Option.some.inj hv0
        have hrr := own_RowR (G := E.g w ω φ) hown (.inl rfl) hv0
        have hown0 := hown
        simp only [OW] at hown
        obtain ⟨a1, len1, cap1, w1, w2, w3⟩ := hown.resolve_left (by simp)
        rw [hv0] at w1; cases w1
        -- both shapes at once
        have fin : ∀ (f : Nat) (u : Upd), E.pin f = none → (f = r ∨ (f ≠ r ∧ root.box = true)) → (∀ r', u.kill.roots.elem r' = true ↔ r' = f) → (∀ r' k', (r', k') ∈ u.kill.homes → r' = r ∧ k' = k) →
          u.dst = some (d, .one (.ref f 0)) → lastPut u.put f = some (some (floatRow e' (xs ++ ys))) →
          (f ≠ r → lastPut u.put r = some (some (Root.kill u.kill { root with ls := root.ls.set k (.tl .x) })) ∧ ∀ k', k' ≠ k → u.kill.hits r k' = false) →
          (∀ r', r' ≠ f → r' ≠ r → lastPut u.put r' = none) → xs.length + ys.length ≤ 1073741824 → Good E P s a w o u := by
         intro f u hpf q1 q2 q3 q4 q5 q6 q7 q8
         by_cases hroom : xs.length + ys.length ≤ cap
         ·rcases w3 with ⟨w3, w4⟩ | ⟨b, off, cs, tt, fr, w3, w4, w5, w6, w7, w8, w9⟩
          ·subst w4
           obtain rfl : ys = [] := List.eq_nil_of_length_eq_zero (by simp at hroom; omega)
           have hn0 : news = [] := List.eq_nil_of_length_eq_zero (by have := hs.newsLen; simpa using this)
           subst hn0
           have hs' := hs
           rw [hw] at hs'
           refine Good.value (run _ w (by rw [hev]; exact run_append_nothing w t tx o.type el i ht hi base _ cap (by simp) _ hs')) ?_
           rw [ho]
           exact Rel.inplace (bo := none) (news := []) h hpf hroot hrk q1 hv0 hroom (by simp) (.inl ⟨rfl, rfl, rfl, rfl, w3⟩) hel q2 q3 q4 hgr q5 q6 q7
          ·subst w3
           have hnl := hs.newsLen
           have hs' := hs
           rw [hw] at hs'
           have hcapw := Nat.mul_le_mul_right e'.width hroom
           rw [Nat.add_mul] at hcapw
           refine Good.value (run _ (w.setCells b (off + xs.length * e'.width) news) (by
            rw [hev, hw]
            refine run_append_room_src w t tx o.type el i ht hi b off _ cap _ ys.length news hs' hroom (fun j hj => ?_) (fun j hj => ?_)
            ·rw [← hw, cell_of_row w b _ cs tt fr w6]
             have : off + xs.length * e'.width + j < cs.size := by rw [hnl] at hj; omega
             simp [this]
            ·rw [← hw]
             have hlt : off + xs.length * e'.width + j < cs.size := by rw [hnl] at hj; omega
             have hff := w7 _ hlt
             have w6 : w.heap[b]? = some (.cells cs tt fr) := w6
             simp only [World.frozen?, w6]
             simpa using hff)) ?_
           rw [ho]
           refine Rel.inplace (bo := some b) (news := news) h hpf hroot hrk q1 hv0 hroom hnl (.inr ⟨b, off, cs, tt, fr, rfl, rfl, w5, w6, w7, w8, rfl, fun j hj => ?_⟩) hel q2 q3 q4 hgr q5 q6 q7
           have := own_elem hown0 (.inl rfl) hv0 hj
           refine Sh.congr _ _ _ _ (fun q _ => ?_) this
           exact (cell_of_row w b _ cs tt fr w6).symm
         ·obtain ⟨cs, cap', w1, h1, h2, h3, h4, h5, h6, h7, h8⟩ := append_grow (ty := o.type) ht hi hz hzo hw hby hrr hs hel (by omega) q8
          refine Good.value (run _ _ (by rw [hev]; exact h1)) ?_
          rw [ho]
          have hsz1 : w.heap.size ≤ w1.heap.size := by rw [h2]; exact Nat.le_succ _
          have hlen : (xs ++ ys).length = xs.length + ys.length := List.length_append
          have key := Rel.newRow (d := d) (u := u) (f := f) (fz := []) (t := el) (fr := (0, 0)) (cap := cap') (cs := cs) (xs := xs ++ ys) h hpf q2 q4 q5 hgr h8 h2 h3 h4 (fun o2 _ => by simp)
           (by rw [hlen]; exact h5) h6 (fun j hj => Sh_grow (nω_grows h8 hsz1 h3) (h7 j hj)) (fun _ _ _ _ _ hm => by cases hm) (fun r' root' hne hp => ?_)
          ·rw [hlen] at key; exact key
          ·by_cases hrr' : r' = r
           ·subst hrr'
            obtain ⟨g1, g2⟩ := q6 (Ne.symm hne)
            rw [g1] at hp; cases hp
            have hgw : Grows w w1 ω (nω w f [] ω) (· ∈ ([] : List (Nat × Nat))) := nω_grows h8 hsz1 h3
            have hb := h.bx r' root hroot
            have hβ : nβ f β r' = β r' := by simp [nβ, hne]
            have hkf : ∀ r0, u.kill.roots.elem r0 = false → r0 ≠ f := fun r0 hr0 he => by rw [(q2 r0).2 he] at hr0; cases hr0
            refine ⟨⟨by simp [Root.kill, hβ, hb.1], fun b' hb' => ?_⟩, fun k' c' hc' => ?_⟩
            ·rw [hβ] at hb'
             obtain ⟨cs0, t', fr', g3, g4, g5⟩ := hb.2 b' hb'
             exact ⟨cs0, t', fr', by rw [h3 b' (h.wr.bd _ _ (h.wr.bj _ _ hb'))]; exact g3, g4, by simp [Root.kill, g5]⟩
            ·simp only [Root.kill, List.getElem?_map] at hc'
             obtain ⟨c1, hc1, rfl⟩ := Option.map_eq_some_iff.1 hc'
             by_cases hkk : k = k'
             ·subst hkk
              rw [List.getElem?_set_self (List.getElem?_eq_some_iff.1 hrk).1] at hc1
              cases hc1
              exact ⟨_, val_grow hgw hβ (by simp [nφ, hne]) hv0, trivial⟩
             ·rw [List.getElem?_set_ne hkk] at hc1
              refine LCr_grow h hgw (fun r0 hr0 => ⟨by simp [nβ, hkf r0 hr0], fun k0 => by simp [nφ, hkf r0 hr0]⟩) ?_ (fun hm => by cases hm) (h.lc r' root k' c1 hroot hc1)
              cases hq : u.kill.roots.elem r' with
              | false => rfl
              | true => exact absurd ((q2 r').1 hq) hne
           ·rw [q7 r' hne hrr'] at hp; cases hp
        have hbd : ∀ p : Unit, must (ile (rlen xs + rlen ys) 1073741824) = some p → xs.length + ys.length ≤ 1073741824 := by
         intro p hp
         have := must_true hp
         have h9 : (rlen xs : Int) + rlen ys ≤ 1073741824 := by simpa [ile] using this
         unfold rlen at h9
         omega
        split at hst
        ·rename_i hbox
         split at hst
         ·cases hst
         ·rename_i hne
          cases hst
          intro p hp
          refine fin (fid d 0) _ (E.pin_fid d 0) (.inr ⟨Ne.symm hne, hbox⟩) (fun r' => by simp) (fun r' k' hm => by simpa using hm) rfl (by simp [lastPut, rapp]) (fun _ => ⟨by simp [lastPut, Ne.symm hne], fun k' hk' => ?_⟩) (fun r' h1 h2 => by simp [lastPut, Ne.symm h1, Ne.symm h2]) (hbd p hp)
          exact kill_hits (by simpa using hne) (fun r' k1 hm => by
           simp at hm; obtain ⟨rfl, rfl⟩ := hm
           rintro ⟨_, h2⟩; exact hk' h2.symm)
        ·split at hst
         ·rename_i hk0
          subst hk0
          cases hst
          have hpr : E.pin r = none := by
           cases hp : E.pin r with
           | none => rfl
           | some b => have h1 := (h.bx r root hroot).1; rw [h.wr.pin r b hp] at h1; simp at h1; contradiction
          intro p hp
          exact fin r _ hpr (.inl rfl) (fun r' => by simp) (fun r' k' hm => by cases hm) rfl (by simp [lastPut, rapp]) (fun hn => absurd rfl hn) (fun r' h1 _ => by simp [lastPut, Ne.symm h1]) (hbd p hp)
         ·cases hst
       ·cases hst
      ·cases hst
     ·cases hst
    ·cases hst
   ·cases hst
  ·cases hst
 ·cases hst

end
section
variable {E : Env} {s : St} {a : Act} {w w' : World} {ω ω' : Nat → Option Tag} {φ φ' : Nat → Nat → Option Value} {β β' : Nat → Option Nat}
variable {P : Program} {o : Oper} {g : Option (Nat × Bool)} {d : Nat}
theorem places_some (P : Program) : ∀ (fs : List Field), (fs.all fun f => (sizeT P f.type).isSome) = true →
  ∃ ps, fs.mapM (fun f => (P.info? f.type).map fun i => (f.offset, i.size)) = some ps ∧ ∀ (i : Nat) (f : Field) (n : Nat), fs[i]? = some f → sizeT P f.type = some n → ps[i]? = some (f.offset, n)
 | [], _ => ⟨[], rfl, fun i f n h => by simp at h⟩
 | f :: fs, h => by
  simp only [List.all_cons, Bool.and_eq_true] at h
  obtain ⟨ps, h1, h2⟩ := places_some P fs h.2
  obtain ⟨n0, hn0⟩ := Option.isSome_iff_exists.1 h.1
  obtain ⟨i0, hi0, hs0⟩ := sizeT_info hn0
  refine ⟨(f.offset, i0.size) :: ps, by simp [List.mapM_cons, hi0, h1], fun i f' n hf hn => ?_⟩
  cases i with
  | zero => simp at hf; subst hf; rw [hn0] at hn; cases hn; simp [hs0]
  | succ i => simp at hf; simpa using h2 i f' n hf hn

theorem litParts_ok (h : Rel E s a w ω φ β) (hg : Met a g) {fs : Array Field} {places : List (Nat × Nat)} (hpl : ∀ (i : Nat) (f : Field) (n : Nat), fs[i]? = some f → sizeT P f.type = some n → places[i]? = some (f.offset, n)) :
  ∀ {ps : List (Nat × Operand)} {ls ls' : List TL} {cs : Array Value}, litParts P s g fs ls ps = some ls' → listR (TLr (E.g w ω φ) β) ls cs →
   ∃ cs', Instr.fill (places.toArray[·]?) cs (ps.map fun p => (p.1, a.eval p.2)) = some cs' ∧ listR (TLr (E.g w ω φ) β) ls' cs'
 | [], ls, ls', cs, hl, hr => by
  simp [litParts] at hl; subst hl
  exact ⟨cs, rfl, hr⟩
 | (i, x) :: ps, ls, ls', cs, hl, hr => by
  simp only [litParts] at hl
  split at hl
  ·rename_i f ys hf hys
   split at hl
   ·rename_i n hn
    split at hl
    ·rename_i hc
     obtain ⟨hlen, hle, hck⟩ := hc
     have hcl := cells_ls h hg hys hck
     obtain ⟨h1, h2⟩ := Great.foldl_set f.offset (a.eval x).cells.toList 0 cs
     have hz : (a.eval x).cells.zipIdx.foldl (fun cs (x : Value × Nat) => cs.setIfInBounds (f.offset + x.2) x.1) cs = ((a.eval x).cells.toList.zipIdx 0).foldl (fun cs (x : Value × Nat) => cs.setIfInBounds (f.offset + x.2) x.1) cs := by
      rw [← Array.foldl_toList, Array.toList_zipIdx]
     have hr' : listR (TLr (E.g w ω φ) β) (setLs ls f.offset ys) (((a.eval x).cells.toList.zipIdx 0).foldl (fun cs (x : Value × Nat) => cs.setIfInBounds (f.offset + x.2) x.1) cs) := by
      refine ⟨by rw [h1, setLs_length, hr.1], fun j l hj => ?_⟩
      rw [setLs_get] at hj
      rw [h2 j]
      simp only [Nat.add_zero, Array.length_toList]
      by_cases hin : f.offset ≤ j ∧ j < f.offset + ys.length ∧ j < ls.length
      ·rw [if_pos hin] at hj
       rw [if_pos ⟨hin.1, by rw [hcl.1]; exact hin.2.1, by rw [hr.1]; exact hin.2.2⟩]
       obtain ⟨v, hv, hvr⟩ := hcl.2 _ _ hj
       exact ⟨v, by rw [Array.getElem?_toList]; exact hv, hvr⟩
      ·rw [if_neg hin] at hj
       rw [if_neg (by rw [hcl.1, hr.1]; exact hin)]
       exact hr.2 _ _ hj
     obtain ⟨cs', h3, h4⟩ := litParts_ok h hg hpl hl hr'
     refine ⟨cs', ?_, h4⟩
     simp only [List.map_cons, Instr.fill, List.getElem?_toArray, hpl i f n hf hn]
     rw [if_neg]
     ·rw [hz]; simpa only [List.getElem?_toArray] using h3
     ·simp only [hcl.1, hlen, hr.1, ne_eq, not_true_eq_false, decide_false, Bool.false_or, decide_eq_true_eq]
      omega
    ·cases hl
   ·cases hl
  ·cases hl

theorem stBuild_ok {t : TypeId} {ps : Array (Nat × Operand)} {st : Step} (h : Rel E s a w ω φ β) (hg : Met a g) (hgr : s.t.any (grdOn d) = false) (ho : o.dst = some d)
  (hop : o.op = .build t ps) (hst : stBuild P s g d t ps = some st) : StepOk E P s a w o st := by
 unfold stBuild at hst
 split at hst
 ·rename_i fs k z hu hk hz
  split at hst
  ·rename_i hc
   obtain ⟨hzo, hfs⟩ := hc
   obtain ⟨ls, hls, rfl⟩ := Option.map_eq_some_iff.1 hst
   obtain ⟨it, hit, hz⟩ := Option.bind_eq_some_iff.1 hz
   obtain ⟨places, hp1, hp2⟩ := places_some P fs.toList hfs
   obtain ⟨hz1, hz2⟩ := zerosOk_at hzo
   have h0 : listR (TLr (E.g w ω φ) β) (k.kinds.map zeroTL) z.cells := by
    refine ⟨by simp [hz1], fun j l hj => ?_⟩
    rw [List.getElem?_map] at hj
    obtain ⟨kd, hkd, rfl⟩ := Option.map_eq_some_iff.1 hj
    obtain ⟨v, hv, hzv⟩ := hz2 j kd hkd
    refine ⟨v, hv, ?_⟩
    have hvz := isZero_eq hzv
    subst hvz
    cases kd <;> first | exact ⟨rfl, rfl⟩ | (simp [isZero, zeroL] at hzv; done) | rfl
   obtain ⟨cs', hc1, hc2⟩ := litParts_ok h hg (fs := fs) (places := places) (fun i f n hf hn => hp2 i f n (by simpa using hf) hn) hls h0
   have hb : P.built t ((ps.map fun (i, x) => (i, a.eval x)).toList) = some cs' := by
    unfold Program.built
    simp only [hit, hu, hz, hp1]
    rw [Array.toList_map]
    exact hc1
   have hrun := run_build w t _ cs' hb
   refine good_val h hgr ho (v := .agg cs') ?_ agg_not ⟨cs', rfl, hc2⟩
   simp only [execOp, hop]
   rw [Sem.run_bind, hrun]; rfl
  ·cases hst
 ·cases hst

end
section
variable {E : Env} {s : St} {a : Act} {w w' : World} {ω ω' : Nat → Option Tag} {φ φ' : Nat → Nat → Option Value} {β β' : Nat → Option Nat}
variable {P : Program} {o : Oper} {g : Option (Nat × Bool)} {d : Nat} {C : Ctx}
theorem Rel.less {s' : St} (h : Rel E s a w ω φ β) (hl : s'.t.length = s.t.length) (ht : ∀ (t : Nat) (tv : TV), s'.t[t]? = some tv → tv = .u ∨ s.t[t]? = some tv) (hr : ∀ r x, look s'.r r = some x → look s.r r = some x) : Rel E s' a w ω φ β where
 wr := h.wr
 df := h.df
 sz := by rw [h.sz, hl]
 tm := fun t tv hx => by
  rcases ht t tv hx with rfl | h1
  ·have : t < a.tmps.size := by rw [h.sz, ← hl]; exact (List.getElem?_eq_some_iff.1 hx).1
   exact ⟨_, Array.getElem?_eq_getElem this, trivial⟩
  ·exact h.tm t tv h1
 bx := fun r x hx => h.bx r x (hr r x hx)
 lc := fun r x k c hx hc => h.lc r x k c (hr r x hx) hc



theorem TL.kill_comp (q q' : Kill) (l : TL) : (l.kill q).kill q' = l.kill ⟨q.roots ++ q'.roots, q.homes ++ q'.homes⟩ := by
 have hh : ∀ r k, (⟨q.roots ++ q'.roots, q.homes ++ q'.homes⟩ : Kill).hits r k = (q.hits r k || q'.hits r k) := by
  intro r k
  simp only [Kill.hits, List.elem_eq_mem, List.mem_append, List.any_append]
  by_cases h1 : r ∈ q.roots <;> by_cases h2 : r ∈ q'.roots <;> simp [h1, h2]
 have he : ∀ r, (q.roots ++ q'.roots).elem r = (q.roots.elem r || q'.roots.elem r) := by
  intro r
  simp only [List.elem_eq_mem, List.mem_append]
  by_cases h1 : r ∈ q.roots <;> by_cases h2 : r ∈ q'.roots <;> simp [h1, h2]
 cases l with
 | d k x => rfl
 | nil => rfl
 | x => rfl
 | iad e x off => rfl
 | ref r k => simp only [TL.kill, hh]; cases h1 : q.hits r k <;> cases h2 : q'.hits r k <;> simp [h2]
 | sub r k e lo n => simp only [TL.kill, hh]; cases h1 : q.hits r k <;> cases h2 : q'.hits r k <;> simp [h2]
 | ead r k e i off => simp only [TL.kill, hh]; cases h1 : q.hits r k <;> cases h2 : q'.hits r k <;> simp [h2]
 | adr r off => simp only [TL.kill, he]; cases h1 : q.roots.elem r <;> cases h2 : q'.roots.elem r <;> simp only [h2, Bool.or_false, Bool.or_true, Bool.false_eq_true, if_false, if_true]
 | clo f cs =>
  have hc : cs.any (q.roots ++ q'.roots).elem = (cs.any q.roots.elem || cs.any q'.roots.elem) := by
   induction cs with
   | nil => rfl
   | cons c cs ih => rw [List.any_cons, List.any_cons, List.any_cons, ih, he]; cases q.roots.elem c <;> cases q'.roots.elem c <;> cases cs.any q.roots.elem <;> cases cs.any q'.roots.elem <;> rfl
  simp only [TL.kill, hc]; cases h1 : cs.any q.roots.elem <;> cases h2 : cs.any q'.roots.elem <;> simp only [h2, Bool.or_false, Bool.or_true, Bool.false_eq_true, if_false, if_true]

theorem TV.kill_comp (q q' : Kill) (v : TV) : (v.kill q).kill q' = v.kill ⟨q.roots ++ q'.roots, q.homes ++ q'.homes⟩ := by
 have hl : ∀ ls : List TL, (ls.map (TL.kill q)).map (TL.kill q') = ls.map (TL.kill ⟨q.roots ++ q'.roots, q.homes ++ q'.homes⟩) := by
  intro ls; rw [List.map_map]; exact List.map_congr_left fun l _ => TL.kill_comp q q' l
 cases v with
 | one l => simp only [TV.kill, TL.kill_comp]
 | agg ls => simp only [TV.kill, hl]
 | tup vs =>
  simp only [TV.kill, List.map_map]; congr 1
  refine List.map_congr_left fun p _ => ?_
  simp only [Function.comp_apply, hl]
 | grd t w p => simp only [TV.kill, hl]
 | u => rfl

theorem Root.kill_comp (q q' : Kill) (x : Root) : (x.kill q).kill q' = x.kill ⟨q.roots ++ q'.roots, q.homes ++ q'.homes⟩ := by
 simp only [Root.kill, List.map_map]; congr 1
 refine List.map_congr_left fun c _ => ?_
 cases c with
 | own o e xs h => rfl
 | tl l => simp only [Function.comp_apply, LC.kill, TL.kill_comp]

theorem lastPut_map (f : Root → Root) : ∀ (ps : List (Nat × Option Root)) (n : Nat), lastPut (ps.map fun p => (p.1, p.2.map f)) n = (lastPut ps n).map (Option.map f)
 | [], _ => rfl
 | (m, x) :: ps, n => by
  simp only [List.map_cons, lastPut, lastPut_map f ps n]
  cases lastPut ps n with
  | some y => rfl
  | none => simp only [Option.map_none]; split <;> rfl

theorem app_comp {u v : Upd} (hv : v.dst = none) : (s.app (u.comp v)).t = ((s.app u).app v).t ∧ ∀ n, look (s.app (u.comp v)).r n = look ((s.app u).app v).r n := by
 have hm : (s.t.map (TV.kill u.kill)).map (TV.kill v.kill) = s.t.map (TV.kill ⟨u.kill.roots ++ v.kill.roots, u.kill.homes ++ v.kill.homes⟩) := by
  rw [List.map_map]; exact List.map_congr_left fun x _ => TV.kill_comp u.kill v.kill x
 refine ⟨?_, fun n => ?_⟩
 ·simp only [St.app]
  rw [Upd.tmps_eq, Upd.tmps_eq, Upd.tmps_eq, hv]
  simp only [Upd.comp]
  cases u.dst with
  | none => exact hm.symm
  | some p => simp only [Option.map_some, List.map_set, hm]
 ·simp only [St.app]
  rw [look_app, look_app, look_app]
  simp only [Upd.comp]
  rw [lastPut_append, lastPut_map]
  cases lastPut v.put n with
  | some y => rfl
  | none =>
   cases lastPut u.put n with
   | some y => rfl
   | none =>
    simp only [Option.map_none]
    cases look s.r n with
    | none => rfl
    | some x => simp only [Option.map_some, Root.kill_comp]

theorem findRef_ok {rs : List (Nat × Root)} : ∀ {ls : List TL} {r k : Nat} {p : (e : K) × List e.ty}, findRef rs ls = some (r, k, p) → ∃ o x, look rs r = some x ∧ x.box = true ∧ x.ls[k]? = some (.own o p.1 p.2 none)
 | [], _, _, _, h => by simp [findRef] at h
 | l :: ls, r, k, p, h => by
  cases l with
  | ref r' k' =>
   simp only [findRef] at h
   split at h
   ·rename_i x hx
    split at h
    ·rename_i hb
     split at h
     ·rename_i o e xs hk; cases h; exact ⟨o, x, hx, hb, hk⟩
     ·exact findRef_ok h
    ·exact findRef_ok h
   ·exact findRef_ok h
  | _ => exact findRef_ok (by simpa only [findRef] using h)

theorem Rel.know {t : Nat} {tv : TV} {v : Value} (h : Rel E s a w ω φ β) (hv : a.tmps[t]? = some v) (hr : TVr (TLr (E.g w ω φ) β) a.tmps tv v) : Rel E { s with t := s.t.set t tv } a w ω φ β where
 wr := h.wr
 df := h.df
 sz := by simp [h.sz]
 bx := h.bx
 lc := h.lc
 tm := fun i x hx => by
  simp only at hx
  by_cases ht : t = i
  ·subst ht
   have hlt : t < s.t.length := by have := (List.getElem?_eq_some_iff.1 hx).1; simpa using this
   rw [List.getElem?_set_self hlt] at hx
   cases hx
   exact ⟨v, hv, hr⟩
  ·rw [List.getElem?_set_ne ht] at hx; exact h.tm i x hx

theorem frzOf_ok {x : Operand} {u : Upd} (h : Rel E s a w ω φ β) (hu : frzOf s x = some u) : RelX E (s.app u) a w := by
 unfold frzOf at hu
 split at hu
 case h_2 => cases hu
 rename_i t
 split at hu
 case h_2 => cases hu
 rename_i ls hls
 split at hu
 case h_2 => cases hu
 rename_i r k p hf
 cases hu
 obtain ⟨o1, root, hroot, hbox, hk⟩ := findRef_ok hf
 have hrow : rowAt s.r r k = some (.own o1 p.1 p.2 none) := by unfold rowAt; rw [hroot]; exact hk
 have hts : s.t[t]? = some (.agg ls) := by
  rw [List.getD_eq_getElem?_getD] at hls
  cases h1 : s.t[t]? with
  | none => rw [h1] at hls; cases hls
  | some y => rw [h1] at hls; simp at hls; rw [hls]
 obtain ⟨v, hv, hvr⟩ := h.tm t _ hts
 let fz : List (Nat × Nat) := [(r, k)]
 have hg : Grows w w ω (thaw fz ω) (· ∈ fz) := ⟨Nat.le_refl _, fun _ _ => rfl, fun b _ hn => thaw_keep hn, Like.refl w⟩
 have hS : ∀ b, E.S w ω b → E.S w (thaw fz ω) b ∧ ∀ o1, cel w b o1 = cel w b o1 := fun b hb => hg.S hb
 have hT : ∀ b l, ω b = some (.own (r, k) l) → E.S w (thaw fz ω) b ∧ ∀ o1, cel w b o1 = cel w b o1 := fun b l hb => ⟨untag_S h hb (thaw_own hb (by simp [fz])) (Nat.le_refl _), fun _ => rfl⟩
 have hstay : Stays (TLr (E.g w ω φ) β) (TLr (E.g w (thaw fz ω) φ) β) ⟨[], fz⟩ := TLr_grow hg fun r _ => ⟨rfl, fun _ => rfl⟩
 have hval : ∃ v, (E.g w ω φ).val (locR β r k) = some v := by
  obtain ⟨o2, rfl, how⟩ := lc_own (h.lc r root k _ hroot hk)
  exact OW_some how rfl
 have hfroz : ∀ v, (E.g w ω φ).val (locR β r k) = some v → Sh (E.S w (thaw fz ω)) w (.row p.1) p.2 (one v) := fun v hv => frozen_sh h hS hrow hT hv
 have hfp := freezePut_ok (E := E) (s := s) (w' := w) (ω' := thaw fz ω) (φ' := φ) (β' := β) (q := ⟨[], fz⟩) (fz := fz) (by simp [fz]) (fun r0 k0 hm => by
   simp only [fz, List.mem_singleton, Prod.mk.injEq] at hm
   obtain ⟨rfl, rfl⟩ := hm
   exact ⟨o1, p.1, p.2, hrow⟩) (fun r0 k0 root0 _ hr0 => h.bx r0 root0 hr0) (fun r0 k0 root0 k1 c hm hr0 hc hne => by
   simp only [fz, List.mem_singleton, Prod.mk.injEq] at hm
   obtain ⟨rfl, rfl⟩ := hm
   exact LCr_grow h hg (fun r _ => ⟨rfl, fun _ => rfl⟩) rfl (by
    simp only [fz, List.mem_singleton, Prod.mk.injEq, not_and]
    intro _ he; exact hne he) (h.lc _ root0 k1 c hr0 hc)) (fun r0 k0 o0 e0 xs0 hm hr0 => by
   simp only [fz, List.mem_singleton, Prod.mk.injEq] at hm
   obtain ⟨rfl, rfl⟩ := hm
   rw [hrow] at hr0
   cases hr0
   obtain ⟨v, hv⟩ := hval
   exact ⟨v, hv, rfl, hfroz v hv⟩)
 refine ⟨thaw fz ω, φ, β, ?_⟩
 have key := Rel.grow (φ' := φ) (β' := β) (u := { kill := ⟨[], fz⟩, put := freezePut ⟨[], fz⟩ s.r fz }) (v := undef) h hg h.wr.pin (fun r _ => ⟨rfl, fun _ => rfl⟩)
  (fun r' b hb => by
   have h1 := h.wr.bj r' b hb
   rw [thaw_keep (fun ρ l hl => by rw [h1] at hl; cases hl), h1])
  (fun b tag hb => by
   have : ω b ≠ none := by
    intro hn
    unfold thaw at hb
    rw [hn] at hb; cases hb
   obtain ⟨tg, htg⟩ := Option.ne_none_iff_exists'.1 this
   exact h.wr.bd b tg htg)
  (fun r0 root0 k0 hr0 hl => hfp.1 r0 root0 k0 hr0 hl) (fun r0 root0 _ hq => by simp at hq) (fun r0 root0 hl => hfp.2.1 r0 root0 hl)
  (fun d tv hd => by cases hd)
 have key2 := key.know (t := t) (tv := .agg (ls.map (frzTL r k p.1 p.2))) hv (by
   obtain ⟨cs, rfl, hsz, hcs⟩ := hvr
   refine ⟨cs, rfl, by simp [hsz], fun j l hj => ?_⟩
   rw [List.getElem?_map] at hj
   obtain ⟨l0, hl0, rfl⟩ := Option.map_eq_some_iff.1 hj
   obtain ⟨c, hc, hcr⟩ := hcs j l0 hl0
   refine ⟨c, hc, ?_⟩
   unfold frzTL
   split
   ·rename_i r' k'
    split
    ·rename_i he
     obtain ⟨rfl, rfl⟩ := he
     exact ⟨rfl, hfroz c hcr⟩
    ·exact hstay _ _ hcr
   ·exact hstay _ _ hcr)
 exact key2

theorem frzArg_ok {x : Operand} {u : Upd} (h : Rel E s a w ω φ β) (hu : frzArg s x = some u) : RelX E (s.app u) a w := by
 unfold frzArg at hu
 split at hu
 case h_2 => cases hu
 rename_i t
 split at hu
 case h_2 => exact frzOf_ok h hu
 rename_i r k hls
 split at hu
 case h_2 => cases hu
 rename_i o1 e1 xs1 hrow
 cases hu
 let p : (e : K) × List e.ty := ⟨e1, xs1⟩
 have hrow : rowAt s.r r k = some (.own o1 p.1 p.2 none) := hrow
 obtain ⟨root, hroot, hk⟩ : ∃ root, look s.r r = some root ∧ root.ls[k]? = some (.own o1 p.1 p.2 none) := by
  unfold rowAt at hrow
  split at hrow
  ·rename_i x hx; exact ⟨x, hx, hrow⟩
  ·cases hrow
 have hts : s.t[t]? = some (.one (.ref r k)) := by
  rw [List.getD_eq_getElem?_getD] at hls
  cases h1 : s.t[t]? with
  | none => rw [h1] at hls; cases hls
  | some y => rw [h1] at hls; simp at hls; rw [hls]
 obtain ⟨v, hv, hvr⟩ := h.tm t _ hts
 let fz : List (Nat × Nat) := [(r, k)]
 have hg : Grows w w ω (thaw fz ω) (· ∈ fz) := ⟨Nat.le_refl _, fun _ _ => rfl, fun b _ hn => thaw_keep hn, Like.refl w⟩
 have hS : ∀ b, E.S w ω b → E.S w (thaw fz ω) b ∧ ∀ o1, cel w b o1 = cel w b o1 := fun b hb => hg.S hb
 have hT : ∀ b l, ω b = some (.own (r, k) l) → E.S w (thaw fz ω) b ∧ ∀ o1, cel w b o1 = cel w b o1 := fun b l hb => ⟨untag_S h hb (thaw_own hb (by simp [fz])) (Nat.le_refl _), fun _ => rfl⟩
 have hstay : Stays (TLr (E.g w ω φ) β) (TLr (E.g w (thaw fz ω) φ) β) ⟨[], fz⟩ := TLr_grow hg fun r _ => ⟨rfl, fun _ => rfl⟩
 have hval : ∃ v, (E.g w ω φ).val (locR β r k) = some v := by
  obtain ⟨o2, rfl, how⟩ := lc_own (h.lc r root k _ hroot hk)
  exact OW_some how rfl
 have hfroz : ∀ v, (E.g w ω φ).val (locR β r k) = some v → Sh (E.S w (thaw fz ω)) w (.row p.1) p.2 (one v) := fun v hv => frozen_sh h hS hrow hT hv
 have hfp := freezePut_ok (E := E) (s := s) (w' := w) (ω' := thaw fz ω) (φ' := φ) (β' := β) (q := ⟨[], fz⟩) (fz := fz) (by simp [fz]) (fun r0 k0 hm => by
   simp only [fz, List.mem_singleton, Prod.mk.injEq] at hm
   obtain ⟨rfl, rfl⟩ := hm
   exact ⟨o1, p.1, p.2, hrow⟩) (fun r0 k0 root0 _ hr0 => h.bx r0 root0 hr0) (fun r0 k0 root0 k1 c hm hr0 hc hne => by
   simp only [fz, List.mem_singleton, Prod.mk.injEq] at hm
   obtain ⟨rfl, rfl⟩ := hm
   exact LCr_grow h hg (fun r _ => ⟨rfl, fun _ => rfl⟩) rfl (by
    simp only [fz, List.mem_singleton, Prod.mk.injEq, not_and]
    intro _ he; exact hne he) (h.lc _ root0 k1 c hr0 hc)) (fun r0 k0 o0 e0 xs0 hm hr0 => by
   simp only [fz, List.mem_singleton, Prod.mk.injEq] at hm
   obtain ⟨rfl, rfl⟩ := hm
   rw [hrow] at hr0
   cases hr0
   obtain ⟨v, hv⟩ := hval
   exact ⟨v, hv, rfl, hfroz v hv⟩)
 refine ⟨thaw fz ω, φ, β, ?_⟩
 have key := Rel.grow (φ' := φ) (β' := β) (u := { kill := ⟨[], fz⟩, put := freezePut ⟨[], fz⟩ s.r fz }) (v := undef) h hg h.wr.pin (fun r _ => ⟨rfl, fun _ => rfl⟩)
  (fun r' b hb => by
   have h1 := h.wr.bj r' b hb
   rw [thaw_keep (fun ρ l hl => by rw [h1] at hl; cases hl), h1])
  (fun b tag hb => by
   have : ω b ≠ none := by
    intro hn
    unfold thaw at hb
    rw [hn] at hb; cases hb
   obtain ⟨tg, htg⟩ := Option.ne_none_iff_exists'.1 this
   exact h.wr.bd b tg htg)
  (fun r0 root0 k0 hr0 hl => hfp.1 r0 root0 k0 hr0 hl) (fun r0 root0 _ hq => by simp at hq) (fun r0 root0 hl => hfp.2.1 r0 root0 hl)
  (fun d tv hd => by cases hd)
 exact key.know (t := t) (tv := .one (.d (.row p.1) p.2)) hv ⟨rfl, hfroz v hvr⟩

theorem frzN_ok : ∀ (xs : List Operand) {s : St}, RelX E s a w → RelX E (frzN s xs) a w
 | [], _, h => h
 | x :: xs, s, ⟨ω, φ, β, h⟩ => by
  unfold frzN
  split
  ·rename_i u hu
   exact frzN_ok xs (frzArg_ok h hu)
  ·exact frzN_ok xs ⟨ω, φ, β, h⟩

def mvK (r k : Nat) (ρ : Nat × Nat) (l l' : Loc) (ω : Nat → Option Tag) (b : Nat) : Option Tag :=
 match ω b with
 | some (.own (q, j) m) => if q = r ∧ j = k then some (.own ρ (if m = l then l' else m)) else some (.own (q, j) m)
 | t => t

theorem fltOf_ok {x : Operand} {u : Upd} (h : Rel E s a w ω φ β) (hu : fltOf s x = some u) : RelX E (s.app u) a w := by
 unfold fltOf at hu
 split at hu
 case h_2 => cases hu
 rename_i t
 split at hu
 case h_2 => cases hu
 rename_i ls hls
 split at hu
 case h_2 => cases hu
 rename_i r k p hf
 split at hu
 case h_2 => cases hu
 rename_i root hroot
 split at hu
 case h_2 => cases hu
 rename_i o1 e1 xs1 hk
 split at hu
 case isTrue => cases hu
 rename_i hne
 cases hu
 obtain ⟨_, root', hroot', hbox, _⟩ := findRef_ok hf
 rw [hroot] at hroot'
 cases hroot'
 generalize hfe : fid t (k + 16) = f at *
 have hpf : E.pin f = none := by rw [← hfe]; exact E.pin_fid t (k + 16)
 have hts : s.t[t]? = some (.agg ls) := by
  rw [List.getD_eq_getElem?_getD] at hls
  cases h1 : s.t[t]? with
  | none => rw [h1] at hls; cases hls
  | some y => rw [h1] at hls; simp at hls; rw [hls]
 obtain ⟨v, hv, hvr⟩ := h.tm t _ hts
 obtain ⟨o2, rfl, how⟩ := lc_own (h.lc r root k _ hroot hk)
 obtain ⟨hd, hval⟩ := OW_some how rfl
 have hbx := h.bx r root hroot
 obtain ⟨b0, hb0⟩ : ∃ b0, β r = some b0 := by
  have := hbx.1
  rw [hbox] at this
  exact Option.isSome_iff_exists.1 this.symm
 have hloc : locR β r k = .cell b0 k := by simp [locR, hb0]
 let q : Kill := ⟨[f], [(r, k)]⟩
 let ω1 : Nat → Option Tag := mvK r k (f, 0) (locR β r k) (.fl f 0) ω
 have hkeep : ∀ b, (∀ l, ω b ≠ some (.own (r, k) l)) → ω1 b = ω b := by
  intro b hn
  show mvK _ _ _ _ _ _ _ = _
  unfold mvK
  split
  ·rename_i q' j l hb
   rw [if_neg, hb]
   rintro ⟨rfl, rfl⟩
   exact hn _ hb
  ·rfl
 have hgw : Grows w w ω ω1 (· = (r, k)) := ⟨Nat.le_refl _, fun _ _ => rfl, fun b _ hn => hkeep b fun l hl => hn _ _ hl rfl, Like.refl _⟩
 have hβ : ∀ n, q.roots.elem n = false → nβ f β n = β n ∧ ∀ j, nφ f hd φ n j = φ n j := by
  intro n hn
  have hn' : n ≠ f := fun he => by subst he; simp [q] at hn
  exact ⟨by simp [nβ, hn'], fun j => by simp [nφ, hn']⟩
 have hrf : r ≠ f := hne
 have hlast : ∀ n, lastPut [(r, some (Root.kill q { root with ls := root.ls.set k (.tl .x) })), (f, some ⟨false, [.own (o2 + 1) e1 xs1 none]⟩)] n = if f = n then some (some ⟨false, [.own (o2 + 1) e1 xs1 none]⟩) else if r = n then some (some (Root.kill q { root with ls := root.ls.set k (.tl .x) })) else none := by
  intro n; simp only [lastPut]; by_cases h1 : f = n <;> simp [h1]
 have hstay : Stays (TLr (E.g w ω φ) β) (TLr (E.g w ω1 (nφ f hd φ)) (nβ f β)) q := TLr_grow hgw hβ
 refine ⟨ω1, nφ f hd φ, nβ f β, ?_⟩
 have key := Rel.grow (φ' := nφ f hd φ) (β' := nβ f β) (u := { kill := q, put := [(r, some (Root.kill q { root with ls := root.ls.set k (.tl .x) })), (f, some ⟨false, [.own (o2 + 1) e1 xs1 none]⟩)] }) (v := undef) h hgw (h.wr.pin_nβ hpf) hβ
  (fun n b hb => by
   unfold nβ at hb
   split at hb
   ·cases hb
   ·have h1 := h.wr.bj n b hb
    rw [hkeep b (fun l hl => by rw [h1] at hl; cases hl), h1])
  (fun b tag hb => by
   have hb : mvK r k (f, 0) (locR β r k) (.fl f 0) ω b = some tag := hb
   unfold mvK at hb
   split at hb
   ·rename_i q' j l hq; exact h.wr.bd _ _ hq
   ·exact h.wr.bd _ _ hb)
  (fun n root0 k0 _ hp he => by
   cases he
   rw [hlast, if_neg (Ne.symm hrf), if_pos rfl] at hp
   cases hp)
  (fun n root0 _ hq => by
   have hq : n = f := by simpa [q] using hq
   rw [hlast, if_pos hq.symm]; simp)
  (fun n root0 hp => by
   rw [hlast] at hp
   split at hp
   ·rename_i he
    subst he
    cases hp
    refine ⟨⟨by simp [nβ], fun b hb => by simp [nβ] at hb⟩, fun k' c hk' => ?_⟩
    cases k' with
    | succ k' => simp at hk'
    | zero =>
     simp at hk'
     subst hk'
     refine ⟨Nat.succ_le_succ (Nat.zero_le _), ?_⟩
     have hlf : locR (nβ f β) f 0 = .fl f 0 := by simp [locR, nβ]
     rw [hlf]
     refine OW.move (G := E.g w ω φ) (G' := E.g w ω1 (nφ f hd φ)) (ρ := (r, k)) (ρ' := (f, 0)) (ℓ := locR β r k) (ℓ' := .fl f 0) (fun b hb => hgw.S hb) (fun b l hb => ?_) (fun _ _ _ => rfl) (fun b y l hb he => ?_) ?_ how
     ·have hb : ω b = some (.own (r, k) l) := hb
      show mvK r k (f, 0) (locR β r k) (.fl f 0) ω b = _
      unfold mvK
      rw [hb]
      simp
     ·have hb : ω b = some (.own (r, k) l) := hb
      rw [hloc] at he
      cases he
      have := h.wr.bj r b0 hb0
      rw [this] at hb
      cases hb
     ·rw [hval]
      simp [GW.val, Env.g, nφ]
   ·split at hp
    ·rename_i _ he
     subst he
     have hp := Option.some.inj (Option.some.inj hp)
     subst hp
     have hβr : nβ f β r = β r := by simp [nβ, hrf]
     refine ⟨⟨by rw [hβr]; exact hbx.1, fun b hb => ?_⟩, fun k' c hk' => ?_⟩
     ·rw [hβr] at hb
      obtain ⟨cs, tt, fr, h1, h2, h3⟩ := hbx.2 b hb
      exact ⟨cs, tt, fr, h1, h2, by simp [Root.kill, h3]⟩
     ·simp only [Root.kill, List.getElem?_map, Option.map_eq_some_iff] at hk'
      obtain ⟨c0, hc0, rfl⟩ := hk'
      have hkl := (List.getElem?_eq_some_iff.1 hk).1
      by_cases hkk : k = k'
      ·subst hkk
       rw [List.getElem?_set_self hkl] at hc0
       cases hc0
       refine ⟨hd, ?_, trivial⟩
       have : locR (nβ f β) r k = locR β r k := by simp only [locR, hβr]
       rw [this, hloc]
       rw [hloc] at hval
       exact hval
      ·rw [List.getElem?_set_ne hkk] at hc0
       exact LCr_grow h hgw hβ (r := r) (k := k') (by simp [q, hrf]) (fun he => hkk (by cases he; rfl)) (h.lc r root k' c0 hroot hc0)
    ·cases hp)
  (fun d tv hd' => by cases hd')
 exact key.know (t := t) (tv := .agg (ls.map (fltTL r k f))) hv (by
   obtain ⟨cs, rfl, hsz, hcs⟩ := hvr
   refine ⟨cs, rfl, by simp [hsz], fun j l hj => ?_⟩
   rw [List.getElem?_map] at hj
   obtain ⟨l0, hl0, rfl⟩ := Option.map_eq_some_iff.1 hj
   obtain ⟨c, hc, hcr⟩ := hcs j l0 hl0
   refine ⟨c, hc, ?_⟩
   unfold fltTL
   split
   ·rename_i r' k'
    split
    ·rename_i he
     obtain ⟨rfl, rfl⟩ := he
     have hcr : (E.g w ω φ).val (locR β r' k') = some c := hcr
     rw [hval] at hcr
     cases hcr
     show (E.g w ω1 (nφ f hd φ)).val (locR (nβ f β) f 0) = some hd
     simp [locR, nβ, GW.val, Env.g, nφ]
    ·exact hstay _ _ hcr
   ·exact hstay _ _ hcr)

theorem fltN_ok (x : Operand) : ∀ (n : Nat) {s : St}, RelX E s a w → RelX E (fltN n s x) a w
 | 0, _, h => h
 | n + 1, s, ⟨ω, φ, β, h⟩ => by
  unfold fltN
  split
  ·rename_i u hu
   exact fltN_ok x n (fltOf_ok h hu)
  ·exact ⟨ω, φ, β, h⟩

theorem stStoreZ_ok {t : TypeId} {x y : Operand} (hg : Met a g) (ho : o.dst = none) (hop : o.op = .store t x y) : ∀ (n : Nat) {s : St} {st : Step} {ω : Nat → Option Tag} {φ : Nat → Nat → Option Value} {β : Nat → Option Nat}, Rel E s a w ω φ β → stStoreZ P g t x y n s = some st → StepOk E P s a w o st
 | 0, s, st, ω, φ, β, h, hst => stStore_ok h hg ho hop hst
 | n + 1, s, st, ω, φ, β, h, hst => by
  simp only [stStoreZ] at hst
  split at hst
  ·rename_i st' h1; cases hst; exact stStore_ok h hg ho hop h1
  ·split at hst
   ·rename_i u hu
    split at hst
    ·rename_i v hv
     split at hst
     ·rename_i hd
      cases hst
      obtain ⟨ω', φ', β', h'⟩ := frzOf_ok h hu
      have ih := stStoreZ_ok hg ho hop n h' hv
      intro K Q hK
      refine ih K Q fun a' w' hr => hK a' w' ?_
      obtain ⟨ω2, φ2, β2, hr⟩ := hr
      have hc := app_comp (s := s) (u := u) (v := v) (by simpa using hd)
      exact ⟨ω2, φ2, β2, hr.less (by rw [hc.1]) (fun t tv ht => .inr (by rw [← hc.1]; exact ht)) fun r x hx => by rw [← hc.2]; exact hx⟩
     ·cases hst
    ·cases hst
   ·cases hst

def CallsOk (E : Env) (C : Ctx) : Prop :=
 ∀ (s : St) (a : Act) (w : World) (ω : Nat → Option Tag) (φ : Nat → Nat → Option Value) (β : Nat → Option Nat) (g : Option (Nat × Bool)) (o : Oper) (c : Call) (st : Step),
  Rel E s a w ω φ β → Met a g → (∀ d, o.dst = some d → s.t.any (grdOn d) = false) → (∀ d, o.dst = some d → E.pin d = none) → o.op = .call c → callOp C s g o.dst c = some st → StepOk E C.P s a w o st

theorem stepOp_ok (hC : CallsOk E C) {st : Step} (h : Rel E s a w ω φ β) (hg : Met a g) (hgr : ∀ d, o.dst = some d → s.t.any (grdOn d) = false) (hnp : ∀ d, o.dst = some d → E.pin d = none) (hst : stepOp C s g o = some st) : StepOk E C.P s a w o st := by
 unfold stepOp at hst
 split at hst
 ·rename_i d ho
  have hgr := hgr d ho
  have hnp := hnp d ho
  split at hst
  ·exact stMove_ok h hg hgr ho (by assumption) hst
  ·exact stAssign_ok h hg hgr ho (by assumption) hst
  ·exact stPick_ok h hg hgr ho (by assumption) hst
  ·exact stBin_ok h hg hgr ho (by assumption) hst
  ·exact stUn_ok h hg hgr ho (by assumption) hst
  ·exact stAlloc_ok h hnp hgr ho (by assumption) hst
  ·exact stBox_ok h hnp hg hgr ho (by assumption) hst
  ·exact stLoad_ok h hg hgr ho (by assumption) hst
  ·exact stFieldAddr_ok h hg hgr ho (by assumption) hst
  ·exact stIndexAddr_ok h hg hgr ho (by assumption) hst
  ·exact stIndex_ok h hg hgr ho (by assumption) hst
  ·exact stSlice_ok h hg hgr ho (by assumption) hst
  ·exact (by rename_i hop; exact stConvert_ok h hg hgr ho hop hst fun e v hs hd he hl => convert_bytes_ok h hg hgr ho hop hs hd he hl)
  ·exact stBuildSlice_ok h hg hgr ho (by assumption) hst
  ·exact stMakeSlice_ok h hg hgr ho (by assumption) hst
  ·exact stExtract_ok h hg hgr ho (by assumption) hst
  ·exact stNilCheck_ok h hg hgr ho (by assumption) hst
  ·exact stMakeFunc_ok h hg hgr ho (by assumption) hst
  ·exact stBuild_ok h hg hgr ho (by assumption) hst
  ·exact stField_ok h hg hgr ho (by assumption) hst
  ·rename_i c hop
   split at hst
   ·rename_i x hc ha
    split at hst
    ·rename_i t hat
     exact stLen_ok h hg hgr ho hop hc ha hat hst
    ·cases hst
   ·rename_i x y hc ha
    split at hst
    ·rename_i t tx hat
     exact stAppend_ok h hg hgr ho hop hc ha hat hst
    ·cases hst
   ·rename_i x y hc ha
    exact stMax_ok (mx := true) h hg hgr ho hop hc ha hst
   ·rename_i x y hc ha
    exact stMax_ok (mx := false) h hg hgr ho hop hc ha hst
   ·cases hst
   ·exact hC s a w ω φ β g o c st h hg (fun d' hd' => by rw [ho] at hd'; cases hd'; exact hgr) (fun d' hd' => by rw [ho] at hd'; cases hd'; exact hnp) hop (by rw [ho]; exact hst)
  ·cases hst
 ·rename_i ho
  split at hst
  ·exact stStoreZ_ok hg ho (by assumption) _ h hst
  ·rename_i c hop
   exact hC s a w ω φ β g o c st h hg (fun d' hd' => by rw [ho] at hd'; cases hd') (fun d' hd' => by rw [ho] at hd'; cases hd') hop (by rw [ho]; exact hst)
  ·cases hst

theorem wantedB_ok (h : Rel E s a w ω φ β) : ∀ (n t : Nat) (want c : Bool), wantedB s n t want = some c → (c = true ↔ a.tmps[t]? = some (.bool want))
 | 0, _, _, _, hw => by cases hw
 | n + 1, t, want, c, hw => by
  simp only [wantedB] at hw
  have key : ∀ tv, s.t.getD t .u = tv → tv ≠ .u → s.t[t]? = some tv := by
   intro tv htv hne
   rw [List.getD_eq_getElem?_getD] at htv
   cases h1 : s.t[t]? with
   | none => rw [h1] at htv; exact absurd htv.symm hne
   | some x => rw [h1] at htv; rw [← htv]; rfl
  split at hw
  ·rename_i v htv
   cases hw
   obtain ⟨x, hx, hr⟩ := h.tm t _ (key _ htv (fun he => by cases he))
   have hxv : x = .bool v := bool_of hr.2
   subst hxv
   rw [hx]
   cases want <;> cases v <;> simp [bnot]
  ·rename_i t' w' v htv
   obtain ⟨c', hc', rfl⟩ := Option.map_eq_some_iff.1 hw
   obtain ⟨x, hx, hr⟩ := h.tm t _ (key _ htv (fun he => by cases he))
   have ih := wantedB_ok h n t' w' c' hc'
   rw [hx]
   by_cases hm : a.tmps[t']? = some (.bool w')
   ·have hct := ih.2 hm
    subst hct
    obtain ⟨l, hl, hlr⟩ := hr.1 hm
    cases hl
    have hxv : x = .bool v := bool_of hlr.2
    subst hxv
    cases want <;> cases v <;> simp [bnot, band]
   ·have hxv := hr.2 hm
    have hcf : c' = false := by
     cases c' with
     | false => rfl
     | true => exact absurd (ih.1 rfl) hm
    subst hcf hxv
    simp [band, undef]
  ·cases hw

theorem Rel.weak {u : Upd} {tv tv' : TV} (hu : u.dst = some (d, tv)) (h : Rel E (s.app u) a w ω φ β) (hw : ∀ v, TVr (TLr (E.g w ω φ) β) a.tmps tv v → TVr (TLr (E.g w ω φ) β) a.tmps tv' v) : Rel E (s.app { u with dst := some (d, tv') }) a w ω φ β where
 wr := h.wr
 df := h.df
 sz := by have := h.sz; simpa [St.app, Upd.tmps_eq, hu] using this
 bx := h.bx
 lc := h.lc
 tm := by
  intro t x hx
  simp only [St.app] at hx
  rw [Upd.tmps_eq] at hx
  simp only at hx
  by_cases ht : d = t
  ·subst ht
   have hlt : d < s.t.length := by
    have := (List.getElem?_eq_some_iff.1 hx).1
    simpa using this
   obtain ⟨v, hv, hr⟩ := h.tm d tv (by simp only [St.app]; rw [Upd.tmps_eq, hu]; simp [hlt])
   rw [List.getElem?_set_self (by simpa using hlt)] at hx
   cases hx
   exact ⟨v, hv, hw v hr⟩
  ·exact h.tm t x (by
    simp only [St.app]
    rw [Upd.tmps_eq, hu]
    simp only
    rw [List.getElem?_set_ne ht] at hx ⊢
    exact hx)

theorem Rel.forget {q : Kill} {ps : List (Nat × Option Root)} (h : Rel E s a w ω φ β) (hp : (ps.all fun p => p.2.isNone) = true) : Rel E (s.app { kill := q, put := ps }) a w ω φ β := by
 have hn : ∀ r x, lastPut ps r ≠ some (some x) := by
  intro r x
  clear h
  induction ps with
  | nil => simp [lastPut]
  | cons p ps ih =>
   obtain ⟨m, y⟩ := p
   simp only [List.all_cons, Bool.and_eq_true] at hp
   have ih := ih hp.2
   simp only [lastPut]
   cases hl : lastPut ps r with
   | some z => intro he; simp only [Option.some.injEq] at he; subst he; exact ih hl
   | none =>
    simp only
    split
    ·intro he; simp only [Option.some.injEq] at he; subst he; simp at hp
    ·intro he; cases he
 have hk : ∀ l v, TLr (E.g w ω φ) β l v → TLr (E.g w ω φ) β (l.kill q) v := by
  intro l v hl
  cases l <;> simp only [TL.kill] <;> (try exact hl) <;> (split <;> first | trivial | exact hl)
 exact h.step (u := { kill := q, put := ps }) (v := undef) h.wr hk (fun r root hr hl => ⟨h.bx r root hr, fun k c hc hlc => by
  cases c with
  | own o e xs hole => exact hlc
  | tl l => obtain ⟨v, h1, h2⟩ := hlc; exact ⟨v, h1, hk l v h2⟩⟩) (fun r root hl => absurd hl (hn r root)) (fun d tv hd => by cases hd)

theorem grd?_ok {R : TL → Value → Prop} {tmps : Array Value} {t : Nat} {want : Bool} {tv : TV} {v : Value} (hm : tmps[t]? = some (.bool want)) (h : TVr R tmps tv v) : TVr R tmps ((tv.grd? t want).getD .u) v := by
 cases tv with
 | one l => exact ⟨fun _ => ⟨l, rfl, h⟩, fun hn => absurd hm hn⟩
 | agg ls => exact ⟨fun _ => h, fun hn => absurd hm hn⟩
 | tup vs => trivial
 | grd a b c => trivial
 | u => trivial

theorem grd?_not {R : TL → Value → Prop} {tmps : Array Value} {t : Nat} {want : Bool} {tv : TV} (hm : tmps[t]? ≠ some (.bool want)) : TVr R tmps ((tv.grd? t want).getD .u) undef := by
 cases tv with
 | one l => exact ⟨fun h => absurd h hm, fun _ => rfl⟩
 | agg ls => exact ⟨fun h => absurd h hm, fun _ => rfl⟩
 | tup vs => trivial
 | grd a b c => trivial
 | u => trivial

def GOk (E : Env) (P : Program) (ops : Array Oper) (s : St) (a : Act) (w : World) (o : Oper) (u : Upd) : Prop :=
 ∀ (K : Act → World → Prop) (Q : Exit → Act → World → Prop), (∀ a' w', RelX E (s.app u) a' w' → K a' w') →
  if Region.wanted o (yielded ops a.tmps) then o.wp P a w K Q else K (a.put o.dst undef) w

def GStOk (E : Env) (P : Program) (ops : Array Oper) (s : St) (a : Act) (w : World) (o : Oper) : GSt → Prop
 | .ok u => GOk E P ops s a w o u
 | .may _ comp upd => ∀ p u, comp = some p → upd p = some u → GOk E P ops s a w o u

theorem wantedB_app {u : Upd} {tv : TV} (hu : u.dst = some (d, tv)) (hgr : s.t.any (grdOn d) = false) : ∀ (n t : Nat) (want : Bool), d ≠ t → wantedB (s.app u) n t want = wantedB s n t want
 | 0, _, _, _ => rfl
 | n + 1, t, want, hne => by
  have hget : ∀ t, d ≠ t → (s.app u).t.getD t .u = (s.t.getD t .u).kill u.kill := by
   intro t hne
   simp only [St.app]
   rw [Upd.tmps_eq, hu]
   simp only [List.getD_eq_getElem?_getD]
   rw [List.getElem?_set_ne hne, List.getElem?_map]
   cases s.t[t]? <;> rfl
  simp only [wantedB, hget t hne]
  have hkd : ∀ v : Bool, TL.kill u.kill (.d .bool v) = .d .bool v := fun v => rfl
  cases htv : s.t.getD t .u with
  | one l =>
   simp only [TV.kill]
   cases l with
   | d k x => cases k <;> rfl
   | nil => rfl
   | x => rfl
   | iad e x off => rfl
   | ref r k => simp only [TL.kill]; cases u.kill.hits r k <;> rfl
   | sub r k e lo n => simp only [TL.kill]; cases u.kill.hits r k <;> rfl
   | ead r k e i off => simp only [TL.kill]; cases u.kill.hits r k <;> rfl
   | adr r off => simp only [TL.kill]; cases u.kill.roots.elem r <;> rfl
   | clo f cs => simp only [TL.kill]; cases cs.any u.kill.roots.elem <;> rfl
  | agg ls => rfl
  | tup vs => rfl
  | u => rfl
  | grd t' w' p =>
   have hne' : d ≠ t' := by
    rintro rfl
    rw [List.any_eq_false] at hgr
    refine hgr (.grd d w' p) ?_ (by simp [grdOn])
    rw [List.getD_eq_getElem?_getD] at htv
    cases h1 : s.t[t]? with
    | none => rw [h1] at htv; cases htv
    | some x => rw [h1] at htv; simp at htv; subst htv; exact List.mem_of_getElem? h1
   have ih := wantedB_app hu hgr n t' w' hne'
   obtain ⟨b, ls⟩ := p
   cases b with
   | true => rfl
   | false =>
    cases ls with
    | nil => rfl
    | cons l ls =>
     cases ls with
     | cons l' ls =>
      simp only [TV.kill, List.map_cons]
      generalize TL.kill u.kill l = l2
      cases l2 with
      | d k x => cases k <;> rfl
      | _ => rfl
     | nil =>
      simp only [TV.kill, List.map_cons, List.map_nil]
      cases l with
      | d k x =>
       cases k with
       | bool => simp only [TL.kill, ih]
       | _ => rfl
      | nil => rfl
      | x => rfl
      | iad e x off => rfl
      | ref r k => simp only [TL.kill]; cases u.kill.hits r k <;> rfl
      | sub r k e lo n => simp only [TL.kill]; cases u.kill.hits r k <;> rfl
      | ead r k e i off => simp only [TL.kill]; cases u.kill.hits r k <;> rfl
      | adr r off => simp only [TL.kill]; cases u.kill.roots.elem r <;> rfl
      | clo f cs => simp only [TL.kill]; cases cs.any u.kill.roots.elem <;> rfl

theorem guardUpd_ok {ops : Array Oper} {j t : Nat} {want c : Bool} {u u' : Upd} (h : Rel E s a w ω φ β) (hgr : ∀ d, o.dst = some d → s.t.any (grdOn d) = false) (hog : o.guard = some (j, want))
  (ht : (ops[j]?).bind (·.dst) = some t) (hw : wantedB s 4 t want = some c) (hu : guardUpd o.dst t want u = some u')
  (hgood : c = true → Met a (some (t, want)) → Good E P s a w o u) : GOk E P ops s a w o u' := by
 unfold guardUpd at hu
 split at hu
 ·rename_i d v hdst
  split at hu
  ·cases hu
  ·rename_i hne
   by_cases hod : o.dst = some d
   case neg => rw [if_neg hod] at hu; cases hu
   rw [if_pos hod] at hu
   split at hu
   case isFalse => cases hu
   rename_i hput
   cases hu
   have hgd := hgr d hod
   have hwt := wantedB_ok h 4 t want c hw
   have hwant : Region.wanted o (yielded ops a.tmps) = true ↔ c = true := by
    rw [hwt]
    simp only [Region.wanted, hog, yielded, ht, Option.bind_some]
    cases hx : a.tmps[t]? with
    | none => simp
    | some x => cases x <;> simp
   intro K Q hK
   split
   ·rename_i hy
    have hc := hwant.1 hy
    refine hgood hc (hwt.1 hc) K Q fun a' w' hr => hK a' w' ?_
    obtain ⟨ω', φ', β', hr⟩ := hr
    refine ⟨ω', φ', β', hr.weak hdst fun v' hv' => grd?_ok ?_ hv'⟩
    have hw' : wantedB (s.app u) 4 t want = some c := by rw [wantedB_app hdst hgd 4 t want hne]; exact hw
    exact (wantedB_ok hr 4 t want c hw').1 hc
   ·rename_i hy
    have hnot : ¬ c = true := fun hc => hy (hwant.2 hc)
    have h2 : a.tmps[t]? ≠ some (.bool want) := fun he => hnot (hwt.2 he)
    have hf := h.forget (q := u.kill) (ps := u.put) hput.1
    have hgf : (s.app { kill := u.kill, put := u.put }).t.any (grdOn d) = false := by
     rw [List.any_eq_false] at hgd ⊢
     intro x hx
     simp only [St.app] at hx
     rw [Upd.tmps_eq] at hx
     simp only at hx
     obtain ⟨y, hy', rfl⟩ := List.mem_map.1 hx
     have := hgd y hy'
     cases y <;> first | exact this | (simp [TV.kill, grdOn]; done)
    have hp := hf.put (d := d) (tv := (v.grd? t want).getD .u) (v := undef) (grd?_not (by
     simp only [Act.put]
     rw [Array.getElem?_setIfInBounds_ne hne]
     exact h2)) hgf
    refine hK _ _ ⟨ω, φ, β, ?_⟩
    rw [hod]
    have e1 : (s.app { kill := u.kill, put := u.put }).app { dst := some (d, (v.grd? t want).getD .u) } = s.app { u with dst := some (d, (v.grd? t want).getD .u) } := by
     unfold St.app Upd.tmps Upd.roots
     simp [Kill.onT, Kill.onR, putAll]
    rw [← e1]
    exact hp
 ·cases hu

def PinOk (E : Env) (C : Ctx) : Prop := ∀ r b, E.pin r = some b → C.pr.elem r = true

theorem stepG_ok (hC : CallsOk E C) (hP : PinOk E C) {ops : Array Oper} {st : GSt} (h : Rel E s a w ω φ β) (hst : stepG C ops s o = some st) : GStOk E C.P ops s a w o st := by
 unfold stepG at hst
 split at hst
 ·cases hst
 ·rename_i hgr0
  have hgr : ∀ d, o.dst = some d → s.t.any (grdOn d) = false := by
   intro d hd
   rw [hd] at hgr0
   simp only [Option.any_some, Bool.not_eq_true, Bool.or_eq_true, not_or] at hgr0
   exact hgr0.1
  have hnp : ∀ d, o.dst = some d → E.pin d = none := by
   intro d hd
   rw [hd] at hgr0
   simp only [Option.any_some, Bool.not_eq_true, Bool.or_eq_true, not_or] at hgr0
   cases hp : E.pin d with
   | none => rfl
   | some b => have := hP d b hp; rw [hgr0.2] at this; cases this
  split at hst
  ·rename_i hg
   obtain ⟨st', h1, rfl⟩ := Option.map_eq_some_iff.1 hst
   have hok := stepOp_ok hC h (g := none) trivial hgr hnp h1
   have hw : ∀ u, Good E C.P s a w o u → GOk E C.P ops s a w o u := by
    intro u hu K Q hK
    rw [if_pos (by simp [Region.wanted, hg])]
    exact hu K Q hK
   cases st' with
   | ok u => exact hw u hok
   | may pk comp upd => exact fun p u hp hu => by cases hu; exact hw _ (hok p hp)
  ·rename_i j want hog
   split at hst
   ·cases hst
   ·rename_i t ht
    split at hst
    ·rename_i c u hw h1
     obtain ⟨u', hu, rfl⟩ := Option.map_eq_some_iff.1 hst
     exact guardUpd_ok h hgr hog ht hw hu fun _ hm => stepOp_ok hC h hm hgr hnp h1
    ·rename_i c pk comp upd hw h1
     cases hst
     intro p u' hp hu
     refine guardUpd_ok h hgr hog ht hw hu fun hc hm => ?_
     subst hc
     exact stepOp_ok hC h hm hgr hnp h1 p hp
    ·cases hst

theorem prepS_ok {s : St} (o : Oper) (h : RelX E s a w) : RelX E (prepS C s o) a w := by
 unfold prepS
 split
 ·exact frzN_ok _ h
 ·split
  ·exact fltN_ok _ _ h
  ·exact h
 ·exact h

theorem runOps_ok {R : Type} (hC : CallsOk E C) (hP : PinOk E C) {ops : Array Oper} {Q : Exit → Act → World → Prop} {k : St → Option R} {r : R} : ∀ (l : List Oper) (s : St) (a : Act) (w : World), runOps C ops l s k = some r → RelX E s a w →
  (∀ s' a' w', RelX E s' a' w' → k s' = some r → Q .normal a' w') → wpList C.P ops Q l a w
 | [], s, a, w, hr, h, hk => wpList_nil (hk s a w h hr)
 | o :: l, s, a, w, hr, ⟨ω, φ, β, h⟩, hk => by
  refine wpList_step fun K hK => ?_
  simp only [runOps] at hr
  split at hr
  ·rename_i u hst
   exact stepG_ok hC hP h hst K Q fun a' w' hrel => hK a' w' (runOps_ok hC hP l _ a' w' hr hrel hk)
  ·rename_i pk comp upd hst
   unfold bnd at hr
   obtain ⟨p, hp, hr⟩ := Option.bind_eq_some_iff.1 hr
   split at hr
   ·rename_i u hu
    exact stepG_ok hC hP h hst p u hp hu K Q fun a' w' hrel => hK a' w' (runOps_ok hC hP l _ a' w' hr hrel hk)
   ·cases hr
  ·obtain ⟨ω2, φ2, β2, h2⟩ := prepS_ok (C := C) o ⟨ω, φ, β, h⟩
   split at hr
   ·rename_i u hst
    exact stepG_ok hC hP h2 hst K Q fun a' w' hrel => hK a' w' (runOps_ok hC hP l _ a' w' hr hrel hk)
   ·rename_i pk comp upd hst
    unfold bnd at hr
    obtain ⟨p, hp, hr⟩ := Option.bind_eq_some_iff.1 hr
    split at hr
    ·rename_i u hu
     exact stepG_ok hC hP h2 hst p u hp hu K Q fun a' w' hrel => hK a' w' (runOps_ok hC hP l _ a' w' hr hrel hk)
    ·cases hr
   ·cases hr

end
def EqL (rs rs' : List (Nat × Root)) (l : TL) : Prop := ∀ r ∈ l.roots, look rs r = look rs' r
def EqLs (rs rs' : List (Nat × Root)) (ls : List TL) : Prop := ∀ l ∈ ls, EqL rs rs' l
def EqV (rs rs' : List (Nat × Root)) (v : TV) : Prop := ∀ r ∈ v.roots, look rs r = look rs' r

section
variable {rs rs' : List (Nat × Root)}
theorem EqV.tl {v : TV} (h : EqV rs rs' v) : EqL rs rs' v.tl := by
  cases v with
  | one l => exact h
  | _ => intro r hr; simp [TV.tl, TL.roots] at hr

theorem EqV.ls {v : TV} {ls : List TL} (h : EqV rs rs' v) (hl : v.ls = some ls) : EqLs rs rs' ls := by
  cases v with
  | one l => simp [TV.ls] at hl; subst hl; intro l' hl' r hr; simp at hl'; subst hl'; exact h r hr
  | agg xs => simp [TV.ls] at hl; subst hl; intro l hl r hr; exact h r (List.mem_flatMap.2 ⟨l, hl, hr⟩)
  | _ => simp [TV.ls] at hl

theorem EqLs.head {l : TL} {ls : List TL} (h : EqLs rs rs' (l :: ls)) : EqL rs rs' l := h l (List.mem_cons_self ..)
theorem EqLs.tail {l : TL} {ls : List TL} (h : EqLs rs rs' (l :: ls)) : EqLs rs rs' ls := fun y hx => h y (List.mem_cons_of_mem _ hx)

theorem rowAt_congr {r k : Nat} (h : look rs r = look rs' r) : rowAt rs r k = rowAt rs' r k := by unfold rowAt; rw [h]

theorem EqL.ref {r k : Nat} (h : EqL rs rs' (.ref r k)) : look rs r = look rs' r := h r (by simp [TL.roots])
theorem EqL.sub {r k : Nat} {e : K} {lo n : Int} (h : EqL rs rs' (.sub r k e lo n)) : look rs r = look rs' r := h r (by simp [TL.roots])
theorem EqL.adr {r k : Nat} (h : EqL rs rs' (.adr r k)) : look rs r = look rs' r := h r (by simp [TL.roots])
theorem EqL.ead {r k : Nat} {e : K} {i : Int} {o : Nat} (h : EqL rs rs' (.ead r k e i o)) : look rs r = look rs' r := h r (by simp [TL.roots])

theorem readRow_congr {l : TL} (h : EqL rs rs' l) : readRow rs l = readRow rs' l := by
  cases l with
  | ref r k => simp only [readRow, rowAt_congr h.ref]
  | sub r k e lo n => simp only [readRow, rowAt_congr h.sub]
  | d k x => cases k <;> rfl
  | _ => rfl

theorem loadL_congr {n : Nat} {l : TL} (h : EqL rs rs' l) : loadL rs n l = loadL rs' n l := by
  cases l with
  | adr r k => simp only [loadL, h.adr]
  | ead r k e i o => simp only [loadL, rowAt_congr h.ead]
  | _ => rfl

theorem deepL_congr {kd : K} {l : TL} (h : EqL rs rs' l) : deepL rs kd l = deepL rs' kd l := by
  cases l with
  | d k x => rfl
  | nil => rfl
  | _ => simp only [deepL, readRow_congr h]

theorem deepAll_congr : ∀ {kds : List K} {ls : List TL}, EqLs rs rs' ls → deepAll rs kds ls = deepAll rs' kds ls
  | _, [], _ => rfl
  | kds, l :: ls, h => by simp only [deepAll, deepL_congr h.head, deepAll_congr h.tail]

theorem cellOk_congr {l : TL} (h : EqL rs rs' l) : cellOk rs l = cellOk rs' l := by
  cases l with
  | ref r k => simp only [cellOk, rowAt_congr h.ref]
  | _ => rfl

theorem cellsOk_congr {v : TV} (h : EqV rs rs' v) : cellsOk rs v = cellsOk rs' v := by
  cases v with
  | one l => exact cellOk_congr (l := l) h
  | _ => rfl

theorem intoBox_congr {i : Nat} {kd : K} {l : TL} (h : EqL rs rs' l) : intoBox rs i kd l = intoBox rs' i kd l := by
  cases l with
  | ref r k => cases k with
    | zero => simp only [intoBox, h.ref]
    | succ k => rfl
  | _ => rfl

theorem intoBoxAll_congr : ∀ {i : Nat} {kds : List K} {ls : List TL}, EqLs rs rs' ls → intoBoxAll rs i kds ls = intoBoxAll rs' i kds ls
  | _, _, [], _ => rfl
  | i, kds, l :: ls, h => by simp only [intoBoxAll, intoBox_congr h.head, intoBoxAll_congr h.tail]

theorem intoRow_congr {kd : K} {l : TL} (h : EqL rs rs' l) : intoRow rs kd l = intoRow rs' kd l := by
  cases l with
  | ref r k => simp only [intoRow, rowAt_congr h.ref]
  | _ => rfl

theorem intoRowAll_congr : ∀ {kds : List K} {ls : List TL}, EqLs rs rs' ls → intoRowAll rs kds ls = intoRowAll rs' kds ls
  | _, [], _ => rfl
  | kds, l :: ls, h => by simp only [intoRowAll, intoRow_congr h.head, intoRowAll_congr h.tail]

theorem intoRow_fz {kd : K} {l : TL} {f : Leaf} {fz : List (Nat × Nat)} (h : intoRow rs kd l = some (f, fz)) : ∀ p ∈ fz, p.1 ∈ l.roots := by
  cases l with
  | ref r k =>
    simp only [intoRow] at h
    split at h
    · cases h; intro p hp; simp at hp; subst hp; simp [TL.roots]
    · cases h
  | d k x => simp [intoRow] at h; intro p hp; rw [h.2] at hp; cases hp
  | nil =>
    simp only [intoRow] at h
    split at h
    · cases h; intro p hp; cases hp
    · cases h
  | _ => simp [intoRow] at h

theorem intoRowAll_fz : ∀ {kds : List K} {ls : List TL} {fs : List Leaf} {fz : List (Nat × Nat)}, intoRowAll rs kds ls = some (fs, fz) → ∀ p ∈ fz, ∃ l ∈ ls, p.1 ∈ l.roots
  | _, [], fs, fz, h => by simp [intoRowAll] at h; intro p hp; rw [h.2] at hp; cases hp
  | kds, l :: ls, fs, fz, h => by
    simp only [intoRowAll] at h
    split at h
    · rename_i a b h1 h2
      cases h
      intro p hp
      rcases List.mem_append.1 hp with hp | hp
      · exact ⟨l, List.mem_cons_self .., intoRow_fz (f := a.1) (fz := a.2) h1 p hp⟩
      · obtain ⟨l', hl, hr⟩ := intoRowAll_fz (fs := b.1) (fz := b.2) h2 p hp
        exact ⟨l', List.mem_cons_of_mem _ hl, hr⟩
    · cases h

theorem freezePut_congr {q : Kill} : ∀ {hs : List (Nat × Nat)}, (∀ h ∈ hs, look rs h.1 = look rs' h.1) → freezePut q rs hs = freezePut q rs' hs
  | [], _ => rfl
  | (r, k) :: hs, h => by
    simp only [freezePut, h (r, k) (List.mem_cons_self ..), freezePut_congr fun x hx => h x (List.mem_cons_of_mem _ hx)]

theorem srcOk_congr {l : TL} (h : EqL rs rs' l) : srcOk rs l = srcOk rs' l := by
  cases l with
  | ref r k => simp only [srcOk, rowAt_congr h.ref]
  | sub r k e lo n => simp only [srcOk, rowAt_congr h.sub]
  | d k x => cases k <;> rfl
  | _ => rfl

theorem appSrc_congr {e : K} {l : TL} (h : EqL rs rs' l) : appSrc rs e l = appSrc rs' e l := by
  unfold appSrc
  split
  · rfl
  · rfl
  · rw [srcOk_congr h, readRow_congr h]

theorem capLeaves_congr : ∀ {cs : List Nat}, (∀ r ∈ cs, look rs r = look rs' r) → capLeaves rs cs = capLeaves rs' cs
  | [], _ => rfl
  | r :: cs, h => by simp only [capLeaves, h r (List.mem_cons_self ..), capLeaves_congr fun x hx => h x (List.mem_cons_of_mem _ hx)]

theorem argL_congr {kd : K} {l : TL} (h : EqL rs rs' l) : argL rs kd l = argL rs' kd l := by
  unfold argL
  split
  · rename_i fn caps
    rw [capLeaves_congr fun r hr => h r (by simpa [TL.roots] using hr)]
  · exact deepL_congr h
end
section
variable {s s' : St} {g : Option (Nat × Bool)} {P : Program} {C : Ctx} {d : Nat} {t : TypeId}
theorem app_n {u : Upd} : (s.app u).t.length = s.t.length := by
  simp only [St.app]; rw [Upd.tmps_eq]; cases u.dst <;> simp

theorem app_t {u : Upd} (t : Nat) : (s.app u).t.getD t .u = match u.dst with
    | some (d, v) => if d = t ∧ t < s.t.length then v else (s.t.getD t .u).kill u.kill
    | none => (s.t.getD t .u).kill u.kill := by
  have hm : ∀ t, (s.t.map (TV.kill u.kill)).getD t .u = (s.t.getD t .u).kill u.kill := by
    intro t
    rw [List.getD_eq_getElem?_getD, List.getD_eq_getElem?_getD, List.getElem?_map]
    cases s.t[t]? <;> rfl
  simp only [St.app]; rw [Upd.tmps_eq]
  cases hd : u.dst with
  | none => exact hm t
  | some p =>
    obtain ⟨d, v⟩ := p
    simp only
    by_cases ht : d = t
    · subst ht
      by_cases hl : d < s.t.length
      · rw [if_pos ⟨rfl, hl⟩, List.getD_eq_getElem?_getD, List.getElem?_set_self (by simpa using hl)]; rfl
      · rw [if_neg (fun h => hl h.2), List.getD_eq_getElem?_getD, List.getD_eq_getElem?_getD, List.getElem?_eq_none (by simpa using hl), List.getElem?_eq_none (by omega)]; rfl
    · rw [if_neg (fun h => ht h.1), List.getD_eq_getElem?_getD, List.getElem?_set_ne ht, ← List.getD_eq_getElem?_getD, hm]

theorem app_r {u : Upd} (n : Nat) : look (s.app u).r n = match lastPut u.put n with | some y => y | none => (look s.r n).map (Root.kill u.kill) := look_app u s.r n

structure EqX (s s' : St) (g : Option (Nat × Bool)) (x : Operand) : Prop where
  n : s.t.length = s'.t.length
  rr : ∀ t, x = .tmp t → ∀ n ∈ (s'.t.getD t .u).roots, look s.r n = look s'.r n
  tm : ∀ t, x = .tmp t → s.t.getD t .u = s'.t.getD t .u
  tv : tvOf s g x = tvOf s' g x
  r : EqV s.r s'.r (tvOf s' g x)

theorem EqX.mk' {x : Operand} (n : s.t.length = s'.t.length) (tm : ∀ t, x = .tmp t → s.t.getD t .u = s'.t.getD t .u) (r : ∀ t, x = .tmp t → ∀ n ∈ (s'.t.getD t .u).roots, look s.r n = look s'.r n) : EqX s s' g x := by
  have tv : tvOf s g x = tvOf s' g x := by
    cases x with
    | tmp t => simp only [tvOf, tm t rfl]
    | _ => rfl
  refine ⟨n, r, tm, tv, ?_⟩
  cases x with
  | tmp t =>
    intro n hn
    refine r t rfl n ?_
    simp only [tvOf] at hn
    split at hn
    · rename_i t' w p hp
      rw [hp]
      split at hn
      · split at hn
        · simpa [TV.roots] using hn
        · simpa [TV.roots] using hn
        · simp [TV.roots] at hn
      · simp [TV.roots] at hn
    · exact hn
  | const v => intro n hn; exfalso
               simp only [tvOf] at hn
               have hc : ∀ v, (constTL v).roots = [] := by
                 intro v; unfold constTL; split <;> rfl
               cases v <;> simp only [constTV, TV.roots, hc, List.not_mem_nil] at hn
               rename_i cs
               obtain ⟨l, hl, hr⟩ := List.mem_flatMap.1 hn
               obtain ⟨v, _, rfl⟩ := List.mem_map.1 hl
               rw [hc] at hr; cases hr
  | func f => intro n hn; simp [tvOf, TV.roots, TL.roots] at hn
  | global f => intro n hn; simp [tvOf, TV.roots] at hn

theorem EqX.tl {x : Operand} (h : EqX s s' g x) : EqL s.r s'.r (tvOf s' g x).tl := h.r.tl

theorem stMove_congr {x : Operand} (h : EqX s s' g x) : stMove s g d x = stMove s' g d x := by unfold stMove; rw [h.tv]

theorem stAssign_congr {x : Operand} (h : EqX s s' g x) : stAssign P s g d x t = stAssign P s' g d x t := by
  unfold stAssign
  rw [h.tv]
  split
  · rfl
  · rename_i r hr
    have := h.r
    rw [hr] at this
    rw [show look s.r r = look s'.r r from EqL.ref (k := 0) this]
  · rfl
  · rfl

theorem pickArm_congr {c x : Operand} {w : Bool} (h : EqX s s' g x) : pickArm s g c w x = pickArm s' g c w x := by
  unfold pickArm
  split
  · rename_i ct t
    rw [h.tm t rfl, h.tv]
  · rw [h.tv]

theorem stPick_congr {c x y : Operand} (hc : EqX s s' g c) (hx : EqX s s' g x) (hy : EqX s s' g y) : stPick s g d c x y = stPick s' g d c x y := by
  unfold stPick
  rw [hc.tv, pickArm_congr hx, pickArm_congr hy]

theorem stBin_congr {op : BinOp} {x y : Operand} (hx : EqX s s' g x) (hy : EqX s s' g y) : stBin P s g d op t x y = stBin P s' g d op t x y := by
  unfold stBin; rw [hx.tv, hy.tv]

theorem stUn_congr {op : UnOp} {x : Operand} (hx : EqX s s' g x) : stUn s g d op x = stUn s' g d op x := by
  unfold stUn; rw [hx.tv]

theorem stBox_congr {x : Operand} (h : EqX s s' g x) : stBox P s g d t x = stBox P s' g d t x := by
  unfold stBox
  rw [h.tv]
  split
  · rename_i ls hls
    rw [intoBoxAll_congr (h.r.ls hls), cellsOk_congr h.r]
  · rfl

theorem stLoad_congr {x : Operand} (h : EqX s s' g x) : stLoad P s g d t x = stLoad P s' g d t x := by
  unfold stLoad
  rw [h.tv]
  split
  · rw [loadL_congr h.tl]
  · rfl

theorem stStore_congr {a x : Operand} (ha : EqX s s' g a) (hx : EqX s s' g x) : stStore P s g t a x = stStore P s' g t a x := by
  unfold stStore
  rw [ha.tv, hx.tv]
  split
  · rename_i n r off ls hn hr hls
    have h1 := ha.tl
    rw [hr] at h1
    rw [h1.adr, intoBoxAll_congr (hx.r.ls hls), cellsOk_congr hx.r]
  · rename_i n r k e i off ls hn hr hls
    have h1 := ha.tl
    rw [hr] at h1
    rw [rowAt_congr h1.ead, h1.ead, intoRowAll_congr (hx.r.ls hls), cellsOk_congr hx.r]
    split
    · rename_i root o e' xs fs fz h2 h3 h4
      have : freezePut { homes := fz } s.r fz = freezePut { homes := fz } s'.r fz := freezePut_congr fun p hp => by
        obtain ⟨l, hl, hr⟩ := intoRowAll_fz h4 p hp
        exact hx.r.ls hls l hl p.1 hr
      rw [this]
    · rfl
  · rfl

theorem findRef_congr {rs rs' : List (Nat × Root)} : ∀ {ls : List TL}, EqLs rs rs' ls → findRef rs ls = findRef rs' ls
  | [], _ => rfl
  | l :: ls, h => by
    have ih := findRef_congr h.tail
    cases l with
    | ref r k => simp only [findRef, h.head.ref, ih]
    | _ => simp only [findRef, ih]

theorem findRef_mem {rs : List (Nat × Root)} : ∀ {ls : List TL} {r k : Nat} {p : (e : K) × List e.ty}, findRef rs ls = some (r, k, p) → ∃ l ∈ ls, r ∈ l.roots
  | [], _, _, _, h => by simp [findRef] at h
  | l :: ls, r, k, p, h => by
    have up : findRef rs ls = some (r, k, p) → ∃ y ∈ l :: ls, r ∈ y.roots := fun h => by
      obtain ⟨y, hx, hr⟩ := findRef_mem h
      exact ⟨y, List.mem_cons_of_mem _ hx, hr⟩
    cases l with
    | ref r' k' =>
      simp only [findRef] at h
      split at h
      · split at h
        · split at h
          · cases h; exact ⟨_, List.mem_cons_self .., by simp [TL.roots]⟩
          · exact up h
        · exact up h
      · exact up h
    | _ => exact up (by simpa only [findRef] using h)

theorem frzOf_congr {x : Operand} (h : EqX s s' none x) : frzOf s x = frzOf s' x := by
  unfold frzOf
  split
  · rename_i t
    rw [h.tm t rfl]
    split
    · rename_i ls hls
      have hr : EqV s.r s'.r (.agg ls) := by
        have := h.r
        simp only [tvOf, hls] at this
        exact this
      rw [findRef_congr (hr.ls (v := .agg ls) rfl)]
      split
      · rename_i r k p hp
        obtain ⟨l, hl, hm⟩ := findRef_mem hp
        rw [freezePut_congr fun q hq => by
          simp only [List.mem_singleton] at hq
          subst hq
          exact hr.ls (v := .agg ls) rfl l hl r hm]
      · rfl
    · rfl
  · rfl

theorem EqX.app {u : Upd} {x : Operand} (h : EqX s s' g x) (hd : ∀ t v, u.dst = some (t, v) → EqV s.r s'.r v) : EqX (s.app u) (s'.app u) g x := by
  have hl : ∀ n, look s.r n = look s'.r n → look (s.app u).r n = look (s'.app u).r n := fun n hn => by rw [app_r, app_r, hn]
  have hk : ∀ (v : TV) n, n ∈ (v.kill u.kill).roots → n ∈ v.roots := by
    intro v n hn
    have hl : ∀ (l : TL), n ∈ (l.kill u.kill).roots → n ∈ l.roots := by
      intro l hl
      cases l <;> simp only [TL.kill] at hl <;> (try exact hl) <;> (split at hl <;> first | exact hl | (simp [TL.roots] at hl))
    have hls : ∀ (ls : List TL), n ∈ (ls.map (TL.kill u.kill)).flatMap TL.roots → n ∈ ls.flatMap TL.roots := by
      intro ls hn
      obtain ⟨l, hm, hr⟩ := List.mem_flatMap.1 hn
      obtain ⟨l0, hl0, rfl⟩ := List.mem_map.1 hm
      exact List.mem_flatMap.2 ⟨l0, hl0, hl l0 hr⟩
    cases v with
    | one l => exact hl l hn
    | agg ls => exact hls ls hn
    | tup vs =>
      simp only [TV.kill, TV.roots] at hn ⊢
      obtain ⟨p, hm, hr⟩ := List.mem_flatMap.1 hn
      obtain ⟨p0, hp0, rfl⟩ := List.mem_map.1 hm
      exact List.mem_flatMap.2 ⟨p0, hp0, hls p0.2 hr⟩
    | grd t w p => exact hls p.2 hn
    | u => exact hn
  refine EqX.mk' (by rw [app_n, app_n, h.n]) (fun t e => by rw [app_t, app_t, h.tm t e, h.n]) fun t e n hn => ?_
  rw [app_t] at hn
  cases hdd : u.dst with
  | none => rw [hdd] at hn; exact hl n (h.rr t e n (hk _ n hn))
  | some p =>
    obtain ⟨d, v⟩ := p
    rw [hdd] at hn
    simp only at hn
    split at hn
    · exact hl n (hd d v hdd n hn)
    · exact hl n (h.rr t e n (hk _ n hn))

theorem frzOf_dst {x : Operand} {u : Upd} (h : EqX s s' none x) (hu : frzOf s' x = some u) : ∀ t v, u.dst = some (t, v) → EqV s.r s'.r v := by
  intro t v hd
  unfold frzOf at hu
  split at hu
  case h_2 => cases hu
  rename_i t0
  split at hu
  case h_2 => cases hu
  rename_i ls hls
  split at hu
  case h_2 => cases hu
  rename_i r k p hp
  cases hu
  simp only [Option.some.injEq, Prod.mk.injEq] at hd
  obtain ⟨rfl, rfl⟩ := hd
  intro n hn
  obtain ⟨l, hm, hr⟩ := List.mem_flatMap.1 hn
  obtain ⟨l0, hl0, rfl⟩ := List.mem_map.1 hm
  refine h.rr _ rfl n ?_
  rw [hls]
  refine List.mem_flatMap.2 ⟨l0, hl0, ?_⟩
  cases l0 with
  | ref r' k' =>
    simp only [frzTL] at hr
    split at hr
    · simp [TL.roots] at hr
    · simp only [TL.kill] at hr
      split at hr
      · simp [TL.roots] at hr
      · exact hr
  | _ => simp only [frzTL, TL.kill] at hr <;> (try exact hr) <;> (split at hr <;> first | exact hr | (simp [TL.roots] at hr))

theorem EqX.none {x : Operand} (h : EqX s s' g x) : EqX s s' none x := EqX.mk' h.n h.tm h.rr

theorem stStoreZ_congr {a x : Operand} : ∀ (n : Nat) {s s' : St}, EqX s s' g a → EqX s s' g x → stStoreZ P g t a x n s = stStoreZ P g t a x n s'
  | 0, s, s', ha, hx => stStore_congr ha hx
  | n + 1, s, s', ha, hx => by
    simp only [stStoreZ]
    rw [stStore_congr ha hx, frzOf_congr hx.none]
    cases hf : frzOf s' x with
    | none => rfl
    | some u =>
      simp only
      rw [stStoreZ_congr n (ha.app (frzOf_dst hx.none hf)) (hx.app (frzOf_dst hx.none hf))]

theorem stFieldAddr_congr {x : Operand} {f : Nat} (h : EqX s s' g x) : stFieldAddr P s g d t x f = stFieldAddr P s' g d t x f := by
  unfold stFieldAddr; rw [h.tv]

theorem stIndexAddr_congr {x ix : Operand} (h : EqX s s' g x) (hi : EqX s s' g ix) : stIndexAddr P s g d t x ix = stIndexAddr P s' g d t x ix := by
  unfold stIndexAddr
  rw [h.tv, hi.tv]
  have h1 := h.tl
  split
  · split
    · rfl
    · rename_i hr; rw [hr] at h1; rw [rowAt_congr h1.ref]
    · rename_i hr; rw [hr] at h1; rw [rowAt_congr h1.sub]
    · rfl
  · rfl

theorem stIndex_congr {x ix : Operand} (h : EqX s s' g x) (hi : EqX s s' g ix) : stIndex P s g d t x ix = stIndex P s' g d t x ix := by
  unfold stIndex; rw [h.tv, hi.tv]

theorem optX {lo : Option Operand} (h : ∀ y, lo = some y → EqX s s' g y) : (lo.map fun y => (tvOf s g y).tl) = lo.map fun y => (tvOf s' g y).tl := by
  cases lo with
  | none => rfl
  | some y => simp only [Option.map_some]; rw [(h y rfl).tv]

theorem stSlice_congr {x : Operand} {lo hi : Option Operand} (h : EqX s s' g x) (hl : ∀ y, lo = some y → EqX s s' g y) (hh : ∀ y, hi = some y → EqX s s' g y) : stSlice P s g d t x lo hi = stSlice P s' g d t x lo hi := by
  unfold stSlice
  rw [h.tv, optX hl, optX hh]
  have h1 := h.tl
  simp only
  split
  · rfl
  · rfl
  · rename_i hr; rw [hr] at h1; rw [rowAt_congr h1.ref]
  · rfl

theorem stConvert_congr {t' : TypeId} {x : Operand} (h : EqX s s' g x) : stConvert P s g d t t' x = stConvert P s' g d t t' x := by
  unfold stConvert
  rw [h.tv]
  split
  · rfl
  · rfl
  · rfl
  · rw [readRow_congr h.tl]
  · rfl

theorem litElems_congr {e : K} : ∀ {ps : List (Nat × Operand)} {i : Nat}, (∀ p ∈ ps, EqX s s' g p.2) → litElems s g e i ps = litElems s' g e i ps
  | [], _, _ => rfl
  | (j, x) :: ps, i, h => by
    have hx := h (j, x) (List.mem_cons_self ..)
    simp only [litElems]
    have hx : EqX s s' g x := hx
    rw [hx.tv, litElems_congr (ps := ps) (i := i + 1) fun p hp => h p (List.mem_cons_of_mem _ hp), cellsOk_congr hx.r]
    split
    · cases hls : (tvOf s' g x).ls with
      | none => rfl
      | some ls => simp only; rw [intoRowAll_congr (hx.r.ls hls)]
    · rfl

theorem litElems_fz {e : K} : ∀ {ps : List (Nat × Operand)} {i : Nat} {xs : List e.ty} {fz : List (Nat × Nat)}, litElems s g e i ps = some (xs, fz) → ∀ h ∈ fz, ∃ p ∈ ps, h.1 ∈ (tvOf s g p.2).roots
  | [], _, xs, fz, h => by simp [litElems] at h; intro p hp; rw [h.2] at hp; cases hp
  | (j, x) :: ps, i, xs, fz, h => by
    simp only [litElems] at h
    split at h
    · split at h
      · rename_i ls hls
        split at h
        · rename_i fs fz1 xs' fz' h1 h2
          split at h
          · split at h
            · cases h
              intro p hp
              rcases List.mem_append.1 hp with hp | hp
              · obtain ⟨l, hl, hr⟩ := intoRowAll_fz h1 p hp
                refine ⟨(j, x), List.mem_cons_self .., ?_⟩
                show p.1 ∈ (tvOf s g x).roots
                cases hv : tvOf s g x with
                | one l' => rw [hv] at hls; simp [TV.ls] at hls; subst hls; simp at hl; subst hl; exact hr
                | agg ls' => rw [hv] at hls; simp [TV.ls] at hls; subst hls; exact List.mem_flatMap.2 ⟨l, hl, hr⟩
                | _ => rw [hv] at hls; simp [TV.ls] at hls
              · obtain ⟨q, hq, hr⟩ := litElems_fz h2 p hp
                exact ⟨q, List.mem_cons_of_mem _ hq, hr⟩
            · cases h
          · cases h
        · cases h
      · cases h
    · cases h

theorem stBuildSlice_congr {n : Nat} {ps : Array (Nat × Operand)} (h : ∀ p ∈ ps.toList, EqX s s' g p.2) : stBuildSlice P s g d t n ps = stBuildSlice P s' g d t n ps := by
  unfold stBuildSlice
  split
  · simp only
    rw [litElems_congr h]
    split
    · rename_i xs fz hfz
      have : ∀ q, freezePut q s.r fz = freezePut q s'.r fz := fun q => freezePut_congr fun p hp => by
        obtain ⟨x, hx, hr⟩ := litElems_fz hfz p hp
        exact (h x hx).r p.1 hr
      rw [this]
    · rfl
  · rfl

theorem stMakeSlice_congr {l c : Operand} (hl : EqX s s' g l) (hc : EqX s s' g c) : stMakeSlice P s g d t l c = stMakeSlice P s' g d t l c := by
  unfold stMakeSlice; rw [hl.tv, hc.tv]

theorem stLen_congr {x : Operand} (h : EqX s s' g x) : stLen P s g d t x = stLen P s' g d t x := by
  unfold stLen
  rw [h.tv]
  split
  · rfl
  · rfl
  · rfl
  · rw [readRow_congr h.tl]
  · rfl

theorem stAppend_congr {tx : TypeId} {x y : Operand} (hx : EqX s s' g x) (hy : EqX s s' g y) : stAppend P s g d t tx x y = stAppend P s' g d t tx x y := by
  unfold stAppend
  rw [hx.tv, hy.tv]
  have h1 := hx.tl
  split
  · rw [appSrc_congr hy.tl]
    split
    · split
      · split
        · rfl
        · rename_i hr; rw [hr] at h1; rw [rowAt_congr h1.ref, h1.ref]
        · rfl
      · rfl
    · rfl
  · rfl

theorem stMax_congr {mx : Bool} {x y : Operand} (hx : EqX s s' g x) (hy : EqX s s' g y) : stMax s g d mx x y = stMax s' g d mx x y := by
  unfold stMax; rw [hx.tv, hy.tv]

theorem stExtract_congr {x : Operand} {i : Nat} (h : EqX s s' g x) : stExtract s g d x i = stExtract s' g d x i := by
  unfold stExtract; rw [h.tv]

theorem stNilCheck_congr {x : Operand} (h : EqX s s' g x) : stNilCheck s g d x = stNilCheck s' g d x := by
  unfold stNilCheck; rw [h.tv]

theorem capsOf_congr : ∀ {xs : List Operand}, (∀ x ∈ xs, EqX s s' g x) → capsOf s g xs = capsOf s' g xs
  | [], _ => rfl
  | x :: xs, h => by simp only [capsOf]; rw [(h x (List.mem_cons_self ..)).tv, capsOf_congr fun y hy => h y (List.mem_cons_of_mem _ hy)]

theorem stMakeFunc_congr {fn : Fn} {first captured : Array Operand} (h : ∀ x ∈ captured.toList, EqX s s' g x) : stMakeFunc s g d fn first captured = stMakeFunc s' g d fn first captured := by
  unfold stMakeFunc
  rw [capsOf_congr h]

theorem litParts_congr {fs : Array Field} : ∀ {ps : List (Nat × Operand)} {ls : List TL}, (∀ p ∈ ps, EqX s s' g p.2) → litParts P s g fs ls ps = litParts P s' g fs ls ps
  | [], _, _ => rfl
  | (j, x) :: ps, ls, h => by
    have hx : EqX s s' g x := h (j, x) (List.mem_cons_self ..)
    have ih : ∀ ls, litParts P s g fs ls ps = litParts P s' g fs ls ps := fun ls => litParts_congr (ps := ps) fun p hp => h p (List.mem_cons_of_mem _ hp)
    simp only [litParts, hx.tv, cellsOk_congr hx.r, ih]

theorem stBuild_congr {ps : Array (Nat × Operand)} (h : ∀ p ∈ ps.toList, EqX s s' g p.2) : stBuild P s g d t ps = stBuild P s' g d t ps := by
  unfold stBuild
  split
  · rw [litParts_congr h]
  · rfl

theorem stField_congr {x : Operand} {f : Nat} (h : EqX s s' g x) : stField P s g d t x f = stField P s' g d t x f := by
  unfold stField; rw [h.tv]

def plainA (P : Program) (rs : List (Nat × Root)) (t : TypeId) (v : TV) (rest : Option (List Leaf × List (Nat × Nat) × List Nat)) : Option (List Leaf × List (Nat × Nat) × List Nat) :=
  if isStructT P t then
    match sizeT P t, v with
    | some n, .agg ls => if ls.length = n then (deepAll rs (kindsT P t) ls).bind fun f => rest.map fun q => (f.1 ++ q.1, q.2.1, f.2 ++ q.2.2) else none
    | _, _ => none
  else
    match v with
    | .one l => (argL rs ((kindsT P t).headD .unit) l).bind fun f => rest.map fun q => (f.1 :: q.1, q.2.1, f.2 ++ q.2.2)
    | _ => none

def boxA (rs : List (Nat × Root)) (p : Nat) (ks : List (K × Nat)) (v : TV) (rest : Option (List Leaf × List (Nat × Nat) × List Nat)) : Option (List Leaf × List (Nat × Nat) × List Nat) :=
  match v with
  | .one (.adr r 0) =>
    match look rs r with
    | some x => if x.box then (ioCells ks x.ls).bind fun ls => rest.map fun q => (ls ++ q.1, (r, p) :: q.2.1, q.2.2) else none
    | none => none
  | _ => none

theorem argsOf_cases {rs : List (Nat × Root)} {p : Nat} {t : TypeId} {ts : List TypeId} {ps : List Bool} {io : List (List (K × Nat))} {v : TV} {vs : List TV} :
    (argsOf P rs p (t :: ts) ps io (v :: vs) = plainA P rs t v (argsOf P rs (p + 1) ts ps.tail io vs)) ∨
    ∃ ps' ks io', ps = true :: ps' ∧ io = ks :: io' ∧ argsOf P rs p (t :: ts) ps io (v :: vs) = boxA rs p ks v (argsOf P rs (p + 1) ts ps' io' vs) := by
  cases ps with
  | nil => left; simp only [argsOf, plainA]; rfl
  | cons b ps =>
    cases b with
    | false => left; simp only [argsOf, plainA]; rfl
    | true =>
      cases io with
      | nil => left; simp only [argsOf, plainA]; rfl
      | cons ks io => right; exact ⟨ps, ks, io, rfl, rfl, by simp only [argsOf, boxA]; rfl⟩

theorem argsOf_nil {rs : List (Nat × Root)} {p : Nat} {ts : List TypeId} {ps : List Bool} {io : List (List (K × Nat))} : argsOf P rs p ts ps io [] = if ts = [] then some ([], [], []) else none := by
  cases ts with
  | nil => cases ps <;> cases io <;> rfl
  | cons t ts =>
    cases ps with
    | nil => cases io <;> rfl
    | cons b ps => cases b <;> cases io <;> rfl

theorem argsOf_nil' {rs : List (Nat × Root)} {p : Nat} {ps : List Bool} {io : List (List (K × Nat))} {v : TV} {vs : List TV} : argsOf P rs p [] ps io (v :: vs) = none := by
  cases ps <;> cases io <;> rfl

theorem plainA_congr {rs rs' : List (Nat × Root)} {t : TypeId} {v : TV} {rest : Option (List Leaf × List (Nat × Nat) × List Nat)} (hv : EqV rs rs' v) : plainA P rs t v rest = plainA P rs' t v rest := by
  unfold plainA
  by_cases hs : isStructT P t = true
  · rw [if_pos hs, if_pos hs]
    cases sizeT P t with
    | none => rfl
    | some n =>
      cases v with
      | agg ls => simp only [deepAll_congr (hv.ls (v := .agg ls) rfl)]
      | _ => rfl
  · rw [if_neg hs, if_neg hs]
    cases v with
    | one l => simp only [argL_congr (show EqL rs rs' l from hv)]
    | _ => rfl

theorem boxA_congr {rs rs' : List (Nat × Root)} {p : Nat} {ks : List (K × Nat)} {v : TV} {rest : Option (List Leaf × List (Nat × Nat) × List Nat)} (hv : EqV rs rs' v) : boxA rs p ks v rest = boxA rs' p ks v rest := by
  unfold boxA
  split
  · rename_i r
    rw [show look rs r = look rs' r from EqL.adr (k := 0) hv]
  · rfl

theorem argsOf_congr {rs rs' : List (Nat × Root)} : ∀ {vs : List TV} {p : Nat} {ts : List TypeId} {ps : List Bool} {io : List (List (K × Nat))}, (∀ v ∈ vs, EqV rs rs' v) → argsOf P rs p ts ps io vs = argsOf P rs' p ts ps io vs
  | [], p, ts, ps, io, _ => by rw [argsOf_nil, argsOf_nil]
  | v :: vs, p, ts, ps, io, h => by
    have hv := h v (List.mem_cons_self ..)
    have ih : ∀ {p ts ps io}, argsOf P rs p ts ps io vs = argsOf P rs' p ts ps io vs := fun {p ts ps io} => argsOf_congr fun x hx => h x (List.mem_cons_of_mem _ hx)
    cases ts with
    | nil => rw [argsOf_nil', argsOf_nil']
    | cons t ts =>
      cases ps with
      | nil => simp only [argsOf, ih]; exact plainA_congr (rest := argsOf P rs' (p + 1) ts [].tail io vs) hv
      | cons b ps =>
        cases b with
        | false => simp only [argsOf, ih]; exact plainA_congr (rest := argsOf P rs' (p + 1) ts (false :: ps).tail io vs) hv
        | true =>
          cases io with
          | nil => simp only [argsOf, ih]; exact plainA_congr (rest := argsOf P rs' (p + 1) ts (true :: ps).tail [] vs) hv
          | cons ks io => simp only [argsOf, ih]; exact boxA_congr (rest := argsOf P rs' (p + 1) ts ps io vs) hv

theorem plainA_bs {rs : List (Nat × Root)} {t : TypeId} {v : TV} {rest : Option (List Leaf × List (Nat × Nat) × List Nat)} {f : List Leaf × List (Nat × Nat) × List Nat} (h : plainA P rs t v rest = some f) : ∃ q, rest = some q ∧ f.2.1 = q.2.1 := by
  unfold plainA at h
  split at h
  · split at h
    · split at h
      · obtain ⟨f1, _, h⟩ := Option.bind_eq_some_iff.1 h
        obtain ⟨q, hq, rfl⟩ := Option.map_eq_some_iff.1 h
        exact ⟨q, hq, rfl⟩
      · cases h
    · cases h
  · split at h
    · obtain ⟨f1, _, h⟩ := Option.bind_eq_some_iff.1 h
      obtain ⟨q, hq, rfl⟩ := Option.map_eq_some_iff.1 h
      exact ⟨q, hq, rfl⟩
    · cases h

theorem boxA_bs {rs : List (Nat × Root)} {p : Nat} {ks : List (K × Nat)} {v : TV} {rest : Option (List Leaf × List (Nat × Nat) × List Nat)} {f : List Leaf × List (Nat × Nat) × List Nat} (h : boxA rs p ks v rest = some f) : ∃ q r, rest = some q ∧ r ∈ v.roots ∧ f.2.1 = (r, p) :: q.2.1 := by
  unfold boxA at h
  split at h
  · rename_i r
    split at h
    · split at h
      · obtain ⟨ls, _, h⟩ := Option.bind_eq_some_iff.1 h
        obtain ⟨q, hq, rfl⟩ := Option.map_eq_some_iff.1 h
        exact ⟨q, r, hq, by simp [TV.roots, TL.roots], rfl⟩
      · cases h
    · cases h
  · cases h

theorem argsOf_bs {rs : List (Nat × Root)} : ∀ {vs : List TV} {p : Nat} {ts : List TypeId} {ps : List Bool} {io : List (List (K × Nat))} {f : List Leaf × List (Nat × Nat) × List Nat}, argsOf P rs p ts ps io vs = some f → ∀ b ∈ f.2.1, ∃ v ∈ vs, b.1 ∈ v.roots
  | [], p, ts, ps, io, f, h => by
    rw [argsOf_nil] at h
    split at h
    · cases h; intro b hb; cases hb
    · cases h
  | v :: vs, p, ts, ps, io, f, h => by
    have up : ∀ {p ts ps io f}, argsOf P rs p ts ps io vs = some f → ∀ b ∈ f.2.1, ∃ x ∈ v :: vs, b.1 ∈ x.roots := fun h b hb => by
      obtain ⟨x, hx, hr⟩ := argsOf_bs h b hb
      exact ⟨x, List.mem_cons_of_mem _ hx, hr⟩
    cases ts with
    | nil => rw [argsOf_nil'] at h; cases h
    | cons t ts =>
      rcases argsOf_cases (P := P) (rs := rs) (p := p) (t := t) (ts := ts) (ps := ps) (io := io) (v := v) (vs := vs) with he | ⟨ps', ks, io', rfl, rfl, he⟩
      · rw [he] at h
        obtain ⟨q, hq, hf⟩ := plainA_bs h
        rw [hf]; exact up hq
      · rw [he] at h
        obtain ⟨q, r, hq, hr, hf⟩ := boxA_bs h
        rw [hf]
        intro b hb
        rcases List.mem_cons.1 hb with rfl | hb
        · exact ⟨v, List.mem_cons_self .., hr⟩
        · exact up hq b hb

theorem calleeOf_congr {f : Operand} (h : EqX s s' g f) : calleeOf s g f = calleeOf s' g f := by
  unfold calleeOf
  rw [h.tv]
  have h1 := h.tl
  split
  · rename_i fn caps hr
    rw [hr] at h1
    rw [capLeaves_congr fun r hr => h1 r (by simpa [TL.roots] using hr)]
  · rfl
  · rfl

theorem homesOf_congr {rs rs' : List (Nat × Root)} {bs : List (Nat × Nat)} (h : ∀ b ∈ bs, look rs b.1 = look rs' b.1) : homesOf rs bs = homesOf rs' bs := by
  unfold homesOf
  induction bs with
  | nil => rfl
  | cons b bs ih =>
    simp only [List.flatMap_cons]
    rw [h b (List.mem_cons_self ..), ih fun x hx => h x (List.mem_cons_of_mem _ hx)]

theorem stCall_congr {od : Option Nat} {c : Call} (h : ∀ x ∈ c.operands.toList, EqX s s' g x) : stCall C s g od c = stCall C s' g od c := by
  unfold stCall
  split
  · rename_i f hc
    have hf : EqX s s' g f := h f (by simp [Call.operands, hc])
    have ha : ∀ x ∈ c.args.toList, EqX s s' g x := fun x hx => h x (by simp [Call.operands, hc]; exact .inr (by simpa using hx))
    have hm : c.args.toList.map (tvOf s g) = c.args.toList.map (tvOf s' g) := List.map_congr_left fun x hx => (ha x hx).tv
    have hv : ∀ v ∈ c.args.toList.map (tvOf s' g), EqV s.r s'.r v := by
      intro v hv
      obtain ⟨x, hx, rfl⟩ := List.mem_map.1 hv
      exact (ha x hx).r
    rw [calleeOf_congr hf, hm]
    split
    · split
      · rw [argsOf_congr hv]
        split
        · rename_i ags bs rd hargs
          have hb : ∀ b ∈ bs, look s.r b.1 = look s'.r b.1 := fun b hb => by
            obtain ⟨v, hv', hr⟩ := argsOf_bs hargs b hb
            exact hv v hv' b.1 hr
          have e1 : (bs.all fun b => isBox s.r b.1) = bs.all fun b => isBox s'.r b.1 := by
            rw [Bool.eq_iff_iff, List.all_eq_true, List.all_eq_true]
            exact ⟨fun h b hm => by have := h b hm; unfold isBox at this ⊢; rw [← hb b hm]; exact this, fun h b hm => by have := h b hm; unfold isBox at this ⊢; rw [hb b hm]; exact this⟩
          have e2 : homesOf s.r bs = homesOf s'.r bs := homesOf_congr hb
          simp only [e1, callUpd, e2]
        · rfl
      · rfl
    · rfl
  · rfl

theorem stInp_congr {od : Option Nat} {c : Call} (h : ∀ x ∈ c.operands.toList, EqX s s' g x) : stInp C s g od c = stInp C s' g od c := by
  unfold stInp
  split
  · rename_i f x xs hc ha
    have hf : EqX s s' g f := h f (by simp [Call.operands, hc])
    have hm : ∀ z ∈ c.args.toList, EqX s s' g z := fun z hz => h z (by simp [Call.operands, hc]; exact .inr (by simpa using hz))
    have hx : EqX s s' g x := hm x (by rw [ha]; simp)
    have hxs : ∀ z ∈ xs, EqX s s' g z := fun z hz => hm z (by rw [ha]; simp [hz])
    have hmap : xs.map (tvOf s g) = xs.map (tvOf s' g) := List.map_congr_left fun z hz => (hxs z hz).tv
    have hv : ∀ v ∈ xs.map (tvOf s' g), EqV s.r s'.r v := by
      intro v hv
      obtain ⟨z, hz, rfl⟩ := List.mem_map.1 hv
      exact (hxs z hz).r
    rw [hf.tv, hx.tv, hmap]
    have h1 := hx.tl
    split
    · rename_i hr
      rw [hr] at h1
      rw [rowAt_congr h1.ref, h1.ref]
      split
      · rw [argsOf_congr hv]
      · rfl
    · rfl
  · rfl

theorem stNew_congr {od : Option Nat} {c : Call} (h : ∀ x ∈ c.operands.toList, EqX s s' g x) : stNew C s g od c = stNew C s' g od c := by
  unfold stNew
  split
  · rename_i d f hc
    have hf : EqX s s' g f := h f (by simp [Call.operands, hc])
    have hm : ∀ z ∈ c.args.toList, EqX s s' g z := fun z hz => h z (by simp [Call.operands, hc]; exact .inr (by simpa using hz))
    have hmap : c.args.toList.map (tvOf s g) = c.args.toList.map (tvOf s' g) := List.map_congr_left fun z hz => (hm z hz).tv
    have hv : ∀ v ∈ c.args.toList.map (tvOf s' g), EqV s.r s'.r v := by
      intro v hv
      obtain ⟨z, hz, rfl⟩ := List.mem_map.1 hv
      exact (hm z hz).r
    rw [hf.tv, hmap]
    split
    · split
      · rw [argsOf_congr hv]
      · rfl
    · rfl
  · rfl

theorem callOp_congr {od : Option Nat} {c : Call} (h : ∀ x ∈ c.operands.toList, EqX s s' g x) : callOp C s g od c = callOp C s' g od c := by
  unfold callOp
  rw [stNew_congr h, stInp_congr h, stCall_congr h]

theorem mem_builtin {c : Call} {b : Builtin} {z : Operand} (hc : c.callee = .builtin b) (hz : z ∈ c.args.toList) : z ∈ c.operands.toList := by
  simp only [Call.operands, hc]
  simpa using hz

theorem stepOp_congr {o : Oper} (h : ∀ x ∈ o.op.operands.toList, EqX s s' g x) : stepOp C s g o = stepOp C s' g o := by
  unfold stepOp
  split
  · split <;> rename_i hop <;> simp only [hop, Op.operands] at h
    · exact stMove_congr (h _ (by simp))
    · exact stAssign_congr (h _ (by simp))
    · exact stPick_congr (h _ (by simp)) (h _ (by simp)) (h _ (by simp))
    · exact stBin_congr (h _ (by simp)) (h _ (by simp))
    · exact stUn_congr (h _ (by simp))
    · rfl
    · exact stBox_congr (h _ (by simp))
    · exact stLoad_congr (h _ (by simp))
    · exact stFieldAddr_congr (h _ (by simp))
    · exact stIndexAddr_congr (h _ (by simp)) (h _ (by simp))
    · exact stIndex_congr (h _ (by simp)) (h _ (by simp))
    · exact stSlice_congr (h _ (by simp)) (fun y hy => h y (by simp [hy])) (fun y hy => h y (by simp [hy]))
    · exact stConvert_congr (h _ (by simp))
    · exact stBuildSlice_congr fun p hp => h p.2 (by simpa using ⟨p.1, by simpa using hp⟩)
    · exact stMakeSlice_congr (h _ (by simp)) (h _ (by simp))
    · exact stExtract_congr (h _ (by simp))
    · exact stNilCheck_congr (h _ (by simp))
    · exact stMakeFunc_congr fun x hx => h x (by simp; exact .inr (by simpa using hx))
    · exact stBuild_congr fun p hp => h p.2 (by simpa using ⟨p.1, by simpa using hp⟩)
    · exact stField_congr (h _ (by simp))
    · split
      · rename_i x hc ha
        have hx := h x (mem_builtin hc (by rw [ha]; simp))
        split
        · exact stLen_congr hx
        · rfl
      · rename_i x y hc ha
        have hx := h x (mem_builtin hc (by rw [ha]; simp))
        have hy := h y (mem_builtin hc (by rw [ha]; simp))
        split
        · exact stAppend_congr hx hy
        · rfl
      · rename_i x y hc ha
        exact stMax_congr (h x (mem_builtin hc (by rw [ha]; simp))) (h y (mem_builtin hc (by rw [ha]; simp)))
      · rename_i x y hc ha
        exact stMax_congr (h x (mem_builtin hc (by rw [ha]; simp))) (h y (mem_builtin hc (by rw [ha]; simp)))
      · rfl
      · exact callOp_congr h
    · rfl
  · split <;> rename_i hop <;> simp only [hop, Op.operands] at h
    · exact stStoreZ_congr _ (h _ (by simp)) (h _ (by simp))
    · exact callOp_congr h
    · rfl

end
section
variable {C : Ctx} {ops : Array Oper} {q : Kill} {s s' : St} {u v : Upd} {T F : List Nat}
structure Agree (T F : List Nat) (s s' : St) : Prop where
 n : s.t.length = s'.t.length
 t : ∀ t ∈ T, s.t.getD t .u = s'.t.getD t .u
 r : ∀ n ∈ F, look s.r n = look s'.r n

theorem Agree.refl : Agree T F s s := ⟨rfl, fun _ _ => rfl, fun _ _ => rfl⟩
theorem Agree.trans {s'' : St} (h : Agree T F s s') (h' : Agree T F s' s'') : Agree T F s s'' :=
 ⟨h.n.trans h'.n, fun t ht => (h.t t ht).trans (h'.t t ht), fun n hn => (h.r n hn).trans (h'.r n hn)⟩
theorem Agree.symm (h : Agree T F s s') : Agree T F s' s := ⟨h.n.symm, fun t ht => (h.t t ht).symm, fun n hn => (h.r n hn).symm⟩

theorem Agree.both (h : Agree T F s s') : Agree T F (s.app u) (s'.app u) where
 n := by rw [app_n, app_n, h.n]
 t := fun t ht => by rw [app_t, app_t, h.t t ht, h.n]
 r := fun n hn => by rw [app_r, app_r, h.r n hn]

theorem TL.safe_kill {l : TL} (h : l.safe q = true) : l.kill q = l := by
 cases l <;> simp only [TL.safe, Bool.not_eq_true'] at h <;> simp only [TL.kill, h, Bool.false_eq_true, if_false]

theorem TLs.safe_kill {ls : List TL} (h : ls.all (TL.safe q) = true) : ls.map (TL.kill q) = ls := by
 have : ls.map (TL.kill q) = ls.map id := List.map_congr_left fun l hl => TL.safe_kill (List.all_eq_true.1 h l hl)
 rw [this, List.map_id]

theorem TV.safe_kill {v : TV} (h : v.safe q = true) : v.kill q = v := by
 cases v with
 | one l => simp only [TV.kill, TL.safe_kill (q := q) (l := l) h]
 | agg ls => simp only [TV.kill, TLs.safe_kill (q := q) (ls := ls) h]
 | tup vs =>
  simp only [TV.kill]
  have : (vs.map fun v => (v.1, v.2.map (TL.kill q))) = vs.map id := List.map_congr_left fun p hp => by rw [TLs.safe_kill (List.all_eq_true.1 h p hp)]; rfl
  rw [this, List.map_id]
 | grd t w p => simp only [TV.kill, TLs.safe_kill (q := q) (ls := p.2) h]
 | u => rfl

theorem Root.safe_kill {x : Root} (h : x.safe q = true) : x.kill q = x := by
 unfold Root.kill
 have : x.ls.map (LC.kill q) = x.ls.map id := List.map_congr_left fun c hc => by
  have := List.all_eq_true.1 h c hc
  cases c with
  | own o e xs hole => rfl
  | tl l => simp only [LC.kill, TL.safe_kill (q := q) (l := l) this]; rfl
 rw [this, List.map_id]

theorem putNot_last : ∀ {ps : List (Nat × Option Root)} {n : Nat}, putNot ps n = true → lastPut ps n = none
 | [], _, _ => rfl
 | (m, x) :: ps, n, h => by
  simp only [putNot, List.all_cons, Bool.and_eq_true, Bool.not_eq_true', beq_eq_false_iff_ne, ne_eq] at h
  simp only [lastPut, putNot_last (ps := ps) (n := n) h.2, if_neg h.1]

theorem dstNot_iff (h : dstNot u T = true) {d : Nat} {v : TV} (hd : u.dst = some (d, v)) : d ∉ T := by
 simp only [dstNot, hd, Bool.not_eq_true'] at h
 intro hm
 rw [List.elem_eq_mem] at h
 simp [hm] at h

theorem Agree.leave (h : Agree T F s s') (hl : leaveOk s' T F u = true) : Agree T F (s.app u) s' := by
 simp only [leaveOk, Bool.and_eq_true, List.all_eq_true] at hl
 obtain ⟨⟨h1, h2⟩, h3⟩ := hl
 refine ⟨by rw [app_n, h.n], fun t ht => ?_, fun n hn => ?_⟩
 ·rw [app_t]
  have hk : (s.t.getD t .u).kill u.kill = s'.t.getD t .u := by rw [h.t t ht]; exact TV.safe_kill (h2 t ht)
  cases hd : u.dst with
  | none => exact hk
  | some p =>
   obtain ⟨d, v⟩ := p
   simp only
   rw [if_neg (fun he : d = t ∧ t < s.t.length => dstNot_iff h1 hd (he.1 ▸ ht))]
   exact hk
 ·rw [app_r, putNot_last (h3 n hn).1, h.r n hn]
  have h4 := (h3 n hn).2
  cases hx : look s'.r n with
  | none => rfl
  | some x => rw [hx] at h4; simp only [Option.map_some]; rw [Root.safe_kill h4]

def Same (s s' : St) : Prop := s.t = s'.t ∧ ∀ n, look s.r n = look s'.r n

theorem Same.app (h : Same s s') : Same (s.app u) (s'.app u) := by
 refine ⟨?_, fun n => by rw [app_r, app_r, h.2 n]⟩
 simp only [St.app]; rw [h.1]

theorem TL.kill_kill (q q' : Kill) (l : TL) : (l.kill q).kill q' = (l.kill q').kill q := by
 cases l with
 | d k x => rfl
 | nil => rfl
 | x => rfl
 | iad e x off => rfl
 | ref r k => simp only [TL.kill]; cases h1 : q.hits r k <;> cases h2 : q'.hits r k <;> simp [h1, h2]
 | sub r k e lo n => simp only [TL.kill]; cases h1 : q.hits r k <;> cases h2 : q'.hits r k <;> simp [h1, h2]
 | ead r k e i off => simp only [TL.kill]; cases h1 : q.hits r k <;> cases h2 : q'.hits r k <;> simp [h1, h2]
 | adr r off => simp only [TL.kill]; cases h1 : q.roots.elem r <;> cases h2 : q'.roots.elem r <;> simp only [h1, h2, if_true, Bool.false_eq_true, if_false]
 | clo f cs => simp only [TL.kill]; cases h1 : cs.any q.roots.elem <;> cases h2 : cs.any q'.roots.elem <;> simp only [h1, h2, if_true, Bool.false_eq_true, if_false]

theorem TV.kill_kill (q q' : Kill) (v : TV) : (v.kill q).kill q' = (v.kill q').kill q := by
 cases v with
 | one l => simp only [TV.kill, TL.kill_kill q q']
 | agg ls => simp only [TV.kill, List.map_map]; congr 1; exact List.map_congr_left fun l _ => TL.kill_kill q q' l
 | tup vs =>
  simp only [TV.kill, List.map_map]; congr 1
  refine List.map_congr_left fun p _ => ?_
  simp only [Function.comp_apply, List.map_map]
  rw [show p.2.map (TL.kill q' ∘ TL.kill q) = p.2.map (TL.kill q ∘ TL.kill q') from List.map_congr_left fun l _ => TL.kill_kill q q' l]
 | grd t w p =>
  simp only [TV.kill, List.map_map]
  rw [show p.2.map (TL.kill q' ∘ TL.kill q) = p.2.map (TL.kill q ∘ TL.kill q') from List.map_congr_left fun l _ => TL.kill_kill q q' l]
 | u => rfl

theorem Root.kill_kill (q q' : Kill) (x : Root) : (x.kill q).kill q' = (x.kill q').kill q := by
 simp only [Root.kill, List.map_map]
 congr 1
 refine List.map_congr_left fun c _ => ?_
 cases c with
 | own o e xs hole => rfl
 | tl l => simp only [Function.comp, LC.kill, TL.kill_kill q q']

theorem lastPut_mem : ∀ {ps : List (Nat × Option Root)} {n : Nat} {y : Option Root}, lastPut ps n = some y → (n, y) ∈ ps
 | [], _, _, h => by simp [lastPut] at h
 | (m, x) :: ps, n, y, h => by
  simp only [lastPut] at h
  split at h
  ·rename_i z hz; cases h; exact List.mem_cons_of_mem _ (lastPut_mem hz)
  ·split at h
   ·rename_i he; cases h; subst he; exact List.mem_cons_self ..
   ·cases h

theorem put_safe {ps : List (Nat × Option Root)} (h : putSafe ps q = true) {n : Nat} {y : Option Root} (hl : lastPut ps n = some y) : y.map (Root.kill q) = y := by
 have := List.all_eq_true.1 h _ (lastPut_mem hl)
 cases y with
 | none => rfl
 | some x => simp only [Option.map_some]; rw [Root.safe_kill this]

theorem swap (h : swapOk u v = true) : Same ((s.app u).app v) ((s.app v).app u) := by
 simp only [swapOk, Bool.and_eq_true] at h
 obtain ⟨⟨⟨⟨⟨h1, h2⟩, h3⟩, h4⟩, h5⟩, h6⟩ := h
 refine ⟨?_, fun n => ?_⟩
 ·refine List.ext_getElem? fun t => ?_
  have key : ((s.app u).app v).t.getD t .u = ((s.app v).app u).t.getD t .u := by
   simp only [app_t, app_n]
   cases hu : u.dst with
   | none =>
    cases hv : v.dst with
    | none => exact TV.kill_kill _ _ _
    | some p =>
     obtain ⟨e, y⟩ := p
     simp only
     split
     ·simp only [dstSafe, hv] at h3; exact (TV.safe_kill h3).symm
     ·exact TV.kill_kill _ _ _
   | some p =>
    obtain ⟨d, x⟩ := p
    simp only [dstSafe, hu] at h2
    cases hv : v.dst with
    | none =>
     simp only
     split
     ·exact TV.safe_kill h2
     ·exact TV.kill_kill _ _ _
    | some p =>
     obtain ⟨e, y⟩ := p
     simp only [dstSafe, hv] at h3
     simp only [dstApart, hu, hv, Bool.not_eq_true', beq_eq_false_iff_ne, ne_eq] at h1
     simp only
     by_cases hd : d = t ∧ t < s.t.length
     ·have he : ¬ (e = t ∧ t < s.t.length) := fun he => h1 (hd.1.trans he.1.symm)
      rw [if_neg he, if_pos hd, if_pos hd]
      exact TV.safe_kill h2
     ·rw [if_neg hd, if_neg hd]
      by_cases he : e = t ∧ t < s.t.length
      ·rw [if_pos he, if_pos he]; exact (TV.safe_kill h3).symm
      ·rw [if_neg he, if_neg he]; exact TV.kill_kill _ _ _
  have hn : ((s.app u).app v).t.length = ((s.app v).app u).t.length := by simp only [app_n]
  rw [List.getD_eq_getElem?_getD, List.getD_eq_getElem?_getD] at key
  by_cases hl : t < ((s.app u).app v).t.length
  ·rw [List.getElem?_eq_getElem hl, List.getElem?_eq_getElem (hn ▸ hl)] at key ⊢
   simpa using key
  ·rw [List.getElem?_eq_none (by omega), List.getElem?_eq_none (by omega)]
 ·simp only [app_r]
  cases hu : lastPut u.put n with
  | none =>
   cases hv : lastPut v.put n with
   | none =>
    simp only [Option.map_map]
    cases look s.r n with
    | none => rfl
    | some x => simp only [Option.map_some, Function.comp, Root.kill_kill u.kill v.kill]
   | some y => simp only; exact (put_safe h5 hv).symm
  | some y =>
   have hp := List.all_eq_true.1 h6 _ (lastPut_mem hu)
   rw [putNot_last hp]
   simp only
   exact put_safe h4 hu

def GSt.gives : GSt → Upd → Prop
 | .ok u, u' => u = u'
 | .may _ comp upd, u' => ∃ p, comp = some p ∧ upd p = some u'

def Runs (C : Ctx) (ops : Array Oper) : St → List Rec → St → Prop
 | s, [], s' => s = s'
 | s, x :: xs, s' => x.s = s ∧ (∃ st, stepG C ops s x.o = some st ∧ st.gives x.u) ∧ Runs C ops (s.app x.u) xs s'

theorem runRec_runs {R : Type} {k : St → List Rec → Option R} {r : R} : ∀ {l : List Oper} {s : St} {xs : List Rec}, runRec C ops l s xs k = some r →
  ∃ ys s', k s' (xs ++ ys) = some r ∧ Runs C ops s ys s' ∧ ys.map (·.o) = l
 | [], s, xs, h => ⟨[], s, by rw [List.append_nil]; exact h, rfl, rfl⟩
 | o :: os, s, xs, h => by
  simp only [runRec] at h
  split at h
  ·cases h
  ·rename_i u hst
   obtain ⟨ys, s', h1, h2, h3⟩ := runRec_runs h
   exact ⟨⟨s, o, u⟩ :: ys, s', by simpa using h1, ⟨rfl, ⟨_, hst, rfl⟩, h2⟩, by simp [h3]⟩
  ·rename_i pk comp upd hst
   unfold bnd at h
   obtain ⟨p, hp, h⟩ := Option.bind_eq_some_iff.1 h
   split at h
   ·rename_i u hu
    obtain ⟨ys, s', h1, h2, h3⟩ := runRec_runs h
    exact ⟨⟨s, o, u⟩ :: ys, s', by simpa using h1, ⟨rfl, ⟨_, hst, p, hp, hu⟩, h2⟩, by simp [h3]⟩
   ·cases h

theorem runs_split : ∀ {pre post : List Rec} {s0 s1 : St} {x : Rec}, Runs C ops s0 (pre ++ x :: post) s1 → Runs C ops s0 pre x.s ∧ ∃ st, stepG C ops x.s x.o = some st ∧ st.gives x.u
 | [], _, _, _, _, ⟨e, h1, _⟩ => ⟨e.symm, by rw [e]; exact h1⟩
 | _ :: _, _, _, _, _, ⟨e, h1, h2⟩ => let h := runs_split h2; ⟨⟨e, h1, h.1⟩, h.2⟩

def foldS (L : Nat → Bool) : St → List Rec → Nat → St
 | s, [], _ => s
 | s, x :: xs, i => foldS L (if L i then s.app x.u else s) xs (i + 1)

theorem foldS_append (L : Nat → Bool) : ∀ (xs ys : List Rec) (s : St) (i : Nat), foldS L s (xs ++ ys) i = foldS L (foldS L s xs i) ys (i + xs.length)
 | [], ys, s, i => rfl
 | x :: xs, ys, s, i => by
  simp only [List.cons_append, foldS, List.length_cons]
  rw [foldS_append L xs ys, show i + 1 + xs.length = i + (xs.length + 1) by omega]

theorem foldS_congr {L M : Nat → Bool} : ∀ (xs : List Rec) (s : St) (i : Nat), (∀ j, i ≤ j → j < i + xs.length → L j = M j) → foldS L s xs i = foldS M s xs i
 | [], _, _, _ => rfl
 | x :: xs, s, i, h => by
  simp only [foldS]
  rw [h i (Nat.le_refl i) (by simp), foldS_congr xs _ (i + 1) fun j h1 h2 => h j (by omega) (by simp at h2 ⊢; omega)]

theorem foldS_all {L : Nat → Bool} : ∀ {xs : List Rec} {s s' : St} {i : Nat}, Runs C ops s xs s' → (∀ j, i ≤ j → j < i + xs.length → L j = true) → foldS L s xs i = s'
 | [], _, _, _, h, _ => h
 | x :: xs, s, s', i, ⟨_, _, h⟩, hL => by
  simp only [foldS]
  rw [if_pos (hL i (Nat.le_refl i) (by simp))]
  exact foldS_all h fun j h1 h2 => hL j (by omega) (by simp at h2 ⊢; omega)

theorem foldS_same {L : Nat → Bool} : ∀ (xs : List Rec) {s s' : St} (i : Nat), Same s s' → Same (foldS L s xs i) (foldS L s' xs i)
 | [], _, _, _, h => h
 | x :: xs, s, s', i, h => by
  simp only [foldS]
  split
  ·exact foldS_same xs _ h.app
  ·exact foldS_same xs _ h

theorem agree_pre {L : Nat → Bool} : ∀ (xs : List Rec) {S R R' : St} (i : Nat), Runs C ops R xs R' → Agree T F S R →
  (∀ k x, xs[k]? = some x → L (i + k) = false → leaveOk x.s T F x.u = true) → Agree T F (foldS L S xs i) R'
 | [], S, R, R', i, h, ha, _ => by cases h; exact ha
 | x :: xs, S, R, R', i, ⟨h1, _, h3⟩, ha, hl => by
  simp only [foldS]
  refine agree_pre xs (i + 1) h3 ?_ fun k y hy hL => hl (k + 1) y (by simpa using hy) (by rw [← hL]; congr 1; omega)
  split
  ·exact ha.both
  ·rename_i hLi
   refine ha.trans (Agree.symm ?_)
   have := hl 0 x rfl (by simpa using hLi)
   rw [h1] at this
   exact Agree.leave Agree.refl this

theorem agree_post {L : Nat → Bool} {R : St} : ∀ (xs : List Rec) {S : St} (i : Nat), Agree T F S R →
  (∀ k x, xs[k]? = some x → L (i + k) = true → leaveOk R T F x.u = true) → Agree T F (foldS L S xs i) R
 | [], S, i, ha, _ => ha
 | x :: xs, S, i, ha, hl => by
  simp only [foldS]
  refine agree_post xs (i + 1) ?_ fun k y hy hL => hl (k + 1) y (by simpa using hy) (by rw [← hL]; congr 1; omega)
  split
  ·rename_i hLi; exact ha.leave (hl 0 x rfl (by simpa using hLi))
  ·exact ha

theorem swap_post {L : Nat → Bool} : ∀ (xs : List Rec) {S : St} (i : Nat), (∀ k x, xs[k]? = some x → L (i + k) = true → swapOk u x.u = true) →
  Same ((foldS L S xs i).app u) (foldS L (S.app u) xs i)
 | [], S, i, _ => ⟨rfl, fun _ => rfl⟩
 | x :: xs, S, i, h => by
  have ih : ∀ S, Same ((foldS L S xs (i + 1)).app u) (foldS L (S.app u) xs (i + 1)) := fun S => swap_post xs (i + 1) fun k y hy hL => h (k + 1) y (by simpa using hy) (by rw [← hL]; congr 1; omega)
  simp only [foldS]
  split
  ·rename_i hLi
   have h1 := ih (S.app x.u)
   have h2 : Same ((S.app x.u).app u) ((S.app u).app x.u) := by
    have := swap (s := S) (h 0 x rfl (by simpa using hLi))
    exact ⟨this.1.symm, fun n => (this.2 n).symm⟩
   have h3 := foldS_same (L := L) xs (i + 1) h2
   exact ⟨h1.1.trans h3.1, fun n => (h1.2 n).trans (h3.2 n)⟩
  ·exact ih S

theorem grdOn_kill (d : Nat) (v : TV) : grdOn d (v.kill q) = grdOn d v := by cases v <;> rfl

theorem any_app {d : Nat} (h : s.t.any (grdOn d) = false) (hu : grdDst (some d) u = false) : (s.app u).t.any (grdOn d) = false := by
 simp only [St.app]; rw [Upd.tmps_eq]
 rw [List.any_eq_false] at h
 have hm : ∀ x ∈ s.t.map (TV.kill u.kill), ¬ grdOn d x = true := by
  intro x hx
  obtain ⟨y, hy, rfl⟩ := List.mem_map.1 hx
  rw [grdOn_kill]; exact h y hy
 cases hd : u.dst with
 | none => simp only; rw [List.any_eq_false]; exact hm
 | some p =>
  obtain ⟨e, v⟩ := p
  simp only
  rw [List.any_eq_false]
  intro x hx
  rcases List.mem_or_eq_of_mem_set hx with hx | rfl
  ·exact hm x hx
  ·simp only [grdDst, hd] at hu; simp [hu]

theorem any_fold {L : Nat → Bool} {d : Nat} : ∀ (xs : List Rec) {s : St} (i : Nat), s.t.any (grdOn d) = false → (∀ k x, xs[k]? = some x → L (i + k) = true → grdDst (some d) x.u = false) → (foldS L s xs i).t.any (grdOn d) = false
 | [], _, _, h, _ => h
 | x :: xs, s, i, h, hl => by
  simp only [foldS]
  refine any_fold xs (i + 1) ?_ fun k y hy hL => hl (k + 1) y (by simpa using hy) (by rw [← hL]; congr 1; omega)
  split
  ·rename_i hLi; exact any_app h (hl 0 x rfl (by simpa using hLi))
  ·exact h

theorem wantedB_congr : ∀ (n t : Nat) (want : Bool), (∀ x ∈ grdT s' n t, s.t.getD x .u = s'.t.getD x .u) → wantedB s n t want = wantedB s' n t want
 | 0, _, _, _ => rfl
 | n + 1, t, want, h => by
  have ht : s.t.getD t .u = s'.t.getD t .u := h t (by simp [grdT])
  simp only [wantedB, ht]
  split
  ·rfl
  ·rename_i t' w' v htv
   rw [wantedB_congr n t' w' fun x hx => h x (by simp only [grdT, htv]; exact List.mem_cons_of_mem _ hx)]
  ·rfl

theorem stepG_congr {x : Rec} {S : St} (h : Agree (x.T ops) (x.F ops) S x.s) (hg : ∀ d, x.o.dst = some d → S.t.any (grdOn d) = false) {st : GSt} (hst : stepG C ops x.s x.o = some st) : stepG C ops S x.o = some st := by
 rw [← hst]
 have hX : ∀ g, ∀ y ∈ x.o.op.operands.toList, EqX S x.s g y := by
  intro g y hy
  have hm : ∀ t, y = .tmp t → t ∈ x.T ops := fun t e => by
   subst e
   simp only [Rec.T, Oper.looksAt, List.mem_append, List.mem_filterMap]
   exact .inl (.inl ⟨_, hy, rfl⟩)
  exact EqX.mk' h.n (fun t e => h.t t (hm t e)) fun t e n hn => h.r n (List.mem_flatMap.2 ⟨t, hm t e, hn⟩)
 unfold stepG at hst ⊢
 split at hst
 ·cases hst
 ·rename_i h0
  rw [if_neg h0]
  have h1 : ¬ (x.o.dst.any fun d => S.t.any (grdOn d) || C.pr.elem d) = true := by
   intro h2
   apply h0
   cases hd : x.o.dst with
   | none => rw [hd] at h2; exact h2
   | some d =>
    rw [hd] at h2
    simp only [Option.any_some, hg d hd, Bool.false_or] at h2
    simp only [Option.any_some, h2, Bool.or_true]
  rw [if_neg h1]
  cases hgd : x.o.guard with
  | none => simp only; rw [stepOp_congr (hX none)]
  | some jw =>
   obtain ⟨j, want⟩ := jw
   simp only
   cases ht : (ops[j]?).bind (·.dst) with
   | none => rfl
   | some t =>
    simp only
    rw [stepOp_congr (hX _), wantedB_congr 4 t want fun y hy => h.t y (by simp only [Rec.T, hgd, ht]; exact List.mem_append_right _ hy)]

theorem mem_uni : ∀ {a b : List Nat} {x : Nat}, x ∈ uni a b → x ∈ a ∨ x ∈ b := by
 intro a
 induction a with
 | nil => intro b x h; exact .inr h
 | cons y a ih =>
  intro b x h
  simp only [uni, List.foldl_cons] at h
  rcases ih h with h | h
  ·exact .inl (List.mem_cons_of_mem _ h)
  ·split at h
   ·exact .inr h
   ·rcases List.mem_cons.1 h with rfl | h
    ·exact .inl (List.mem_cons_self ..)
    ·exact .inr h

def Closed (ops : Array Oper) (L : Nat → Bool) : Prop := ∀ j o, L j = true → ops[j]? = some o → ∀ e ∈ o.after.toList, Region.binds .any e = true → L e.on = true

def AncOk (ops : Array Oper) (j : Nat) (l : List Nat) : Prop := ∀ k ∈ l, ∀ L, Closed ops L → (∀ o, ops[j]? = some o → ∀ e ∈ o.after.toList, Region.binds .any e = true → L e.on = true) → L k = true

theorem ancOf_ok {acc : List (List Nat)} (ha : ∀ j l, acc[j]? = some l → AncOk ops j l) {es : List Edge} {k : Nat} (h : k ∈ ancOf acc es) {L : Nat → Bool} (hc : Closed ops L) (hn : ∀ e ∈ es, Region.binds .any e = true → L e.on = true) : L k = true := by
 induction es with
 | nil => simp [ancOf] at h
 | cons e es ih =>
  simp only [ancOf, List.foldr_cons] at h
  split at h
  ·rename_i hb
   have he := hn e (List.mem_cons_self ..) hb
   rcases mem_uni h with h | h
   ·rcases List.mem_cons.1 h with rfl | h
    ·exact he
    ·rw [List.getD_eq_getElem?_getD] at h
     cases hl : acc[e.on]? with
     | none => rw [hl] at h; simp at h
     | some l => rw [hl] at h; exact ha e.on l hl k h L hc fun o ho e' he' hb' => hc e.on o he ho e' he' hb'
   ·exact ih h fun e' he' hb' => hn e' (List.mem_cons_of_mem _ he') hb'
  ·exact ih h fun e' he' hb' => hn e' (List.mem_cons_of_mem _ he') hb'

theorem ancAll_ok : ∀ (os : List Oper) (acc : List (List Nat)), (∀ k o, os[k]? = some o → ops[acc.length + k]? = some o) → (∀ j l, acc[j]? = some l → AncOk ops j l) → ∀ j l, (ancAll os acc)[j]? = some l → AncOk ops j l
 | [], acc, _, ha => ha
 | o :: os, acc, hos, ha => by
  simp only [ancAll]
  refine ancAll_ok os _ (fun k o' hk => by rw [← hos (k + 1) o' (by simpa using hk)]; congr 1; simp; omega) fun j l hj => ?_
  by_cases hlt : j < acc.length
  ·rw [List.getElem?_append_left hlt] at hj; exact ha j l hj
  ·rw [List.getElem?_append_right (by omega)] at hj
   have hj0 : j - acc.length = 0 := by
    cases hn : j - acc.length with
    | zero => rfl
    | succ n => rw [hn] at hj; simp at hj
   rw [hj0] at hj
   simp only [List.getElem?_cons_zero, Option.some.injEq] at hj
   subst hj
   have hje : j = acc.length := by omega
   subst hje
   intro k hk L hc hn
   exact ancOf_ok ha hk hc (hn o (by simpa using hos 0 o rfl))

def cnt (f : Nat → Bool) : Nat → Nat
 | 0 => 0
 | n + 1 => cnt f n + (if f n then 1 else 0)

theorem cnt_le (f : Nat → Bool) : ∀ n, cnt f n ≤ n
 | 0 => Nat.le_refl 0
 | n + 1 => by have := cnt_le f n; simp only [cnt]; split <;> omega

theorem cnt_full {f : Nat → Bool} : ∀ {n : Nat}, n ≤ cnt f n → ∀ i, i < n → f i = true
 | 0, _, i, hi => absurd hi (Nat.not_lt_zero i)
 | n + 1, h, i, hi => by
  have := cnt_le f n
  simp only [cnt] at h
  split at h
  ·rename_i hf
   by_cases hin : i = n
   ·rw [hin]; exact hf
   ·exact cnt_full (n := n) (by omega) i (by omega)
  ·omega

theorem cnt_set {f g : Nat → Bool} {i : Nat} (hi : f i = false) (hg : ∀ j, g j = if i = j then true else f j) : ∀ {n : Nat}, i < n → cnt g n = cnt f n + 1
 | 0, h => by omega
 | n + 1, h => by
  have hlow : ∀ m, m ≤ i → cnt g m = cnt f m := by
   intro m
   induction m with
   | zero => intro _; rfl
   | succ m ih => intro hm; simp only [cnt, ih (by omega), hg m, if_neg (show ¬ i = m by omega)]
  simp only [cnt, hg n]
  by_cases hin : i = n
  ·subst hin; rw [hlow i (Nat.le_refl i), if_pos rfl, hi]; simp
  ·rw [if_neg hin, cnt_set hi hg (n := n) (by omega)]; omega

end
section
variable {E : Env} {a : Act} {w w' : World} {ω : Nat → Option Tag} {φ : Nat → Nat → Option Value} {β : Nat → Option Nat} {C : Ctx} {s : St} {ops : Array Oper}
theorem RelX.same {s' : St} (h : RelX E s a w) (he : Same s s') : RelX E s' a w := by
 obtain ⟨ω, φ, β, h⟩ := h
 exact ⟨ω, φ, β, h.less (by rw [he.1]) (fun t tv ht => .inr (by rw [he.1]; exact ht)) fun r x hx => by rw [he.2]; exact hx⟩

theorem mix_any {Q : Exit → Act → World → Prop} (hC : CallsOk E C) (hP : PinOk E C) {s0 s1 : St} {xs : List Rec} (hr : Runs C ops s0 xs s1) (hx : xs.map (·.o) = ops.toList) (hm : mixOk ops s0 xs = true)
  (hk : ∀ a w, RelX E s1 a w → Q .normal a w) : ∀ (fuel : Nat) (listed : Array Bool) (a : Act) (w : World), listed.size = ops.size → Closed ops (fun i => listed.getD i false) →
   ops.size ≤ fuel + cnt (fun i => listed.getD i false) ops.size → RelX E (foldS (fun i => listed.getD i false) s0 xs 0) a w → wpAny C.P .any ops Q fuel listed a w := by
 simp only [mixOk, Bool.and_eq_true] at hm
 obtain ⟨⟨hed, hng⟩, hpairs⟩ := hm
 have hlen : xs.length = ops.size := by have := congrArg List.length hx; simpa using this
 have hop : ∀ (i : Nat) (x : Rec), xs[i]? = some x → ops[i]? = some x.o := by
  intro i x hi
  have h1 : (xs.map (·.o))[i]? = some x.o := by rw [List.getElem?_map, hi]; rfl
  rw [hx] at h1
  simpa using h1
 have hpair : ∀ (k i : Nat) (x y : Rec), xs[k]? = some x → xs[i]? = some y → pairOk ops (ancAll ops.toList []) k i x y = true := by
  intro k i x y hk hi
  have h1 := List.all_eq_true.1 hpairs (x, k) (List.mem_zipIdx_iff_getElem?.2 hk)
  exact List.all_eq_true.1 h1 (y, i) (List.mem_zipIdx_iff_getElem?.2 hi)
 have hedge : ∀ (i : Nat) (o : Oper), ops[i]? = some o → ∀ e ∈ o.after.toList, Region.binds .any e = true → e.on < i := by
  intro i o ho e he hb
  have h1 := List.all_eq_true.1 hed (o, i) (List.mem_zipIdx_iff_getElem?.2 (by simpa using ho))
  have h2 := List.all_eq_true.1 h1 e he
  simpa [hb] using h2
 have hanc : ∀ (j : Nat) (l : List Nat), (ancAll ops.toList [])[j]? = some l → AncOk ops j l := ancAll_ok ops.toList [] (fun k o h => by simpa using h) fun j l h => by simp at h
 have hancD : ∀ (j k : Nat), ((ancAll ops.toList []).getD j []).elem k = true → ∀ L, Closed ops L → (∀ o, ops[j]? = some o → ∀ e ∈ o.after.toList, Region.binds .any e = true → L e.on = true) → L k = true := by
  intro j k h L hc hn
  rw [List.getD_eq_getElem?_getD] at h
  cases hl : (ancAll ops.toList [])[j]? with
  | none => rw [hl] at h; simp at h
  | some l => rw [hl] at h; exact hanc j l hl k (by simpa using h) L hc hn
 have hng : ∀ d, s0.t.any (grdOn d) = false := by
  intro d
  rw [List.any_eq_false]
  intro v hv
  have := List.all_eq_true.1 hng v hv
  cases v <;> simp [grdOn] at this ⊢
 have hfull : ∀ (listed : Array Bool) (a : Act) (w : World), (∀ i, i < ops.size → listed.getD i false = true) → RelX E (foldS (fun i => listed.getD i false) s0 xs 0) a w → Q .normal a w := by
  intro listed a w hall h
  rw [foldS_all hr fun j _ hj => hall j (by omega)] at h
  exact hk a w h
 have hnil : ∀ (listed : Array Bool), listed.size = ops.size → Region.ready .any ops listed = [] → ∀ i, i < ops.size → listed.getD i false = true := by
  intro listed hsz hre i
  induction i using Nat.strongRecOn with
  | _ i ih =>
   intro hi
   cases hli : listed.getD i false with
   | true => rfl
   | false =>
    exfalso
    have hmem : i ∈ Region.ready .any ops listed := by
     rw [mem_ready]
     refine ⟨?_, ops[i], Array.getElem?_eq_getElem hi, fun e he hb => ?_⟩
     ·have hil : i < listed.size := by omega
      rw [← Array.getElem_eq_getD (h := hil) false] at hli
      rw [← Array.getElem_eq_getD (h := hil) true]; exact hli
     ·have hlt := hedge i ops[i] (Array.getElem?_eq_getElem hi) e (by simpa using he) hb
      exact ih e.on hlt (by omega)
    rw [hre] at hmem; cases hmem
 intro fuel
 induction fuel with
 | zero =>
  intro listed a w hsz hcl hcnt h
  have hall := cnt_full (by omega : ops.size ≤ cnt (fun i => listed.getD i false) ops.size)
  refine ⟨?_, hfull listed a w hall h⟩
  cases hre : Region.ready .any ops listed with
  | nil => rfl
  | cons j js =>
   exfalso
   have hj : j ∈ Region.ready .any ops listed := by rw [hre]; exact List.mem_cons_self ..
   rw [mem_ready] at hj
   obtain ⟨h0, o, ho, _⟩ := hj
   have hlt : j < ops.size := (Array.getElem?_eq_some_iff.1 ho).1
   have h1 := hall j hlt
   have hil : j < listed.size := by omega
   rw [← Array.getElem_eq_getD (h := hil) true] at h0
   simp only [← Array.getElem_eq_getD (h := hil) false, h0] at h1
   cases h1
 | succ fuel ih =>
  intro listed a w hsz hcl hcnt h
  refine ⟨fun hre => hfull listed a w (hnil listed hsz hre) h, fun i hi => ?_⟩
  obtain ⟨h0, o, ho, hpre⟩ := mem_ready.1 hi
  have hlt : i < ops.size := (Array.getElem?_eq_some_iff.1 ho).1
  have hil : i < listed.size := by omega
  have hLi : listed.getD i false = false := by
   rw [← Array.getElem_eq_getD (h := hil) true] at h0
   rw [← Array.getElem_eq_getD (h := hil) false]; exact h0
  obtain ⟨x, hxi⟩ : ∃ x, xs[i]? = some x := ⟨xs[i]'(by omega), List.getElem?_eq_getElem (by omega)⟩
  have hoi : ops[i]? = some x.o := hop i x hxi
  -- the list, parted at i
  obtain ⟨pre, post, hsplit, hpl⟩ : ∃ pre post, xs = pre ++ x :: post ∧ pre.length = i := by
   refine ⟨xs.take i, xs.drop (i + 1), ?_, by simp; omega⟩
   have hi' : i < xs.length := by omega
   have hx' : x = xs[i] := by rw [List.getElem?_eq_getElem hi'] at hxi; exact (Option.some.inj hxi).symm
   rw [hx', List.getElem_cons_drop, List.take_append_drop]
  have hpreget : ∀ k y, pre[k]? = some y → xs[k]? = some y ∧ k < i := by
   intro k y hk
   have hkl : k < pre.length := (List.getElem?_eq_some_iff.1 hk).1
   exact ⟨by rw [hsplit, List.getElem?_append_left hkl]; exact hk, by omega⟩
  have hpostget : ∀ k y, post[k]? = some y → xs[i + 1 + k]? = some y := by
   intro k y hk
   rw [hsplit, List.getElem?_append_right (by omega), show i + 1 + k - pre.length = k + 1 by omega]
   exact hk
  have hsp := runs_split (hsplit ▸ hr)
  have hLL : ∀ L : Nat → Bool, L i = false → foldS L s0 xs 0 = foldS L (foldS L s0 pre 0) post (i + 1) := by
   intro L hL
   rw [hsplit, foldS_append]
   simp only [foldS, Nat.zero_add, hpl, hL, Bool.false_eq_true, if_false]
  have hno1 : ∀ k, ((ancAll ops.toList []).getD i []).elem k = true → listed.getD k false = true := fun k hk =>
   hancD i k hk _ hcl fun o' ho' e he hb => by rw [ho] at ho'; cases ho'; exact hpre e (by simpa using he) hb
  have hno2 : ∀ j, listed.getD j false = true → ((ancAll ops.toList []).getD j []).elem i = true → False := fun j hj hk => by
   have := hancD j i hk _ hcl fun o' ho' e he hb => hcl j o' hj ho' e he hb
   rw [hLi] at this; cases this
  have hag : Agree (x.T ops) (x.F ops) (foldS (fun i => listed.getD i false) s0 xs 0) x.s := by
   rw [hLL _ hLi]
   refine agree_post post (i + 1) (agree_pre pre 0 hsp.1 Agree.refl fun k y hy hL => ?_) fun k y hy hL => ?_
   ·obtain ⟨hk, hki⟩ := hpreget k y hy
    have h1 := hpair k i y x hk hxi
    simp only [pairOk, Bool.and_eq_true, if_pos hki, Bool.or_eq_true] at h1
    rcases h1.2 with h2 | h2
    ·rw [Nat.zero_add, hno1 k h2] at hL; cases hL
    ·exact h2.1.1
   ·have h1 := hpair i (i + 1 + k) x y hxi (hpostget k y hy)
    simp only [pairOk, Bool.and_eq_true, if_pos (show i < i + 1 + k by omega), Bool.or_eq_true] at h1
    rcases h1.2 with h2 | h2
    ·exact (hno2 _ hL h2).elim
    ·exact h2.1.2
  have hany : ∀ d, x.o.dst = some d → (foldS (fun i => listed.getD i false) s0 xs 0).t.any (grdOn d) = false := by
   intro d hd
   refine any_fold xs 0 (hng d) fun k y hy hL => ?_
   rw [Nat.zero_add] at hL
   have h1 := hpair k i y x hy hxi
   simp only [pairOk, Bool.and_eq_true, Bool.or_eq_true, hd] at h1
   rcases h1.1 with (h2 | h2) | h2
   ·exact (hno2 _ hL h2).elim
   ·have : i = k := by simpa using h2
    subst this; rw [hLi] at hL; cases hL
   ·simpa using h2
  obtain ⟨st, hst, hgv⟩ := hsp.2
  have hst' := stepG_congr hag hany hst
  obtain ⟨ω, φ, β, hrel⟩ := h
  have hgo : GOk E C.P ops (foldS (fun i => listed.getD i false) s0 xs 0) a w x.o x.u := by
   have := stepG_ok hC hP hrel hst'
   cases st with
   | ok u => cases hgv; exact this
   | may pk comp upd => obtain ⟨p, hp, hu⟩ := hgv; exact this p x.u hp hu
  have hK : ∀ a' w', RelX E ((foldS (fun i => listed.getD i false) s0 xs 0).app x.u) a' w' → wpAny C.P .any ops Q fuel (listed.setIfInBounds i true) a' w' := by
   intro a' w' h'
   have hL' : ∀ j, (listed.setIfInBounds i true).getD j false = if i = j then true else listed.getD j false := by
    intro j
    by_cases hij : i = j
    ·subst hij; rw [if_pos rfl]; simp [hil]
    ·rw [if_neg hij]; exact getD_set_ne false hij
   refine ih _ a' w' (by simpa using hsz) (fun j o' hj ho' e he hb => ?_) ?_ ?_
   ·simp only [hL'] at hj ⊢
    split
    ·rfl
    ·split at hj
     ·rename_i hij; subst hij; rw [ho] at ho'; cases ho'; exact hpre e (by simpa using he) hb
     ·exact hcl j o' hj ho' e he hb
   ·rw [cnt_set hLi hL' hlt]; omega
   ·rw [hLL _ hLi] at h'
    have hsw := swap_post (L := fun i => listed.getD i false) (u := x.u) post (S := foldS (fun i => listed.getD i false) s0 pre 0) (i + 1) fun k y hy hL => by
     have h1 := hpair i (i + 1 + k) x y hxi (hpostget k y hy)
     simp only [pairOk, Bool.and_eq_true, if_pos (show i < i + 1 + k by omega), Bool.or_eq_true] at h1
     rcases h1.2 with h2 | h2
     ·exact (hno2 _ hL h2).elim
     ·exact h2.2
    have h2 := h'.same hsw
    have e1 : foldS (fun j => (listed.setIfInBounds i true).getD j false) s0 xs 0 = foldS (fun i => listed.getD i false) ((foldS (fun i => listed.getD i false) s0 pre 0).app x.u) post (i + 1) := by
     rw [hsplit, foldS_append]
     simp only [foldS, Nat.zero_add, hpl, hL', if_true]
     rw [foldS_congr (L := fun j => if i = j then true else listed.getD j false) (M := fun i => listed.getD i false) pre s0 0 fun j h1 h2 => by simp only [if_neg (show ¬ i = j by omega)]]
     rw [foldS_congr (L := fun j => if i = j then true else listed.getD j false) (M := fun i => listed.getD i false) post _ (i + 1) fun j h1 h2 => by simp only [if_neg (show ¬ i = j by omega)]]
    rw [e1]
    exact h2
  have := hgo _ Q hK
  unfold wpOp
  rw [hoi]
  simp only
  split
  ·rename_i hw; rw [if_pos hw] at this; exact .inl this
  ·rename_i hw; rw [if_neg hw] at this; exact this

theorem RelX.heap (h : RelX E s a w) (hio : Like w w') (hw : w'.heap = w.heap) : RelX E s a w' := by
 obtain ⟨ω, φ, β, h⟩ := h
 have hc : ∀ b o, cel w' b o = cel w b o := fun b o => by simp only [cel, World.cell?, hw]
 have hS : ∀ b, (E.g w ω φ).S b → (E.g w' ω φ).S b := fun b hb => by
  have : E.S w ω b := hb
  show E.S w' ω b
  unfold Env.S at this ⊢
  rw [hw]; exact this
 have hl : ∀ l v, TLr (E.g w ω φ) β l v → TLr (E.g w' ω φ) β l v := by
  intro l v hv
  have hval : ∀ l, (E.g w' ω φ).val l = (E.g w ω φ).val l := fun l => by
   cases l with
   | cell b o => exact hc b o
   | fl r k => rfl
  cases l with
  | d k x => exact ⟨hv.1, Sh.mono hS (fun b _ o => hc b o) _ _ _ hv.2⟩
  | ref r k => show (E.g w' ω φ).val _ = _; rw [hval]; exact hv
  | sub r k e lo n => obtain ⟨a1, a2, a3, a4, a5, h1, h2⟩ := hv; exact ⟨a1, a2, a3, a4, a5, by rw [hval]; exact h1, h2⟩
  | ead r k e i off => obtain ⟨a1, a2, a3, a4, h1, h2⟩ := hv; exact ⟨a1, a2, a3, a4, by rw [hval]; exact h1, h2⟩
  | iad e x off =>
   obtain ⟨b, o, h1, h2, h3⟩ := hv
   refine ⟨b, o, h1, hS b h2, ?_⟩
   have := Sh.mono (S' := (E.g w' ω φ).S) (w' := w') hS (fun b _ o => hc b o) _ _ _ h3
   exact Sh.congr _ _ _ _ (fun j _ => hc b (o + j)) this
  | adr r off => exact hv
  | nil => exact hv
  | clo fn cs => exact hv
  | x => trivial
 have hstep := h.step (u := {}) (w' := w') (ω' := ω) (φ' := φ) (β' := β) (v := undef) ⟨h.wr.bj, fun b tag hb => by rw [hw]; exact h.wr.bd b tag hb, fun b h1 h2 => ⟨(h.wr.old b h1 h2).1, by rw [hw]; exact (h.wr.old b h1 h2).2⟩, by rw [hw]; exact h.wr.bs, h.wr.pin, h.wr.io.trans hio⟩
  (fun l v hv => by rw [TL.kill_nil]; exact hl l v hv) (fun r root hr _ => ⟨?_, fun k c hk hc' => ?_⟩) (fun r root hp => by simp [lastPut] at hp) (fun d tv hd => by cases hd)
 ·exact ⟨ω, φ, β, hstep⟩
 ·have := h.bx r root hr
  exact ⟨this.1, fun b hb => by rw [hw]; exact this.2 b hb⟩
 ·cases c with
  | own o e xs hole =>
   obtain ⟨h1, h2⟩ := hc'
   refine ⟨h1, OW.frame (g := E.g w ω φ) (g' := E.g w' ω φ) (fun b hb => ⟨hS b hb, fun o => hc b o⟩) (fun b l hb => ⟨hb, by show w'.heap[b]? = w.heap[b]?; rw [hw]⟩) _ _ _ _ (fun j _ => ?_) h2⟩
   cases (locR β r k).add j with
   | cell b o => exact hc b o
   | fl r k => rfl
  | tl l =>
   obtain ⟨v, h1, h2⟩ := hc'
   refine ⟨v, ?_, by rw [TL.kill_nil]; exact hl l v h2⟩
   cases hlr : locR β r k with
   | cell b o => rw [hlr] at h1; show cel w' b o = _; rw [hc]; exact h1
   | fl r k => rw [hlr] at h1; exact h1

theorem region_mix_ok {R : Type} (hC : CallsOk E C) (hP : PinOk E C) (hmo : C.P.follows .mixedOrders = true) {id : Nat} {Q : Exit → Act → World → Prop} {k : St → Option R} {r : R} (h : RelX E s a w) (hr : runMix C ops s k = some r)
  (hk : ∀ s' a' w', RelX E s' a' w' → k s' = some r → Q .normal a' w') : (Code.region id ops true).wp C.P Q a w := by
 refine wp_region_any hmo ?_
 obtain ⟨xs, s1, h1, h2, h3⟩ := runRec_runs hr
 simp only [List.nil_append] at h1
 split at h1
 ·rename_i hm
  have hfalse : ∀ i, (Array.replicate ops.size false).getD i false = false := by
   intro i
   by_cases hi : i < ops.size
   ·simp [hi]
   ·simp [hi]
  refine mix_any hC hP h2 h3 hm (fun a' w' hs => hk s1 a' w' hs h1) ops.size _ a _ (by simp) (fun j o hj => by simp only [hfalse] at hj; cases hj) (by omega) ?_
  have : ∀ (xs : List Rec) (s : St) (i : Nat), foldS (fun i => (Array.replicate ops.size false).getD i false) s xs i = s := by
   intro xs
   induction xs with
   | nil => intro s i; rfl
   | cons x xs ih => intro s i; unfold foldS; rw [if_neg (by rw [hfalse]; exact Bool.false_ne_true)]; exact ih s (i + 1)
  rw [this]
  exact h.heap ⟨rfl, rfl, rfl⟩ rfl
 ·cases h1

end
section
variable {E : Env} {s : St} {a : Act} {w w' : World} {ω ω' : Nat → Option Tag} {φ φ' : Nat → Nat → Option Value} {β β' : Nat → Option Nat}
variable {P : Program} {o : Oper} {g : Option (Nat × Bool)} {d : Nat} {C : Ctx}
theorem keepT_get (keep : List Nat) : ∀ (l : List TV) (i t : Nat), (keepT keep i l).length = l.length ∧ ∀ tv, (keepT keep i l)[t]? = some tv → tv = .u ∨ l[t]? = some tv
 | [], i, t => ⟨rfl, fun tv h => by simp [keepT] at h⟩
 | v :: l, i, t => by
  refine ⟨by simp [keepT, (keepT_get keep l (i + 1) t).1], fun tv h => ?_⟩
  cases t with
  | zero =>
   simp only [keepT, List.getElem?_cons_zero, Option.some.injEq] at h
   split at h
   ·right; simp [h]
   ·left; exact h.symm
  | succ t =>
   simp only [keepT, List.getElem?_cons_succ] at h ⊢
   exact (keepT_get keep l (i + 1) t).2 tv h

theorem look_keepR (ns : List Nat) : ∀ (rs : List (Nat × Root)) (n : Nat) (x : Root), look (keepR ns rs) n = some x → look rs n = some x
 | [], n, x, h => h
 | (m, y) :: rs, n, x, h => by
  simp only [keepR] at h
  simp only [look]
  split at h
  ·simp only [look] at h
   split
   ·rename_i he; rw [if_pos he] at h; exact h
   ·rename_i he; rw [if_neg he] at h; exact look_keepR ns rs n x h
  ·rename_i hn
   split
   ·rename_i he
    subst he
    exfalso
    have : ∀ (rs : List (Nat × Root)), look (keepR ns rs) m = none := by
     intro rs
     induction rs with
     | nil => rfl
     | cons p rs ih =>
      obtain ⟨q, z⟩ := p
      simp only [keepR]
      split
      ·rename_i hq
       simp only [look]
       rw [if_neg (by rintro rfl; exact hn hq)]
       exact ih
      ·exact ih
    rw [this] at h; cases h
   ·exact look_keepR ns rs n x h

theorem RelX.clean {keep pr : List Nat} (h : RelX E s a w) : RelX E (s.clean keep pr) a w := by
 obtain ⟨ω, φ, β, h⟩ := h
 exact ⟨ω, φ, β, h.less (keepT_get keep s.t 0 0).1 (fun t tv hx => (keepT_get keep s.t 0 t).2 tv hx) (fun r x hx => look_keepR _ _ r x hx)⟩

theorem RelX.noGrd (h : RelX E s a w) : RelX E (noGrd s) a w := by
 obtain ⟨ω, φ, β, h⟩ := h
 refine ⟨ω, φ, β, h.less (by simp [Pv.noGrd]) (fun t tv hx => ?_) (fun r x hx => hx)⟩
 simp only [Pv.noGrd, List.getElem?_map] at hx
 obtain ⟨v, hv, rfl⟩ := Option.map_eq_some_iff.1 hx
 cases v <;> first | (right; exact hv) | (left; rfl)

def Out.ex : Out → Exit
 | .normal => .normal | .exit id => .exit id | .ret => .ret

theorem wp_loop_n {c : Code} {Q : Exit → Act → World → Prop} (J : Nat → Act → World → Prop) {n : Nat} (h0 : J n a w)
  (round : ∀ n a w, J n a w → c.wp P (Exit.then (fun a' w' => ∃ m, m < n ∧ J m a' w') Q) a w) : (Code.loop c).wp P Q a w := by
 intro b k cs
 have key : ∀ n a w, J n a w → ∃ e a' w', Q e a' w' ∧ Arrives P (lone (b.at a (.code c :: .inLoop c :: k)) cs w) b k cs e a' w' := by
  intro n
  induction n using Nat.strongRecOn with
  | _ n ih =>
   intro a w hJ
   obtain ⟨e, a₁, w₁, hq, harr⟩ := round n a w hJ b (.inLoop c :: k) cs
   cases e with
   | normal =>
    obtain ⟨m, hlt, hJ₁⟩ := hq
    obtain ⟨e₂, a₂, w₂, hq₂, harr₂⟩ := ih m hlt a₁ w₁ hJ₁
    exact ⟨e₂, a₂, w₂, hq₂, .of_steps (Steps.trans harr (.one step_inLoop)) harr₂⟩
   | exit id => exact ⟨_, a₁, w₁, hq, .pass (x := .inLoop c) rfl (fun _ _ => .inl (by simp)) harr⟩
   | goto l => exact ⟨_, a₁, w₁, hq, .pass (x := .inLoop c) rfl (fun _ _ => .inl (by simp)) harr⟩
   | ret => exact ⟨_, a₁, w₁, hq, .pass (x := .inLoop c) rfl (fun _ _ => .inl (by simp)) harr⟩
   | panic ch => exact ⟨_, a₁, w₁, hq, .pass (x := .inLoop c) rfl (fun _ _ => .inl (by simp)) harr⟩
   | outgrown => exact ⟨_, a₁, w₁, hq, .pass (x := .inLoop c) rfl (fun _ _ => .inl (by simp)) harr⟩
 obtain ⟨e, a', w', hq, harr⟩ := key n a w h0
 exact ⟨e, a', w', hq, .of_steps (.one step_loop) harr⟩

theorem PI_ok {R : Type} (hC : CallsOk E C) (hP : PinOk E C) (hmo : C.P.follows .mixedOrders = true) (fuel : Nat) (pr : List Nat) (r : R) : ∀ (c : Code) (v : Lv) (s : St) (k : Out → St → Option R) (Q : Exit → Act → World → Prop) (a : Act) (w : World), PI C fuel pr c v s k = some r → RelX E s a w →
  (∀ e s' a' w', RelX E s' a' w' → k e s' = some r → Q e.ex a' w') → c.wp C.P Q a w := by
 intro c
 induction c with
 | skip => intro v s k Q a w hr h hk; exact wp_skip (hk .normal s a w h hr)
 | label l => intro v s k Q a w hr h hk; exact wp_label (hk .normal s a w h hr)
 | region id ops draw =>
  intro v s k Q a w hr h hk
  have hfin : ∀ s' a' w', RelX E s' a' w' → k .normal (if hasGrd ops then noGrd s' else s') = some r → Q .normal a' w' := fun s' a' w' hs hks => by
   split at hks
   ·exact hk .normal _ a' w' hs.noGrd hks
   ·exact hk .normal _ a' w' hs hks
  simp only [PI, fS_eq] at hr
  cases draw with
  | false => exact wp_region_list (runOps_ok hC hP ops.toList s a w hr h hfin)
  | true => exact region_mix_ok hC hP hmo h hr hfin
 | seq x y ihx ihy =>
  intro v s k Q a w hr h hk
  refine wp_seq (ihx _ _ _ _ a w hr h fun e s' a' w' hs hks => ?_)
  cases e with
  | normal => exact ihy _ _ _ _ a' w' hks hs hk
  | exit id => exact hk (.exit id) s' a' w' hs hks
  | ret => exact hk .ret s' a' w' hs hks
 | cond c x y ihx ihy =>
  intro v s k Q a w hr h hk
  simp only [PI] at hr
  split at hr
  ·rename_i b hb
   obtain ⟨ω, φ, β, hrel⟩ := h
   have hc := tvOf_ok hrel (g := none) trivial c
   rw [hb] at hc
   have hc : a.eval c = .bool b := bool_of hc.2
   refine wp_cond_split hc (fun ht => ?_) (fun hf => ?_)
   ·subst ht; exact ihx _ _ _ _ a w hr ⟨ω, φ, β, hrel⟩ hk
   ·subst hf; exact ihy _ _ _ _ a w hr ⟨ω, φ, β, hrel⟩ hk
  ·cases hr
 | block id b ih =>
  intro v s k Q a w hr h hk
  refine wp_block (ih _ _ _ _ a w hr h fun e s' a' w' hs hks => ?_)
  cases e with
  | normal => exact hk .normal s' a' w' hs hks
  | exit j =>
   simp only at hks
   simp only [Out.ex, Exit.inBlock]
   split
   ·rename_i he; rw [if_pos he] at hks; exact hk .normal s' a' w' hs hks
   ·rename_i he; rw [if_neg he] at hks; exact hk (.exit j) s' a' w' hs hks
  | ret => exact hk .ret s' a' w' hs hks
 | loop b ih =>
  intro v s k Q a w hr h hk
  simp only [PI, fS_eq] at hr
  have hcl : ∀ e s' a' w', RelX E s' a' w' → RelX E (clOut v pr e s') a' w' := fun e s' a' w' hs => by
   cases e with
   | normal => exact hs
   | exit id => exact hs.clean
   | ret => exact hs.clean
  refine wp_loop_n (J := fun n a w => ∃ s', RelX E s' a w ∧ loopN (PI C fuel pr b { v with out := live (.loop b) v }) (St.clean (live (.loop b) v) pr) (fun e s' => k e (clOut v pr e s')) n s' = some r) ⟨_, h.clean, hr⟩ ?_
  rintro n a w ⟨s', h', hr'⟩
  cases n with
  | zero => cases hr'
  | succ n =>
   simp only [loopN, fS_eq] at hr'
   refine ih _ _ _ _ a w hr' h' fun e s2 a2 w2 hs hks => ?_
   cases e with
   | normal => exact ⟨n, Nat.lt_succ_self n, _, hs.clean, hks⟩
   | exit id => exact hk (.exit id) _ a2 w2 (hcl (.exit id) s2 a2 w2 hs) hks
   | ret => exact hk .ret _ a2 w2 (hcl .ret s2 a2 w2 hs) hks
 | exit id => intro v s k Q a w hr h hk; exact wp_exit (hk (.exit id) s a w h hr)
 | ret => intro v s k Q a w hr h hk; exact wp_ret (hk .ret s a w h hr)
 | _ => intro v s k Q a w hr h hk; cases hr

end
def compV (b : Bool) (vs : List Value) : Value := if b then .agg vs.toArray else vs.headD undef

def splitV : List (Bool × List (K × Nat)) → List Value → List Value
 | [], _ => []
 | (b, ks) :: rs, vs => compV b (vs.take ks.length) :: splitV rs (vs.drop ks.length)

def outV (res : List (Bool × List (K × Nat))) (vs : List Value) : Value := match splitV res vs with | [c] => c | cs => .tuple cs.toArray

def ResC (g : GW) (j o : Nat) (l : Leaf) (v : Value) : Prop :=
 match o with
 | 0 => l.k.isLeaf = true ∧ Sh g.S g.w l.k l.x (one v)
 | o + 1 => ∃ e xs, l = ⟨.row e, xs⟩ ∧ g.φ (fid 0 j) 0 = some v ∧ OW g (fid 0 j, 0) none (.row e) (o + 1) xs (.fl (fid 0 j) 0)

def ResL (g : GW) (ks : List (K × Nat)) (ls : List Leaf) (vs : List Value) : Prop :=
 ls.length = ks.length ∧ vs.length = ks.length ∧ ∀ (j : Nat) (k : K) (o : Nat) (l : Leaf) (v : Value), ks[j]? = some (k, o) → ls[j]? = some l → vs[j]? = some v → ResC g j o l v

def ioRoots : List Nat → List (List (K × Nat)) → List Leaf → List (Nat × Root)
 | p :: ps, ks :: io, ls => (p, ⟨true, ioLC ks (ls.take ks.length)⟩) :: ioRoots ps io (ls.drop ks.length)
 | _, _, _ => []

def Post (E : Env) (sg : Sig) (ls : List Leaf) (v : Value) (w : World) : Prop :=
 ∃ ω φ vs, Wr E w ω E.pin ∧ v = outV sg.res vs ∧ ResL (E.g w ω φ) (sg.res.flatMap (·.2)) (ls.take (sg.res.flatMap (·.2)).length) vs ∧
  ∀ r root, look (ioRoots (ptrs 0 sg.ptr) sg.io (ls.drop (sg.res.flatMap (·.2)).length)) r = some root → boxOk w E.pin r root ∧ ∀ (k : Nat) (c : LC), root.ls[k]? = some c → LCr (E.g w ω φ) E.pin r k c

def FnOk (GI : Glob) (P : Program) (sig : Nat → Option Sig) (fn : Nat) (ags res : List Leaf) : Prop :=
 ∀ (sg : Sig) (f : Func) (q : List TV × List (Nat × Root) × List Leaf), sig fn = some sg → P.funcs[fn]? = some f → enterP P 0 f.params.toList sg.ptr sg.io ags = some q →
 ∀ (E : Env) (φ : Nat → Nat → Option Value) (args : Array Value), EnvOk GI E → Wr E E.w0 E.ω0 E.pin → E.base = E.w0.heap.size → (∀ r b, E.pin r = some b → r ∈ ptrs 0 sg.ptr) → (∀ r, r ∈ ptrs 0 sg.ptr → (E.pin r).isSome = true) →
  args.size = (q.1 ++ q.2.2.map capTV).length → (∀ (i : Nat) (tv : TV), (q.1 ++ q.2.2.map capTV)[i]? = some tv → ∃ v, args[i]? = some v ∧ ∀ tmps, TVr (TLr (E.g E.w0 E.ω0 φ) E.pin) tmps tv v) →
  (∀ r root, look q.2.1 r = some root → boxOk E.w0 E.pin r root ∧ ∀ (k : Nat) (c : LC), root.ls[k]? = some c → LCr (E.g E.w0 E.ω0 φ) E.pin r k c) →
  Calls P fn args E.w0 fun e w' => ∃ v, e = .returned v ∧ Post E sg res v w'

section
variable {E : Env} {s : St} {a : Act} {w w' : World} {ω ω' : Nat → Option Tag} {φ φ' : Nat → Nat → Option Value} {β β' : Nat → Option Nat}
variable {P : Program} {o : Oper} {g : Option (Nat × Bool)} {d : Nat} {C : Ctx}
def resSem (tmps : Array Value) : ResultVar → Sem Value
 | .tmp t => pure (tmps.getD t undef)
 | .cell c t => do loadVar t (← asAddr (tmps.getD c undef))

theorem results_eq (fn : Func) (tmps : Array Value) : results fn tmps = (do let vs ← fn.results.mapM (resSem tmps); pure (if h : vs.size = 1 then vs[0] else .tuple vs)) := by
 unfold results
 congr 1

theorem resTV_ok (h : Rel E s a w ω φ β) {rv : ResultVar} {tv : TV} (ht : resTV P s rv = some tv) (hn : ∀ x y z, tv ≠ .grd x y z) :
  ∃ v, (resSem a.tmps rv).run P w = .ok v w ∧ TVr (TLr (E.g w ω φ) β) a.tmps tv v := by
 have get : ∀ t, TVr (TLr (E.g w ω φ) β) a.tmps (s.t.getD t .u) (a.tmps.getD t undef) := by
  intro t
  rw [List.getD_eq_getElem?_getD]
  cases h1 : s.t[t]? with
  | none => trivial
  | some x =>
   obtain ⟨v, hv, hr⟩ := h.tm t x h1
   have : a.tmps.getD t undef = v := by simp [hv]
   rw [this]; exact hr
 cases rv with
 | tmp t =>
  simp only [resTV, Option.some.injEq] at ht
  subst ht
  exact ⟨_, by simp [resSem], get t⟩
 | cell c t =>
  simp only [resTV] at ht
  split at ht
  ·rename_i n ag hsz hag
   obtain ⟨ls, hls, hm⟩ := Option.bind_eq_some_iff.1 ht
   have hx : TLr (E.g w ω φ) β (s.t.getD c .u).tl (a.tmps.getD c undef) := tl_ok (R := TLr (E.g w ω φ) β) trivial (get c)
   obtain ⟨hl, b, off, hv, hc⟩ := loadL_ok h hx hls
   obtain ⟨v, h1, h2, h3⟩ := load_cells (tmps := a.tmps) hag hsz hm hl hc
   exact ⟨v, by simp only [resSem, hv, asAddr, pure_bind]; exact h1, h3⟩
  ·cases ht

theorem resAll_ok (h : Rel E s a w ω φ β) : ∀ {rs : List ResultVar} {res : List (Bool × List (K × Nat))} {ls : List TL}, resAll P s rs res = some ls →
  ∃ vs : List Value, (rs.mapM (resSem a.tmps)).run P w = .ok (splitV res vs) w ∧
   vs.length = ls.length ∧ ls.length = (res.flatMap (·.2)).length ∧ ∀ (j : Nat) (l : TL), ls[j]? = some l → ∃ v, vs[j]? = some v ∧ TLr (E.g w ω φ) β l v
 | [], [], ls, hr => by
  simp [resAll] at hr; subst hr
  exact ⟨[], by simp [splitV], rfl, rfl, fun j l hj => by simp at hj⟩
 | rv :: rs, (b, ks) :: res, ls, hr => by
  simp only [resAll] at hr
  obtain ⟨l0, h0, hr⟩ := Option.bind_eq_some_iff.1 hr
  obtain ⟨l1, h1, rfl⟩ := Option.map_eq_some_iff.1 hr
  obtain ⟨tv, htv, hc⟩ := Option.bind_eq_some_iff.1 h0
  obtain ⟨vs, i1, i2, i3, i4⟩ := resAll_ok h h1
  have key : (∀ x y z, tv ≠ .grd x y z) ∧ l0.length = ks.length ∧ ∀ v, TVr (TLr (E.g w ω φ) β) a.tmps tv v → ∃ us : List Value, compV b us = v ∧ us.length = ks.length ∧ ∀ (j : Nat) (l : TL), l0[j]? = some l → ∃ u, us[j]? = some u ∧ TLr (E.g w ω φ) β l u := by
   unfold compTL at hc
   split at hc
   ·rename_i l
    split at hc
    ·rename_i hb
     obtain ⟨rfl, hk⟩ := hb
     cases hc
     refine ⟨one_not, by rw [hk]; rfl, fun v hv => ⟨[v], rfl, by rw [hk]; rfl, fun j l' hj => ?_⟩⟩
     cases j with
     | zero => simp at hj; subst hj; exact ⟨v, rfl, hv⟩
     | succ j => simp at hj
    ·cases hc
   ·rename_i ls'
    split at hc
    ·rename_i hb
     obtain ⟨rfl, hk⟩ := hb
     cases hc
     refine ⟨agg_not, hk, fun v hv => ?_⟩
     obtain ⟨cs, rfl, hl, hr⟩ := hv
     refine ⟨cs.toList, by simp [compV], by simp [hl, hk], fun j l' hj => ?_⟩
     obtain ⟨c, hc, hcr⟩ := hr j l' hj
     exact ⟨c, by simpa using hc, hcr⟩
    ·cases hc
   ·cases hc
  obtain ⟨k1, k2, k3⟩ := key
  obtain ⟨v, hv, hvr⟩ := resTV_ok h htv k1
  obtain ⟨us, u1, u2, u3⟩ := k3 v hvr
  refine ⟨us ++ vs, ?_, by simp [u2, k2, i2], by simp [k2, i3], fun j l hj => ?_⟩
  ·have e1 : splitV ((b, ks) :: res) (us ++ vs) = v :: splitV res vs := by
    simp only [splitV]
    rw [← u2, List.take_left, List.drop_left, u1]
   rw [e1, List.mapM_cons, Sem.run_bind, hv, Result.andThen_ok, Sem.run_bind, i1]
   rfl
  ·by_cases hlt : j < l0.length
   ·rw [List.getElem?_append_left hlt] at hj
    obtain ⟨u, hu, hur⟩ := u3 j l hj
    exact ⟨u, by rw [List.getElem?_append_left (by rw [u2, ← k2]; exact hlt)]; exact hu, hur⟩
   ·rw [List.getElem?_append_right (by omega)] at hj
    obtain ⟨u, hu, hur⟩ := i4 _ l hj
    exact ⟨u, by rw [List.getElem?_append_right (by rw [u2, ← k2]; omega), u2, ← k2]; exact hu, hur⟩
 | [], _ :: _, ls, hr => by simp [resAll] at hr
 | _ :: _, [], ls, hr => by simp [resAll] at hr

theorem results_ok (h : Rel E s a w ω φ β) {fn : Func} {res : List (Bool × List (K × Nat))} {ls : List TL} (hr : resAll P s fn.results.toList res = some ls) :
  ∃ vs : List Value, (results fn a.tmps).run P w = .ok (outV res vs) w ∧ vs.length = ls.length ∧ ls.length = (res.flatMap (·.2)).length ∧ ∀ (j : Nat) (l : TL), ls[j]? = some l → ∃ v, vs[j]? = some v ∧ TLr (E.g w ω φ) β l v := by
 obtain ⟨vs, h1, h2⟩ := resAll_ok h hr
 refine ⟨vs, ?_, h2⟩
 rw [results_eq, Array.mapM_eq_mapM_toList, Sem.run_bind]
 have e1 : (List.toArray <$> List.mapM (resSem a.tmps) fn.results.toList).run P w = .ok (splitV res vs).toArray w := by
  rw [map_eq_pure_bind, Sem.run_bind, h1]; rfl
 rw [e1, Result.andThen_ok]
 unfold outV
 cases hs : splitV res vs with
 | nil => rfl
 | cons c cs =>
  cases cs with
  | nil => rfl
  | cons c' cs => simp

end
section
variable {E : Env} {s : St} {a : Act} {w w' : World} {ω ω' : Nat → Option Tag} {φ φ' : Nat → Nat → Option Value} {β β' : Nat → Option Nat}
variable {P : Program} {o : Oper} {g : Option (Nat × Bool)} {d : Nat} {C : Ctx}
def idxH : List ((Nat × Nat) × Nat) → Nat × Nat → Option Nat
 | [], _ => none
 | (ρ, j) :: hs, x => if ρ = x then some j else idxH hs x

theorem idxH_mem : ∀ {hs : List ((Nat × Nat) × Nat)} {ρ : Nat × Nat} {j : Nat}, (hs.map (·.1)).Nodup → (ρ, j) ∈ hs → idxH hs ρ = some j
 | [], _, _, _, h => by cases h
 | (ρ', j') :: hs, ρ, j, hn, h => by
  simp only [List.map_cons, List.nodup_cons] at hn
  simp only [idxH]
  rcases List.mem_cons.1 h with h | h
  ·cases h; simp
  ·rw [if_neg]
   ·exact idxH_mem hn.2 h
   ·rintro rfl
    exact hn.1 (List.mem_map.2 ⟨_, h, rfl⟩)

theorem idxH_some : ∀ {hs : List ((Nat × Nat) × Nat)} {ρ : Nat × Nat} {j : Nat}, idxH hs ρ = some j → (ρ, j) ∈ hs
 | [], _, _, h => by cases h
 | (ρ', j') :: hs, ρ, j, h => by
  simp only [idxH] at h
  split at h
  ·rename_i he; subst he; cases h; exact List.mem_cons_self
  ·exact List.mem_cons_of_mem _ (idxH_some h)

def endω (ps : List Nat) (hs : List ((Nat × Nat) × Nat)) (β : Nat → Option Nat) (ω : Nat → Option Tag) (b : Nat) : Option Tag :=
 match ω b with
 | some (.own ρ l) => match idxH hs ρ with
  | some j => some (.own (fid 0 j, 0) (if l = locR β ρ.1 ρ.2 then .fl (fid 0 j) 0 else l))
  | none => if ρ.1 ∈ ps then some (.own ρ l) else none
 | some (.box r) => if r ∈ ps then some (.box r) else none
 | none => none

def endφ (vs : List Value) : Nat → Nat → Option Value := fun r _ => vs[r / 4096 - 1]?

theorem endφ_fid (vs : List Value) (j : Nat) : endφ vs (fid 0 j) 0 = vs[j]? := by
 unfold endφ fid
 congr 1
 rw [Nat.zero_add, Nat.mul_div_cancel_left _ (by decide)]
 omega

theorem outLeaves_ok {rs : List (Nat × Root)} : ∀ {ks : List (K × Nat)} {ls : List TL} {j : Nat} {fs : List Leaf} {hs : List ((Nat × Nat) × Nat)}, outLeaves rs j ks ls = some (fs, hs) →
  fs.length = ks.length ∧ ∀ (i : Nat) (k : K) (o : Nat) (l : Leaf) (t : TL), ks[i]? = some (k, o) → fs[i]? = some l → ls[i]? = some t → ∃ hs', outLeaf rs (j + i) (k, o) t = some (l, hs') ∧ ∀ h, h ∈ hs' → h ∈ hs
 | [], [], j, fs, hs, h => by
  simp [outLeaves] at h; obtain ⟨rfl, rfl⟩ := h
  exact ⟨rfl, fun i k o l t h => by simp at h⟩
 | (k0, o0) :: ks, t0 :: ls, j, fs, hs, h => by
  simp only [outLeaves] at h
  obtain ⟨⟨l0, h0⟩, h1, h⟩ := Option.bind_eq_some_iff.1 h
  obtain ⟨⟨fs', hs'⟩, h2, h⟩ := Option.map_eq_some_iff.1 h
  cases h
  obtain ⟨i1, i2⟩ := outLeaves_ok h2
  refine ⟨by simp [i1], fun i k o l t hk hl ht => ?_⟩
  cases i with
  | zero =>
   simp at hk hl ht
   obtain ⟨rfl, rfl⟩ := hk
   subst hl ht
   exact ⟨h0, h1, fun x hx => List.mem_append_left _ hx⟩
  | succ i =>
   simp at hk hl ht
   obtain ⟨hs2, g1, g2⟩ := i2 i k o l t hk hl ht
   exact ⟨hs2, by rw [show j + (i + 1) = j + 1 + i by omega]; exact g1, fun x hx => List.mem_append_right _ (g2 x hx)⟩
 | [], _ :: _, _, _, _, h => by simp [outLeaves] at h
 | _ :: _, [], _, _, _, h => by simp [outLeaves] at h

theorem ioCells_ok : ∀ {ks : List (K × Nat)} {cs : List LC} {ls : List Leaf}, ioCells ks cs = some ls → cs.length = ks.length ∧ ls.length = ks.length ∧ (ioLC ks ls).length = ks.length ∧
  ∀ (i : Nat) (c : LC), (ioLC ks ls)[i]? = some c → ∃ c', cs[i]? = some c' ∧ ((c' = c ∧ (∀ t, c = .tl t → ∃ k x, t = .d k x) ∧ ∀ o e xs hole, c = .own o e xs hole → hole = none) ∨ ∃ e, c' = .tl .nil ∧ c = .tl (.d (.row e) []))
 | [], [], ls, h => by simp [ioCells] at h; subst h; exact ⟨rfl, rfl, rfl, fun i c hc => by simp [ioLC] at hc⟩
 | (kd, o) :: ks, c0 :: cs, ls, h => by
  simp only [ioCells] at h
  obtain ⟨l, h1, h⟩ := Option.bind_eq_some_iff.1 h
  obtain ⟨ls', h2, rfl⟩ := Option.map_eq_some_iff.1 h
  obtain ⟨i1, i2, i3, i4⟩ := ioCells_ok h2
  refine ⟨by simp [i1], by simp [i2], by simp [ioLC, i3], fun i c hc => ?_⟩
  cases i with
  | succ i => simp only [ioLC, List.getElem?_cons_succ] at hc ⊢; exact i4 i c hc
  | zero =>
   simp only [ioLC, List.getElem?_cons_zero, Option.some.injEq] at hc ⊢
   refine ⟨c0, rfl, ?_⟩
   subst hc
   cases o with
   | zero =>
    simp only [ioLeaf] at h1
    split at h1
    ·rename_i k x
     cases h1
     left
     cases k <;> exact ⟨rfl, fun t ht => by cases ht; exact ⟨_, _, rfl⟩, fun o e xs hole hh => by cases hh⟩
    ·split at h1
     ·cases h1; right; exact ⟨_, rfl, rfl⟩
     ·cases h1
    ·cases h1
   | succ o =>
    simp only [ioLeaf] at h1
    split at h1
    ·rename_i o' e xs
     split at h1
     ·rename_i ho
      cases h1
      left; subst ho; exact ⟨rfl, (fun t ht => by cases ht), (fun o e xs hole hh => by cases hh; rfl)⟩
     ·cases h1
    ·cases h1
 | [], _ :: _, _, h => by simp [ioCells] at h
 | _ :: _, [], _, h => by simp [ioCells] at h

theorem ioLeaves_ok {rs : List (Nat × Root)} : ∀ {ps : List Nat} {io : List (List (K × Nat))} {ls : List Leaf}, ioLeaves rs ps io = some ls →
  ∀ r root, look (ioRoots ps io ls) r = some root → r ∈ ps ∧ ∃ x, look rs r = some x ∧ x.box = true ∧ root.box = true ∧ x.ls.length = root.ls.length ∧
   ∀ (i : Nat) (c : LC), root.ls[i]? = some c → ∃ c', x.ls[i]? = some c' ∧ ((c' = c ∧ (∀ t, c = .tl t → ∃ k x, t = .d k x) ∧ ∀ o e xs hole, c = .own o e xs hole → hole = none) ∨ ∃ e, c' = .tl .nil ∧ c = .tl (.d (.row e) []))
 | [], [], ls, h, r, root, hr => by simp [ioRoots, look] at hr
 | p :: ps, ks :: io, ls, h, r, root, hr => by
  simp only [ioLeaves] at h
  split at h
  ·rename_i x hx
   split at h
   ·rename_i hbox
    obtain ⟨l0, h1, h⟩ := Option.bind_eq_some_iff.1 h
    obtain ⟨ls', h2, rfl⟩ := Option.map_eq_some_iff.1 h
    obtain ⟨i1, i2, i3, i4⟩ := ioCells_ok h1
    simp only [ioRoots, look] at hr
    rw [← i2, List.take_left, List.drop_left] at hr
    split at hr
    ·rename_i he
     subst he
     cases hr
     exact ⟨List.mem_cons_self, x, hx, hbox, rfl, by rw [i1, i3], i4⟩
    ·obtain ⟨g1, g2⟩ := ioLeaves_ok h2 r root hr
     exact ⟨List.mem_cons_of_mem _ g1, g2⟩
   ·cases h
  ·cases h
 | [], _ :: _, _, h, _, _, _ => by simp [ioLeaves] at h
 | _ :: _, [], _, h, _, _, _ => by simp [ioLeaves] at h

theorem nil_sh {S : Nat → Prop} {e : K} : Sh S w (.row e) [] (one (.slice none 0 0)) := ⟨none, 0, 0, rfl, rfl, Nat.le_refl _, .inl rfl⟩

theorem finish_ok (h : Rel E s a w ω φ β) {sg : Sig} {fn : Func} {ls : List Leaf} (hp1 : ∀ r b, E.pin r = some b → r ∈ ptrs 0 sg.ptr) (hp2 : ∀ r, r ∈ ptrs 0 sg.ptr → (E.pin r).isSome = true) (hf : finish C sg fn s = some ls) :
  ∃ v, (results fn a.tmps).run C.P w = .ok v w ∧ Post E sg ls v w := by
 unfold finish at hf
 obtain ⟨ts, h1, hf⟩ := Option.bind_eq_some_iff.1 hf
 obtain ⟨⟨fs, hs⟩, h2, hf⟩ := Option.bind_eq_some_iff.1 hf
 obtain ⟨gs, h3, hf⟩ := Option.bind_eq_some_iff.1 hf
 split at hf
 ·rename_i hc
  obtain ⟨hnd, hnp⟩ := hc
  cases hf
  obtain ⟨vs, r1, r2, r3, r4⟩ := results_ok h h1
  obtain ⟨o1, o2⟩ := outLeaves_ok h2
  have hpin : ∀ r, r ∈ ptrs 0 sg.ptr → ∃ b, E.pin r = some b ∧ β r = some b := by
   intro r hr
   obtain ⟨b, hb⟩ := Option.isSome_iff_exists.1 (hp2 r hr)
   exact ⟨b, hb, h.wr.pin r b hb⟩
  have hnotin : ∀ ρ j, (ρ, j) ∈ hs → ¬ ρ.1 ∈ ptrs 0 sg.ptr := by
   intro ρ j hm hc
   have := List.all_eq_true.1 hnp _ hm
   simp at this
   exact this hc
  have hS : ∀ b, E.S w ω b → E.S w (endω (ptrs 0 sg.ptr) hs β ω) b ∧ ∀ o1, cel w b o1 = cel w b o1 := by
   rintro b ⟨b1, b2, b3⟩
   exact ⟨⟨b1, by unfold endω; rw [b2], b3⟩, fun _ => rfl⟩
  have hSh : ∀ {k : K} {x : k.ty} {c : Nat → Option Value}, Sh (E.S w ω) w k x c → Sh (E.S w (endω (ptrs 0 sg.ptr) hs β ω)) w k x c :=
   fun hx => Sh.mono (fun b hb => (hS b hb).1) (fun _ _ _ => rfl) _ _ _ hx
  have hkeep : ∀ r k b l, r ∈ ptrs 0 sg.ptr → ω b = some (.own (r, k) l) → endω (ptrs 0 sg.ptr) hs β ω b = some (.own (r, k) l) := by
   intro r k b l hr hb
   unfold endω
   rw [hb]
   simp only
   cases hi : idxH hs (r, k) with
   | some j => exact absurd hr (hnotin _ _ (idxH_some hi))
   | none => simp [hr]
  refine ⟨_, r1, endω (ptrs 0 sg.ptr) hs β ω, endφ vs, vs, ?_, rfl, ?_, ?_⟩
  ·refine ⟨fun r b hr => ?_, fun b tag hb => ?_, fun b hb h0 => ?_, h.wr.bs, fun r b hr => hr, h.wr.io⟩
   ·have := h.wr.bj r b (h.wr.pin r b hr)
    unfold endω
    rw [this]
    simp [hp1 r b hr]
   ·unfold endω at hb
    split at hb
    ·rename_i ρ l hq; exact h.wr.bd _ _ hq
    ·rename_i r hq; exact h.wr.bd _ _ hq
    ·cases hb
   ·obtain ⟨g1, g2⟩ := h.wr.old b hb h0
    exact ⟨by unfold endω; rw [g1], g2⟩
  ·rw [← o1, List.take_left]
   refine ⟨o1, by rw [r2, r3], fun j k o l v hk hl hv => ?_⟩
   have hjt : j < ts.length := by rw [← r2]; exact (List.getElem?_eq_some_iff.1 hv).1
   have htj : ts[j]? = some ts[j] := List.getElem?_eq_getElem hjt
   obtain ⟨v', hv', hvr⟩ := r4 j _ htj
   rw [hv] at hv'; cases hv'
   obtain ⟨hs', g1, g2⟩ := o2 j k o l _ hk hl htj
   rw [Nat.zero_add] at g1
   generalize ts[j] = t at hvr g1
   cases o with
   | zero =>
    simp only [outLeaf] at g1
    split at g1
    ·cases g1; exact ⟨hvr.1, hSh hvr.2⟩
    ·split at g1
     ·cases g1
      have : v = .slice none 0 0 := hvr
      subst this
      exact ⟨rfl, nil_sh⟩
     ·cases g1
    ·cases g1
   | succ o =>
    simp only [outLeaf] at g1
    split at g1
    ·split at g1
     ·rename_i e
      cases g1
      have : v = .slice none 0 0 := hvr
      subst this
      refine ⟨e, [], rfl, ?_, ?_⟩
      ·show endφ vs (fid 0 j) 0 = _
       rw [endφ_fid]; exact hv
      ·simp only [OW]
       right
       exact ⟨none, 0, 0, by show endφ vs (fid 0 j) 0 = _; rw [endφ_fid]; exact hv, rfl, .inl ⟨rfl, trivial⟩⟩
     ·cases g1
    ·rename_i r kk
     split at g1
     ·rename_i o' e xs hrow
      split at g1
      ·rename_i ho
       cases g1
       subst ho
       have hm : ((r, kk), j) ∈ hs := g2 _ (by simp)
       obtain ⟨o2, ho2, hown⟩ := lc_own (rowAt_ok h hrow)
       cases ho2
       have hvr : (E.g w ω φ).val (locR β r kk) = some v := hvr
       refine ⟨e, xs, rfl, by show endφ vs (fid 0 j) 0 = _; rw [endφ_fid]; exact hv, ?_⟩
       refine OW.move (G := E.g w ω φ) (G' := E.g w (endω (ptrs 0 sg.ptr) hs β ω) (endφ vs)) (ρ := (r, kk)) (ρ' := (fid 0 j, 0)) (ℓ := locR β r kk) (ℓ' := .fl (fid 0 j) 0) hS (fun b l hb => ?_) (fun _ _ _ => rfl) (fun b y l hb he => ?_) ?_ hown
       ·have hb : ω b = some (.own (r, kk) l) := hb
        show endω _ _ _ _ b = _
        unfold endω
        rw [hb]
        simp only
        rw [idxH_mem hnd hm]
       ·have hb : ω b = some (.own (r, kk) l) := hb
        unfold locR at he
        cases hbr : β r with
        | none => rw [hbr] at he; cases he
        | some b0 =>
         rw [hbr] at he
         cases he
         have := h.wr.bj r _ hbr
         rw [hb] at this; cases this
       ·rw [hvr]
        show endφ vs (fid 0 j) 0 = _
        rw [endφ_fid]; exact hv
      ·cases g1
     ·cases g1
    ·cases g1
  ·intro r root hr
   rw [← o1, List.drop_left] at hr
   obtain ⟨q1, x, q2, q3, q4, q5, q6⟩ := ioLeaves_ok h3 r root hr
   obtain ⟨b, hb1, hb2⟩ := hpin r q1
   have hbx := h.bx r x q2
   have hloc : ∀ k, locR E.pin r k = locR β r k := fun k => by simp [locR, hb1, hb2]
   refine ⟨⟨by rw [q4, hb1]; rfl, fun b' hb' => ?_⟩, fun k c hc => ?_⟩
   ·rw [hb1] at hb'; cases hb'
    obtain ⟨cs, t, fr, g1, g2, g3⟩ := hbx.2 b hb2
    exact ⟨cs, t, fr, g1, g2, by rw [g3, q5]⟩
   ·obtain ⟨c', hc', hcase⟩ := q6 k c hc
    have hlc := h.lc r x k c' q2 hc'
    have hval : ∀ j, (E.g w (endω (ptrs 0 sg.ptr) hs β ω) (endφ vs)).val ((locR E.pin r k).add j) = (E.g w ω φ).val ((locR β r k).add j) := by
     intro j; rw [hloc]; simp only [locR, hb2]; rfl
    rcases hcase with ⟨rfl, htl, _⟩ | ⟨e, rfl, rfl⟩
    ·cases c' with
     | own o e xs hole =>
      refine ⟨hlc.1, ?_⟩
      have := hlc.2
      rw [hloc]
      refine OW.frame (g := E.g w ω φ) (g' := E.g w (endω (ptrs 0 sg.ptr) hs β ω) (endφ vs)) hS (fun b l hb => ⟨hkeep r k b l q1 hb, rfl⟩) _ _ _ _ (fun j _ => by rw [← hval, hloc]) this
     | tl l =>
      obtain ⟨kd, y, rfl⟩ := htl l rfl
      obtain ⟨v, g1, g2⟩ := hlc
      exact ⟨v, by have := hval 0; rw [Loc.add_zero, Loc.add_zero] at this; rw [this]; exact g1, g2.1, hSh g2.2⟩
    ·obtain ⟨v, g1, g2⟩ := hlc
     have : v = .slice none 0 0 := g2
     subst this
     refine ⟨_, by have := hval 0; rw [Loc.add_zero, Loc.add_zero] at this; rw [this]; exact g1, rfl, nil_sh⟩
 ·cases hf

end
section
variable {E : Env} {s : St} {a : Act} {w w' : World} {ω ω' : Nat → Option Tag} {φ φ' : Nat → Nat → Option Value} {β β' : Nat → Option Nat}
variable {P : Program} {o : Oper} {g : Option (Nat × Bool)} {d : Nat} {C : Ctx}
theorem entry_ok {sg : Sig} {fn : Func} {ags : List Leaf} {s0 : St} {q : List TV × List (Nat × Root) × List Leaf} (hq : enterP C.P 0 fn.params.toList sg.ptr sg.io ags = some q) (he : entry C sg fn ags = some s0)
  {φ : Nat → Nat → Option Value} {args : Array Value} (hw : Wr E E.w0 E.ω0 E.pin) (hsz : args.size = (q.1 ++ q.2.2.map capTV).length)
  (ha : ∀ (i : Nat) (tv : TV), (q.1 ++ q.2.2.map capTV)[i]? = some tv → ∃ v, args[i]? = some v ∧ ∀ tmps, TVr (TLr (E.g E.w0 E.ω0 φ) E.pin) tmps tv v)
  (hr : ∀ r root, look q.2.1 r = some root → boxOk E.w0 E.pin r root ∧ ∀ (k : Nat) (c : LC), root.ls[k]? = some c → LCr (E.g E.w0 E.ω0 φ) E.pin r k c) :
  Rel E s0 { tmps := args ++ Array.replicate (fn.ntmps - args.size) undef, defers := [] } E.w0 E.ω0 φ E.pin := by
 unfold entry at he
 rw [hq] at he
 simp only [Option.bind_some] at he
 split at he
 ·rename_i hc
  cases he
  refine ⟨hw, rfl, by simp [hsz, Nat.add_assoc], fun t tv ht => ?_, fun r root h => (hr r root h).1, fun r root k c h hc => (hr r root h).2 k c hc⟩
  simp only at ht
  by_cases hlt : t < (q.1 ++ q.2.2.map capTV).length
  ·rw [List.getElem?_append_left hlt] at ht
   obtain ⟨v, hv, hvr⟩ := ha t tv ht
   exact ⟨v, by rw [Array.getElem?_append_left (by rw [hsz]; exact hlt)]; exact hv, hvr _⟩
  ·rw [List.getElem?_append_right (by omega)] at ht
   have hlt2 := (List.getElem?_eq_some_iff.1 ht).1
   have htu : tv = .u := by
    have := (List.getElem?_eq_some_iff.1 ht).2
    rw [List.getElem_replicate] at this
    exact this.symm
   subst htu
   refine ⟨undef, ?_, trivial⟩
   rw [Array.getElem?_append_right (by rw [hsz]; omega), hsz, Array.getElem?_replicate, if_pos]
   simpa using hlt2
 ·cases he

theorem runF_ok {GI : Glob} (hC : ∀ E, EnvOk GI E → CallsOk E C) (hmo : C.P.follows .mixedOrders = true) {fuel fn : Nat} {ags res : List Leaf} (h : runF C fuel fn ags = some res) : FnOk GI C.P C.sig fn ags res := by
 intro sg f q hsg hf hq E φ args hE hw hb hp1 hp2 hsz ha hr
 unfold runF at h
 rw [hsg, hf] at h
 simp only at h
 split at h
 ·rename_i c s0 hbody hs0
  refine calls_of_wp hf hbody ?_
  have hrel := entry_ok (E := E) (C := { C with pr := ptrs 0 sg.ptr }) hq hs0 hw hsz ha hr
  refine PI_ok (E := E) (C := { C with pr := ptrs 0 sg.ptr }) (fun s a w ω φ β g o c st => hC E hE s a w ω φ β g o c st) (fun r b hb => by have := hp1 r b hb; simpa using this) hmo fuel _ res c _ s0 _ _ _ _ h ⟨_, _, _, hrel⟩ fun e s' a' w' hs hk => ?_
  obtain ⟨ω', φ', β', hs⟩ := hs
  cases e with
  | normal =>
   obtain ⟨v, h1, h2⟩ := finish_ok hs hp1 hp2 hk
   exact ⟨hs.df, v, h1, v, rfl, h2⟩
  | exit id => cases hk
  | ret =>
   obtain ⟨v, h1, h2⟩ := finish_ok hs hp1 hp2 hk
   exact ⟨hs.df, v, h1, v, rfl, h2⟩
 ·cases h

end
section
variable {E E' : Env} {s : St} {a : Act} {w w' : World} {ω ω' : Nat → Option Tag} {φ φ' : Nat → Nat → Option Value} {β β' : Nat → Option Nat}
variable {P : Program} {o : Oper} {g : Option (Nat × Bool)} {d : Nat} {C : Ctx} {S' : Nat → Prop}
theorem readRow_sh (h : Rel E s a w ω φ β) (hS : ∀ b, E.S w ω b → S' b) {l : TL} (hO : ∀ r k b l', r ∈ l.roots → ω b = some (.own (r, k) l') → S' b) {v : Value} (hl : TLr (E.g w ω φ) β l v) {p : (e : K) × List e.ty} (hp : readRow s.r l = some p) :
  Sh S' w (.row p.1) p.2 (one v) := by
 unfold readRow at hp
 simp only [iplus] at hp
 split at hp
 ·cases hp; exact Sh.mono hS (fun _ _ _ => rfl) _ _ _ hl.2
 ·rename_i r k
  split at hp
  ·rename_i o e xs hr
   cases hp
   have hc := rowAt_ok h hr
   have hs := OW.sh (S' := S') hS (fun b l' hb => hO r k b l' (by simp [TL.roots]) hb) _ _ _ _ hc.2
   refine Sh.congr _ _ _ _ (fun j hj => ?_) hs
   obtain rfl : j = 0 := by simp [K.width] at hj; omega
   have hl' : (E.g w ω φ).val (locR β r k) = some v := hl
   rw [Loc.add_zero, hl']; rfl
  ·cases hp
 ·rename_i r k e lo n
  split at hp
  ·rename_i o e' xs hr
   split at hp
   ·rename_i he
    subst he
    cases hp
    have hc := rowAt_ok h hr
    have hs := OW.sh (S' := S') hS (fun b l' hb => hO r k b l' (by simp [TL.roots]) hb) _ _ _ _ hc.2
    obtain ⟨a1, len, cap, a', cap', h1, h2, hcap, h3, h4, h5, h6⟩ := hl
    obtain ⟨a2, len2, cap2, g1, g2, gle, g3⟩ := hs
    have g1' : (E.g w ω φ).val ((locR β r k).add 0) = some (.slice a2 len2 cap2) := g1
    rw [Loc.add_zero, h1] at g1'
    cases g1'
    have hcut : (rcut xs lo (lo + n)).length = n.toNat := by
     simp only [rcut, List.length_take, List.length_drop]; omega
    refine ⟨a', n.toNat, cap', by rw [h2]; rfl, hcut, hcap, ?_⟩
    rcases h6 with h6 | ⟨b, o1, h6, h7⟩
    ·left; apply List.eq_nil_of_length_eq_zero; rw [hcut, h6]; rfl
    ·rcases g3 with g3 | ⟨b2, o2, g3, g4, g5⟩
     ·left; subst g3; simp [rcut]
     ·right
      rw [h6] at g3; cases g3
      refine ⟨b, o1 + lo.toNat * e'.width, h7, g4, fun i hi => ?_⟩
      have hi' : lo.toNat + i < xs.length := by rw [hcut] at hi; omega
      have hg := g5 (lo.toNat + i) hi'
      have he : (rcut xs lo (lo + n))[i] = xs[lo.toNat + i] := by simp [rcut]
      simp only [he]
      refine Sh.congr _ _ _ _ (fun j _ => ?_) hg
      show cel w b _ = cel w b _
      congr 1
      rw [Nat.add_mul]; omega
   ·cases hp
  ·cases hp
 ·cases hp

theorem deepL_ok (h : Rel E s a w ω φ β) (hS : ∀ b, E.S w ω b → S' b) {kd : K} {l : TL} {f : Leaf × List Nat} (hd : deepL s.r kd l = some f) (hO : ∀ r k b l', r ∈ f.2 → ω b = some (.own (r, k) l') → S' b) {v : Value} (hl : TLr (E.g w ω φ) β l v) :
  f.1.k.isLeaf = true ∧ Sh S' w f.1.k f.1.x (one v) := by
 unfold deepL at hd
 split at hd
 ·cases hd; exact ⟨hl.1, Sh.mono hS (fun _ _ _ => rfl) _ _ _ hl.2⟩
 ·split at hd
  ·cases hd
   have : v = .slice none 0 0 := hl
   subst this
   exact ⟨rfl, nil_sh⟩
  ·cases hd
 ·obtain ⟨p, hp, rfl⟩ := Option.map_eq_some_iff.1 hd
  exact ⟨rfl, readRow_sh h hS (fun r k b l' hr hb => hO r k b l' hr hb) hl hp⟩

theorem deepAll_ok (h : Rel E s a w ω φ β) (hS : ∀ b, E.S w ω b → S' b) : ∀ {kd : List K} {ls : List TL} {f : List Leaf × List Nat}, deepAll s.r kd ls = some f → (∀ r k b l', r ∈ f.2 → ω b = some (.own (r, k) l') → S' b) →
  f.1.length = ls.length ∧ ∀ (j : Nat) (l : TL) (v : Value), ls[j]? = some l → TLr (E.g w ω φ) β l v → ∃ lf, f.1[j]? = some lf ∧ lf.k.isLeaf = true ∧ Sh S' w lf.k lf.x (one v)
 | kd, [], f, hd, hO => by
  simp [deepAll] at hd; subst hd
  exact ⟨rfl, fun j l v hj => by simp at hj⟩
 | kd, l0 :: ls, f, hd, hO => by
  simp only [deepAll] at hd
  obtain ⟨f1, h1, hd⟩ := Option.bind_eq_some_iff.1 hd
  obtain ⟨f2, h2, rfl⟩ := Option.map_eq_some_iff.1 hd
  obtain ⟨i1, i2⟩ := deepAll_ok h hS h2 (fun r k b l' hr hb => hO r k b l' (List.mem_append_right _ hr) hb)
  refine ⟨by simp [i1], fun j l v hj hl => ?_⟩
  cases j with
  | zero =>
   simp at hj; subst hj
   exact ⟨f1.1, rfl, deepL_ok h hS h1 (fun r k b l' hr hb => hO r k b l' (List.mem_append_left _ hr) hb) hl⟩
  | succ j => simp at hj; simpa using i2 j l v hj hl

theorem boxL_ok : ∀ {cs : List LC} {ls : List Leaf}, cs.foldr (fun c acc => (match c with | .own _ e xs none => some (Leaf.mk (.row e) xs) | .tl (.d k x) => some ⟨k, x⟩ | _ => none).bind fun l => acc.map (l :: ·)) (some []) = some ls →
  ls.length = cs.length ∧ ∀ (j : Nat) (lf : Leaf), ls[j]? = some lf → ∃ c, cs[j]? = some c ∧ ((∃ o e xs, c = .own o e xs none ∧ lf = ⟨.row e, xs⟩) ∨ c = .tl (.d lf.k lf.x))
 | [], ls, h => by simp at h; subst h; exact ⟨rfl, fun j lf hj => by simp at hj⟩
 | c :: cs, ls, h => by
  simp only [List.foldr_cons] at h
  obtain ⟨l, h1, h⟩ := Option.bind_eq_some_iff.1 h
  obtain ⟨ls', h2, rfl⟩ := Option.map_eq_some_iff.1 h
  obtain ⟨i1, i2⟩ := boxL_ok h2
  refine ⟨by simp [i1], fun j lf hj => ?_⟩
  cases j with
  | succ j => simp at hj ⊢; exact i2 j lf hj
  | zero =>
   simp at hj
   subst hj
   refine ⟨c, rfl, ?_⟩
   split at h1
   ·cases h1; exact .inl ⟨_, _, _, rfl, rfl⟩
   ·cases h1; exact .inr rfl
   ·cases h1

theorem capLeaves_ok (h : Rel E s a w ω φ β) (hS : ∀ b, E.S w ω b → S' b) {G : GW} (hG : G.w = w ∧ G.S = S') {pin : Nat → Option Nat} : ∀ {caps : List Nat} {ls : List Leaf}, capLeaves s.r caps = some ls →
  (∀ r k b l', r ∈ caps → ω b = some (.own (r, k) l') → S' b) → (∀ r b, r ∈ caps → ω b = some (.box r) → S' b) →
  ls.length = caps.length ∧ ∀ (i r b : Nat) (lf : Leaf), caps[i]? = some r → ls[i]? = some lf → β r = some b → ∀ tmps, TVr (TLr G pin) tmps (capTV lf) (.pointer (some ⟨b, 0, none⟩))
 | [], ls, hl, _, _ => by simp [capLeaves] at hl; subst hl; exact ⟨rfl, fun i r b lf hi => by simp at hi⟩
 | r0 :: caps, ls, hl, hO, hB => by
  simp only [capLeaves] at hl
  split at hl
  ·rename_i x hx
   split at hl
   ·obtain ⟨l1, h1, hl⟩ := Option.bind_eq_some_iff.1 hl
    split at hl
    ·rename_i y hy
     obtain ⟨ls', h2, rfl⟩ := Option.map_eq_some_iff.1 hl
     obtain ⟨i1, i2⟩ := capLeaves_ok h hS hG h2 (fun r k b l' hr hb => hO r k b l' (List.mem_cons_of_mem _ hr) hb) (fun r b hr hb => hB r b (List.mem_cons_of_mem _ hr) hb)
     refine ⟨by simp [i1], fun i r b lf hi hlf hb tmps => ?_⟩
     cases i with
     | succ i => simp at hi hlf; exact i2 i r b lf hi hlf hb tmps
     | zero =>
      simp at hi hlf
      subst hi hlf
      obtain ⟨b1, b2⟩ := boxL_ok h1
      obtain ⟨hGw, hGS⟩ := hG
      have htag := h.wr.bj r0 b hb
      have hle := ofL_eq _ _ _ _ hy
      rw [List.append_nil] at hle
      show TLr G pin (.iad _ y 0) _
      refine ⟨b, 0, rfl, by rw [hGS]; exact hB r0 b List.mem_cons_self htag, ?_⟩
      rw [hGS, hGw, Sh_leaves]
      intro j lf hj
      rw [← hle] at hj
      obtain ⟨c, hc, hcase⟩ := b2 j lf hj
      have hlc := h.lc r0 x j c hx hc
      rcases hcase with ⟨o1, e, xs, rfl, rfl⟩ | rfl
      ·have := OW.sh (S' := S') hS (fun b' l' hb' => hO r0 j b' l' List.mem_cons_self hb') _ _ _ _ hlc.2
       refine Sh.congr _ _ _ _ (fun i _ => ?_) this
       simp only [locR, hb, Loc.add, GW.val, Env.g]
       rw [Nat.zero_add]
      ·obtain ⟨v, g1, g2, g3⟩ := hlc
       refine Sh.congr _ _ _ _ (fun i hi => ?_) (Sh.mono hS (fun _ _ _ => rfl) _ _ _ g3)
       rw [leaf_width g2] at hi
       obtain rfl : i = 0 := by omega
       simp only [locR, hb, GW.val, Env.g] at g1
       show cel w b (0 + (j + 0)) = one v 0
       rw [Nat.zero_add, Nat.add_zero, g1]
       rfl
    ·cases hl
   ·cases hl
  ·cases hl

theorem tup_sh {S : Nat → Prop} {w : World} : ∀ {ls : List Leaf} {vs : List Value} {y : (K.tup (ls.map (·.k))).ty} {c : Nat → Option Value}, leaves (K.tup (ls.map (·.k))) y = ls → (∀ l ∈ ls, l.k.isLeaf = true) → vs.length = ls.length →
  (∀ (i : Nat) (lf : Leaf) (v : Value), ls[i]? = some lf → vs[i]? = some v → Sh S w lf.k lf.x (one v)) → (∀ i v, vs[i]? = some v → c i = some v) → (K.tup (ls.map (·.k))).width = ls.length ∧ Sh S w (K.tup (ls.map (·.k))) y c
 | [], [], _, _, _, _, _, _, _ => ⟨rfl, trivial⟩
 | [], _ :: _, _, _, _, _, hn, _, _ => by simp at hn
 | _ :: _, [], _, _, _, _, hn, _, _ => by simp at hn
 | l :: ls, v :: vs, y, c, hy, hl, hn, hs, hc => by
  have h0 := hl l (List.mem_cons_self ..)
  have hw := leaf_width h0
  revert hy
  revert y
  intro (y : l.k.ty × (K.tup (ls.map (·.k))).ty) hy
  obtain ⟨y1, y2⟩ := y
  change leaves l.k y1 ++ leaves (K.tup (ls.map (·.k))) y2 = l :: ls at hy
  rw [leaves_leaf h0] at hy
  have e1 : (⟨l.k, y1⟩ : Leaf) = l := by simpa using (List.cons.inj hy).1
  have e2 : leaves (K.tup (ls.map (·.k))) y2 = ls := (List.cons.inj hy).2
  obtain ⟨i1, i2⟩ := tup_sh (S := S) (w := w) (vs := vs) (y := y2) (c := fun j => c (l.k.width + j)) e2 (fun l' h' => hl l' (List.mem_cons_of_mem _ h')) (by simpa using hn) (fun i lf v h1 h2 => hs (i + 1) lf v (by simpa using h1) (by simpa using h2)) (fun i v h => by
   show c (l.k.width + i) = some v
   rw [hw, Nat.add_comm]; exact hc (i + 1) v (by simpa using h))
  have h1 := hs 0 l v rfl rfl
  have h2 : Sh S w l.k y1 (one v) := by
   have : l.x = y1 := by
    cases l
    simp only [Leaf.mk.injEq, heq_eq_eq, true_and] at e1
    exact e1.symm
   rw [← this]; exact h1
  refine ⟨?_, Sh.congr _ _ _ _ (fun j hj => ?_) h2, i2⟩
  ·show l.k.width + (K.tup (ls.map (·.k))).width = _
   rw [hw, i1, List.length_cons]; omega
  ·have hj : j < l.k.width := hj
   obtain rfl : j = 0 := by omega
   rw [hc 0 v rfl]; rfl

theorem capLeaves_iptr : ∀ {caps : List Nat} {rs : List (Nat × Root)} {ls : List Leaf}, capLeaves rs caps = some ls → ∀ l ∈ ls, ∃ e, l.k = .iptr e
 | [], rs, ls, h => by simp [capLeaves] at h; subst h; intro l hl; cases hl
 | r :: caps, rs, ls, h => by
  simp only [capLeaves] at h
  split at h
  ·split at h
   ·obtain ⟨l1, _, h⟩ := Option.bind_eq_some_iff.1 h
    split at h
    ·obtain ⟨ls', h2, rfl⟩ := Option.map_eq_some_iff.1 h
     intro l hl
     rcases List.mem_cons.1 hl with rfl | hl
     ·exact ⟨_, rfl⟩
     ·exact capLeaves_iptr h2 l hl
    ·cases h
   ·cases h
  ·cases h

theorem argL_ok (h : Rel E s a w ω φ β) (hS : ∀ b, E.S w ω b → S' b) {kd : K} {l : TL} {f : Leaf × List Nat} (hd : argL s.r kd l = some f) (hO : ∀ r k b l', r ∈ f.2 → ω b = some (.own (r, k) l') → S' b) (hB : ∀ r b, r ∈ f.2 → ω b = some (.box r) → S' b) {v : Value} (hl : TLr (E.g w ω φ) β l v) :
  f.1.k.isLeaf = true ∧ Sh S' w f.1.k f.1.x (one v) := by
 unfold argL at hd
 split at hd
 ·rename_i fn caps
  obtain ⟨ls, h1, hd⟩ := Option.bind_eq_some_iff.1 hd
  split at hd
  ·rename_i y hy
   cases hd
   refine ⟨rfl, ?_⟩
   obtain ⟨vs, rfl, hsz, hvs⟩ := hl
   have hle := ofL_eq _ _ _ _ hy
   rw [List.append_nil] at hle
   obtain ⟨i1, i2⟩ := capLeaves_ok (G := ⟨w, ω, φ, S'⟩) (pin := β) h hS ⟨rfl, rfl⟩ h1 hO hB
   have hk := capLeaves_iptr h1
   have ht := tup_sh (S := S') (w := w) (vs := vs.toList) (y := y) (c := fun j => vs[j]?) hle.symm (fun l hl => by obtain ⟨e, he⟩ := hk l hl; rw [he]; rfl) (by simp [hsz, i1]) (fun i lf v hlf hv => by
    have hic : i < caps.length := by rw [← i1]; exact (List.getElem?_eq_some_iff.1 hlf).1
    obtain ⟨b, hb, hvb⟩ := hvs i caps[i] (List.getElem?_eq_getElem hic)
    have hvv : v = .pointer (some ⟨b, 0, none⟩) := by
     have : vs[i]? = some v := by simpa using hv
     rw [this] at hvb; exact Option.some.inj hvb
    subst hvv
    have := i2 i caps[i] b lf (List.getElem?_eq_getElem hic) hlf hb #[]
    obtain ⟨e, he⟩ := hk lf (List.mem_of_getElem? hlf)
    obtain ⟨k0, x0⟩ := lf
    cases he
    obtain ⟨b', o', e1, e2, e3⟩ := this
    refine ⟨b', o', ?_, e2, by simpa using e3⟩
    show some _ = _
    rw [e1]; rfl) (fun i v hv => by simpa using hv)
   exact ⟨vs, rfl, by rw [ht.1, i1, hsz], ht.2⟩
  ·cases hd
 ·exact deepL_ok h hS hd hO hl

theorem argsOf_ok (h : Rel E s a w ω φ β) (hS : ∀ b, E.S w ω b → S' b) {G : GW} (hG : G.w = w ∧ G.S = S') {pin : Nat → Option Nat} {cl : List Leaf} :
  ∀ {ts : List TypeId} {p : Nat} {ps : List Bool} {io : List (List (K × Nat))} {vs : List TV} {f : List Leaf × List (Nat × Nat) × List Nat}, argsOf P s.r p ts ps io vs = some f →
   (∀ r k b l', r ∈ f.2.2 → ω b = some (.own (r, k) l') → S' b) → (∀ r b, r ∈ f.2.2 → ω b = some (.box r) → S' b) → (∀ r p', (r, p') ∈ f.2.1 → pin p' = β r) →
   ∃ q1 rs, enterP P p ts ps io (f.1 ++ cl) = some (q1, rs, cl) ∧ q1.length = vs.length ∧
    (∀ (i : Nat) (tv tv0 : TV) (v : Value), q1[i]? = some tv → vs[i]? = some tv0 → TVr (TLr (E.g w ω φ) β) a.tmps tv0 v → ∀ tmps, TVr (TLr G pin) tmps tv v) ∧
    (∀ p' root, look rs p' = some root → ∃ r, (r, p') ∈ f.2.1 ∧ ∃ x, look s.r r = some x ∧ x.box = true ∧ root.box = true ∧ x.ls.length = root.ls.length ∧
     ∀ (i : Nat) (c : LC), root.ls[i]? = some c → ∃ c', x.ls[i]? = some c' ∧ ((c' = c ∧ (∀ t, c = .tl t → ∃ k x, t = .d k x) ∧ ∀ o e xs hole, c = .own o e xs hole → hole = none) ∨ ∃ e, c' = .tl .nil ∧ c = .tl (.d (.row e) [])))
 | [], p, ps, io, vs, f, hd, hO, hB, hp => by
  cases vs with
  | nil =>
   simp only [argsOf, Option.some.injEq] at hd
   subst hd
   exact ⟨[], [], by simp [enterP], rfl, fun i tv tv0 v hi => by simp at hi, fun p' root hr => by simp [look] at hr⟩
  | cons v vs => simp [argsOf] at hd
 | t :: ts, p, ps, io, vs, f, hd, hO, hB, hp => by
  -- a parameter of plain data
  have plain : ∀ (ps : List Bool) (io : List (List (K × Nat))) (v : TV) (vs : List TV),
    (if isStructT P t then
     match sizeT P t, v with
     | some n, .agg ls => if ls.length = n then (deepAll s.r (kindsT P t) ls).bind fun f => (argsOf P s.r (p + 1) ts ps.tail io vs).map fun q => (f.1 ++ q.1, q.2.1, f.2 ++ q.2.2) else none
     | _, _ => none
    else
     match v with
     | .one l => (argL s.r ((kindsT P t).headD .unit) l).bind fun f => (argsOf P s.r (p + 1) ts ps.tail io vs).map fun q => (f.1 :: q.1, q.2.1, f.2 ++ q.2.2)
     | _ => none) = some f →
    ∃ q1 rs, (if isStructT P t then
     match sizeT P t with
     | some n => (enterP P (p + 1) ts ps.tail io ((f.1 ++ cl).drop n)).map fun q => (.agg (((f.1 ++ cl).take n).map Leaf.tl) :: q.1, q.2.1, q.2.2)
     | none => none
    else
     match f.1 ++ cl with
     | l :: ls => (enterP P (p + 1) ts ps.tail io ls).map fun q => (.one l.tl :: q.1, q.2.1, q.2.2)
     | [] => none) = some (q1, rs, cl) ∧ q1.length = (v :: vs).length ∧
    (∀ (i : Nat) (tv tv0 : TV) (x : Value), q1[i]? = some tv → (v :: vs)[i]? = some tv0 → TVr (TLr (E.g w ω φ) β) a.tmps tv0 x → ∀ tmps, TVr (TLr G pin) tmps tv x) ∧
    (∀ p' root, look rs p' = some root → ∃ r, (r, p') ∈ f.2.1 ∧ ∃ x, look s.r r = some x ∧ x.box = true ∧ root.box = true ∧ x.ls.length = root.ls.length ∧
     ∀ (i : Nat) (c : LC), root.ls[i]? = some c → ∃ c', x.ls[i]? = some c' ∧ ((c' = c ∧ (∀ t, c = .tl t → ∃ k x, t = .d k x) ∧ ∀ o e xs hole, c = .own o e xs hole → hole = none) ∨ ∃ e, c' = .tl .nil ∧ c = .tl (.d (.row e) []))) := by
   intro ps io v vs hd
   obtain ⟨hGw, hGS⟩ := hG
   split at hd
   ·rename_i hst
    rw [if_pos hst]
    split at hd
    ·rename_i n ls hn
     split at hd
     ·rename_i hlen
      obtain ⟨f1, h1, hd⟩ := Option.bind_eq_some_iff.1 hd
      obtain ⟨f2, h2, rfl⟩ := Option.map_eq_some_iff.1 hd
      obtain ⟨q1, rs, i1, i2, i3, i4⟩ := argsOf_ok h hS ⟨hGw, hGS⟩ h2 (fun r k b l' hr hb => hO r k b l' (List.mem_append_right _ hr) hb) (fun r b hr hb => hB r b (List.mem_append_right _ hr) hb) hp
      obtain ⟨d1, d2⟩ := deepAll_ok h hS h1 (fun r k b l' hr hb => hO r k b l' (List.mem_append_left _ hr) hb)
      have hl1 : f1.1.length = n := d1.trans hlen
      simp only [hn, List.append_assoc]
      rw [← hl1, List.drop_left, List.take_left, i1]
      refine ⟨_, _, rfl, by simp [i2], fun i tv tv0 x hi hv hr tmps => ?_, i4⟩
      cases i with
      | succ i => simp at hi hv; exact i3 i tv tv0 x hi hv hr tmps
      | zero =>
       simp at hi hv
       subst hi hv
       obtain ⟨cs, rfl, hcl, hcr⟩ := hr
       refine ⟨cs, rfl, by simp [hcl, d1], fun j l hj => ?_⟩
       rw [List.getElem?_map] at hj
       obtain ⟨lf, hlf, rfl⟩ := Option.map_eq_some_iff.1 hj
       have hjl : j < ls.length := by rw [← d1]; exact (List.getElem?_eq_some_iff.1 hlf).1
       have hlj : ls[j]? = some ls[j] := List.getElem?_eq_getElem hjl
       obtain ⟨c, hc1, hc2⟩ := hcr j _ hlj
       obtain ⟨lf', e1, e2, e3⟩ := d2 j _ c hlj hc2
       rw [hlf] at e1; cases e1
       exact ⟨c, hc1, e2, by rw [hGS, hGw]; exact e3⟩
     ·cases hd
    ·cases hd
   ·rename_i hst
    rw [if_neg hst]
    split at hd
    ·rename_i l
     obtain ⟨f1, h1, hd⟩ := Option.bind_eq_some_iff.1 hd
     obtain ⟨f2, h2, rfl⟩ := Option.map_eq_some_iff.1 hd
     obtain ⟨q1, rs, i1, i2, i3, i4⟩ := argsOf_ok h hS ⟨hGw, hGS⟩ h2 (fun r k b l' hr hb => hO r k b l' (List.mem_append_right _ hr) hb) (fun r b hr hb => hB r b (List.mem_append_right _ hr) hb) hp
     simp only [List.cons_append]
     rw [i1]
     refine ⟨_, _, rfl, by simp [i2], fun i tv tv0 x hi hv hr tmps => ?_, i4⟩
     cases i with
     | succ i => simp at hi hv; exact i3 i tv tv0 x hi hv hr tmps
     | zero =>
      simp at hi hv
      subst hi hv
      have hr : TLr (E.g w ω φ) β l x := hr
      obtain ⟨e2, e3⟩ := argL_ok h hS h1 (fun r k b l' hr hb => hO r k b l' (List.mem_append_left _ hr) hb) (fun r b hr hb => hB r b (List.mem_append_left _ hr) hb) hr
      exact ⟨e2, by rw [hGS, hGw]; exact e3⟩
    ·cases hd
  cases vs with
  | nil => cases ps with
   | nil => simp [argsOf] at hd
   | cons b ps => cases b <;> cases io <;> simp [argsOf] at hd
  | cons v vs =>
   cases ps with
   | nil => simp only [argsOf] at hd; simp only [enterP]; exact plain [] io v vs hd
   | cons b ps =>
    cases b with
    | false => simp only [argsOf] at hd; simp only [enterP]; exact plain (false :: ps) io v vs hd
    | true =>
     cases io with
     | nil => simp only [argsOf] at hd; simp only [enterP]; exact plain (true :: ps) [] v vs hd
     | cons ks io =>
      simp only [argsOf] at hd
      split at hd
      ·rename_i r
       split at hd
       ·rename_i x hx
        split at hd
        ·rename_i hbox
         obtain ⟨l1, h1, hd⟩ := Option.bind_eq_some_iff.1 hd
         obtain ⟨f2, h2, rfl⟩ := Option.map_eq_some_iff.1 hd
         obtain ⟨q1, rs, i1, i2, i3, i4⟩ := argsOf_ok h hS hG h2 hO hB (fun r' p' hm => hp r' p' (List.mem_cons_of_mem _ hm))
         obtain ⟨c1, c2, c3, c4⟩ := ioCells_ok h1
         have hpr := hp r p (List.mem_cons_self)
         simp only [enterP, List.append_assoc]
         rw [← c2, List.drop_left, List.take_left, i1]
         refine ⟨_, _, rfl, by simp [i2], fun i tv tv0 y hi hv hr tmps => ?_, fun p' root hroot => ?_⟩
         ·cases i with
          | succ i => simp at hi hv; exact i3 i tv tv0 y hi hv hr tmps
          | zero =>
           simp at hi hv
           subst hi hv
           obtain ⟨b, hb, hv⟩ := hr
           exact ⟨b, by rw [hpr]; exact hb, hv⟩
         ·simp only [look] at hroot
          split at hroot
          ·rename_i he
           subst he
           cases hroot
           exact ⟨r, List.mem_cons_self, x, hx, hbox, rfl, by rw [c1, c3], c4⟩
          ·obtain ⟨r', g1, g2⟩ := i4 p' root hroot
           exact ⟨r', List.mem_cons_of_mem _ g1, g2⟩
        ·cases hd
       ·cases hd
      ·cases hd

end
section
variable {E E' : Env} {s : St} {a : Act} {w w' : World} {ω ω' : Nat → Option Tag} {φ φ' : Nat → Nat → Option Value} {β β' : Nat → Option Nat}
variable {P : Program} {o : Oper} {g : Option (Nat × Bool)} {d : Nat} {C : Ctx} {S' : Nat → Prop}
theorem calleeOf_ok (h : Rel E s a w ω φ β) (hg : Met a g) (hS : ∀ b, E.S w ω b → S' b) {G : GW} (hG : G.w = w ∧ G.S = S') {pin : Nat → Option Nat} {f : Operand} {fn : Nat} {caps : List Leaf} {rd : List Nat} (hc : calleeOf s g f = some (fn, caps, rd))
  (hO : ∀ r k b l', r ∈ rd → ω b = some (.own (r, k) l') → S' b) (hB : ∀ r b, r ∈ rd → ω b = some (.box r) → S' b) :
  ∃ vs : Array Value, a.eval f = .func (.func fn) #[] vs ∧ vs.size = caps.length ∧ ∀ (i : Nat) (lf : Leaf), caps[i]? = some lf → ∃ v, vs[i]? = some v ∧ ∀ tmps, TVr (TLr G pin) tmps (capTV lf) v := by
 have hx := tlOf_ok h hg f
 unfold calleeOf at hc
 split at hc
 ·rename_i fn' cs hl
  rw [hl] at hx
  obtain ⟨ls, h1, h2⟩ := Option.map_eq_some_iff.1 hc
  cases h2
  obtain ⟨vs, e1, e2, e3⟩ := hx
  obtain ⟨i1, i2⟩ := capLeaves_ok h hS hG (pin := pin) h1 hO hB
  refine ⟨vs, e1, by rw [e2, i1], fun i lf hi => ?_⟩
  have hlt : i < rd.length := by rw [← i1]; exact (List.getElem?_eq_some_iff.1 hi).1
  have hr : rd[i]? = some rd[i] := List.getElem?_eq_getElem hlt
  obtain ⟨b, hb, hv⟩ := e3 i _ hr
  exact ⟨_, hv, i2 i _ b lf hr hi hb⟩
 ·rename_i fn' cc x hl
  rw [hl] at hx
  cases hc
  obtain ⟨_, vs, e1, e2, e3⟩ := hx
  obtain ⟨hGw, hGS⟩ := hG
  refine ⟨vs, by simpa [one] using e1, by rw [e2, leaves_length], fun i lf hi => ?_⟩
  have hleaf := leaves_isLeaf _ _ _ _ hi
  have hs := Sh.leaf _ _ _ e3 i lf hi
  obtain ⟨v, hv⟩ := Sh_some _ _ _ hs 0 (by rw [leaf_width hleaf]; exact Nat.one_pos)
  have hv' : vs[i]? = some v := by simpa using hv
  refine ⟨v, hv', fun tmps => ?_⟩
  have hs' := Sh.mono hS (fun _ _ _ => rfl) _ _ _ hs
  obtain ⟨k, y⟩ := lf
  cases k with
  | iptr e =>
   obtain ⟨b, o1, q1, q2, q3⟩ := hs'
   have q1 : vs[i + 0]? = some (.pointer (some ⟨b, o1, none⟩)) := q1
   rw [Nat.add_zero, hv'] at q1; cases q1
   exact ⟨b, o1, rfl, by rw [hGS]; exact q2, by rw [hGS, hGw]; exact q3⟩
  | _ => exact ⟨hleaf, by rw [hGS, hGw]; exact leaf_one hs' hleaf hv⟩
 ·cases hc

end
section
variable {E E' : Env} {s : St} {a : Act} {w w' : World} {ω ω' : Nat → Option Tag} {φ φ' : Nat → Nat → Option Value} {β β' : Nat → Option Nat}
variable {P : Program} {o : Oper} {g : Option (Nat × Bool)} {d : Nat} {C : Ctx} {S' : Nat → Prop}
theorem Sh.free {S S' : Nat → Prop} {w : World} : ∀ {k : K} {x : k.ty} {c : Nat → Option Value}, k.free 0 = true → Sh S w k x c → Sh S' w k x c
 | .int _, _, _, _, h | .bool, _, _, _, h | .str, _, _, _, h => h
 | .unit, _, _, _, _ => trivial
 | .pair a b, _, _, hf, h => by
  simp only [K.free, Bool.and_eq_true] at hf
  exact ⟨Sh.free hf.1 h.1, Sh.free hf.2 h.2⟩
 | .row _, _, _, hf, _ | .clo _ _, _, _, hf, _ | .iptr _, _, _, hf, _ => by simp [K.free] at hf

theorem OW.free {G : GW} {ρ : Nat × Nat} {hole : Option Loc} {S' : Nat → Prop} : ∀ {k : K} {o : Nat} {x : k.ty} {l : Loc}, k.free o = true → OW G ρ hole k o x l → OW { G with S := S' } ρ hole k o x l
 | .unit, _, _, _, _, _ => by simp [OW]
 | .pair a b, o, x, l, hf, h => by
  simp only [K.free, Bool.and_eq_true] at hf
  simp only [OW] at h ⊢
  exact ⟨OW.free hf.1 h.1, OW.free hf.2 h.2⟩
 | .row e, 0, _, _, hf, _ => by simp [K.free] at hf
 | .row e, o + 1, xs, l, hf, h => by
  simp only [K.free] at hf
  simp only [OW] at h ⊢
  refine h.imp id fun ⟨a, len, cap, h1, h2, h3⟩ => ⟨a, len, cap, h1, h2, h3.imp id fun ⟨b, off, cs, t, fr, h4, h5, h6, h7, hu, h8, h9⟩ =>
   ⟨b, off, cs, t, fr, h4, h5, h6, h7, hu, h8, fun i hi => OW.free hf (h9 i hi)⟩⟩
 | .int _, o, x, l, hf, h => by simp only [OW] at h ⊢; exact h
 | .bool, o, x, l, hf, h => by simp only [OW] at h ⊢; exact h
 | .str, o, x, l, hf, h => by simp only [OW] at h ⊢; exact h
 | .clo _ _, _, _, _, hf, _ => by simp [K.free] at hf
 | .iptr _, _, _, _, hf, _ => by simp [K.free] at hf

theorem OW.toS {G : GW} {ρ : Nat × Nat} {S' : Nat → Prop} {k : K} {o : Nat} {x : k.ty} {l : Loc} (hm : (∀ b, G.S b → S' b) ∨ k.free o = true) (h : OW G ρ none k o x l) : OW { G with S := S' } ρ none k o x l := by
 rcases hm with hm | hm
 ·exact OW.frame (g := G) (g' := { G with S := S' }) (fun b hb => ⟨hm b hb, fun _ => rfl⟩) (fun b l hb => ⟨hb, rfl⟩) _ _ _ _ (fun _ _ => rfl) h
 ·exact OW.free hm h

theorem Sh.toS {S S' : Nat → Prop} {w : World} {k : K} {x : k.ty} {c : Nat → Option Value} (hm : (∀ b, S b → S' b) ∨ k.free 0 = true) (h : Sh S w k x c) : Sh S' w k x c := by
 rcases hm with hm | hm
 ·exact Sh.mono hm (fun _ _ _ => rfl) _ _ _ h
 ·exact Sh.free hm h

theorem TLr_gen {q : Kill} (hS : ∀ b, E.S w ω b → E.S w' ω' b ∧ ∀ o, cel w' b o = cel w b o) (hβ : ∀ r, q.roots.elem r = false → β' r = β r)
  (hval : ∀ r k v, q.hits r k = false → (E.g w ω φ).val (locR β r k) = some v → (E.g w' ω' φ').val (locR β' r k) = some v) :
  Stays (TLr (E.g w ω φ) β) (TLr (E.g w' ω' φ') β') q := by
 have hSh : ∀ {k : K} {x : k.ty} {c : Nat → Option Value}, Sh (E.S w ω) w k x c → Sh (E.S w' ω') w' k x c := fun hx => Sh.mono (fun b hb => (hS b hb).1) (fun b hb => (hS b hb).2) _ _ _ hx
 intro l v h
 cases l with
 | d k x => exact ⟨h.1, hSh h.2⟩
 | nil => exact h
 | x => trivial
 | ref r k =>
  simp only [TL.kill]
  split
  ·trivial
  ·rename_i hq
   exact hval r k v (by simpa using hq) h
 | sub r k e lo n =>
  simp only [TL.kill]
  split
  ·trivial
  ·rename_i hq
   obtain ⟨a1, len, cap, a', cap', h1, h2⟩ := h
   exact ⟨a1, len, cap, a', cap', hval r k _ (by simpa using hq) h1, h2⟩
 | ead r k e i off =>
  simp only [TL.kill]
  split
  ·trivial
  ·rename_i hq
   obtain ⟨b, o1, len, cap, h1, h2⟩ := h
   exact ⟨b, o1, len, cap, hval r k _ (by simpa using hq) h1, h2⟩
 | adr r off =>
  simp only [TL.kill]
  split
  ·trivial
  ·rename_i hq
   obtain ⟨b, h1, h2⟩ := h
   exact ⟨b, by rw [hβ r (by simpa using hq)]; exact h1, h2⟩
 | iad e x off =>
  obtain ⟨b, o1, h1, h2, h3⟩ := h
  refine ⟨b, o1, h1, (hS b h2).1, ?_⟩
  refine Sh.congr _ _ _ _ (fun j _ => ?_) (hSh h3)
  exact (hS b h2).2 _
 | clo fn caps =>
  simp only [TL.kill]
  split
  ·trivial
  ·rename_i hq
   obtain ⟨vs, h1, h2, h3⟩ := h
   refine ⟨vs, h1, h2, fun i r hi => ?_⟩
   obtain ⟨b, h4, h5⟩ := h3 i r hi
   have hr : q.roots.elem r = false := by
    have hq' : ∀ x, x ∈ caps → x ∉ q.roots := by simpa using hq
    simpa using hq' r (List.mem_of_getElem? hi)
   exact ⟨b, by rw [hβ r hr]; exact h4, h5⟩

end
def rnOf : List (Nat × Nat) → Nat → Option Nat
 | [], _ => none
 | (r, p') :: bs, p => if p' = p then some r else rnOf bs p

def pnOf : List (Nat × Nat) → Nat → Option Nat
 | [], _ => none
 | (r', p) :: bs, r => if r' = r then some p else pnOf bs r

theorem rnOf_some : ∀ {bs : List (Nat × Nat)} {r p : Nat}, rnOf bs p = some r → (r, p) ∈ bs
 | [], _, _, h => by cases h
 | (r', p') :: bs, r, p, h => by
  simp only [rnOf] at h
  split at h
  ·rename_i he; subst he; cases h; exact List.mem_cons_self
  ·exact List.mem_cons_of_mem _ (rnOf_some h)

theorem pnOf_some : ∀ {bs : List (Nat × Nat)} {r p : Nat}, pnOf bs r = some p → (r, p) ∈ bs
 | [], _, _, h => by cases h
 | (r', p') :: bs, r, p, h => by
  simp only [pnOf] at h
  split at h
  ·rename_i he; subst he; cases h; exact List.mem_cons_self
  ·exact List.mem_cons_of_mem _ (pnOf_some h)

theorem rnOf_mem : ∀ {bs : List (Nat × Nat)} {r p : Nat}, (bs.map (·.2)).Nodup → (r, p) ∈ bs → rnOf bs p = some r
 | [], _, _, _, h => by cases h
 | (r', p') :: bs, r, p, hn, h => by
  simp only [List.map_cons, List.nodup_cons] at hn
  simp only [rnOf]
  rcases List.mem_cons.1 h with h | h
  ·cases h; simp
  ·rw [if_neg]
   ·exact rnOf_mem hn.2 h
   ·rintro rfl; exact hn.1 (List.mem_map.2 ⟨_, h, rfl⟩)

theorem pnOf_mem : ∀ {bs : List (Nat × Nat)} {r p : Nat}, (bs.map (·.1)).Nodup → (r, p) ∈ bs → pnOf bs r = some p
 | [], _, _, _, h => by cases h
 | (r', p') :: bs, r, p, hn, h => by
  simp only [List.map_cons, List.nodup_cons] at hn
  simp only [pnOf]
  rcases List.mem_cons.1 h with h | h
  ·cases h; simp
  ·rw [if_neg]
   ·exact pnOf_mem hn.2 h
   ·rintro rfl; exact hn.1 (List.mem_map.2 ⟨_, h, rfl⟩)

theorem pnOf_none {bs : List (Nat × Nat)} {r : Nat} (h : ¬ r ∈ bs.map (·.1)) : pnOf bs r = none := by
 cases hp : pnOf bs r with
 | none => rfl
 | some p => exact absurd (List.mem_map.2 ⟨_, pnOf_some hp, rfl⟩) h

def callω0 (bs : List (Nat × Nat)) (ω : Nat → Option Tag) (b : Nat) : Option Tag :=
 match ω b with
 | some (.box r) => (pnOf bs r).map Tag.box
 | some (.own ρ l) => (pnOf bs ρ.1).map fun p => .own (p, ρ.2) l
 | none => none

def callE (E : Env) (w : World) (ω : Nat → Option Tag) (β : Nat → Option Nat) (bs : List (Nat × Nat)) (rd : List Nat) (hlt : ∀ r p, (r, p) ∈ bs → p < 4096) : Env where
 base := w.heap.size
 w0 := w
 ω0 := callω0 bs ω
 St0 := fun b => rd = [] → E.S w ω b
 pin := fun p => (rnOf bs p).bind β
 pinlt := fun p b hp => by
  obtain ⟨r, hr, _⟩ := Option.bind_eq_some_iff.1 hp
  exact hlt r p (rnOf_some hr)

def jx (n d r : Nat) : Option Nat := (List.range n).find? fun j => fid d j == r

theorem fid_inj {d i j : Nat} (h : fid d i = fid d j) : i = j := by unfold fid at h; omega

theorem jx_some {n d r j : Nat} (h : jx n d r = some j) : j < n ∧ r = fid d j := by
 unfold jx at h
 have h1 := List.find?_some h
 have h2 := List.mem_of_find?_eq_some h
 simp at h1 h2
 exact ⟨h2, h1.symm⟩

theorem jx_fid {n d j : Nat} (h : j < n) : jx n d (fid d j) = some j := by
 cases hx : jx n d (fid d j) with
 | none =>
  unfold jx at hx
  rw [List.find?_eq_none] at hx
  exact absurd (by simp) (hx j (by simpa using h))
 | some i => obtain ⟨_, h2⟩ := jx_some hx; rw [fid_inj h2]

theorem jx_none {n d r : Nat} (h : ¬ r ∈ (List.range n).map (fid d)) : jx n d r = none := by
 cases hx : jx n d r with
 | none => rfl
 | some j => obtain ⟨h1, h2⟩ := jx_some hx; exact absurd (List.mem_map.2 ⟨j, by simpa using h1, h2.symm⟩) h

def backω (d : Option Nat) (n : Nat) (bs : List (Nat × Nat)) (w : World) (ω ω1 : Nat → Option Tag) (b : Nat) : Option Tag :=
 match ω1 b with
 | some (.box p) => (rnOf bs p).map Tag.box
 | some (.own ρ l) =>
  match rnOf bs ρ.1 with
  | some r => some (.own (r, ρ.2) l)
  | none => match d, jx n 0 ρ.1 with | some d, some j => some (.own (fid d j, 0) (if l = .fl (fid 0 j) 0 then .fl (fid d j) 0 else l)) | _, _ => none
 | none => if b < w.heap.size ∧ callω0 bs ω b = none then ω b else none

def backφ (d : Option Nat) (n : Nat) (φ φ1 : Nat → Nat → Option Value) : Nat → Nat → Option Value := fun r k =>
 match d with
 | some d => match jx n d r with | some j => φ1 (fid 0 j) 0 | none => φ r k
 | none => φ r k

def backβ (d : Option Nat) (n : Nat) (β : Nat → Option Nat) : Nat → Option Nat := fun r => if r ∈ outNames d n then none else β r

section
variable {E : Env} {s : St} {a : Act} {w w' : World} {ω ω1 : Nat → Option Tag} {φ φ1 : Nat → Nat → Option Value} {β : Nat → Option Nat}
variable {P : Program} {o : Oper} {g : Option (Nat × Bool)} {d : Option Nat} {C : Ctx} {bs : List (Nat × Nat)} {rd : List Nat} {n : Nat}
theorem callE_S {hlt} {b : Nat} (hS : E.S w ω b) : (callE E w ω β bs rd hlt).S w (callω0 bs ω) b := by
 obtain ⟨h1, h2, h3⟩ := hS
 exact ⟨h1, by unfold callω0; rw [h2], .inl fun _ => ⟨h1, h2, h3⟩⟩

theorem callE_rd {hlt} {b r : Nat} {t : Tag} (h : Rel E s a w ω φ β) (hr : r ∈ rd) (hnb : ¬ r ∈ bs.map (·.1)) (hb : ω b = some t) (ht : t = .box r ∨ ∃ k l, t = .own (r, k) l) : (callE E w ω β bs rd hlt).S w (callω0 bs ω) b := by
 refine ⟨h.wr.bd _ _ hb, ?_, .inl fun he => by rw [he] at hr; cases hr⟩
 unfold callω0
 rw [hb]
 rcases ht with rfl | ⟨k, l, rfl⟩ <;> simp [pnOf_none hnb]

theorem callE_wr {hlt} (h : Rel E s a w ω φ β) (hn1 : (bs.map (·.1)).Nodup) : Wr (callE E w ω β bs rd hlt) w (callω0 bs ω) (callE E w ω β bs rd hlt).pin where
 bj := fun p b hp => by
  obtain ⟨r, hr, hb⟩ := Option.bind_eq_some_iff.1 hp
  unfold callω0
  rw [h.wr.bj r b hb]
  simp [pnOf_mem hn1 (rnOf_some hr)]
 bd := fun b t hb => by
  unfold callω0 at hb
  split at hb
  ·rename_i hq; exact h.wr.bd _ _ hq
  ·rename_i hq; exact h.wr.bd _ _ hq
  ·cases hb
 old := fun b hb h0 => ⟨h0, rfl⟩
 bs := Nat.le_refl _
 pin := fun r b hr => hr
 io := Like.refl _

variable {hlt : ∀ r p, (r, p) ∈ bs → p < 4096}
theorem back_old (hW : Wr (callE E w ω β bs rd hlt) w' ω1 (callE E w ω β bs rd hlt).pin) {b : Nat} (hb : b < w.heap.size) (h0 : callω0 bs ω b = none) :
  backω d n bs w ω ω1 b = ω b ∧ w'.heap[b]? = w.heap[b]? := by
 obtain ⟨h1, h2⟩ := hW.old b hb h0
 refine ⟨?_, h2⟩
 unfold backω
 rw [h1]
 simp [hb, h0]

theorem back_S (hW : Wr (callE E w ω β bs rd hlt) w' ω1 (callE E w ω β bs rd hlt).pin) {b : Nat} (hS : E.S w ω b) : E.S w' (backω d n bs w ω ω1) b ∧ ∀ o, cel w' b o = cel w b o := by
 obtain ⟨h1, h2, h3⟩ := hS
 obtain ⟨g1, g2⟩ := back_old (d := d) (n := n) hW h1 (by unfold callω0; rw [h2])
 exact ⟨⟨Nat.lt_of_lt_of_le h1 hW.bs, by rw [g1, h2], h3⟩, fun o => by simp only [cel, World.cell?, g2]⟩

theorem back_S1 (h : Rel E s a w ω φ β) (hrd : rd = []) {b : Nat} (hS : (callE E w ω β bs rd hlt).S w' ω1 b) : E.S w' (backω d n bs w ω ω1) b := by
 obtain ⟨h1, h2, h3⟩ := hS
 have hb0 : E.base ≤ w.heap.size := h.wr.bs
 refine ⟨h1, ?_, ?_⟩
 ·unfold backω
  rw [h2]
  simp only
  split
  ·rename_i hc
   rcases h3 with h3 | h3 | h3
   ·exact (h3 hrd).2.1
   ·exact absurd hc.1 (Nat.not_lt.2 h3)
   ·exact absurd hc.2 h3
  ·rfl
 ·rcases h3 with h3 | h3 | h3
  ·exact (h3 hrd).2.2
  ·exact .inr (.inl (Nat.le_trans hb0 h3))
  ·have : ω b ≠ none := fun he => h3 (by show callω0 bs ω b = none; unfold callω0; rw [he])
   rcases Nat.lt_or_ge b E.base with hlt | hge
   ·exact .inr (.inr fun h0 => this (h.wr.old b hlt h0).1)
   ·exact .inr (.inl hge)

end
theorem outPut_last {d r : Nat} {x : Option Root} : ∀ {ks : List (K × Nat)} {ls : List Leaf} {j : Nat}, lastPut (outPut d j ks ls) r = some x →
  ∃ (i : Nat) (k : K) (o : Nat) (l : Leaf), ks[i]? = some (k, o) ∧ ls[i]? = some l ∧ r = fid d (j + i) ∧ x = (if o = 0 then none else outRow o l)
 | [], ls, j, h => by cases ls <;> simp [outPut, lastPut] at h
 | k :: ks, [], j, h => by simp [outPut, lastPut] at h
 | (k, o) :: ks, l :: ls, j, h => by
  simp only [outPut, lastPut] at h
  cases hl : lastPut (outPut d (j + 1) ks ls) r with
  | some y =>
   rw [hl] at h
   obtain ⟨i, k', o', l', h1, h2, h3, h4⟩ := outPut_last hl
   cases h
   exact ⟨i + 1, k', o', l', by simpa using h1, by simpa using h2, by rw [h3]; congr 1; omega, h4⟩
  | none =>
   rw [hl] at h
   simp only at h
   split at h
   ·rename_i he
    cases h
    exact ⟨0, k, o, l, rfl, rfl, he.symm, rfl⟩
   ·cases h

theorem outPut_none {d r : Nat} : ∀ {ks : List (K × Nat)} {ls : List Leaf} {j : Nat}, ls.length = ks.length → lastPut (outPut d j ks ls) r = none → ∀ i, i < ks.length → r ≠ fid d (j + i)
 | [], ls, j, _, _, i, hi => absurd hi (Nat.not_lt_zero _)
 | k :: ks, [], j, hl, _, _, _ => by simp at hl
 | (k, o) :: ks, l :: ls, j, hl, h, i, hi => by
  simp only [outPut, lastPut] at h
  cases hl' : lastPut (outPut d (j + 1) ks ls) r with
  | some y => rw [hl'] at h; cases h
  | none =>
   rw [hl'] at h
   simp only at h
   split at h
   ·cases h
   ·rename_i he
    cases i with
    | zero => exact Ne.symm he
    | succ i =>
     have := outPut_none (by simpa using hl) hl' i (by simpa using hi)
     rw [show j + (i + 1) = j + 1 + i by omega]
     exact this

theorem ioPut_last {r : Nat} {x : Option Root} : ∀ {bs : List (Nat × Nat)} {io : List (List (K × Nat))} {ls : List Leaf}, (bs.map (·.1)).Nodup → (bs.map (·.2)).Nodup → lastPut (ioPut (bs.map (·.1)) io ls) r = some x →
  ∃ (p : Nat) (root : Root), (r, p) ∈ bs ∧ look (ioRoots (bs.map (·.2)) io ls) p = some root ∧ x = some root
 | [], io, ls, _, _, h => by simp [ioPut, lastPut] at h
 | b :: bs, [], ls, _, _, h => by simp [ioPut, lastPut] at h
 | (r0, p0) :: bs, ks :: io, ls, h1, h2, h => by
  simp only [List.map_cons, List.nodup_cons] at h1 h2
  simp only [List.map_cons, ioPut, lastPut] at h
  cases hl : lastPut (ioPut (bs.map (·.1)) io (ls.drop ks.length)) r with
  | some y =>
   rw [hl] at h
   cases h
   obtain ⟨p, root, g1, g2, g3⟩ := ioPut_last h1.2 h2.2 hl
   refine ⟨p, root, List.mem_cons_of_mem _ g1, ?_, g3⟩
   simp only [List.map_cons, ioRoots, look]
   rw [if_neg]
   ·exact g2
   ·rintro rfl; exact h2.1 (List.mem_map.2 ⟨_, g1, rfl⟩)
  | none =>
   rw [hl] at h
   simp only at h
   split at h
   ·rename_i he
    cases h
    subst he
    exact ⟨p0, _, List.mem_cons_self, by simp [ioRoots, look], rfl⟩
   ·cases h

theorem ioPut_none {r : Nat} : ∀ {bs : List (Nat × Nat)} {io : List (List (K × Nat))} {ls : List Leaf}, bs.length = io.length → lastPut (ioPut (bs.map (·.1)) io ls) r = none → ¬ r ∈ bs.map (·.1)
 | [], io, ls, _, _, h => by simp at h
 | b :: bs, [], ls, hl, _, _ => by simp at hl
 | (r0, p0) :: bs, ks :: io, ls, hl, h, hm => by
  simp only [List.map_cons, ioPut, lastPut] at h
  cases hl' : lastPut (ioPut (bs.map (·.1)) io (ls.drop ks.length)) r with
  | some y => rw [hl'] at h; cases h
  | none =>
   rw [hl'] at h
   simp only at h
   split at h
   ·cases h
   ·rename_i he
    rcases List.mem_cons.1 hm with hm | hm
    ·exact he hm.symm
    ·exact ioPut_none (by simpa using hl) hl' hm

section
variable {E : Env} {s : St} {a : Act} {w w' : World} {ω ω1 : Nat → Option Tag} {φ φ1 : Nat → Nat → Option Value} {β : Nat → Option Nat}
variable {P : Program} {o : Oper} {g : Option (Nat × Bool)} {d : Option Nat} {C : Ctx} {bs : List (Nat × Nat)} {rd : List Nat} {n : Nat} {hlt : ∀ r p, (r, p) ∈ bs → p < 4096}
theorem names_mem {r : Nat} (h : r ∈ outNames d n) : ∃ d0 j, d = some d0 ∧ j < n ∧ r = fid d0 j := by
 cases d with
 | none => cases h
 | some d0 =>
  simp only [outNames, List.mem_map, List.mem_range] at h
  obtain ⟨j, h1, h2⟩ := h
  exact ⟨d0, j, rfl, h1, h2.symm⟩

theorem back_wr (h : Rel E s a w ω φ β) (hn2 : (bs.map (·.2)).Nodup) (hW : Wr (callE E w ω β bs rd hlt) w' ω1 (callE E w ω β bs rd hlt).pin) :
  Wr E w' (backω d n bs w ω ω1) (backβ d n β) where
 bj := fun r b hr => by
  unfold backβ at hr
  split at hr
  ·cases hr
  ·have htag := h.wr.bj r b hr
   by_cases hm : r ∈ bs.map (·.1)
   ·obtain ⟨⟨r', p⟩, hm', rfl⟩ := List.mem_map.1 hm
    have hp : (callE E w ω β bs rd hlt).pin p = some b := by show (rnOf bs p).bind β = _; rw [rnOf_mem hn2 hm']; exact hr
    have := hW.bj p b hp
    unfold backω
    rw [this]
    simp [rnOf_mem hn2 hm']
   ·rw [(back_old hW (h.wr.bd _ _ htag) (by unfold callω0; rw [htag]; simp [pnOf_none hm])).1, htag]
 bd := fun b t hb => by
  unfold backω at hb
  split at hb
  ·rename_i hq; exact hW.bd _ _ hq
  ·rename_i hq; exact hW.bd _ _ hq
  ·split at hb
   ·rename_i hc; exact Nat.lt_of_lt_of_le hc.1 hW.bs
   ·cases hb
 old := fun b hb h0 => by
  obtain ⟨g1, g2⟩ := h.wr.old b hb h0
  have hlt' : b < w.heap.size := Nat.lt_of_lt_of_le hb h.wr.bs
  obtain ⟨q1, q2⟩ := back_old (d := d) (n := n) hW hlt' (by unfold callω0; rw [g1])
  exact ⟨by rw [q1, g1], by rw [q2, g2]⟩
 bs := Nat.le_trans h.wr.bs hW.bs
 io := h.wr.io.trans hW.io
 pin := fun r b hr => by
  unfold backβ
  rw [if_neg]
  ·exact h.wr.pin r b hr
  ·intro hm
   obtain ⟨d0, j, _, _, rfl⟩ := names_mem hm
   rw [E.pin_fid] at hr; cases hr

theorem homesOf_mem {rs : List (Nat × Root)} {r p k : Nat} {x : Root} (hm : (r, p) ∈ bs) (hx : look rs r = some x) (hk : k < x.ls.length) : (r, k) ∈ homesOf rs bs := by
 unfold homesOf
 rw [List.mem_flatMap]
 refine ⟨(r, p), hm, ?_⟩
 simp only [hx, List.mem_map, List.mem_range]
 exact ⟨k, hk, rfl⟩

theorem homesOf_bs {rs : List (Nat × Root)} {r k : Nat} (h : (r, k) ∈ homesOf rs bs) : r ∈ bs.map (·.1) := by
 unfold homesOf at h
 rw [List.mem_flatMap] at h
 obtain ⟨x, hx, hm⟩ := h
 obtain ⟨j, _, he⟩ := List.mem_map.1 hm
 cases he
 exact List.mem_map.2 ⟨x, hx, rfl⟩

theorem back_val (h : Rel E s a w ω φ β) (hbx : ∀ r p, (r, p) ∈ bs → ∃ x, look s.r r = some x ∧ x.box = true) (hW : Wr (callE E w ω β bs rd hlt) w' ω1 (callE E w ω β bs rd hlt).pin) {r k : Nat} {v : Value}
  (hq : (⟨outNames d n, homesOf s.r bs⟩ : Kill).hits r k = false) (hv : (E.g w ω φ).val (locR β r k) = some v) : (E.g w' (backω d n bs w ω ω1) (backφ d n φ φ1)).val (locR (backβ d n β) r k) = some v := by
 unfold Kill.hits at hq
 rw [Bool.or_eq_false_iff] at hq
 obtain ⟨hq1, hq2⟩ := hq
 have hnm : ¬ r ∈ outNames d n := by simpa using hq1
 have hβ : backβ d n β r = β r := by unfold backβ; rw [if_neg hnm]
 unfold locR at hv ⊢
 rw [hβ]
 cases hb : β r with
 | none =>
  rw [hb] at hv
  simp only [GW.val, Env.g] at hv ⊢
  rw [← hv]
  unfold backφ
  cases d with
  | none => rfl
  | some d0 => simp only; rw [jx_none hnm]
 | some b =>
  rw [hb] at hv
  simp only [GW.val, Env.g] at hv ⊢
  have htag := h.wr.bj r b hb
  by_cases hm : r ∈ bs.map (·.1)
  ·exfalso
   obtain ⟨⟨r', p⟩, hm', rfl⟩ := List.mem_map.1 hm
   obtain ⟨x, hx, _⟩ := hbx r' p hm'
   obtain ⟨cs, t, fr, g1, g2, g3⟩ := (h.bx r' x hx).2 b hb
   have hk : k < x.ls.length := by
    rw [← g3]
    rw [cel, cell_of_row w b k cs t fr g1] at hv
    exact (Array.getElem?_eq_some_iff.1 hv).1
   rw [List.any_eq_false] at hq2
   exact hq2 _ (homesOf_mem hm' hx hk) (by simp)
  ·obtain ⟨_, g2⟩ := back_old (d := d) (n := n) hW (h.wr.bd _ _ htag) (by unfold callω0; rw [htag]; simp [pnOf_none hm])
   simp only [cel, World.cell?, g2] at hv ⊢
   exact hv

theorem back_stays (h : Rel E s a w ω φ β) (hbx : ∀ r p, (r, p) ∈ bs → ∃ x, look s.r r = some x ∧ x.box = true) (hW : Wr (callE E w ω β bs rd hlt) w' ω1 (callE E w ω β bs rd hlt).pin) :
  Stays (TLr (E.g w ω φ) β) (TLr (E.g w' (backω d n bs w ω ω1) (backφ d n φ φ1)) (backβ d n β)) ⟨outNames d n, homesOf s.r bs⟩ :=
 TLr_gen (fun b hb => back_S hW hb) (fun r hr => by unfold backβ; rw [if_neg (by simpa using hr)]) (fun r k v hq hv => back_val h hbx hW hq hv)

theorem back_root (h : Rel E s a w ω φ β) (hbx : ∀ r p, (r, p) ∈ bs → ∃ x, look s.r r = some x ∧ x.box = true) (hW : Wr (callE E w ω β bs rd hlt) w' ω1 (callE E w ω β bs rd hlt).pin) {r : Nat} {root : Root} (hr : look s.r r = some root)
  (h1 : ¬ r ∈ outNames d n) (h2 : ¬ r ∈ bs.map (·.1)) : boxOk w' (backβ d n β) r root ∧
   ∀ (k : Nat) (c : LC), root.ls[k]? = some c → LCr (E.g w ω φ) β r k c → LCr (E.g w' (backω d n bs w ω ω1) (backφ d n φ φ1)) (backβ d n β) r k (c.kill ⟨outNames d n, homesOf s.r bs⟩) := by
 have hβ : backβ d n β r = β r := by unfold backβ; rw [if_neg h1]
 have hhit : ∀ k, (⟨outNames d n, homesOf s.r bs⟩ : Kill).hits r k = false := fun k => kill_hits (by simpa using h1) (fun r' k' hm => by
  rintro ⟨rfl, rfl⟩; exact h2 (homesOf_bs hm))
 have hb := h.bx r root hr
 refine ⟨⟨by rw [hβ]; exact hb.1, fun b hb' => ?_⟩, fun k c hc hl => ?_⟩
 ·rw [hβ] at hb'
  obtain ⟨cs, t, fr, g1, g2⟩ := hb.2 b hb'
  have htag := h.wr.bj r b hb'
  obtain ⟨_, q2⟩ := back_old (d := d) (n := n) hW (h.wr.bd _ _ htag) (by unfold callω0; rw [htag]; simp [pnOf_none h2])
  exact ⟨cs, t, fr, by rw [q2]; exact g1, g2⟩
 ·have hloc : locR (backβ d n β) r k = locR β r k := by unfold locR; rw [hβ]
  cases c with
  | own o1 e xs hole =>
   refine ⟨hl.1, ?_⟩
   rw [hloc]
   refine OW.frame (g := E.g w ω φ) (g' := E.g w' (backω d n bs w ω ω1) (backφ d n φ φ1)) (fun b hb => back_S hW hb) (fun b l hb' => ?_) _ _ _ _ (fun j hj => ?_) hl.2
   ·have hb' : ω b = some (.own (r, k) l) := hb'
    obtain ⟨q1, q2⟩ := back_old (d := d) (n := n) hW (h.wr.bd _ _ hb') (by unfold callω0; rw [hb']; simp [pnOf_none h2])
    exact ⟨by show backω d n bs w ω ω1 b = _; rw [q1, hb'], q2⟩
   ·unfold locR
    cases hb' : β r with
    | none =>
     simp only [Loc.add, GW.val, Env.g]
     unfold backφ
     cases d with
     | none => rfl
     | some d0 => simp only; rw [jx_none h1]
    | some b =>
     have htag := h.wr.bj r b hb'
     obtain ⟨_, q2⟩ := back_old (d := d) (n := n) hW (h.wr.bd _ _ htag) (by unfold callω0; rw [htag]; simp [pnOf_none h2])
     simp only [Loc.add, GW.val, Env.g, cel, World.cell?, q2]
  | tl l =>
   obtain ⟨v, g1, g2⟩ := hl
   exact ⟨v, back_val h hbx hW (hhit k) g1, back_stays h hbx hW _ _ g2⟩

end
theorem outTL_get {d : Nat} : ∀ {ks : List (K × Nat)} {ls : List Leaf} {j : Nat}, ls.length = ks.length → (outTL d j ks ls).length = ks.length ∧
  ∀ (i : Nat) (t : TL), (outTL d j ks ls)[i]? = some t → ∃ k o l, ks[i]? = some (k, o) ∧ ls[i]? = some l ∧ t = (if o = 0 then l.tl else .ref (fid d (j + i)) 0)
 | [], ls, j, _ => by cases ls <;> exact ⟨rfl, fun i t h => by simp [outTL] at h⟩
 | k :: ks, [], j, h => by simp at h
 | (k, o) :: ks, l :: ls, j, h => by
  obtain ⟨i1, i2⟩ := outTL_get (d := d) (ks := ks) (ls := ls) (j := j + 1) (by simpa using h)
  refine ⟨by simp [outTL, i1], fun i t ht => ?_⟩
  cases i with
  | zero => simp only [outTL, List.getElem?_cons_zero, Option.some.injEq] at ht; exact ⟨k, o, l, rfl, rfl, ht.symm⟩
  | succ i =>
   simp only [outTL, List.getElem?_cons_succ] at ht ⊢
   obtain ⟨k', o', l', h1, h2, h3⟩ := i2 i t ht
   exact ⟨k', o', l', h1, h2, by rw [h3, show j + (i + 1) = j + 1 + i by omega]⟩

theorem outVs_ok {R : TL → Value → Prop} : ∀ {res : List (Bool × List (K × Nat))} {tls : List TL} {vs : List Value}, (res.all fun p => p.1 || p.2.length == 1) = true → tls.length = (res.flatMap (·.2)).length → vs.length = tls.length →
  (∀ (j : Nat) (t : TL), tls[j]? = some t → ∃ v, vs[j]? = some v ∧ R t v) →
  (splitV res vs).length = (outVs res tls).length ∧ ∀ (j : Nat) (p : Bool × List TL), (outVs res tls)[j]? = some p → ∃ c, (splitV res vs)[j]? = some c ∧ compR R p c
 | [], tls, vs, _, _, _, _ => ⟨rfl, fun j p h => by simp [outVs] at h⟩
 | (b, ks) :: res, tls, vs, hall, hl, hv, hr => by
  simp only [List.all_cons, Bool.and_eq_true] at hall
  simp only [List.flatMap_cons, List.length_append] at hl
  obtain ⟨i1, i2⟩ := outVs_ok (R := R) (res := res) (tls := tls.drop ks.length) (vs := vs.drop ks.length) hall.2 (by simp [hl]) (by simp [hv]) (fun j t hj => by
   rw [List.getElem?_drop] at hj ⊢
   exact hr _ t hj)
  refine ⟨by simp [splitV, outVs, i1], fun j p hj => ?_⟩
  cases j with
  | succ j => simp only [outVs, splitV, List.getElem?_cons_succ] at hj ⊢; exact i2 j p hj
  | zero =>
   simp only [outVs, splitV, List.getElem?_cons_zero, Option.some.injEq] at hj ⊢
   refine ⟨_, rfl, ?_⟩
   subst hj
   cases b with
   | true =>
    refine ⟨(vs.take ks.length).toArray, by simp [compV], by simp [hv], fun j l hj => ?_⟩
    rw [List.getElem?_take] at hj
    split at hj
    ·rename_i hlt
     obtain ⟨v, h1, h2⟩ := hr j l hj
     exact ⟨v, by simp [hlt, h1], h2⟩
    ·cases hj
   | false =>
    have hk : ks.length = 1 := by simpa using hall.1
    match tls, vs, hl, hv, hr with
    | t :: tls, v :: vs, _, _, hr =>
     obtain ⟨v', h1, h2⟩ := hr 0 t rfl
     simp at h1; subst h1
     refine ⟨t, by rw [hk]; rfl, ?_⟩
     rw [hk]; exact h2
    | [], _, hl, _, _ => simp [hk] at hl; omega
    | _ :: _, [], _, hv, _ => simp at hv

theorem outV_ok {R : TL → Value → Prop} {tmps : Array Value} {res : List (Bool × List (K × Nat))} {tls : List TL} {vs : List Value} (hall : (res.all fun p => p.1 || p.2.length == 1) = true) (hl : tls.length = (res.flatMap (·.2)).length) (hv : vs.length = tls.length)
  (hr : ∀ (j : Nat) (t : TL), tls[j]? = some t → ∃ v, vs[j]? = some v ∧ R t v) : TVr R tmps ((outTV (outVs res tls)).getD .u) (outV res vs) := by
 obtain ⟨h1, h2⟩ := outVs_ok hall hl hv hr
 unfold outV outTV
 split
 ·rename_i ls he
  rw [he] at h1 h2
  obtain ⟨c, hc, hcr⟩ := h2 0 _ rfl
  match hs : splitV res vs, h1, hc with
  | [c'], _, hc => simp at hc; subst hc; exact hcr
 ·rename_i ls he
  rw [he] at h1 h2
  obtain ⟨c, hc, hcr⟩ := h2 0 _ rfl
  obtain ⟨l, rfl, hlr⟩ := hcr
  match hs : splitV res vs, h1, hc with
  | [c'], _, hc => simp at hc; subst hc; exact hlr
 ·rename_i hn1 hn2
  have hne : ∀ c, splitV res vs ≠ [c] := by
   intro c hc
   rw [hc] at h1
   match ho : outVs res tls, h1 with
   | [(true, ls)], _ => exact hn1 ls ho
   | [(false, ls)], _ => exact hn2 ls ho
  show TVr R tmps (.tup _) _
  split
  ·rename_i c hc; exact absurd hc (hne c)
  exact ⟨_, rfl, by simp [h1], fun j p hj => by obtain ⟨c, hc, hcr⟩ := h2 j p hj; exact ⟨c, by simpa using hc, hcr⟩⟩

section
variable {E : Env} {s : St} {a : Act} {w w' : World} {ω ω1 : Nat → Option Tag} {φ φ1 : Nat → Nat → Option Value} {β : Nat → Option Nat}
variable {P : Program} {o : Oper} {g : Option (Nat × Bool)} {d : Option Nat} {C : Ctx} {bs : List (Nat × Nat)} {rd : List Nat} {n : Nat} {hlt : ∀ r p, (r, p) ∈ bs → p < 4096}
theorem back_io (hn2 : (bs.map (·.2)).Nodup) (hW : Wr (callE E w ω β bs rd hlt) w' ω1 (callE E w ω β bs rd hlt).pin) {r p : Nat} {root : Root} (hm : (r, p) ∈ bs) (hnm : ¬ r ∈ outNames d n) (hbox : root.box = true)
  (hb : boxOk w' (callE E w ω β bs rd hlt).pin p root) (hl : ∀ (k : Nat) (c : LC), root.ls[k]? = some c → LCr ((callE E w ω β bs rd hlt).g w' ω1 φ1) (callE E w ω β bs rd hlt).pin p k c)
  (hc : ∀ (k : Nat) (c : LC), root.ls[k]? = some c → ((∃ o e xs, c = .own o e xs none ∧ ((∀ b, (callE E w ω β bs rd hlt).S w' ω1 b → E.S w' (backω d n bs w ω ω1) b) ∨ (K.row e).free o = true)) ∨
   ∃ kd x, c = .tl (.d kd x) ∧ ((∀ b, (callE E w ω β bs rd hlt).S w' ω1 b → E.S w' (backω d n bs w ω ω1) b) ∨ kd.free 0 = true))) :
  boxOk w' (backβ d n β) r root ∧ ∀ (k : Nat) (c : LC), root.ls[k]? = some c → LCr (E.g w' (backω d n bs w ω ω1) (backφ d n φ φ1)) (backβ d n β) r k c := by
 have hβ : backβ d n β r = (callE E w ω β bs rd hlt).pin p := by
  show _ = (rnOf bs p).bind β
  rw [rnOf_mem hn2 hm]
  unfold backβ
  rw [if_neg hnm]; rfl
 have hsome : ((callE E w ω β bs rd hlt).pin p).isSome = true := by rw [← hb.1]; exact hbox
 obtain ⟨b0, hb0⟩ := Option.isSome_iff_exists.1 hsome
 have hloc : ∀ k, locR (backβ d n β) r k = .cell b0 k := fun k => by simp [locR, hβ, hb0]
 have hloc1 : ∀ k, locR (callE E w ω β bs rd hlt).pin p k = .cell b0 k := fun k => by simp [locR, hb0]
 have htag := hW.bj p b0 hb0
 refine ⟨⟨by rw [hβ]; exact hb.1, fun b hb' => by rw [hβ] at hb'; exact hb.2 b hb'⟩, fun k c hk => ?_⟩
 have hlc := hl k c hk
 rcases hc k c hk with ⟨o1, e, xs, rfl, hfr⟩ | ⟨kd, x, rfl, hfr⟩
 ·obtain ⟨ho1, how⟩ := hlc
  refine ⟨ho1, ?_⟩
  obtain ⟨o2, rfl⟩ : ∃ o2, o1 = o2 + 1 := ⟨o1 - 1, by omega⟩
  rw [hloc1] at how
  rw [hloc]
  have := OW.toS (S' := E.S w' (backω d n bs w ω ω1)) hfr how
  refine OW.move (G := { (callE E w ω β bs rd hlt).g w' ω1 φ1 with S := E.S w' (backω d n bs w ω ω1) }) (G' := E.g w' (backω d n bs w ω ω1) (backφ d n φ φ1)) (ρ := (p, k)) (ρ' := (r, k)) (ℓ := .cell b0 k) (ℓ' := .cell b0 k) (fun b hb => ⟨hb, fun _ => rfl⟩) (fun b l hbt => ?_) (fun _ _ _ => rfl) (fun b y l hbt he => ?_) rfl this
  ·have hbt : ω1 b = some (.own (p, k) l) := hbt
   show backω d n bs w ω ω1 b = _
   unfold backω
   rw [hbt]
   simp only [rnOf_mem hn2 hm]
   split <;> simp_all
  ·have hbt : ω1 b = some (.own (p, k) l) := hbt
   cases he
   rw [htag] at hbt; cases hbt
 ·obtain ⟨v, g1, g2, g3⟩ := hlc
  rw [hloc1] at g1
  refine ⟨v, by rw [hloc]; exact g1, g2, Sh.toS hfr g3⟩

theorem back_out {d0 : Nat} (hd : d = some d0) {j : Nat} {o1 : Nat} {l : Leaf} {v : Value} (hj : j < n) (hr : ResC ((callE E w ω β bs rd hlt).g w' ω1 φ1) j (o1 + 1) l v)
  (hfr : (∀ b, (callE E w ω β bs rd hlt).S w' ω1 b → E.S w' (backω d n bs w ω ω1) b) ∨ l.k.free (o1 + 1) = true) :
  ∃ e xs, l = ⟨.row e, xs⟩ ∧ (E.g w' (backω d n bs w ω ω1) (backφ d n φ φ1)).val (locR (backβ d n β) (fid d0 j) 0) = some v ∧
   LCr (E.g w' (backω d n bs w ω ω1) (backφ d n φ φ1)) (backβ d n β) (fid d0 j) 0 (.own (o1 + 1) e xs none) ∧ backβ d n β (fid d0 j) = none := by
 subst hd
 obtain ⟨e, xs, rfl, g1, g2⟩ := hr
 have hβ : backβ (some d0) n β (fid d0 j) = none := by
  unfold backβ
  rw [if_pos (by simp only [outNames, List.mem_map, List.mem_range]; exact ⟨j, hj, rfl⟩)]
 have hφ : backφ (some d0) n φ φ1 (fid d0 j) 0 = some v := by
  unfold backφ
  simp only [jx_fid hj]
  exact g1
 have hloc : locR (backβ (some d0) n β) (fid d0 j) 0 = .fl (fid d0 j) 0 := by simp [locR, hβ]
 refine ⟨e, xs, rfl, by rw [hloc]; exact hφ, ⟨Nat.succ_le_succ (Nat.zero_le _), ?_⟩, hβ⟩
 rw [hloc]
 have := OW.toS (S' := E.S w' (backω (some d0) n bs w ω ω1)) hfr g2
 refine OW.move (G := { (callE E w ω β bs rd hlt).g w' ω1 φ1 with S := E.S w' (backω (some d0) n bs w ω ω1) }) (G' := E.g w' (backω (some d0) n bs w ω ω1) (backφ (some d0) n φ φ1)) (ρ := (fid 0 j, 0)) (ρ' := (fid d0 j, 0)) (ℓ := .fl (fid 0 j) 0) (ℓ' := .fl (fid d0 j) 0) (fun b hb => ⟨hb, fun _ => rfl⟩) (fun b l hbt => ?_) (fun _ _ _ => rfl) (fun b y l hbt he => by cases he) ?_ this
 ·have hbt : ω1 b = some (.own (fid 0 j, 0) l) := hbt
  have hrn : rnOf bs (fid 0 j) = none := by
   cases hx : rnOf bs (fid 0 j) with
   | none => rfl
   | some r => have := hlt _ _ (rnOf_some hx); unfold fid at this; omega
  show backω (some d0) n bs w ω ω1 b = _
  unfold backω
  rw [hbt]
  simp only [hrn, jx_fid hj]
 ·show backφ (some d0) n φ φ1 (fid d0 j) 0 = φ1 (fid 0 j) 0
  rw [hφ]; exact g1.symm

end
theorem tup_kinds : ∀ {ks : List K}, (∀ k, k ∈ ks → k.isLeaf = true) → (K.tup ks).kinds = ks
 | [], _ => rfl
 | k :: ks, h => by
  have hk := h k List.mem_cons_self
  have : k.kinds = [k] := by cases k <;> simp [K.isLeaf] at hk <;> rfl
  simp only [K.tup, K.kinds, this, tup_kinds (fun k' hk' => h k' (List.mem_cons_of_mem _ hk'))]
  rfl

theorem ioRoots_get : ∀ {ps : List Nat} {io : List (List (K × Nat))} {ls : List Leaf} {p : Nat} {root : Root}, ls.map (·.k) = io.flatten.map (·.1) → look (ioRoots ps io ls) p = some root →
  root.box = true ∧ ∀ (k : Nat) (c : LC), root.ls[k]? = some c → ∃ kd o, (kd, o) ∈ io.flatten ∧ ((∃ e xs, c = .own o e xs none ∧ kd = .row e) ∨ ∃ x, c = .tl (.d kd x) ∧ (o = 0 ∨ ∀ e, kd ≠ .row e))
 | [], io, ls, p, root, _, h => by cases io <;> simp [ioRoots, look] at h
 | p0 :: ps, [], ls, p, root, _, h => by simp [ioRoots, look] at h
 | p0 :: ps, ks :: io, ls, p, root, hk, h => by
  simp only [ioRoots, look] at h
  simp only [List.flatten_cons, List.map_append] at hk
  split at h
  ·cases h
   refine ⟨rfl, ?_⟩
   have hk1 : (ls.take ks.length).map (·.k) = ks.map (·.1) := by
    rw [List.map_take, hk, List.take_left' (by simp)]
   generalize ls.take ks.length = ls1 at hk1 ⊢
   intro k c hc
   have key : ∀ (ks : List (K × Nat)) (ls1 : List Leaf) (k : Nat) (c : LC), ls1.map (·.k) = ks.map (·.1) → (ioLC ks ls1)[k]? = some c → ∃ kd o, (kd, o) ∈ ks ∧ ((∃ e xs, c = .own o e xs none ∧ kd = .row e) ∨ ∃ x, c = .tl (.d kd x) ∧ (o = 0 ∨ ∀ e, kd ≠ .row e)) := by
    intro ks
    induction ks with
    | nil => intro ls1 k c _ hc; cases ls1 <;> simp [ioLC] at hc
    | cons k0 ks ih =>
     intro ls1 k c hk hc
     cases ls1 with
     | nil => simp at hk
     | cons l ls1 =>
      obtain ⟨kd, o⟩ := k0
      simp only [List.map_cons, List.cons.injEq] at hk
      cases k with
      | succ k =>
       simp only [ioLC, List.getElem?_cons_succ] at hc
       obtain ⟨kd', o', g1, g2⟩ := ih ls1 k c hk.2 hc
       exact ⟨kd', o', List.mem_cons_of_mem _ g1, g2⟩
      | zero =>
       simp only [ioLC, List.getElem?_cons_zero, Option.some.injEq] at hc
       refine ⟨kd, o, List.mem_cons_self, ?_⟩
       obtain ⟨lk, lx⟩ := l
       have hk1 : lk = kd := hk.1
       subst hk1
       subst hc
       cases lk with
       | row e =>
        simp only
        by_cases ho : o = 0
        ·rw [if_pos ho]; exact .inr ⟨lx, rfl, .inl ho⟩
        ·rw [if_neg ho]; exact .inl ⟨e, lx, rfl, rfl⟩
       | _ => exact .inr ⟨lx, rfl, .inr fun e he => by cases he⟩
   obtain ⟨kd, o, g1, g2⟩ := key ks ls1 k c hk1 hc
   exact ⟨kd, o, List.mem_flatten.2 ⟨ks, List.mem_cons_self, g1⟩, g2⟩
  ·have hk2 : (ls.drop ks.length).map (·.k) = io.flatten.map (·.1) := by
    rw [List.map_drop, hk, List.drop_left' (by simp)]
   obtain ⟨g1, g2⟩ := ioRoots_get hk2 h
   refine ⟨g1, fun k c hc => ?_⟩
   obtain ⟨kd, o, q1, q2⟩ := g2 k c hc
   exact ⟨kd, o, by rw [List.flatten_cons]; exact List.mem_append_right _ q1, q2⟩

theorem free_leaf {k : K} {o : Nat} (h : k.free o = true) (hk : o = 0 ∨ ∀ e, k ≠ .row e) (hl : k.isLeaf = true) : k.free 0 = true := by
 rcases hk with rfl | hk
 ·exact h
 ·cases k <;> first | exact absurd rfl (hk _) | (simp [K.isLeaf] at hl; done) | exact h | (simp [K.free] at h; done) | rfl

section
variable {E : Env} {s : St} {a : Act} {w w' : World} {ω ω1 : Nat → Option Tag} {φ φ1 : Nat → Nat → Option Value} {β : Nat → Option Nat}
variable {P : Program} {o : Oper} {g : Option (Nat × Bool)} {d : Option Nat} {C : Ctx} {bs : List (Nat × Nat)} {rd : List Nat} {n : Nat} {hlt : ∀ r p, (r, p) ∈ bs → p < 4096}
theorem back_rel (h : Rel E s a w ω φ β) (hgr : ∀ d0, d = some d0 → s.t.any (grdOn d0) = false) (hbx : ∀ r p, (r, p) ∈ bs → ∃ x, look s.r r = some x ∧ x.box = true) (hn1 : (bs.map (·.1)).Nodup) (hn2 : (bs.map (·.2)).Nodup) {sg : Sig}
  (hps : bs.map (·.2) = ptrs 0 sg.ptr) (hbl : bs.length = sg.io.length) (hnames : ∀ r, r ∈ outNames d (sg.res.flatMap (·.2)).length → ¬ r ∈ bs.map (·.1)) (hres : (sg.res.all fun p => p.1 || p.2.length == 1) = true)
  (hleaf : ∀ p, p ∈ sg.res.flatMap (·.2) ++ sg.io.flatten → p.1.isLeaf = true) (hmode : rd = [] ∨ ∀ p, p ∈ sg.res.flatMap (·.2) ++ sg.io.flatten → p.1.free p.2 = true) {ls : List Leaf} (hkinds : ls.map (·.k) = (sg.res.flatMap (·.2) ++ sg.io.flatten).map (·.1))
  {v : Value} (hpost : Post (callE E w ω β bs rd hlt) sg ls v w') : RelX E (s.app (callUpd s.r d sg bs ls)) (a.put d v) w' := by
 obtain ⟨ω1, φ1, vs, hW, rfl, hrl, hio⟩ := hpost
 have hrt := fun r root h1 h2 => back_root (d := d) (n := (sg.res.flatMap (·.2)).length) (φ1 := φ1) h hbx hW (r := r) (root := root) h1 h2
 have hbw := back_wr (d := d) (n := (sg.res.flatMap (·.2)).length) h hn2 hW
 have hst := back_stays (d := d) (n := (sg.res.flatMap (·.2)).length) (φ1 := φ1) h hbx hW
 have hto : ∀ p, p ∈ sg.res.flatMap (·.2) ++ sg.io.flatten → (∀ b, (callE E w ω β bs rd hlt).S w' ω1 b → E.S w' (backω d (sg.res.flatMap (·.2)).length bs w ω ω1) b) ∨ p.1.free p.2 = true := by
  intro p hp
  rcases hmode with hm | hm
  ·exact .inl fun b hb => back_S1 h hm hb
  ·exact .inr (hm p hp)
 obtain ⟨l1, l2, l3⟩ := hrl
 generalize hks : sg.res.flatMap (·.2) = ks at *
 have hkj : ∀ (j : Nat) (k : K) (o1 : Nat) (l : Leaf), ks[j]? = some (k, o1) → (ls.take ks.length)[j]? = some l → l.k = k ∧ (k, o1) ∈ ks ++ sg.io.flatten := by
  intro j k o1 l hk hl
  refine ⟨?_, List.mem_append_left _ (List.mem_of_getElem? hk)⟩
  have hlt' : j < ks.length := (List.getElem?_eq_some_iff.1 hk).1
  have e1 : (ls.map (·.k))[j]? = some k := by rw [hkinds, List.getElem?_map, List.getElem?_append_left hlt', hk]; rfl
  rw [List.getElem?_take, if_pos hlt'] at hl
  rw [List.getElem?_map, hl] at e1
  exact Option.some.inj e1
 have hlp : ∀ r, lastPut (callUpd s.r d sg bs ls).put r = match lastPut (ioPut (bs.map (·.1)) sg.io (ls.drop ks.length)) r with | some y => some y | none => lastPut (outPutO d ks (ls.take ks.length)) r := by
  intro r
  unfold callUpd
  simp only [hks]
  rw [lastPut_append]
  cases lastPut (ioPut (bs.map (·.1)) sg.io (ls.drop ks.length)) r <;> rfl
 have hkill : (callUpd s.r d sg bs ls).kill = ⟨outNames d ks.length, homesOf s.r bs⟩ := by unfold callUpd; simp only [hks]
 refine ⟨backω d ks.length bs w ω ω1, backφ d ks.length φ φ1, backβ d ks.length β, ?_⟩
 have key := Rel.step (u := callUpd s.r d sg bs ls) (v := outV sg.res vs) h hbw (by rw [hkill]; exact hst) (fun r root hr hp => ?_) (fun r root hp => ?_) (fun d0 tv hd => ?_)
 ·cases hd : d with
  | none => subst hd; exact key
  | some d0 => subst hd; exact key
 ·rw [hlp] at hp
  have hp1 : lastPut (ioPut (bs.map (·.1)) sg.io (ls.drop ks.length)) r = none := by
   cases hx : lastPut (ioPut (bs.map (·.1)) sg.io (ls.drop ks.length)) r with
   | none => rfl
   | some y => rw [hx] at hp; cases hp
  rw [hp1] at hp
  have h2 := ioPut_none hbl hp1
  have h1 : ¬ r ∈ outNames d ks.length := by
   intro hm
   obtain ⟨d0, j, rfl, hj, rfl⟩ := names_mem hm
   exact outPut_none (j := 0) l1 hp j hj (by rw [Nat.zero_add])
  rw [hkill]
  obtain ⟨g1, g2⟩ := hrt r root hr h1 h2
  exact ⟨g1, g2⟩
 ·rw [hlp] at hp
  cases hx : lastPut (ioPut (bs.map (·.1)) sg.io (ls.drop ks.length)) r with
  | some y =>
   rw [hx] at hp
   have hp : y = some root := by simpa using hp
   subst hp
   obtain ⟨p, root', hm, hlk, he⟩ := ioPut_last hn1 hn2 hx
   cases he
   have hk2 : (ls.drop ks.length).map (·.k) = sg.io.flatten.map (·.1) := by rw [List.map_drop, hkinds, List.map_append, List.drop_left' (by simp)]
   obtain ⟨hbox, hget⟩ := ioRoots_get hk2 hlk
   rw [hps] at hlk
   obtain ⟨i1, i2⟩ := hio p root hlk
   refine back_io hn2 hW hm (fun hc => hnames r hc (List.mem_map.2 ⟨_, hm, rfl⟩)) hbox i1 i2 (fun k c hc => ?_)
   obtain ⟨kd, o1, q1, q2⟩ := hget k c hc
   have hmem : (kd, o1) ∈ ks ++ sg.io.flatten := List.mem_append_right _ q1
   rcases q2 with ⟨e, xs, rfl, rfl⟩ | ⟨x, rfl, hor⟩
   ·exact .inl ⟨o1, e, xs, rfl, hto _ hmem⟩
   ·exact .inr ⟨kd, x, rfl, (hto _ hmem).imp id fun hf => free_leaf hf hor (hleaf _ hmem)⟩
  | none =>
   rw [hx] at hp
   cases d with
   | none => simp [outPutO, lastPut] at hp
   | some d0 =>
    obtain ⟨i, k, o1, l, q1, q2, rfl, q4⟩ := outPut_last hp
    rw [Nat.zero_add]
    cases o1 with
    | zero => simp at q4
    | succ o1 =>
     have hi : i < ks.length := (List.getElem?_eq_some_iff.1 q1).1
     have hvi : vs[i]? = some (vs[i]'(by rw [l2]; exact hi)) := List.getElem?_eq_getElem _
     have hres := l3 i k (o1 + 1) l _ q1 q2 hvi
     obtain ⟨hlk, hmem⟩ := hkj i k (o1 + 1) l q1 q2
     obtain ⟨e, xs, rfl, g1, g2, g3⟩ := back_out (n := ks.length) (bs := bs) (hlt := hlt) (φ := φ) rfl hi hres (by rw [hlk]; exact hto _ hmem)
     simp only [Nat.succ_ne_zero, if_false, outRow] at q4
     cases q4
     refine ⟨⟨by rw [g3]; rfl, fun b hb => by rw [g3] at hb; cases hb⟩, fun k' c hc => ?_⟩
     cases k' with
     | succ k' => simp at hc
     | zero => simp at hc; subst hc; exact g2
 ·cases d with
  | none => simp [callUpd] at hd
  | some d1 =>
   have hd : d1 = d0 ∧ (outTV (outVs sg.res (outTL d1 0 ks (ls.take ks.length)))).getD .u = tv := by
    simp only [callUpd, hks, Option.some.injEq, Prod.mk.injEq] at hd
    exact hd
   obtain ⟨rfl, rfl⟩ := hd
   refine ⟨?_, fun t t' wt tv' ht he => ?_⟩
   ·obtain ⟨t1, t2⟩ := outTL_get (d := d1) (j := 0) l1
    refine outV_ok hres (by rw [hks]; exact t1) (by rw [l2, t1]) (fun j t hj => ?_)
    obtain ⟨k, o1, l, q1, q2, rfl⟩ := t2 j t hj
    have hi : j < ks.length := (List.getElem?_eq_some_iff.1 q1).1
    have hvi : vs[j]? = some (vs[j]'(by rw [l2]; exact hi)) := List.getElem?_eq_getElem _
    refine ⟨_, hvi, ?_⟩
    have hres := l3 j k o1 l _ q1 q2 hvi
    obtain ⟨hlk, hmem⟩ := hkj j k o1 l q1 q2
    cases o1 with
    | zero =>
     rw [if_pos rfl]
     exact ⟨hres.1, Sh.toS (by rw [hlk]; exact hto _ hmem) hres.2⟩
    | succ o1 =>
     rw [if_neg (by omega), Nat.zero_add]
     obtain ⟨e, xs, rfl, g1, _⟩ := back_out (n := ks.length) (bs := bs) (hlt := hlt) (φ := φ) rfl hi hres (by rw [hlk]; exact hto _ hmem)
     exact g1
   ·subst he
    have := hgr _ rfl
    rw [List.any_eq_false] at this
    exact this _ (List.mem_of_getElem? ht) (by simp [grdOn])

end
end Go.Proofs.Ythamiihdoicjkaa.Pv
