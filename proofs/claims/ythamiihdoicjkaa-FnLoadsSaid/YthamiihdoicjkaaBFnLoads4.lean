/- A part of the proof of the law FnLoads: its texts, one behind the other. -/
import Derived.Below
import Derived.Deep.Draws
import Derived.Deep.LoopGhost
import Derived.KernelRfl
import Derived.Laws.BitsLemmas
import Derived.Shelf.Abstract
import Derived.Shelf.SlSortCmp.Kit1
import Derived.Sort.Grow
import Derived.Sort.LotA
import Derived.Sort.WalkA
import Derived.Sort.WalkB12
import Derived.Sort.WalkB2
import Derived.Test.YthamiihdoicjkaaBFnLoads1
import Derived.Test.YthamiihdoicjkaaBFnLoads2
import Derived.Test.YthamiihdoicjkaaBFnLoads3
set_option linter.unusedVariables false
set_option linter.unusedSimpArgs false
namespace Go.Proofs.Ythamiihdoicjkaa.Pv
open Go
section
variable {E : Env} {s : St} {a : Act} {w w' : World} {ω ω1 : Nat → Option Tag} {φ φ1 : Nat → Nat → Option Value} {β : Nat → Option Nat}
variable {P : Program} {o : Oper} {g : Option (Nat × Bool)} {C : Ctx} {bs : List (Nat × Nat)} {rd : List Nat} {n : Nat}
theorem call_roots {hlt : ∀ r p, (r, p) ∈ bs → p < 4096} (h : Rel E s a w ω φ β) (hn1 : (bs.map (·.1)).Nodup) (hn2 : (bs.map (·.2)).Nodup) {rs : List (Nat × Root)}
  (hr : ∀ p' root, look rs p' = some root → ∃ r, (r, p') ∈ bs ∧ ∃ x, look s.r r = some x ∧ x.box = true ∧ root.box = true ∧ x.ls.length = root.ls.length ∧
     ∀ (i : Nat) (c : LC), root.ls[i]? = some c → ∃ c', x.ls[i]? = some c' ∧ ((c' = c ∧ (∀ t, c = .tl t → ∃ k x, t = .d k x) ∧ ∀ o e xs hole, c = .own o e xs hole → hole = none) ∨ ∃ e, c' = .tl .nil ∧ c = .tl (.d (.row e) [])))
  (φ0 : Nat → Nat → Option Value) (p : Nat) (root : Root) (hp : look rs p = some root) : boxOk w (callE E w ω β bs rd hlt).pin p root ∧
   ∀ (k : Nat) (c : LC), root.ls[k]? = some c → LCr ((callE E w ω β bs rd hlt).g w (callω0 bs ω) φ0) (callE E w ω β bs rd hlt).pin p k c := by
 obtain ⟨r, hm, x, hx, hxb, hrb, hlen, hcs⟩ := hr p root hp
 have hpin : (callE E w ω β bs rd hlt).pin p = β r := by show (rnOf bs p).bind β = _; rw [rnOf_mem hn2 hm]; rfl
 have hb := h.bx r x hx
 obtain ⟨b, hbr⟩ := Option.isSome_iff_exists.1 (show (β r).isSome = true by rw [← hb.1]; exact hxb)
 refine ⟨⟨by rw [hpin, hbr, hrb]; rfl, fun b' hb' => ?_⟩, fun k c hc => ?_⟩
 ·rw [hpin] at hb'
  obtain ⟨cs, t, fr, g1, g2, g3⟩ := hb.2 b' hb'
  exact ⟨cs, t, fr, g1, g2, by rw [g3, hlen]⟩
 ·have hl1 : locR (callE E w ω β bs rd hlt).pin p k = .cell b k := by simp [locR, hpin, hbr]
  have hl0 : locR β r k = .cell b k := by simp [locR, hbr]
  obtain ⟨c', hc', hcase⟩ := hcs k c hc
  have hlc := h.lc r x k c' hx hc'
  rcases hcase with ⟨rfl, htl, hho⟩ | ⟨e, rfl, rfl⟩
  ·cases c' with
   | own o1 e xs hole =>
    obtain ⟨ho1, how⟩ := hlc
    refine ⟨ho1, ?_⟩
    rw [hl0] at how
    rw [hl1]
    have hh : hole = none := hho o1 e xs hole rfl
    subst hh
    obtain ⟨o2, rfl⟩ : ∃ o2, o1 = o2 + 1 := ⟨o1 - 1, by omega⟩
    refine OW.move (G := E.g w ω φ) (G' := (callE E w ω β bs rd hlt).g w (callω0 bs ω) φ0) (ρ := (r, k)) (ρ' := (p, k)) (ℓ := .cell b k) (ℓ' := .cell b k) (fun b hb => ⟨callE_S hb, fun _ => rfl⟩) (fun b' l hbt => ?_) (fun _ _ _ => rfl) (fun b' y l hbt he => ?_) rfl how
    ·have hbt : ω b' = some (.own (r, k) l) := hbt
     show callω0 bs ω b' = _
     unfold callω0
     rw [hbt]
     simp only [pnOf_mem hn1 hm, Option.map_some]
     split <;> simp_all
    ·have hbt : ω b' = some (.own (r, k) l) := hbt
     cases he
     have := h.wr.bj r b hbr
     rw [hbt] at this; cases this
   | tl l =>
    obtain ⟨kd, y, rfl⟩ := htl l rfl
    obtain ⟨v, g1, g2, g3⟩ := hlc
    rw [hl0] at g1
    exact ⟨v, by rw [hl1]; exact g1, g2, Sh.mono (fun b hb => callE_S hb) (fun _ _ _ => rfl) _ _ _ g3⟩
  ·obtain ⟨v, g1, g2⟩ := hlc
   rw [hl0] at g1
   have : v = .slice none 0 0 := g2
   subst this
   exact ⟨_, by rw [hl1]; exact g1, rfl, nil_sh⟩

theorem run_call_fn {f : Operand} {c : Call} {fn : Nat} {F : Func} {caps : Array Value} (hop : o.op = .call c) (hcal : c.callee = .value f) (hf : a.eval f = .func (.func fn) #[] caps) (hF : P.funcs[fn]? = some F) (hfn : isFn F = true) :
  (execOp a.eval o).run P w = .ok (.enter fn (c.args.map a.eval ++ caps)) w := by
 unfold isFn at hfn
 simp only [Bool.and_eq_true, Bool.not_eq_true'] at hfn
 obtain ⟨h1, h2⟩ := hfn
 have h1' : ¬ F.body = none := by intro hb; rw [hb] at h1; cases h1
 have h2' : ¬ F.name = "runtime.NumGoroutine" := by simpa using h2
 simp [execOp, hop, resolve, hcal, hf, Deferred.ofValue, invoke, callFunc, hF, h2', h1']

theorem stCall_ok {GI : Glob} (hC : ∀ (fn : Nat) (ags : List Leaf) (k : K) (p : k.ty), C.call fn ags k = some p → FnOk GI C.P C.sig fn ags (leaves k p)) (E : Env) (hE : EnvOk GI E) :
  ∀ (s : St) (a : Act) (w : World) (ω : Nat → Option Tag) (φ : Nat → Nat → Option Value) (β : Nat → Option Nat) (g : Option (Nat × Bool)) (o : Oper) (c : Call) (st : Step),
  Rel E s a w ω φ β → Met a g → (∀ d, o.dst = some d → s.t.any (grdOn d) = false) → o.op = .call c → stCall C s g o.dst c = some st → StepOk E C.P s a w o st := by
 intro s a w ω φ β g o c st h hg hgr hop hst
 unfold stCall at hst
 split at hst
 ·rename_i f hcal
  split at hst
  ·rename_i fn caps rd0 hcallee
   split at hst
   ·rename_i sg F hsg hF
    split at hst
    ·rename_i ags bs rd hargs
     simp only at hst
     split at hst
     ·rename_i hcond
      obtain ⟨c1, c2, c3, c4, c5, c6, c7, c8, c9, c10, c11, c12⟩ := hcond
      cases hst
      intro p hp
      have hfn := hC fn _ _ p hp
      have hlt : ∀ r p', (r, p') ∈ bs → p' < 4096 := by
       intro r p' hm
       have := List.all_eq_true.1 c6 p' (List.mem_map.2 ⟨_, hm, rfl⟩)
       simpa using this
      have hbx : ∀ r p', (r, p') ∈ bs → ∃ x, look s.r r = some x ∧ x.box = true := by
       intro r p' hm
       have := List.all_eq_true.1 c9 _ hm
       simp only [isBox] at this
       split at this
       ·exact ⟨_, by assumption, this⟩
       ·cases this
      have hnot : ∀ r, r ∈ rd0 ++ rd → ¬ r ∈ bs.map (·.1) := by
       intro r hr hm
       have := List.all_eq_true.1 c10 r hr
       simp only [Bool.not_eq_true', List.elem_eq_mem, decide_eq_false_iff_not] at this
       exact this hm
      have hS : ∀ b, E.S w ω b → (callE E w ω β bs (rd0 ++ rd) hlt).S w (callω0 bs ω) b := fun b hb => callE_S hb
      obtain ⟨q1, rs, henter, hlen, hval, hroots⟩ := argsOf_ok h hS (G := (callE E w ω β bs (rd0 ++ rd) hlt).g w (callω0 bs ω) (fun _ _ => none)) ⟨rfl, rfl⟩ (pin := (callE E w ω β bs (rd0 ++ rd) hlt).pin) (cl := caps) hargs
       (fun r k b l' hr hb => callE_rd h (List.mem_append_right _ hr) (hnot r (List.mem_append_right _ hr)) hb (.inr ⟨k, l', rfl⟩)) (fun r b hr hb => callE_rd h (List.mem_append_right _ hr) (hnot r (List.mem_append_right _ hr)) hb (.inl rfl)) (fun r p' hm => by show (rnOf bs p').bind β = _; rw [rnOf_mem c5 hm]; rfl)
      obtain ⟨vsC, heval, hsize, hcap⟩ := calleeOf_ok h hg hS (G := (callE E w ω β bs (rd0 ++ rd) hlt).g w (callω0 bs ω) (fun _ _ => none)) ⟨rfl, rfl⟩ (pin := (callE E w ω β bs (rd0 ++ rd) hlt).pin) hcallee
       (fun r k b l' hr hb => callE_rd h (List.mem_append_left _ hr) (hnot r (List.mem_append_left _ hr)) hb (.inr ⟨k, l', rfl⟩)) (fun r b hr hb => callE_rd h (List.mem_append_left _ hr) (hnot r (List.mem_append_left _ hr)) hb (.inl rfl))
      have hvl : q1.length = c.args.size := by rw [hlen]; simp
      have hcalls := hfn sg F (q1, rs, caps) hsg hF henter (callE E w ω β bs (rd0 ++ rd) hlt) (fun _ _ => none) (c.args.map a.eval ++ vsC) ⟨(hE.now h.wr).2.1, (hE.now h.wr).1, fun b hb => by show callω0 bs ω b = none; unfold callω0; rw [(hE.now h.wr).2.2 b hb]⟩ (callE_wr h c4) rfl
       (fun p' b hp' => by
        obtain ⟨r, hr, _⟩ := Option.bind_eq_some_iff.1 hp'
        rw [← c2]
        exact List.mem_map.2 ⟨_, rnOf_some hr, rfl⟩)
       (fun p' hp' => by
        rw [← c2] at hp'
        obtain ⟨⟨r, p2⟩, hm, rfl⟩ := List.mem_map.1 hp'
        obtain ⟨x, hx, hxb⟩ := hbx r p2 hm
        show ((rnOf bs p2).bind β).isSome = true
        rw [rnOf_mem c5 hm]
        show (β r).isSome = true
        rw [← (h.bx r x hx).1]; exact hxb)
       (by simp [hvl, hsize])
       (fun i tv hi => by
        by_cases hlt' : i < q1.length
        ·rw [List.getElem?_append_left hlt'] at hi
         have hia : i < c.args.size := by rw [← hvl]; exact hlt'
         refine ⟨a.eval c.args[i], ?_, ?_⟩
         ·rw [Array.getElem?_append_left (by simpa using hia)]; simp [hia]
         ·refine hval i tv (tvOf s g c.args[i]) _ hi ?_ (tvOf_ok h hg _)
          simp [hia]
        ·have hlt2 : ¬ i < q1.length := hlt'
         rw [List.getElem?_append_right (Nat.le_of_not_lt hlt2), List.getElem?_map] at hi
         obtain ⟨lf, hlf, rfl⟩ := Option.map_eq_some_iff.1 hi
         obtain ⟨v, hv, hvr⟩ := hcap _ lf hlf
         exact ⟨v, by rw [Array.getElem?_append_right (by simp; omega)]; simpa [hvl] using hv, hvr⟩)
       (fun r root hr => call_roots h c4 c5 hroots _ r root hr)
      intro K Q hK
      unfold Oper.wp
      rw [run_call_fn hop hcal heval hF c1, Oper.upon_enter]
      refine Calls.mono hcalls fun e w' he => ?_
      obtain ⟨v, rfl, hpost⟩ := he
      refine hK _ _ (back_rel (d := o.dst) h hgr hbx c4 c5 c2 c3 (fun r hr hm => ?_) c7 (fun p' hp' => List.all_eq_true.1 c8 p' hp') ?_ ?_ hpost)
      ·have := List.all_eq_true.1 c12 r hr
       simp only [Bool.not_eq_true', List.elem_eq_mem, decide_eq_false_iff_not] at this
       exact this hm
      ·rw [Bool.or_eq_true] at c11
       rcases c11 with c11 | c11
       ·exact .inl (by simpa using c11)
       ·exact .inr fun p' hp' => List.all_eq_true.1 c11 p' hp'
      ·rw [kinds_leaves, tup_kinds]
       intro k hk
       obtain ⟨p', hp', rfl⟩ := List.mem_map.1 hk
       exact List.all_eq_true.1 c8 p' hp'
     ·cases hst
    ·cases hst
   ·cases hst
  ·cases hst
 ·cases hst

end
def encV : (k : K) → k.ty → Value
 | .int k, n => .int k n
 | .bool, b => .bool b
 | .str, s => .string s
 | _, _ => undef

theorem bare_sh {S : Nat → Prop} {w : World} : ∀ {k : K} {x : k.ty} {c : Nat → Option Value}, k.bare = true → (Sh S w k x c ↔ c 0 = some (encV k x))
 | .int _, _, _, _ => Iff.rfl
 | .bool, _, _, _ => Iff.rfl
 | .str, _, _, _ => Iff.rfl
 | .unit, _, _, h => by simp [K.bare] at h
 | .pair _ _, _, _, h => by simp [K.bare] at h
 | .row _, _, _, h => by simp [K.bare] at h
 | .clo _ _, _, _, h => by simp [K.bare] at h
 | .iptr _, _, _, h => by simp [K.bare] at h

theorem bare_width {k : K} (h : k.bare = true) : k.width = 1 := by cases k <;> simp [K.bare] at h <;> rfl

def RowAt (w : World) (S : Nat → Prop) (e : K) (xs : List e.ty) (a : Option Addr) (cap : Nat) : Prop :=
 (cap = 0 ∧ xs = []) ∨ ∃ b off cs t fr, a = some ⟨b, off, none⟩ ∧ xs.length ≤ cap ∧ ¬ S b ∧ w.heap[b]? = some (.cells cs t fr) ∧ Unfz fr cs.size ∧ off + cap ≤ cs.size ∧
  ∀ i (h : i < xs.length), cs[off + i]? = some (encV e xs[i])

structure RowBack (w w' : World) (e : K) (xs ys : List e.ty) (a : Option Addr) : Prop where
 len : ys.length = xs.length
 like : Like w w'
 size : w.heap.size ≤ w'.heap.size
 other : ∀ b, b < w.heap.size → (∀ off, a = some ⟨b, off, none⟩ → xs = []) → w'.heap[b]? = w.heap[b]?
 here : ∀ b off, a = some ⟨b, off, none⟩ → xs ≠ [] → ∃ cs cs' t fr, w.heap[b]? = some (.cells cs t fr) ∧ w'.heap[b]? = some (.cells cs' t fr) ∧ cs'.size = cs.size ∧ ∀ i (h : i < ys.length), cs'[off + i]? = some (encV e ys[i])

def InpOk (GI : Glob) (P : Program) (fn : Nat) (ags : List Leaf) (e : K) (xs ys : List e.ty) : Prop :=
 ∀ (F : Func) (q : List TV × List (Nat × Root) × List Leaf), P.funcs[fn]? = some F → enterP P 1 F.params.toList.tail [] [] ags = some q →
 ∀ (G : GW) (pin : Nat → Option Nat) (a : Option Addr) (cap : Nat) (args : Array Value), GI.ok G.w → (∀ b, G.S b → b < G.w.heap.size) → RowAt G.w G.S e xs a cap →
  args.size = (q.1 ++ q.2.2.map capTV).length → (∀ (i : Nat) (tv : TV), (q.1 ++ q.2.2.map capTV)[i]? = some tv → ∃ v, args[i]? = some v ∧ ∀ tmps, TVr (TLr G pin) tmps tv v) →
  Calls P fn (#[.slice a xs.length cap] ++ args) G.w fun ex w' => ex = .returned (.tuple #[]) ∧ RowBack G.w w' e xs ys a

section
variable {E : Env} {s : St} {a : Act} {w w' : World} {ω : Nat → Option Tag} {φ : Nat → Nat → Option Value} {β : Nat → Option Nat}
variable {P : Program} {o : Oper} {g : Option (Nat × Bool)} {C : Ctx}
theorem setHeap_get (w : World) (b : Nat) (x : Obj) (h : b < w.heap.size) (b' : Nat) : (w.heap.setIfInBounds b x)[b']? = if b' = b then some x else w.heap[b']? := by
 by_cases hb : b' = b
 ·subst hb; simp [h]
 ·rw [if_neg hb, Array.getElem?_setIfInBounds_ne (Ne.symm hb)]

theorem Rel.changed {r k : Nat} {root : Root} {e : K} {xs ys : List e.ty} {a1 : Option Addr} {cap : Nat} {od : Option Nat} (h : Rel E s a w ω φ β) (hr : look s.r r = some root) (hk : root.ls[k]? = some (.own 1 e xs none)) (he : e.bare = true)
  (hv : (E.g w ω φ).val (locR β r k) = some (.slice a1 xs.length cap)) (hb : RowBack w w' e xs ys a1) (hgr : ∀ d, od = some d → s.t.any (grdOn d) = false) :
  RelX E (s.app { put := [(r, some { root with ls := root.ls.set k (.own 1 e ys none) })], dst := od.map fun d => (d, .tup []) }) (a.put od (.tuple #[])) w' := by
 have hw1 := bare_width he
 obtain ⟨o0, ho0, how⟩ := lc_own (h.lc r root k _ hr hk)
 have ho0 : o0 = 0 := by omega
 subst ho0
 have how' := how
 simp only [OW] at how'
 obtain ⟨a2, len, cap2, g1, g2, g3⟩ := how'.resolve_left (by simp)
 rw [hv] at g1
 cases g1
 have hkl := (List.getElem?_eq_some_iff.1 hk).1
 -- the world with the row alone changed
 obtain ⟨w1, s1, s2, s3, s4, s5⟩ : ∃ w1 : World, w1.heap.size = w.heap.size ∧ Like w w1 ∧ (∀ b, ¬ (xs ≠ [] ∧ ∃ off, a1 = some ⟨b, off, none⟩) → w1.heap[b]? = w.heap[b]?) ∧ (∀ b, b < w1.heap.size → w'.heap[b]? = w1.heap[b]?) ∧ Like w1 w' := by
  by_cases hxs : xs = []
  ·refine ⟨w, rfl, Like.refl _, fun _ _ => rfl, fun b hb' => hb.other b hb' fun _ _ => hxs, hb.like⟩
  ·rcases g3 with ⟨_, g3⟩ | ⟨b, off, cs, t, fr, q1, q2, q3, q4, q5, q6, q7⟩
   ·exact absurd g3 hxs
   ·obtain ⟨cs0, cs', t', fr', p1, p2, p3, p4⟩ := hb.here b off q1 hxs
    have hlt : b < w.heap.size := by
     rcases Nat.lt_or_ge b w.heap.size with h' | h'
     ·exact h'
     ·rw [Array.getElem?_eq_none h'] at p1; cases p1
    refine ⟨{ w with heap := w.heap.setIfInBounds b (.cells cs' t' fr') }, by simp, ⟨rfl, rfl, rfl⟩, fun b' hb' => ?_, fun b' hb' => ?_, hb.like⟩
    ·show (w.heap.setIfInBounds b _)[b']? = _
     rw [setHeap_get w b _ hlt, if_neg]
     rintro rfl
     exact hb' ⟨hxs, off, q1⟩
    ·have hb' : b' < w.heap.size := by simpa using hb'
     show _ = (w.heap.setIfInBounds b _)[b']?
     rw [setHeap_get w b _ hlt]
     split
     ·rename_i he'; subst he'; exact p2
     ·rename_i hne
      exact hb.other b' hb' fun off' ho' => by rw [q1] at ho'; cases ho'; exact absurd rfl hne
 let X : Nat → Prop := fun b => xs ≠ [] ∧ ∃ off, a1 = some ⟨b, off, none⟩
 have hX : ∀ b, X b → ω b = some (.own (r, k) (locR β r k)) := by
  rintro b ⟨hxs, off, ho⟩
  rcases g3 with ⟨_, g3⟩ | ⟨b', off', cs, t, fr, q1, q2, q3, _⟩
  ·exact absurd g3 hxs
  ·rw [q1] at ho; cases ho; exact q3
 have hwr : Writes w w1 ω ω (fun _ => False) X := ⟨s1, fun b hb => s3 b hb, fun b hb hn => (by rw [hX b hb] at hn; cases hn), fun _ _ => rfl, s2⟩
 have hbx : ∀ r' b', β r' = some b' → ¬ X b' := fun r' b' hb' hx => by
  have := h.wr.bj r' b' hb'
  rw [hX b' hx] at this; cases this
 have hval : ∀ r' k', (E.g w1 ω φ).val (locR β r' k') = (E.g w ω φ).val (locR β r' k') := by
  intro r' k'
  unfold locR
  cases hb' : β r' with
  | none => rfl
  | some b' => simp only [GW.val, Env.g, cel, World.cell?, s3 b' (hbx r' b' hb')]
 have hlast : ∀ m, lastPut [(r, some { root with ls := root.ls.set k (.own 1 e ys none) })] m = if r = m then some (some { root with ls := root.ls.set k (.own 1 e ys none) }) else none := by
  intro m; simp only [lastPut]
 have hcells : ∀ b off, a1 = some ⟨b, off, none⟩ → xs ≠ [] → ∃ cs' t fr, w1.heap[b]? = some (.cells cs' t fr) ∧ (∃ cs, w.heap[b]? = some (.cells cs t fr) ∧ cs'.size = cs.size) ∧ ∀ i (h : i < ys.length), cs'[off + i]? = some (encV e ys[i]) := by
  intro b off ha hxs
  obtain ⟨cs0, cs', t', fr', p1, p2, p3, p4⟩ := hb.here b off ha hxs
  have hlt : b < w1.heap.size := by
   rw [s1]
   rcases Nat.lt_or_ge b w.heap.size with h' | h'
   ·exact h'
   ·rw [Array.getElem?_eq_none h'] at p1; cases p1
  exact ⟨cs', t', fr', by rw [← s4 b hlt]; exact p2, ⟨cs0, p1, p3⟩, p4⟩
 have key := Rel.write (φ' := φ) (β' := β) (u := { put := [(r, some { root with ls := root.ls.set k (.own 1 e ys none) })] }) (v := undef) h hwr h.wr.pin (fun _ _ => rfl) (fun r' k' _ => hval r' k') h.wr.bj (fun b t hb' => by rw [s1]; exact h.wr.bd b t hb')
  (fun r' root' hr' hp' => by
   have hne : r ≠ r' := fun he => by rw [hlast, if_pos he] at hp'; cases hp'
   refine ⟨rfl, hbx r', fun k' _ => ⟨rfl, fun hf => hf, fun b l hbt hx => ?_⟩⟩
   rw [hX b hx] at hbt
   cases hbt
   exact hne rfl)
  (fun r' root' hp' => by
   rw [hlast] at hp'
   split at hp'
   case isFalse => cases hp'
   rename_i he
   subst he
   cases hp'
   have hbox := h.bx r root hr
   refine ⟨⟨hbox.1, fun b' hb' => ?_⟩, fun k' c hc => ?_⟩
   ·obtain ⟨cs, t, fr, h1, h2, h3⟩ := hbox.2 b' hb'
    exact ⟨cs, t, fr, by rw [s3 b' (hbx r b' hb')]; exact h1, h2, by simp [h3]⟩
   ·by_cases hkk : k = k'
    ·subst hkk
     rw [List.getElem?_set_self hkl] at hc
     cases hc
     refine ⟨Nat.le_refl 1, ?_⟩
     simp only [OW]
     refine .inr ⟨a1, ys.length, cap, by rw [hval, hb.len]; exact hv, rfl, ?_⟩
     rcases g3 with ⟨g3, g4⟩ | ⟨b, off, cs, t, fr, q1, q2, q3, q4, q5, q6, q7⟩
     ·left
      refine ⟨g3, List.eq_nil_of_length_eq_zero ?_⟩
      rw [hb.len, g4]; rfl
     ·right
      by_cases hxs : xs = []
      ·have hys : ys = [] := List.eq_nil_of_length_eq_zero (by rw [hb.len, hxs]; rfl)
       subst hys
       refine ⟨b, off, cs, t, fr, q1, by rw [← hb.len] at q2; exact q2, q3, (s3 b (fun hx => hx.1 hxs)).trans q4, q5, q6, fun i hi => absurd hi (Nat.not_lt_zero i)⟩
      ·obtain ⟨cs', t', fr', p1, ⟨cs0, p2, p3⟩, p4⟩ := hcells b off q1 hxs
       have q4 : w.heap[b]? = some (.cells cs t fr) := q4
       rw [q4] at p2
       cases p2
       refine ⟨b, off, cs', t, fr, q1, by rw [hb.len]; exact q2, q3, p1, by rw [p3]; exact q5, by rw [p3]; exact q6, fun i hi => ?_⟩
       rw [OW_flat (fun e' he' => by subst he'; simp [K.bare] at he) (by cases e <;> simp [K.bare] at he <;> rfl), bare_sh he]
       show cel w1 b (off + i * e.width + 0) = _
       rw [hw1, Nat.mul_one, Nat.add_zero]
       simp only [cel, World.cell?, p1]
       exact p4 i hi
    ·rw [List.getElem?_set_ne hkk] at hc
     have := LCr_write (E := E) (φ' := φ) (β' := β) hwr (q := {}) (fun _ _ => rfl) (fun r' k' _ => hval r' k') (r := r) (k := k') (c := c) rfl (hval r k') (fun hf => hf) (fun b l hbt hx => by
      rw [hX b hx] at hbt
      cases hbt
      exact hkk rfl) (h.lc r root k' c hr hc)
     have hkn : c.kill {} = c := by cases c <;> simp [LC.kill, TL.kill_nil]
     rw [hkn] at this
     exact this)
  (fun d tv hd => by cases hd)
 have hgrow : Grows w1 w' ω ω (fun _ => False) := ⟨by rw [s1]; exact hb.size, s4, fun _ _ _ => rfl, s5⟩
 have hany : ∀ d, od = some d → (s.app { put := [(r, some { root with ls := root.ls.set k (.own 1 e ys none) })] }).t.any (grdOn d) = false := fun d hd => hgr d hd
 have k2 := Rel.grow (φ' := φ) (β' := β) (u := { dst := od.map fun d => (d, .tup []) }) (v := .tuple #[]) key hgrow key.wr.pin (fun _ _ => ⟨rfl, fun _ => rfl⟩) key.wr.bj (fun b t hb' => Nat.lt_of_lt_of_le (h.wr.bd b t hb') hb.size) (fun _ _ _ _ _ hf => hf)
  (fun r' root' _ hq => by simp at hq) (fun r' root' hp' => by simp [lastPut] at hp')
  (fun d tv hd => by
   cases od with
   | none => cases hd
   | some d' =>
    simp only [Option.map_some, Option.some.injEq, Prod.mk.injEq] at hd
    obtain ⟨rfl, rfl⟩ := hd
    exact ⟨⟨#[], rfl, rfl, fun j p hj => by simp at hj⟩, hany d' rfl⟩)
 refine ⟨ω, φ, β, ?_⟩
 cases od with
 | none => exact k2
 | some d => exact k2

theorem stInp_ok {GI : Glob} (hE : EnvOk GI E) (hI : ∀ (fn : Nat) (ip : List Leaf → (e : K) → List e.ty → Option (List e.ty)) (ags : List Leaf) (e : K) (xs ys : List e.ty), C.inp fn = some ip → ip ags e xs = some ys → InpOk GI C.P fn ags e xs ys) {c : Call} {st : Step} (h : Rel E s a w ω φ β) (hg : Met a g)
  (hgr : ∀ d, o.dst = some d → s.t.any (grdOn d) = false) (hop : o.op = .call c) (hst : stInp C s g o.dst c = some st) : StepOk E C.P s a w o st := by
 unfold stInp at hst
 split at hst
 case h_2 => cases hst
 rename_i f x xs hcal hargs
 split at hst
 case h_2 => cases hst
 rename_i fn r k hf hx
 split at hst
 case h_2 => cases hst
 rename_i ip F root e ys hip hF hroot hrow
 split at hst
 case h_2 => cases hst
 rename_i ags rd haof
 split at hst
 case isFalse => cases hst
 rename_i hcond
 obtain ⟨c1, c2, c3⟩ := hcond
 cases hst
 intro zs hzs
 have hin := hI fn ip ags e ys zs hip hzs
 have hk : root.ls[k]? = some (.own 1 e ys none) := by
  unfold rowAt at hrow
  rw [hroot] at hrow
  exact hrow
 have hxv := tlOf_ok h hg x
 rw [hx] at hxv
 have hfv := tvOf_ok h hg f
 rw [hf] at hfv
 obtain ⟨caps, hfe, hcs, _⟩ : ∃ vs, a.eval f = .func (.func fn) #[] vs ∧ vs.size = 0 ∧ True := by
  obtain ⟨vs, q1, q2, _⟩ := hfv
  exact ⟨vs, q1, q2, trivial⟩
 obtain rfl : caps = #[] := Array.eq_empty_of_size_eq_zero hcs
 have hval : (E.g w ω φ).val (locR β r k) = some (a.eval x) := hxv
 obtain ⟨o0, ho0, how⟩ := lc_own (h.lc r root k _ hroot hk)
 obtain rfl : o0 = 0 := by omega
 have how' := how
 simp only [OW] at how'
 obtain ⟨a1, len, cap, g1, g2, g3⟩ := how'.resolve_left (by simp)
 subst g2
 rw [hval] at g1
 have hxe : a.eval x = .slice a1 ys.length cap := by simpa using g1
 -- what the callee may read
 let S' : Nat → Prop := fun b => E.S w ω b ∨ ∃ r', r' ∈ rd ∧ ∃ t, ω b = some t ∧ (t = .box r' ∨ ∃ k l, t = .own (r', k) l)
 have hS' : ∀ b, E.S w ω b → S' b := fun b hb => .inl hb
 obtain ⟨q1, rs, henter, hlen, hvals, _⟩ := argsOf_ok h hS' (G := ⟨w, ω, φ, S'⟩) ⟨rfl, rfl⟩ (pin := β) (cl := []) haof
  (fun r' k' b l' hr' hb => .inr ⟨r', hr', _, hb, .inr ⟨k', l', rfl⟩⟩) (fun r' b hr' hb => .inr ⟨r', hr', _, hb, .inl rfl⟩) (fun r' p' hm => by cases hm)
 rw [List.append_nil] at henter
 have hrow' : RowAt w S' e ys a1 cap := by
  rcases g3 with g3 | ⟨b, off, cs, t, fr, p1, p2, p3, p4, p5, p6, p7⟩
  ·exact .inl g3
  ·have hw1 := bare_width c2
   refine .inr ⟨b, off, cs, t, fr, p1, p2, ?_, p4, p5, by rw [hw1, Nat.mul_one] at p6; exact p6, fun i hi => ?_⟩
   ·rintro (hS | ⟨r', hr', t', ht', hcase⟩)
    ·have hn : ω b = none := hS.2.1
     have p3 : ω b = some (.own (r, k) (locR β r k)) := p3
     rw [p3] at hn; cases hn
    ·have p3 : ω b = some (.own (r, k) (locR β r k)) := p3
     rw [p3] at ht'
     cases ht'
     rcases hcase with hcase | ⟨k', l', hcase⟩
     ·cases hcase
     ·cases hcase
      rw [List.elem_eq_mem] at c3
      simp [hr'] at c3
   ·have := p7 i hi
    rw [OW_flat (fun e' he' => by subst he'; simp [K.bare] at c2) (by cases e <;> simp [K.bare] at c2 <;> rfl), bare_sh c2] at this
    have this : cel w b (off + i * e.width + 0) = _ := this
    rw [hw1, Nat.mul_one, Nat.add_zero] at this
    have p4 : w.heap[b]? = some (.cells cs t fr) := p4
    simp only [cel, World.cell?, p4] at this
    exact this
 have hcalls := hin F (q1, rs, []) hF henter ⟨w, ω, φ, S'⟩ β a1 cap (xs.map a.eval).toArray (hE.now h.wr).1 (fun b hb => by
   rcases hb with hb | ⟨_, _, t, ht, _⟩
   ·exact hb.1
   ·exact h.wr.bd b t ht) hrow' (by simp [hlen]) (fun i tv hi => by
   simp only [List.map_nil, List.append_nil] at hi
   have hil : i < xs.length := by
    have := (List.getElem?_eq_some_iff.1 hi).1
    rw [hlen] at this; simpa using this
   refine ⟨a.eval xs[i], by simp [hil], fun tmps => ?_⟩
   exact hvals i tv (tvOf s g xs[i]) _ hi (by simp [hil]) (tvOf_ok h hg _) tmps)
 intro K Q hK
 have hca : c.args.map a.eval ++ (#[] : Array Value) = #[Value.slice a1 ys.length cap] ++ (xs.map a.eval).toArray := by
  have : c.args = (x :: xs).toArray := by rw [← hargs]
  rw [this]
  simp [hxe]
 unfold Oper.wp
 rw [run_call_fn hop hcal hfe hF c1, Oper.upon_enter, hca]
 refine Calls.mono hcalls fun ex w' he => ?_
 obtain ⟨rfl, hback⟩ := he
 refine hK _ _ ?_
 have hres := Rel.changed (od := o.dst) h hroot hk c2 (by rw [hval, hxe]) hback hgr
 cases hd : o.dst with
 | none => rw [hd] at hres; exact hres
 | some d => rw [hd] at hres; exact hres

end
def NewOk (GI : Glob) (P : Program) (fn : Nat) (ags ls : List Leaf) : Prop :=
 ∀ (F : Func) (q : List TV × List (Nat × Root) × List Leaf), P.funcs[fn]? = some F → enterP P 0 F.params.toList [] [] ags = some q →
 ∀ (G : GW) (pin : Nat → Option Nat) (args : Array Value), GI.ok G.w → (∀ b, G.S b → b < G.w.heap.size) → args.size = (q.1 ++ q.2.2.map capTV).length →
  (∀ (i : Nat) (tv : TV), (q.1 ++ q.2.2.map capTV)[i]? = some tv → ∃ v, args[i]? = some v ∧ ∀ tmps, TVr (TLr G pin) tmps tv v) →
  Calls P fn args G.w fun ex w' => ∃ (cs : Array Value) (t : TypeId), ex = .returned (.pointer (some ⟨G.w.heap.size, 0, none⟩)) ∧ Like G.w w' ∧ w'.heap.size = G.w.heap.size + 1 ∧
   (∀ b, b < G.w.heap.size → w'.heap[b]? = G.w.heap[b]?) ∧ w'.heap[G.w.heap.size]? = some (.cells cs t) ∧ cs.size = ls.length ∧
   ∀ (j : Nat) (l : Leaf), ls[j]? = some l → ∃ v, cs[j]? = some v ∧ l.k.isLeaf = true ∧ Sh G.S G.w l.k l.x (one v)

theorem dl_into (rs : List (Nat × Root)) : ∀ (ls : List Leaf) (i : Nat) (ks : List K), intoBoxAll rs i ks (ls.map Leaf.tl) = some (ls.map fun l => LC.tl l.tl, [])
 | [], _, _ => rfl
 | l :: ls, i, ks => by
  simp only [List.map_cons, intoBoxAll, dl_into rs ls]
  rfl

section
variable {E : Env} {s : St} {a : Act} {w w' : World} {ω : Nat → Option Tag} {φ : Nat → Nat → Option Value} {β : Nat → Option Nat}
variable {P : Program} {o : Oper} {g : Option (Nat × Bool)} {C : Ctx}
theorem stNew_ok {GI : Glob} (hE : EnvOk GI E) (hN : ∀ (fn : Nat) (nw : List Leaf → Option (List Leaf)) (ags ls : List Leaf), C.new fn = some nw → nw ags = some ls → NewOk GI C.P fn ags ls) {c : Call} {st : Step} (h : Rel E s a w ω φ β) (hg : Met a g)
  (hgr : ∀ d, o.dst = some d → s.t.any (grdOn d) = false) (hnp : ∀ d, o.dst = some d → E.pin d = none) (hop : o.op = .call c) (hst : stNew C s g o.dst c = some st) : StepOk E C.P s a w o st := by
 unfold stNew at hst
 split at hst
 case h_2 => cases hst
 rename_i d f hd hcal
 split at hst
 case h_2 => cases hst
 rename_i fn hf
 split at hst
 case h_2 => cases hst
 rename_i nw F hnw hF
 split at hst
 case h_2 => cases hst
 rename_i ags haof
 split at hst
 case h_2 => cases hst
 rename_i ls hls
 split at hst
 case isFalse => cases hst
 rename_i c1
 cases hst
 have hin := hN fn nw ags ls hnw hls
 have hfv := tvOf_ok h hg f
 rw [hf] at hfv
 obtain ⟨caps, hfe, hcs, _⟩ : ∃ vs, a.eval f = .func (.func fn) #[] vs ∧ vs.size = 0 ∧ True := by
  obtain ⟨vs, q1, q2, _⟩ := hfv
  exact ⟨vs, q1, q2, trivial⟩
 obtain rfl : caps = #[] := Array.eq_empty_of_size_eq_zero hcs
 let S' : Nat → Prop := E.S w ω
 have hS' : ∀ b, E.S w ω b → S' b := fun b hb => hb
 obtain ⟨q1, rs, henter, hlen, hvals, _⟩ := argsOf_ok h hS' (G := ⟨w, ω, φ, S'⟩) ⟨rfl, rfl⟩ (pin := β) (cl := []) haof
  (fun r' k' b l' hr' hb => by cases hr') (fun r' b hr' hb => by cases hr') (fun r' p' hm => by cases hm)
 rw [List.append_nil] at henter
 have hcalls := hin F (q1, rs, []) hF henter ⟨w, ω, φ, S'⟩ β (c.args.map a.eval) (hE.now h.wr).1 (fun b hb => hb.1) (by simp [hlen]) (fun i tv hi => by
   simp only [List.map_nil, List.append_nil] at hi
   have hil : i < c.args.size := by
    have := (List.getElem?_eq_some_iff.1 hi).1
    rw [hlen] at this; simpa using this
   refine ⟨a.eval c.args[i], by simp [hil], fun tmps => ?_⟩
   exact hvals i tv (tvOf s g c.args[i]) _ hi (by simp [hil]) (tvOf_ok h hg _) tmps)
 intro K Q hK
 unfold Oper.wp
 rw [run_call_fn hop hcal hfe hF c1, Oper.upon_enter, Array.append_empty]
 refine Calls.mono hcalls fun ex w' he => ?_
 obtain ⟨cs, t, rfl, hio, hsz, hold, hnew, hcsz, hcells⟩ := he
 refine hK _ _ ?_
 rw [hd]
 refine Rel.box (ms := []) (ks := []) (ls := ls.map Leaf.tl) h (hnp d hd) (dl_into s.r ls 0 []) (by simp) (by simp) ?_ (hgr d hd) hio ⟨by rw [List.length_map]; exact hcsz, fun j l hj => ?_⟩ hsz hold hnew
 ·simp only [List.map_nil, List.nil_append, Root.kill, List.map_map]
  congr 5
 ·rw [List.getElem?_map] at hj
  obtain ⟨l', hl', rfl⟩ := Option.map_eq_some_iff.1 hj
  obtain ⟨v, hv, hk, hs⟩ := hcells j l' hl'
  exact ⟨v, hv, hk, hs⟩

theorem callOp_ok {GI : Glob} (hC : ∀ (fn : Nat) (ags : List Leaf) (k : K) (p : k.ty), C.call fn ags k = some p → FnOk GI C.P C.sig fn ags (leaves k p))
  (hI : ∀ (fn : Nat) (ip : List Leaf → (e : K) → List e.ty → Option (List e.ty)) (ags : List Leaf) (e : K) (xs ys : List e.ty), C.inp fn = some ip → ip ags e xs = some ys → InpOk GI C.P fn ags e xs ys)
  (hN : ∀ (fn : Nat) (nw : List Leaf → Option (List Leaf)) (ags ls : List Leaf), C.new fn = some nw → nw ags = some ls → NewOk GI C.P fn ags ls) (E : Env) (hE : EnvOk GI E) : CallsOk E C := by
 intro s a w ω φ β g o c st h hg hgr hnp hop hst
 unfold callOp at hst
 split at hst
 ·rename_i st' h1
  cases hst
  exact stNew_ok hE hN h hg hgr hnp hop h1
 ·split at hst
  ·rename_i st' h1
   cases hst
   exact stInp_ok hE hI h hg hgr hop h1
  ·exact stCall_ok hC E hE s a w ω φ β g o c st h hg hgr hop hst

end
theorem castL_eq {k : K} {ls : List Leaf} {p : k.ty} (h : castL k ls = some p) : leaves k p = ls := by
 unfold castL at h
 split at h
 ·rename_i x hx
  cases h
  have := ofL_eq _ _ _ _ hx
  rw [List.append_nil] at this
  exact this.symm
 ·cases h

theorem pcall_ok {GI : Glob} (L : Lib) (hmo : L.P.follows .mixedOrders = true) (hext : ∀ f ags r, L.ext f ags = some (some r) → FnOk GI L.P L.sig f ags r)
  (hinp : ∀ (fn : Nat) (ip : List Leaf → (e : K) → List e.ty → Option (List e.ty)) (ags : List Leaf) (e : K) (xs ys : List e.ty), L.inp fn = some ip → ip ags e xs = some ys → InpOk GI L.P fn ags e xs ys)
  (hnew : ∀ (fn : Nat) (nw : List Leaf → Option (List Leaf)) (ags ls : List Leaf), L.new fn = some nw → nw ags = some ls → NewOk GI L.P fn ags ls) : ∀ (n f : Nat) (ags r : List Leaf), pcall L n f ags = some r → FnOk GI L.P L.sig f ags r
 | 0, _, _, _, h => by cases h
 | n + 1, f, ags, r, h => by
  simp only [pcall] at h
  split at h
  ·rename_i r' hx
   subst h
   exact hext f ags r hx
  ·refine runF_ok (C := ⟨L.P, L.sig, fun f ags k => bnd (pcall L n f ags) fun ls => castL k ls, L.inp, L.new, L.flt f, []⟩) (fun E => callOp_ok (fun fn ags k p hp => ?_) hinp hnew E) hmo h
   have hp : bnd (pcall L n fn ags) (fun ls => castL k ls) = some p := hp
   unfold bnd at hp
   obtain ⟨ls, h1, h2⟩ := Option.bind_eq_some_iff.1 hp
   rw [castL_eq h2]
   exact pcall_ok L hmo hext hinp hnew n fn ags ls h1

end Go.Proofs.Ythamiihdoicjkaa.Pv
namespace Go.Proofs.Ythamiihdoicjkaa.Pv
open Go Go.RowKit
theorem law_call {GI : Glob} {P : Program} {sig : Nat → Option Sig} {fn : Nat} {ags : List Leaf} (h : FnOk GI P sig fn ags [⟨.bool, true⟩]) {sg : Sig} {F : Func} {q : List TV × List (Nat × Root) × List Leaf} (hsg : sig fn = some sg) (hF : P.funcs[fn]? = some F)
  (hq : enterP P 0 F.params.toList sg.ptr sg.io ags = some q) (hp : ptrs 0 sg.ptr = []) (hres : sg.res = [(false, [(.bool, 0)])]) (hqr : q.2.1 = []) {w : World} (hok : GI.ok w) (hn : GI.n ≤ w.heap.size) {args : Array Value}
  (hsz : args.size = (q.1 ++ q.2.2.map capTV).length)
  (ha : ∀ (i : Nat) (tv : TV), (q.1 ++ q.2.2.map capTV)[i]? = some tv → ∃ v, args[i]? = some v ∧ ∀ tmps, TVr (TLr ⟨w, fun _ => none, fun _ _ => none, fun b => b < w.heap.size ∧ (none : Option Tag) = none ∧ (True ∨ w.heap.size ≤ b ∨ (none : Option Tag) ≠ none)⟩ (fun _ => none)) tmps tv v) :
  Calls P fn args w fun e w' => e = .returned (.bool true) ∧ Below w.heap.size w w' := by
 let E : Env := ⟨w.heap.size, w, fun _ => none, fun _ => True, fun _ => none, fun r b hr => by cases hr⟩
 have := h sg F q hsg hF hq E (fun _ _ => none) args ⟨hn, hok, fun _ _ => rfl⟩ ⟨fun r b hr => (by cases hr), fun b t ht => (by cases ht), fun b _ _ => ⟨rfl, rfl⟩, Nat.le_refl _, fun r b hr => (by cases hr), Like.refl w⟩ rfl
  (fun r b hr => (by cases hr)) (fun r hr => by rw [hp] at hr; cases hr) hsz ha (fun r root hr => by rw [hqr] at hr; simp [look] at hr)
 refine Calls.mono this fun e w' he => ?_
 obtain ⟨v, rfl, ω, φ, vs, hw, hv, hl, _⟩ := he
 refine ⟨?_, hw.io.1, hw.io.2.1, hw.io.2.2, hw.bs, fun b hb => (hw.old b hb rfl).2⟩
 rw [hres] at hl hv
 obtain ⟨_, hl2, hl3⟩ := hl
 cases vs with
 | nil => simp at hl2
 | cons x xs =>
  cases xs with
  | cons y ys => simp at hl2
  | nil =>
   have := hl3 0 .bool 0 ⟨.bool, true⟩ x rfl rfl rfl
   have hx : x = .bool true := bool_of this.2
   rw [hv, hx]; rfl

end Go.Proofs.Ythamiihdoicjkaa.Pv
namespace Go.Proofs.Ythamiihdoicjkaa.Pv
open Go Go.Proofs
def Evt (p : Nat → Prop) : Prop := ∃ N, ∀ n, N ≤ n → p n
theorem Evt.now {p : Nat → Prop} (h : ∀ n, p n) : Evt p := ⟨0, fun n _ => h n⟩
theorem Evt.mono {p q : Nat → Prop} (h : Evt p) (k : ∀ n, p n → q n) : Evt q := h.imp fun _ h n hn => k n (h n hn)
theorem Evt.and {p q : Nat → Prop} (h : Evt p) (k : Evt q) : Evt fun n => p n ∧ q n := by
 obtain ⟨N, h⟩ := h; obtain ⟨M, k⟩ := k
 exact ⟨max N M, fun n hn => ⟨h n (by omega), k n (by omega)⟩⟩
theorem Evt.succ {p : Nat → Prop} (h : Evt fun n => p (n + 1)) : Evt p := by
 obtain ⟨N, h⟩ := h
 exact ⟨N + 1, fun n hn => by obtain ⟨m, rfl⟩ : ∃ m, n = m + 1 := ⟨n - 1, by omega⟩; exact h m (by omega)⟩
theorem Evt.ge (k : Nat) : Evt fun n => k ≤ n := ⟨k, fun _ h => h⟩
theorem Evt.all {α : Type} {p : α → Nat → Prop} : ∀ {l : List α}, (∀ x ∈ l, Evt (p x)) → Evt fun n => ∀ x ∈ l, p x n
 | [], _ => .now fun _ x hx => by cases hx
 | y :: l, h => ((h y (List.mem_cons_self ..)).and (Evt.all fun x hx => h x (List.mem_cons_of_mem _ hx))).mono fun n hn x hx => by
  rcases List.mem_cons.1 hx with rfl | hx
  ·exact hn.1
  ·exact hn.2 x hx

theorem ofL_leaves : ∀ (k : K) (x : k.ty) (ls : List Leaf), ofL k (leaves k x ++ ls) = some (x, ls)
 | .unit, _, _ => rfl
 | .pair a b, x, ls => by
  simp only [leaves, List.append_assoc, ofL]
  rw [ofL_leaves a]
  simp only [Option.bind_some]
  rw [ofL_leaves b]
  rfl
 | .int _, x, ls | .bool, x, ls | .str, x, ls | .row _, x, ls | .clo _ _, x, ls | .iptr _, x, ls => by simp [leaves, ofL, castTo]

theorem castL_leaves (k : K) (x : k.ty) : castL k (leaves k x) = some x := by
 have := ofL_leaves k x []
 rw [List.append_nil] at this
 unfold castL
 rw [this]

theorem pc_of {n f : Nat} {ls : List Leaf} {k : K} {x : k.ty} (h : pcall L n f ls = some (leaves k x)) : pc L n f ls k = some x := by
 unfold pc bnd
 rw [h]
 exact castL_leaves k x

theorem cnd_t {α : Type} {x y : α} : cnd true x y = x := rfl
theorem cnd_f {α : Type} {x y : α} : cnd false x y = y := rfl
theorem bnd_s {α β : Type} {a : α} {f : α → Option β} : bnd (some a) f = f a := rfl
theorem must_of {b : Bool} (h : b = true) : must b = some () := by subst h; rfl

theorem wrap64_eq {n : Int} (h0 : -9223372036854775808 ≤ n) (h1 : n < 9223372036854775808) : IntKind.i64.wrap n = n := by
 rw [IntKind.wrap_i64]
 omega
theorem iadd_eq {a b : Int} (h0 : -9223372036854775808 ≤ a + b) (h1 : a + b < 9223372036854775808) : iadd .i64 a b = a + b := wrap64_eq h0 h1

section
variable {α : Type} {xs : List α} {i : Nat}
theorem row_in (h : i < xs.length) : inB (i : Int) (rlen xs) = true := by simp [inB, rlen]; omega
theorem row_lt (h : i < xs.length) : ilt (i : Int) (rlen xs) = true := by simp [ilt, rlen]; omega
theorem row_end : ilt (xs.length : Int) (rlen xs) = false := by simp [ilt, rlen]
theorem row_get {d : α} (h : i < xs.length) : rget xs (i : Int) d = xs[i] := by simp [rget, h]
end
theorem imul_eq {a b : Int} (h0 : -9223372036854775808 ≤ a * b) (h1 : a * b < 9223372036854775808) : imul .i64 a b = a * b := wrap64_eq h0 h1
theorem isub_eq {a b : Int} (h0 : -9223372036854775808 ≤ a - b) (h1 : a - b < 9223372036854775808) : isub .i64 a b = a - b := wrap64_eq h0 h1
theorem irem_eq {a b : Int} (h0 : 0 ≤ a) (hb : 0 < b) : irem a b = a % b := by unfold irem; rw [Int.tmod_eq_emod_of_nonneg h0]
theorem iquo_eq {a b : Int} (h0 : 0 ≤ a) (h1 : a < 9223372036854775808) (hb : 0 < b) : iquo .i64 a b = a / b := by
 unfold iquo
 rw [Int.tdiv_eq_ediv_of_nonneg h0]
 have h2 : 0 ≤ a / b := Int.ediv_nonneg h0 (by omega)
 have h3 : a / b ≤ a := Int.ediv_le_self _ h0
 exact wrap64_eq (by omega) (by omega)
theorem ine_self (a : Int) : ine a a = false := by unfold ine; simp
theorem sel_t {x y : Bool} : sel true x y = x := rfl
theorem sel_f {x y : Bool} : sel false x y = y := rfl
theorem sel_and {x y : Bool} : sel x y false = (x && y) := by cases x <;> rfl
theorem bnot_t : bnot true = false := rfl
theorem bnot_f : bnot false = true := rfl
theorem ilt_t {a b : Int} (h : a < b) : ilt a b = true := decide_eq_true h
theorem ilt_f {a b : Int} (h : ¬ a < b) : ilt a b = false := decide_eq_false h
theorem ile_t {a b : Int} (h : a ≤ b) : ile a b = true := decide_eq_true h
theorem ile_f {a b : Int} (h : ¬ a ≤ b) : ile a b = false := decide_eq_false h
theorem igt_t {a b : Int} (h : b < a) : igt a b = true := decide_eq_true h
theorem igt_f {a b : Int} (h : ¬ b < a) : igt a b = false := decide_eq_false h
theorem ieq_t {a b : Int} (h : a = b) : ieq a b = true := beq_iff_eq.2 h
theorem ieq_f {a b : Int} (h : ¬ a = b) : ieq a b = false := beq_eq_false_iff_ne.2 h
theorem ine_t {a b : Int} (h : ¬ a = b) : ine a b = true := bne_iff_ne.2 h
theorem ine_f {a b : Int} (h : a = b) : ine a b = false := by subst h; exact ine_self a

theorem inB_of {α : Type} {xs : List α} {k : Int} (h0 : @LE.le Int _ 0 k) (h1 : @LT.lt Int _ k xs.length) : inB k (rlen xs) = true := by
 unfold inB rlen
 rw [Bool.and_eq_true]
 exact ⟨decide_eq_true h0, decide_eq_true h1⟩
theorem sinB_of {s : ByteArray} {k : Int} (h0 : @LE.le Int _ 0 k) (h1 : @LT.lt Int _ k s.size) : inB k (slen s) = true := by
 unfold inB slen
 rw [Bool.and_eq_true]
 exact ⟨decide_eq_true h0, decide_eq_true h1⟩
theorem fits {a b : ByteArray} (h : a.size + b.size ≤ 9223372036854775807) : must (ile (iplus (slen a) (slen b)) 9223372036854775807) = some () :=
 must_of (decide_eq_true (by unfold iplus slen; omega))
theorem fitsR {α : Type} {xs ys : List α} (h : xs.length + ys.length ≤ 1073741824) : must (ile (iplus (rlen xs) (rlen ys)) 1073741824) = some () :=
 must_of (decide_eq_true (by unfold iplus rlen; omega))
theorem cutB_of {l h n : Int} (h0 : 0 ≤ l) (h1 : l ≤ h) (h2 : h ≤ n) : cutB l h n = true := by
 unfold cutB
 simp only [Bool.and_eq_true, decide_eq_true_eq]
 exact ⟨⟨h0, h1⟩, h2⟩

abbrev bs (s : ByteArray) : List UInt8 := s.data.toList
theorem bs_len (s : ByteArray) : (bs s).length = s.size := rfl
theorem bs_inj {a b : ByteArray} (h : bs a = bs b) : a = b := ByteArray.ext (Array.toList_inj.1 h)
theorem data_append' (a b : ByteArray) : (a ++ b).data.toList = a.data.toList ++ b.data.toList := by
 simp
theorem bs_cat (a b : ByteArray) : bs (scat a b) = bs a ++ bs b := data_append' a b
theorem size_cat (a b : ByteArray) : (scat a b).size = a.size + b.size := by rw [← bs_len, bs_cat, List.length_append]; rfl
theorem seq_refl (s : ByteArray) : seq s s = true := by unfold seq; exact beq_self_eq_true _
theorem size_cut (s : ByteArray) {l h : Int} (h0 : 0 ≤ l) (h1 : l ≤ h) (h2 : h ≤ s.size) : ((scut s l h).size : Int) = h - l := by
 unfold scut
 rw [ByteArray.size_extract]
 omega
theorem size_sof (xs : List Int) : (sof xs).size = xs.length := by
 unfold sof
 show (List.map (fun n : Int => UInt8.ofNat n.toNat) xs).toArray.size = _
 simp
theorem len_sbytes (s : ByteArray) : (sbytes s).length = s.size := by unfold sbytes; rw [List.length_map]; rfl

theorem iand_range (a b : Int) (h0 : 0 ≤ b) (hb : b < 9223372036854775808) : 0 ≤ iand .i64 a b ∧ iand .i64 a b ≤ b := by
 unfold iand
 have h1 : (BitVec.ofInt 64 a &&& BitVec.ofInt 64 b).toNat ≤ (BitVec.ofInt 64 b).toNat := by
  rw [BitVec.toNat_and]; exact Nat.and_le_right
 have h2 : ((BitVec.ofInt 64 b).toNat : Int) = b := by
  rw [BitVec.toNat_ofInt]
  have : (0 : Int) ≤ b % ((2 ^ 64 : Nat) : Int) := Int.emod_nonneg _ (by decide)
  rw [Int.toNat_of_nonneg this]
  exact Int.emod_eq_of_lt h0 (by omega)
 have h3 : ((BitVec.ofInt 64 a &&& BitVec.ofInt 64 b).toNat : Int) ≤ b := by omega
 have h4 : IntKind.i64.wrap ((BitVec.ofInt 64 a &&& BitVec.ofInt 64 b).toNat : Int) = ((BitVec.ofInt 64 a &&& BitVec.ofInt 64 b).toNat : Int) := wrap64_eq (by omega) (by omega)
 show 0 ≤ IntKind.i64.wrap ((BitVec.ofInt 64 a &&& BitVec.ofInt 64 b).toNat : Int) ∧ IntKind.i64.wrap ((BitVec.ofInt 64 a &&& BitVec.ofInt 64 b).toNat : Int) ≤ b
 rw [h4]
 exact ⟨Int.natCast_nonneg _, h3⟩
theorem f_spec_l01Byte (n : Nat) (a0 : List Int) (a1 : Int) (a2 : Int) : pcall L (n + 1) 19 [⟨.row ku8, a0⟩, ⟨ki, a1⟩, ⟨ki, a2⟩] = cnd (ilt a1 (rlen a0)) (bnd (must (inB a1 (rlen a0))) fun (_ : Unit) => some [⟨ki, iand .i64 (iadd .i64 (iand .i64 (ixor .i64 (ishr .i64 (iadd .i64 (imul .i64 a2 6364136223846793005) 1442695040888963407) 33) (ishr .i64 (iadd .i64 (imul .i64 a2 6364136223846793005) 1442695040888963407) 45)) 255) (iwrap .i64 (rget a0 a1 0))) 255⟩, ⟨.row ku8, a0⟩, ⟨ki, iadd .i64 a1 1⟩, ⟨ki, iadd .i64 (imul .i64 a2 6364136223846793005) 1442695040888963407⟩]) (some [⟨ki, iand .i64 (ixor .i64 (ishr .i64 (iadd .i64 (imul .i64 a2 6364136223846793005) 1442695040888963407) 33) (ishr .i64 (iadd .i64 (imul .i64 a2 6364136223846793005) 1442695040888963407) 45)) 255⟩, ⟨.row ku8, a0⟩, ⟨ki, a1⟩, ⟨ki, iadd .i64 (imul .i64 a2 6364136223846793005) 1442695040888963407⟩]) := by kernel_rfl
theorem f_spec_l01Below (a0 : List Int) (a1 : Int) (a2 : Int) (a3 : Int) (n : Nat) : pcall L (n + 1) 20 [⟨.row ku8, a0⟩, ⟨ki, a1⟩, ⟨ki, a2⟩, ⟨ki, a3⟩] = cnd (ile a3 0) (some [⟨ki, 0⟩, ⟨.row ku8, a0⟩, ⟨ki, a1⟩, ⟨ki, a2⟩]) (cnd (ile a3 256) (bnd (pc L n 19 [⟨.row ku8, a0⟩, ⟨ki, a1⟩, ⟨ki, a2⟩] (.pair ki kCur)) fun (q0 : (Int × kCur.ty)) => bnd (must (ine a3 0)) fun (_ : Unit) => some [⟨ki, irem q0.1 a3⟩, ⟨.row ku8, q0.2.1⟩, ⟨ki, q0.2.2.1⟩, ⟨ki, q0.2.2.2.1⟩]) (bnd (pc L n 19 [⟨.row ku8, a0⟩, ⟨ki, a1⟩, ⟨ki, a2⟩] (.pair ki kCur)) fun (q1 : (Int × kCur.ty)) => bnd (pc L n 19 [⟨.row ku8, q1.2.1⟩, ⟨ki, q1.2.2.1⟩, ⟨ki, q1.2.2.2.1⟩] (.pair ki kCur)) fun (q2 : (Int × kCur.ty)) => bnd (pc L n 19 [⟨.row ku8, q2.2.1⟩, ⟨ki, q2.2.2.1⟩, ⟨ki, q2.2.2.2.1⟩] (.pair ki kCur)) fun (q3 : (Int × kCur.ty)) => bnd (pc L n 19 [⟨.row ku8, q3.2.1⟩, ⟨ki, q3.2.2.1⟩, ⟨ki, q3.2.2.2.1⟩] (.pair ki kCur)) fun (q4 : (Int × kCur.ty)) => bnd (must (ine a3 0)) fun (_ : Unit) => some [⟨ki, irem (iadd .i64 (iadd .i64 (iadd .i64 (imul .i64 q1.1 16777216) (imul .i64 q2.1 65536)) (imul .i64 q3.1 256)) q4.1) a3⟩, ⟨.row ku8, q4.2.1⟩, ⟨ki, q4.2.2.1⟩, ⟨ki, q4.2.2.2.1⟩])) := by kernel_rfl
theorem f_spec_l01Once (a0 : List Int) (a1 : Int) (a2 : Int) (a3 : Int) (n : Nat) : pcall L (n + 1) 38 [⟨.row ku8, a0⟩, ⟨ki, a1⟩, ⟨ki, a2⟩, ⟨ki, a3⟩] = bnd (pc L n 20 [⟨.row ku8, a0⟩, ⟨ki, a1⟩, ⟨ki, a2⟩, ⟨ki, a3⟩] (.pair ki kCur)) fun (q0 : (Int × kCur.ty)) => some [⟨.bool, ieq q0.1 0⟩, ⟨.row ku8, q0.2.1⟩, ⟨ki, q0.2.2.1⟩, ⟨ki, q0.2.2.2.1⟩] := by kernel_rfl
def p_spec_l01Text_0 : List Dir := [.r, .r, .r, .l, .r, .i]
def S_spec_l01Text_0 (v0 : Int) (v1 : Int) (v2 : List Int) (v3 : List Int) (v4 : Int) (v5 : Int) : St := ⟨tT 23 [(0, .one (.adr 0 0)), (1, .one (.d ki v0)), (5, .one (.ref 4101 0)), (6, .one (.d ki v1))], [(0, ⟨true, [.tl (.d (.row ku8) v3), .tl (.d ki v4), .tl (.d ki v5)]⟩), (4101, ⟨false, [.own 1 ku8 v2 none]⟩)]⟩
def S_spec_l01Text_1 (v2 : List Int) (v3 : List Int) (v4 : Int) (v5 : Int) : St := ⟨tT 23 [(5, .one (.ref 4101 0))], [(0, ⟨true, [.tl (.d (.row ku8) v3), .tl (.d ki v4), .tl (.d ki v5)]⟩), (4101, ⟨false, [.own 1 ku8 v2 none]⟩)]⟩
theorem k_spec_l01Text_1 (n : Nat) (v2 : List Int) (v3 : List Int) (v4 : Int) (v5 : Int) : KP L n 39 p_spec_l01Text_0 [] (.exit 0) (S_spec_l01Text_1 v2 v3 v4 v5) = some [⟨.str, sof v2⟩, ⟨.row ku8, v3⟩, ⟨ki, v4⟩, ⟨ki, v5⟩] := by kernel_rfl
theorem l_spec_l01Text_0 (n : Nat) (m : Nat) (v0 : Int) (v1 : Int) (v2 : List Int) (v3 : List Int) (v4 : Int) (v5 : Int) : LP L n 39 p_spec_l01Text_0 [] (m + 1) (S_spec_l01Text_0 v0 v1 v2 v3 v4 v5) = cnd (ilt v1 v0) (bnd (pc L n 19 [⟨.row ku8, v3⟩, ⟨ki, v4⟩, ⟨ki, v5⟩] (.pair ki kCur)) fun (q0 : (Int × kCur.ty)) => bnd (must (ile (iplus (rlen v2) (rlen [iwrap .u8 q0.1])) 1073741824)) fun (_ : Unit) => LP L n 39 p_spec_l01Text_0 [] m (S_spec_l01Text_0 v0 (iadd .i64 v1 1) (rapp v2 [iwrap .u8 q0.1]) q0.2.1 q0.2.2.1 q0.2.2.2.1)) (KP L n 39 p_spec_l01Text_0 [] (.exit 0) (S_spec_l01Text_1 v2 v3 v4 v5)) := by kernel_rfl
theorem f_spec_l01Text (a0 : List Int) (a1 : Int) (a2 : Int) (a3 : Int) (n : Nat) : pcall L (n + 1) 39 [⟨.row ku8, a0⟩, ⟨ki, a1⟩, ⟨ki, a2⟩, ⟨ki, a3⟩] = cnd (igt a3 5000) (LP L n 39 p_spec_l01Text_0 [] n (S_spec_l01Text_0 5000 0 (([] : List Int)) a0 a1 a2)) (LP L n 39 p_spec_l01Text_0 [] n (S_spec_l01Text_0 a3 0 (([] : List Int)) a0 a1 a2)) := by kernel_rfl
theorem f_spec_SchemaOf (n : Nat) (a0 : Int) : pcall L (n + 1) 11 [⟨ki, a0⟩] = cnd (ieq a0 1) (some [⟨ki, 2⟩, ⟨ki, 1⟩, ⟨.bool, true⟩]) (cnd (ieq a0 2) (some [⟨ki, 3⟩, ⟨ki, 2⟩, ⟨.bool, true⟩]) (cnd (ieq a0 3) (some [⟨ki, 4⟩, ⟨ki, 2⟩, ⟨.bool, true⟩]) (some [⟨ki, 0⟩, ⟨ki, 0⟩, ⟨.bool, false⟩]))) := by kernel_rfl
theorem f_spec_GroupSize (a0 : Int) (n : Nat) : pcall L (n + 1) 40 [⟨ki, a0⟩] = bnd (pc L n 11 [⟨ki, a0⟩] (.pair ki (.pair ki (.pair .bool .unit)))) fun (q0 : (Int × (Int × (Bool × Unit)))) => some [⟨ki, imul .i64 (imul .i64 q0.1 4) 2⟩] := by kernel_rfl
theorem f_spec_l01In (n : Nat) (a0 : Int) (a1 : Int) (a2 : Int) : pcall L (n + 1) 110 [⟨ki, a0⟩, ⟨ki, a1⟩, ⟨ki, a2⟩] = some [⟨.bool, sel (ige a0 a1) (ile a0 a2) false⟩] := by kernel_rfl
def Run (o : Option (List Leaf)) (k : K) (P : k.ty → Prop) : Prop := ∃ x : k.ty, o = some (leaves k x) ∧ P x
theorem pc_run {n f : Nat} {ls : List Leaf} {k : K} {P : k.ty → Prop} (h : Run (pcall L n f ls) k P) : ∃ x, pc L n f ls k = some x ∧ P x :=
 h.imp fun _ h => ⟨pc_of h.1, h.2⟩

def InI (lo hi x : Int) : Prop := lo ≤ x ∧ x ≤ hi
def CurOk (c : kCur.ty) : Prop := InI 0 (c.1.length : Int) c.2.1 ∧ c.1.length ≤ 1048576

theorem byte_E : Evt fun n => ∀ c : kCur.ty, CurOk c → ∃ x, pc L n 19 [⟨.row ku8, c.1⟩, ⟨ki, c.2.1⟩, ⟨ki, c.2.2.1⟩] (.pair ki kCur) = some x ∧ InI 0 255 x.1 ∧ CurOk x.2 := by
 refine Evt.succ (Evt.now fun n c hc => pc_run ?_)
 obtain ⟨b, i, h, u⟩ := c
 obtain ⟨⟨h0, h1⟩, h2⟩ := hc
 simp only at h0 h1 h2 ⊢
 rw [f_spec_l01Byte]
 by_cases hi : @LT.lt Int _ i b.length
 ·rw [show ilt i (rlen b) = true from ilt_t hi, cnd_t, must_of (inB_of h0 hi), bnd_s, iadd_eq (a := i) (by omega) (by omega)]
  refine ⟨(_, b, i + 1, _, ()), rfl, iand_range _ 255 (by omega) (by omega), ?_⟩
  exact ⟨⟨show @LE.le Int _ 0 (i + 1) from by omega, show @LE.le Int _ (i + 1) b.length from by omega⟩, h2⟩
 ·rw [show ilt i (rlen b) = false from ilt_f hi, cnd_f]
  exact ⟨(_, b, i, _, ()), rfl, iand_range _ 255 (by omega) (by omega), ⟨h0, h1⟩, h2⟩

theorem below_E : Evt fun n => ∀ (c : kCur.ty) (a : Int), CurOk c → ∃ x, pc L n 20 [⟨.row ku8, c.1⟩, ⟨ki, c.2.1⟩, ⟨ki, c.2.2.1⟩, ⟨ki, a⟩] (.pair ki kCur) = some x ∧ (InI 0 (max 0 (a - 1)) x.1) ∧ CurOk x.2 := by
 refine Evt.succ (byte_E.mono fun n hb c a hc => pc_run ?_)
 rw [f_spec_l01Below]
 by_cases h0 : a ≤ 0
 ·rw [ile_t h0, cnd_t]
  exact ⟨(0, c), rfl, ⟨Int.le_refl 0, by omega⟩, hc⟩
 rw [ile_f h0, cnd_f]
 have ha : 0 < a := by omega
 have hne : must (ine a 0) = some () := must_of (ine_t (by omega))
 by_cases h1 : a ≤ 256
 ·rw [ile_t h1, cnd_t]
  obtain ⟨x, hx, ⟨h2, h3⟩, hx'⟩ := hb c hc
  rw [hx, bnd_s, hne, bnd_s, irem_eq h2 ha]
  have e0 : @LE.le Int _ 0 (@HMod.hMod Int Int Int _ x.1 a) := Int.emod_nonneg _ (by omega)
  have e1 : @LT.lt Int _ (@HMod.hMod Int Int Int _ x.1 a) a := Int.emod_lt_of_pos _ ha
  exact ⟨(@HMod.hMod Int Int Int _ x.1 a, x.2), rfl, ⟨e0, by omega⟩, hx'⟩
 rw [ile_f h1, cnd_f]
 have key : ∀ x y z w : Int, InI 0 255 x → InI 0 255 y → InI 0 255 z → InI 0 255 w → InI 0 (max 0 (a - 1)) (irem (iadd .i64 (iadd .i64 (iadd .i64 (imul .i64 x 16777216) (imul .i64 y 65536)) (imul .i64 z 256)) w) a) := by
  rintro x y z w ⟨x0, x1⟩ ⟨y0, y1⟩ ⟨z0, z1⟩ ⟨w0, w1⟩
  rw [imul_eq (a := x) (by omega) (by omega), imul_eq (a := y) (by omega) (by omega), imul_eq (a := z) (by omega) (by omega), iadd_eq (a := x * 16777216) (by omega) (by omega), iadd_eq (a := x * 16777216 + y * 65536) (by omega) (by omega), iadd_eq (a := x * 16777216 + y * 65536 + z * 256) (by omega) (by omega), irem_eq (by omega) ha]
  have e0 : 0 ≤ (x * 16777216 + y * 65536 + z * 256 + w) % a := Int.emod_nonneg _ (by omega)
  have e1 : (x * 16777216 + y * 65536 + z * 256 + w) % a < a := Int.emod_lt_of_pos _ ha
  exact ⟨e0, by omega⟩
 obtain ⟨x, hx, xx, hx'⟩ := hb c hc
 obtain ⟨y, hy, yy, hy'⟩ := hb x.2 hx'
 obtain ⟨z, hz, zz, hz'⟩ := hb y.2 hy'
 obtain ⟨w, hw, ww, hw'⟩ := hb z.2 hz'
 rw [hx, bnd_s, hy, bnd_s, hz, bnd_s, hw, bnd_s, hne, bnd_s]
 exact ⟨(_, w.2), rfl, key _ _ _ _ xx yy zz ww, hw'⟩

theorem once_E : Evt fun n => ∀ (c : kCur.ty) (a : Int), CurOk c → ∃ x, pc L n 38 [⟨.row ku8, c.1⟩, ⟨ki, c.2.1⟩, ⟨ki, c.2.2.1⟩, ⟨ki, a⟩] (.pair .bool kCur) = some x ∧ CurOk x.2 := by
 refine Evt.succ (below_E.mono fun n hb c a hc => pc_run ?_)
 rw [f_spec_l01Once]
 obtain ⟨x, hx, _, hx'⟩ := hb c a hc
 rw [hx, bnd_s]
 exact ⟨(_, x.2), rfl, hx'⟩

theorem text_loop (n : Nat) (hb : ∀ c : kCur.ty, CurOk c → ∃ x, pc L n 19 [⟨.row ku8, c.1⟩, ⟨ki, c.2.1⟩, ⟨ki, c.2.2.1⟩] (.pair ki kCur) = some x ∧ InI 0 255 x.1 ∧ CurOk x.2) (a : Int) (ha : a ≤ 5000) :
  ∀ (m : Nat) (i : Int) (v : List Int) (c : kCur.ty), 0 ≤ i → (a - i).toNat < m → (v.length : Int) = i ∧ (i ≤ a ∨ i = 0) → CurOk c →
   Run (LP L n 39 p_spec_l01Text_0 [] m (S_spec_l01Text_0 a i v c.1 c.2.1 c.2.2.1)) (.pair .str kCur) fun x => ((x.1.size : Int) ≤ max a 0) ∧ CurOk x.2
 | 0, _, _, _, _, hm, _, _ => absurd hm (Nat.not_lt_zero _)
 | m + 1, i, v, c, h0, hm, hv, hc => by
  rw [l_spec_l01Text_0]
  by_cases h : i < a
  ·obtain ⟨x, hx, ⟨x0, x1⟩, hx'⟩ := hb c hc
   rw [ilt_t h, cnd_t, hx, bnd_s, fitsR (by simp only [List.length_cons, List.length_nil]; omega), bnd_s, iadd_eq (by omega) (by omega)]
   exact text_loop n hb a ha m (i + 1) _ x.2 (by omega) (by omega) ⟨by unfold rapp; rw [List.length_append, List.length_singleton]; omega, by omega⟩ hx'
  ·rw [ilt_f h, cnd_f, k_spec_l01Text_1]
   refine ⟨(sof v, c), rfl, ?_, hc⟩
   show ((sof v).size : Int) ≤ max a 0
   rw [size_sof]
   omega

theorem text_E : Evt fun n => ∀ (c : kCur.ty) (a : Int), CurOk c → ∃ x, pc L n 39 [⟨.row ku8, c.1⟩, ⟨ki, c.2.1⟩, ⟨ki, c.2.2.1⟩, ⟨ki, a⟩] (.pair .str kCur) = some x ∧ ((x.1.size : Int) ≤ 5000) ∧ CurOk x.2 := by
 refine Evt.succ ((byte_E.and (Evt.ge 5001)).mono fun n hb c a hc => pc_run ?_)
 rw [f_spec_l01Text]
 have key : ∀ a : Int, a ≤ 5000 → Run (LP L n 39 p_spec_l01Text_0 [] n (S_spec_l01Text_0 a 0 [] c.1 c.2.1 c.2.2.1)) (.pair .str kCur) fun x => ((x.1.size : Int) ≤ 5000) ∧ CurOk x.2 := fun a ha => by
  obtain ⟨x, hx, h1, h2⟩ := text_loop n hb.1 a ha n 0 [] c (Int.le_refl 0) (by have := hb.2; omega) ⟨rfl, .inr rfl⟩ hc
  exact ⟨x, hx, by omega, h2⟩
 by_cases h : 5000 < a
 ·rw [igt_t h, cnd_t]; exact key 5000 (by omega)
 ·rw [igt_f h, cnd_f]; exact key a (by omega)

theorem in_E : Evt fun n => ∀ a b c : Int, pc L n 110 [⟨ki, a⟩, ⟨ki, b⟩, ⟨ki, c⟩] (.pair .bool .unit) = some (decide (b ≤ a ∧ a ≤ c), ()) := by
 refine Evt.succ (Evt.now fun n a b c => pc_of ?_)
 rw [f_spec_l01In]
 show some [(⟨.bool, _⟩ : Leaf)] = some [⟨.bool, _⟩]
 congr 3
 rw [sel_and, Bool.decide_and]
 rfl

theorem schema_E : Evt fun n => ∀ a : Int, ∃ x, pc L n 11 [⟨ki, a⟩] (.pair ki (.pair ki (.pair .bool .unit))) = some x ∧ ((x.2.2.1 = true ∧ 2 ≤ x.1 ∧ x.1 ≤ 4 ∧ 1 ≤ x.2.1 ∧ x.2.1 ≤ 2 ∧ 1 ≤ a ∧ a ≤ 3) ∨ (x.2.2.1 = false ∧ x.1 = 0 ∧ x.2.1 = 0)) ∧ (1 ≤ a → a ≤ 3 → x.2.2.1 = true) := by
 refine Evt.succ (Evt.now fun n a => pc_run ?_)
 rw [f_spec_SchemaOf]
 by_cases h1 : a = 1
 ·rw [ieq_t h1, cnd_t]; exact ⟨(2, 1, true, ()), rfl, .inl (by subst h1; decide), fun _ _ => rfl⟩
 rw [ieq_f h1, cnd_f]
 by_cases h2 : a = 2
 ·rw [ieq_t h2, cnd_t]; exact ⟨(3, 2, true, ()), rfl, .inl (by subst h2; decide), fun _ _ => rfl⟩
 rw [ieq_f h2, cnd_f]
 by_cases h3 : a = 3
 ·rw [ieq_t h3, cnd_t]; exact ⟨(4, 2, true, ()), rfl, .inl (by subst h3; decide), fun _ _ => rfl⟩
 rw [ieq_f h3, cnd_f]
 exact ⟨(0, 0, false, ()), rfl, .inr ⟨rfl, rfl, rfl⟩, fun _ _ => by omega⟩
theorem f_spec_PlaceOf (a0 : Int) (a1 : Int) (n : Nat) : pcall L (n + 1) 91 [⟨ki, a0⟩, ⟨ki, a1⟩] = bnd (pc L n 11 [⟨ki, a0⟩] (.pair ki (.pair ki (.pair .bool .unit)))) fun (q0 : (Int × (Int × (Bool × Unit)))) => bnd (cnd (bnot (bnot q0.2.2.1)) (pc L n 110 [⟨ki, a1⟩, ⟨ki, 0⟩, ⟨ki, 100000⟩] (.pair .bool .unit)) (some (false, ()))) fun (q1 : (Bool × Unit)) => cnd (sel (bnot q0.2.2.1) true (bnot q1.1)) (some [⟨ki, 0⟩, ⟨ki, 0⟩, ⟨ki, 0⟩]) (bnd (pc L n 40 [⟨ki, a0⟩] (.pair ki .unit)) fun (q2 : (Int × Unit)) => bnd (must (ine q2.1 0)) fun (_ : Unit) => bnd (must (ine q2.1 0)) fun (_ : Unit) => bnd (must (ine q0.1 0)) fun (_ : Unit) => bnd (must (ine q0.1 0)) fun (_ : Unit) => some [⟨ki, iquo .i64 a1 q2.1⟩, ⟨ki, irem (iquo .i64 (irem a1 q2.1) 4) q0.1⟩, ⟨ki, iadd .i64 (imul .i64 (iquo .i64 (iquo .i64 (irem a1 q2.1) 4) q0.1) 4) (irem (irem a1 q2.1) 4)⟩]) := by kernel_rfl
def p_spec_CutUnits_0 : List Dir := [.r, .r, .r, .r, .l, .r, .i]
def S_spec_CutUnits_0 (a0 : Int) (a1 : ByteArray) (v0 : List ByteArray) (v1 : Int) : St := ⟨tT 59 [(0, .one (.d ki a0)), (1, .one (.d .str a1)), (9, .one (.ref 4105 0)), (10, .one (.d ki v1))], [(4105, ⟨false, [.own 1 .str v0 none]⟩)]⟩
def S_spec_CutUnits_1 (v0 : List ByteArray) : St := ⟨tT 59 [(9, .one (.ref 4105 0))], [(4105, ⟨false, [.own 1 .str v0 none]⟩)]⟩
theorem k_spec_CutUnits_1 (n : Nat) (v0 : List ByteArray) : KP L n 63 p_spec_CutUnits_0 [] (.exit 0) (S_spec_CutUnits_1 v0) = some [⟨.row .str, v0⟩, ⟨.bool, true⟩] := by kernel_rfl
theorem l_spec_CutUnits_0 (a0 : Int) (a1 : ByteArray) (n : Nat) (m : Nat) (v0 : List ByteArray) (v1 : Int) : LP L n 63 p_spec_CutUnits_0 [] (m + 1) (S_spec_CutUnits_0 a0 a1 v0 v1) = cnd (ilt v1 (slen a1)) (bnd (pc L n 91 [⟨ki, a0⟩, ⟨ki, v1⟩] (.pair ki (.pair ki (.pair ki .unit)))) fun (q0 : (Int × (Int × (Int × Unit)))) => bnd (must (inB q0.2.1 (rlen v0))) fun (_ : Unit) => bnd (must (cutB v1 (iadd .i64 v1 1) (slen a1))) fun (_ : Unit) => bnd (must (ile (iplus (slen (rget v0 q0.2.1 ⟨#[]⟩)) (slen (scut a1 v1 (iadd .i64 v1 1)))) 9223372036854775807)) fun (_ : Unit) => bnd (must (inB q0.2.1 (rlen v0))) fun (_ : Unit) => LP L n 63 p_spec_CutUnits_0 [] m (S_spec_CutUnits_0 a0 a1 (rset v0 q0.2.1 (scat (rget v0 q0.2.1 ⟨#[]⟩) (scut a1 v1 (iadd .i64 v1 1)))) (iadd .i64 v1 1))) (KP L n 63 p_spec_CutUnits_0 [] (.exit 0) (S_spec_CutUnits_1 v0)) := by kernel_rfl
theorem f_spec_CutUnits (a0 : Int) (a1 : ByteArray) (n : Nat) : pcall L (n + 1) 63 [⟨ki, a0⟩, ⟨.str, a1⟩] = bnd (pc L n 11 [⟨ki, a0⟩] (.pair ki (.pair ki (.pair .bool .unit)))) fun (q0 : (Int × (Int × (Bool × Unit)))) => bnd (cnd (bnot (bnot q0.2.2.1)) (pc L n 40 [⟨ki, a0⟩] (.pair ki .unit)) (some (0, ()))) fun (q1 : (Int × Unit)) => cnd (sel (bnot q0.2.2.1) true (igt (slen a1) q1.1)) (some [⟨.row .str, ([] : List ByteArray)⟩, ⟨.bool, false⟩]) (bnd (must (cutB 0 q0.1 1073741824)) fun (_ : Unit) => LP L n 63 p_spec_CutUnits_0 [] n (S_spec_CutUnits_0 a0 a1 (rrep q0.1 ⟨#[]⟩) 0)) := by kernel_rfl
def p_spec_AddText_0 : List Dir := [.r, .r, .r, .l, .r, .i]
def S_spec_AddText_0 (a0 : ByteArray) (v0 : Int) (v1 : List Int) : St := ⟨tT 37 [(1, .one (.d .str a0)), (6, .one (.ref 4102 0)), (7, .one (.d ki v0))], [(4102, ⟨false, [.own 1 ku8 v1 none]⟩)]⟩
def S_spec_AddText_1 (v1 : List Int) : St := ⟨tT 37 [(6, .one (.ref 4102 0))], [(4102, ⟨false, [.own 1 ku8 v1 none]⟩)]⟩
theorem k_spec_AddText_1 (n : Nat) (v1 : List Int) : KP L n 92 p_spec_AddText_0 [] (.exit 0) (S_spec_AddText_1 v1) = some [⟨.str, sof v1⟩] := by kernel_rfl
theorem l_spec_AddText_0 (n : Nat) (a0 : ByteArray) (m : Nat) (v0 : Int) (v1 : List Int) : LP L n 92 p_spec_AddText_0 [] (m + 1) (S_spec_AddText_0 a0 v0 v1) = cnd (ilt v0 (slen a0)) (bnd (must (inB v0 (rlen v1))) fun (_ : Unit) => bnd (must (inB v0 (slen a0))) fun (_ : Unit) => bnd (must (inB v0 (rlen v1))) fun (_ : Unit) => LP L n 92 p_spec_AddText_0 [] m (S_spec_AddText_0 a0 (iadd .i64 v0 1) (rset v1 v0 (ixor .u8 (rget v1 v0 0) (sat a0 v0))))) (KP L n 92 p_spec_AddText_0 [] (.exit 0) (S_spec_AddText_1 v1)) := by kernel_rfl
theorem f_spec_AddText (a0 : ByteArray) (a1 : ByteArray) (n : Nat) : pcall L (n + 1) 92 [⟨.str, a0⟩, ⟨.str, a1⟩] = cnd (ilt (slen a0) (slen a1)) (LP L n 92 p_spec_AddText_0 [] n (S_spec_AddText_0 a0 0 (sbytes a1))) (LP L n 92 p_spec_AddText_0 [] n (S_spec_AddText_0 a1 0 (sbytes a0))) := by kernel_rfl
def p_spec_MulText_0 : List Dir := [.r, .r, .l, .r, .i]
def S_spec_MulText_0 (a0 : Int) (v0 : Int) (v1 : List Int) : St := ⟨tT 28 [(0, .one (.d ki a0)), (5, .one (.ref 4101 0)), (6, .one (.d ki v0))], [(4101, ⟨false, [.own 1 ku8 v1 none]⟩)]⟩
def S_spec_MulText_1 (v1 : List Int) : St := ⟨tT 28 [(5, .one (.ref 4101 0))], [(4101, ⟨false, [.own 1 ku8 v1 none]⟩)]⟩
theorem k_spec_MulText_1 (n : Nat) (v1 : List Int) : KP L n 112 p_spec_MulText_0 [] (.exit 0) (S_spec_MulText_1 v1) = some [⟨.str, sof v1⟩] := by kernel_rfl
theorem l_spec_MulText_0 (a0 : Int) (n : Nat) (m : Nat) (v0 : Int) (v1 : List Int) : LP L n 112 p_spec_MulText_0 [] (m + 1) (S_spec_MulText_0 a0 v0 v1) = cnd (ilt v0 (rlen v1)) (bnd (must (inB v0 (rlen v1))) fun (_ : Unit) => bnd (pc L n 122 [⟨ki, a0⟩, ⟨ki, iwrap .i64 (rget v1 v0 0)⟩] (.pair ki .unit)) fun (q0 : (Int × Unit)) => bnd (must (inB v0 (rlen v1))) fun (_ : Unit) => LP L n 112 p_spec_MulText_0 [] m (S_spec_MulText_0 a0 (iadd .i64 v0 1) (rset v1 v0 (iwrap .u8 q0.1)))) (KP L n 112 p_spec_MulText_0 [] (.exit 0) (S_spec_MulText_1 v1)) := by kernel_rfl
theorem f_spec_MulText (a0 : Int) (a1 : ByteArray) (n : Nat) : pcall L (n + 1) 112 [⟨ki, a0⟩, ⟨.str, a1⟩] = LP L n 112 p_spec_MulText_0 [] n (S_spec_MulText_0 a0 0 (sbytes a1)) := by kernel_rfl
def p_spec_MulG_0 : List Dir := [.r, .r, .r, .r, .l, .i]
def S_spec_MulG_0 (v0 : Int) (v1 : Int) (v2 : Int) : St := ⟨tT 27 [(0, .one (.d ki v0)), (1, .one (.d ki v1)), (5, .one (.d ki v2))], []⟩
def S_spec_MulG_1 (v2 : Int) : St := ⟨tT 27 [(5, .one (.d ki v2))], []⟩
theorem k_spec_MulG_1 (n : Nat) (v2 : Int) : KP L n 122 p_spec_MulG_0 [] (.exit 0) (S_spec_MulG_1 v2) = some [⟨ki, v2⟩] := by kernel_rfl
theorem l_spec_MulG_0 (n : Nat) (m : Nat) (v0 : Int) (v1 : Int) (v2 : Int) : LP L n 122 p_spec_MulG_0 [] (m + 1) (S_spec_MulG_0 v0 v1 v2) = cnd (igt v1 0) (cnd (ieq (irem v1 2) 1) (cnd (ige (imul .i64 2 v0) 256) (LP L n 122 p_spec_MulG_0 [] m (S_spec_MulG_0 (ixor .i64 (imul .i64 2 v0) 285) (iquo .i64 v1 2) (ixor .i64 v2 v0))) (LP L n 122 p_spec_MulG_0 [] m (S_spec_MulG_0 (imul .i64 2 v0) (iquo .i64 v1 2) (ixor .i64 v2 v0)))) (cnd (ige (imul .i64 2 v0) 256) (LP L n 122 p_spec_MulG_0 [] m (S_spec_MulG_0 (ixor .i64 (imul .i64 2 v0) 285) (iquo .i64 v1 2) v2)) (LP L n 122 p_spec_MulG_0 [] m (S_spec_MulG_0 (imul .i64 2 v0) (iquo .i64 v1 2) v2)))) (KP L n 122 p_spec_MulG_0 [] (.exit 0) (S_spec_MulG_1 v2)) := by kernel_rfl
theorem f_spec_MulG (a0 : Int) (a1 : Int) (n : Nat) : pcall L (n + 1) 122 [⟨ki, a0⟩, ⟨ki, a1⟩] = bnd (pc L n 123 [⟨ki, a0⟩] (.pair ki .unit)) fun (q0 : (Int × Unit)) => bnd (pc L n 123 [⟨ki, a1⟩] (.pair ki .unit)) fun (q1 : (Int × Unit)) => LP L n 122 p_spec_MulG_0 [] n (S_spec_MulG_0 q0.1 q1.1 0) := by kernel_rfl
theorem f_spec_l05Mod (n : Nat) (a0 : Int) : pcall L (n + 1) 123 [⟨ki, a0⟩] = cnd (ilt (irem a0 256) 0) (some [⟨ki, iadd .i64 (irem a0 256) 256⟩]) (some [⟨ki, irem a0 256⟩]) := by kernel_rfl
def p_spec_MatrixOk_0 : List Dir := [.r, .l, .r, .i]
def S_spec_MatrixOk_0 (a0 : List (List Int)) (v0 : Int) : St := ⟨tT 51 [(0, .one (.d (.row (.row ki)) a0)), (3, .one (.d ki v0))], []⟩
def p_spec_MatrixOk_1 : List Dir := [.r, .l, .r, .i, .i, .r, .l, .i, .r, .r, .i]
def S_spec_MatrixOk_1 (a0 : List (List Int)) (v0 : Int) (v1_0 : Int) : St := ⟨tT 51 [(0, .one (.d (.row (.row ki)) a0)), (3, .one (.d ki v0)), (4, .one (.d ki v1_0))], []⟩
def S_spec_MatrixOk_2  : St := ⟨tT 51 [(2, .one (.d .bool false))], []⟩
def S_spec_MatrixOk_3 (a0 : List (List Int)) : St := ⟨tT 51 [(0, .one (.d (.row (.row ki)) a0))], []⟩
theorem k_spec_MatrixOk_5 (n : Nat) (a0 : List (List Int)) (v0 : Int) (m0 : Nat) : KP L n 111 p_spec_MatrixOk_1 [m0] (.exit 2) (S_spec_MatrixOk_0 a0 v0) = LP L n 111 p_spec_MatrixOk_0 [] m0 (S_spec_MatrixOk_0 a0 (iadd .i64 v0 1)) := by kernel_rfl
theorem k_spec_MatrixOk_4 (n : Nat) (m0 : Nat) : KP L n 111 p_spec_MatrixOk_1 [m0] .ret (S_spec_MatrixOk_2) = KP L n 111 p_spec_MatrixOk_0 [] .ret (S_spec_MatrixOk_2) := by kernel_rfl
theorem k_spec_MatrixOk_3 (a0 : List (List Int)) (n : Nat) : KP L n 111 p_spec_MatrixOk_0 [] (.exit 0) (S_spec_MatrixOk_3 a0) = bnd (pc L n 110 [⟨ki, rlen a0⟩, ⟨ki, 1⟩, ⟨ki, 8⟩] (.pair .bool .unit)) fun (q0 : (Bool × Unit)) => some [⟨.bool, q0.1⟩] := by kernel_rfl
theorem k_spec_MatrixOk_2 (n : Nat) : KP L n 111 p_spec_MatrixOk_0 [] .ret (S_spec_MatrixOk_2) = some [⟨.bool, false⟩] := by kernel_rfl
theorem l_spec_MatrixOk_1 (a0 : List (List Int)) (n : Nat) (v0 : Int) (m : Nat) (m0 : Nat) (v1_0 : Int) : LP L n 111 p_spec_MatrixOk_1 [m0] (m + 1) (S_spec_MatrixOk_1 a0 v0 v1_0) = bnd (must (inB v0 (rlen a0))) fun (_ : Unit) => cnd (ilt v1_0 (rlen (rget a0 v0 (([] : List Int))))) (bnd (must (inB v0 (rlen a0))) fun (_ : Unit) => bnd (must (inB v1_0 (rlen (rget a0 v0 (([] : List Int)))))) fun (_ : Unit) => bnd (pc L n 110 [⟨ki, rget (rget a0 v0 (([] : List Int))) v1_0 0⟩, ⟨ki, 0⟩, ⟨ki, 255⟩] (.pair .bool .unit)) fun (q0 : (Bool × Unit)) => cnd (bnot q0.1) (KP L n 111 p_spec_MatrixOk_1 [m0] .ret (S_spec_MatrixOk_2)) (LP L n 111 p_spec_MatrixOk_1 [m0] m (S_spec_MatrixOk_1 a0 v0 (iadd .i64 v1_0 1)))) (KP L n 111 p_spec_MatrixOk_1 [m0] (.exit 2) (S_spec_MatrixOk_0 a0 v0)) := by kernel_rfl
theorem l_spec_MatrixOk_0 (a0 : List (List Int)) (n : Nat) (m : Nat) (v0 : Int) : LP L n 111 p_spec_MatrixOk_0 [] (m + 1) (S_spec_MatrixOk_0 a0 v0) = cnd (ilt v0 (rlen a0)) (bnd (must (inB v0 (rlen a0))) fun (_ : Unit) => bnd (must (inB 0 (rlen a0))) fun (_ : Unit) => bnd (cnd (bnot (ine (rlen (rget a0 v0 (([] : List Int)))) (rlen (rget a0 0 (([] : List Int)))))) (must (inB v0 (rlen a0))) (some ())) fun (_ : Unit) => bnd (cnd (bnot (ine (rlen (rget a0 v0 (([] : List Int)))) (rlen (rget a0 0 (([] : List Int)))))) (pc L n 110 [⟨ki, rlen (rget a0 v0 (([] : List Int)))⟩, ⟨ki, 1⟩, ⟨ki, 8⟩] (.pair .bool .unit)) (some (false, ()))) fun (q0 : (Bool × Unit)) => cnd (sel (ine (rlen (rget a0 v0 (([] : List Int)))) (rlen (rget a0 0 (([] : List Int))))) true (bnot q0.1)) (KP L n 111 p_spec_MatrixOk_0 [] .ret (S_spec_MatrixOk_2)) (LP L n 111 p_spec_MatrixOk_1 [m] n (S_spec_MatrixOk_1 a0 v0 0))) (KP L n 111 p_spec_MatrixOk_0 [] (.exit 0) (S_spec_MatrixOk_3 a0)) := by kernel_rfl
theorem f_spec_MatrixOk (a0 : List (List Int)) (n : Nat) : pcall L (n + 1) 111 [⟨.row (.row ki), a0⟩] = LP L n 111 p_spec_MatrixOk_0 [] n (S_spec_MatrixOk_0 a0 0) := by kernel_rfl
def p_spec_ApplyM_0 : List Dir := [.r, .r, .r, .l, .r, .i]
def S_spec_ApplyM_0 (a0 : List (List Int)) (a1 : List ByteArray) (v0 : Int) (v1 : List ByteArray) : St := ⟨tT 54 [(0, .one (.d (.row (.row ki)) a0)), (1, .one (.d (.row .str) a1)), (5, .one (.ref 4101 0)), (6, .one (.d ki v0))], [(4101, ⟨false, [.own 1 .str v1 none]⟩)]⟩
def p_spec_ApplyM_1 : List Dir := [.r, .r, .r, .l, .r, .i, .i, .r, .l, .i, .r, .l, .r, .i]
def S_spec_ApplyM_1 (a0 : List (List Int)) (a1 : List ByteArray) (v0 : Int) (v1 : List ByteArray) (v1_0 : ByteArray) (v1_1 : Int) : St := ⟨tT 54 [(0, .one (.d (.row (.row ki)) a0)), (1, .one (.d (.row .str) a1)), (5, .one (.ref 4101 0)), (6, .one (.d ki v0)), (7, .one (.d .str v1_0)), (8, .one (.d ki v1_1))], [(4101, ⟨false, [.own 1 .str v1 none]⟩)]⟩
def S_spec_ApplyM_2 (v1 : List ByteArray) : St := ⟨tT 54 [(5, .one (.ref 4101 0))], [(4101, ⟨false, [.own 1 .str v1 none]⟩)]⟩
def S_spec_ApplyM_3 (a0 : List (List Int)) (a1 : List ByteArray) (v0 : Int) (v1 : List ByteArray) (v1_0 : ByteArray) : St := ⟨tT 54 [(0, .one (.d (.row (.row ki)) a0)), (1, .one (.d (.row .str) a1)), (5, .one (.ref 4101 0)), (6, .one (.d ki v0)), (7, .one (.d .str v1_0))], [(4101, ⟨false, [.own 1 .str v1 none]⟩)]⟩
theorem k_spec_ApplyM_3 (n : Nat) (a0 : List (List Int)) (a1 : List ByteArray) (v0 : Int) (v1 : List ByteArray) (v1_0 : ByteArray) (m0 : Nat) : KP L n 93 p_spec_ApplyM_1 [m0] (.exit 2) (S_spec_ApplyM_3 a0 a1 v0 v1 v1_0) = bnd (must (ile (iplus (rlen v1) (rlen [v1_0])) 1073741824)) fun (_ : Unit) => LP L n 93 p_spec_ApplyM_0 [] m0 (S_spec_ApplyM_0 a0 a1 (iadd .i64 v0 1) (rapp v1 [v1_0])) := by kernel_rfl
theorem k_spec_ApplyM_2 (n : Nat) (v1 : List ByteArray) : KP L n 93 p_spec_ApplyM_0 [] (.exit 0) (S_spec_ApplyM_2 v1) = some [⟨.row .str, v1⟩] := by kernel_rfl
theorem l_spec_ApplyM_1 (a0 : List (List Int)) (a1 : List ByteArray) (n : Nat) (v0 : Int) (v1 : List ByteArray) (m : Nat) (m0 : Nat) (v1_0 : ByteArray) (v1_1 : Int) : LP L n 93 p_spec_ApplyM_1 [m0] (m + 1) (S_spec_ApplyM_1 a0 a1 v0 v1 v1_0 v1_1) = cnd (ilt v1_1 (rlen a1)) (bnd (must (inB v0 (rlen a0))) fun (_ : Unit) => bnd (must (inB v1_1 (rlen (rget a0 v0 (([] : List Int)))))) fun (_ : Unit) => bnd (must (inB v1_1 (rlen a1))) fun (_ : Unit) => bnd (pc L n 112 [⟨ki, rget (rget a0 v0 (([] : List Int))) v1_1 0⟩, ⟨.str, rget a1 v1_1 ⟨#[]⟩⟩] (.pair .str .unit)) fun (q0 : (ByteArray × Unit)) => bnd (pc L n 92 [⟨.str, v1_0⟩, ⟨.str, q0.1⟩] (.pair .str .unit)) fun (q1 : (ByteArray × Unit)) => LP L n 93 p_spec_ApplyM_1 [m0] m (S_spec_ApplyM_1 a0 a1 v0 v1 q1.1 (iadd .i64 v1_1 1))) (KP L n 93 p_spec_ApplyM_1 [m0] (.exit 2) (S_spec_ApplyM_3 a0 a1 v0 v1 v1_0)) := by kernel_rfl
theorem l_spec_ApplyM_0 (a0 : List (List Int)) (a1 : List ByteArray) (n : Nat) (m : Nat) (v0 : Int) (v1 : List ByteArray) : LP L n 93 p_spec_ApplyM_0 [] (m + 1) (S_spec_ApplyM_0 a0 a1 v0 v1) = cnd (ilt v0 (rlen a0)) (LP L n 93 p_spec_ApplyM_1 [m] n (S_spec_ApplyM_1 a0 a1 v0 v1 ⟨#[]⟩ 0)) (KP L n 93 p_spec_ApplyM_0 [] (.exit 0) (S_spec_ApplyM_2 v1)) := by kernel_rfl
theorem f_spec_ApplyM (a0 : List (List Int)) (a1 : List ByteArray) (n : Nat) : pcall L (n + 1) 93 [⟨.row (.row ki), a0⟩, ⟨.row .str, a1⟩] = bnd (pc L n 111 [⟨.row (.row ki), a0⟩] (.pair .bool .unit)) fun (q0 : (Bool × Unit)) => bnd (cnd (bnot (bnot q0.1)) (must (inB 0 (rlen a0))) (some ())) fun (_ : Unit) => cnd (sel (bnot q0.1) true (ine (rlen (rget a0 0 (([] : List Int)))) (rlen a1))) (some [⟨.row .str, ([] : List ByteArray)⟩]) (LP L n 93 p_spec_ApplyM_0 [] n (S_spec_ApplyM_0 a0 a1 0 (([] : List ByteArray)))) := by kernel_rfl
def p_spec_OneM_0 : List Dir := [.r, .r, .l, .r, .i]
def S_spec_OneM_0 (a0 : Int) (v0 : Int) (v1 : List (List Int)) : St := ⟨tT 26 [(0, .one (.d ki a0)), (3, .one (.ref 4099 0)), (4, .one (.d ki v0))], [(4099, ⟨false, [.own 1 (.row ki) v1 none]⟩)]⟩
def S_spec_OneM_1 (v1 : List (List Int)) : St := ⟨tT 26 [(3, .one (.ref 4099 0))], [(4099, ⟨false, [.own 1 (.row ki) v1 none]⟩)]⟩
theorem k_spec_OneM_1 (n : Nat) (v1 : List (List Int)) : KP L n 113 p_spec_OneM_0 [] (.exit 0) (S_spec_OneM_1 v1) = some [⟨.row (.row ki), v1⟩] := by kernel_rfl
theorem l_spec_OneM_0 (a0 : Int) (n : Nat) (m : Nat) (v0 : Int) (v1 : List (List Int)) : LP L n 113 p_spec_OneM_0 [] (m + 1) (S_spec_OneM_0 a0 v0 v1) = bnd (cnd (ilt v0 a0) (pc L n 110 [⟨ki, a0⟩, ⟨ki, 1⟩, ⟨ki, 8⟩] (.pair .bool .unit)) (some (false, ()))) fun (q0 : (Bool × Unit)) => cnd (sel (ilt v0 a0) q0.1 false) (bnd (must (cutB 0 a0 1073741824)) fun (_ : Unit) => bnd (must (inB v0 (rlen (rrep a0 (0 : Int))))) fun (_ : Unit) => bnd (must (ile (iplus (rlen v1) (rlen [rset (rrep a0 (0 : Int)) v0 1])) 1073741824)) fun (_ : Unit) => LP L n 113 p_spec_OneM_0 [] m (S_spec_OneM_0 a0 (iadd .i64 v0 1) (rapp v1 [rset (rrep a0 (0 : Int)) v0 1]))) (KP L n 113 p_spec_OneM_0 [] (.exit 0) (S_spec_OneM_1 v1)) := by kernel_rfl
theorem f_spec_OneM (a0 : Int) (n : Nat) : pcall L (n + 1) 113 [⟨ki, a0⟩] = LP L n 113 p_spec_OneM_0 [] n (S_spec_OneM_0 a0 0 (([] : List (List Int)))) := by kernel_rfl
theorem f_spec_InvG (a0 : Int) (n : Nat) : pcall L (n + 1) 114 [⟨ki, a0⟩] = bnd (pc L n 123 [⟨ki, a0⟩] (.pair ki .unit)) fun (q0 : (Int × Unit)) => cnd (ieq q0.1 0) (some [⟨ki, 0⟩]) (bnd (pc L n 124 [⟨ki, q0.1⟩, ⟨ki, 254⟩] (.pair ki .unit)) fun (q1 : (Int × Unit)) => some [⟨ki, q1.1⟩]) := by kernel_rfl
def p_spec_PowG_0 : List Dir := [.r, .r, .r, .l, .r, .i]
def S_spec_PowG_0 (a0 : Int) (a1 : Int) (v0 : Int) (v1 : Int) : St := ⟨tT 19 [(0, .one (.d ki a0)), (1, .one (.d ki a1)), (5, .one (.d ki v0)), (6, .one (.d ki v1))], []⟩
def S_spec_PowG_1 (v0 : Int) : St := ⟨tT 19 [(5, .one (.d ki v0))], []⟩
theorem k_spec_PowG_1 (n : Nat) (v0 : Int) : KP L n 124 p_spec_PowG_0 [] (.exit 0) (S_spec_PowG_1 v0) = some [⟨ki, v0⟩] := by kernel_rfl
theorem l_spec_PowG_0 (a0 : Int) (a1 : Int) (n : Nat) (m : Nat) (v0 : Int) (v1 : Int) : LP L n 124 p_spec_PowG_0 [] (m + 1) (S_spec_PowG_0 a0 a1 v0 v1) = cnd (ilt v1 a1) (bnd (pc L n 122 [⟨ki, v0⟩, ⟨ki, a0⟩] (.pair ki .unit)) fun (q0 : (Int × Unit)) => LP L n 124 p_spec_PowG_0 [] m (S_spec_PowG_0 a0 a1 q0.1 (iadd .i64 v1 1))) (KP L n 124 p_spec_PowG_0 [] (.exit 0) (S_spec_PowG_1 v0)) := by kernel_rfl
theorem f_spec_PowG (a0 : Int) (a1 : Int) (n : Nat) : pcall L (n + 1) 124 [⟨ki, a0⟩, ⟨ki, a1⟩] = bnd (pc L n 110 [⟨ki, a1⟩, ⟨ki, 0⟩, ⟨ki, 1000⟩] (.pair .bool .unit)) fun (q0 : (Bool × Unit)) => cnd (bnot q0.1) (some [⟨ki, 0⟩]) (LP L n 124 p_spec_PowG_0 [] n (S_spec_PowG_0 a0 a1 1 0)) := by kernel_rfl
def p_spec_CodeOf_0 : List Dir := [.r, .r, .r, .r, .r, .l, .r, .i]
def S_spec_CodeOf_0 (v0 : Int) (v1 : Int) (v2 : Int) (v3 : List (List Int)) : St := ⟨tT 49 [(3, .one (.d ki v0)), (4, .one (.d ki v1)), (6, .one (.ref 4102 0)), (7, .one (.d ki v2))], [(4102, ⟨false, [.own 1 (.row ki) v3 none]⟩)]⟩
def p_spec_CodeOf_1 : List Dir := [.r, .r, .r, .r, .r, .l, .r, .i, .i, .r, .l, .i, .r, .l, .r, .i]
def S_spec_CodeOf_1 (v0 : Int) (v1 : Int) (v2 : Int) (v3 : List (List Int)) (v1_0 : Int) (v1_1 : List Int) : St := ⟨tT 49 [(3, .one (.d ki v0)), (4, .one (.d ki v1)), (6, .one (.ref 4102 0)), (7, .one (.d ki v2)), (8, .one (.ref 4104 0)), (9, .one (.d ki v1_0))], [(4102, ⟨false, [.own 1 (.row ki) v3 none]⟩), (4104, ⟨false, [.own 1 ki v1_1 none]⟩)]⟩
def S_spec_CodeOf_2 (v3 : List (List Int)) : St := ⟨tT 49 [(6, .one (.ref 4102 0))], [(4102, ⟨false, [.own 1 (.row ki) v3 none]⟩)]⟩
def S_spec_CodeOf_3 (v0 : Int) (v1 : Int) (v2 : Int) (v3 : List (List Int)) (v1_1 : List Int) : St := ⟨tT 49 [(3, .one (.d ki v0)), (4, .one (.d ki v1)), (6, .one (.ref 4102 0)), (7, .one (.d ki v2)), (8, .one (.ref 4104 0))], [(4102, ⟨false, [.own 1 (.row ki) v3 none]⟩), (4104, ⟨false, [.own 1 ki v1_1 none]⟩)]⟩
theorem k_spec_CodeOf_3 (n : Nat) (v0 : Int) (v1 : Int) (v2 : Int) (v3 : List (List Int)) (v1_1 : List Int) (m0 : Nat) : KP L n 94 p_spec_CodeOf_1 [m0] (.exit 2) (S_spec_CodeOf_3 v0 v1 v2 v3 v1_1) = bnd (must (ile (iplus (rlen v3) (rlen [v1_1])) 1073741824)) fun (_ : Unit) => LP L n 94 p_spec_CodeOf_0 [] m0 (S_spec_CodeOf_0 v0 v1 (iadd .i64 v2 1) (rapp v3 [v1_1])) := by kernel_rfl
theorem k_spec_CodeOf_2 (n : Nat) (v3 : List (List Int)) : KP L n 94 p_spec_CodeOf_0 [] (.exit 0) (S_spec_CodeOf_2 v3) = some [⟨.row (.row ki), v3⟩] := by kernel_rfl
theorem l_spec_CodeOf_1 (n : Nat) (v0 : Int) (v1 : Int) (v2 : Int) (v3 : List (List Int)) (m : Nat) (m0 : Nat) (v1_0 : Int) (v1_1 : List Int) : LP L n 94 p_spec_CodeOf_1 [m0] (m + 1) (S_spec_CodeOf_1 v0 v1 v2 v3 v1_0 v1_1) = cnd (ilt v1_0 v0) (bnd (pc L n 114 [⟨ki, ixor .i64 (iadd .i64 v0 v2) v1_0⟩] (.pair ki .unit)) fun (q0 : (Int × Unit)) => bnd (must (ile (iplus (rlen v1_1) (rlen [q0.1])) 1073741824)) fun (_ : Unit) => LP L n 94 p_spec_CodeOf_1 [m0] m (S_spec_CodeOf_1 v0 v1 v2 v3 (iadd .i64 v1_0 1) (rapp v1_1 [q0.1]))) (KP L n 94 p_spec_CodeOf_1 [m0] (.exit 2) (S_spec_CodeOf_3 v0 v1 v2 v3 v1_1)) := by kernel_rfl
theorem l_spec_CodeOf_0 (n : Nat) (m : Nat) (v0 : Int) (v1 : Int) (v2 : Int) (v3 : List (List Int)) : LP L n 94 p_spec_CodeOf_0 [] (m + 1) (S_spec_CodeOf_0 v0 v1 v2 v3) = cnd (ilt v2 v1) (LP L n 94 p_spec_CodeOf_1 [m] n (S_spec_CodeOf_1 v0 v1 v2 v3 0 (([] : List Int)))) (KP L n 94 p_spec_CodeOf_0 [] (.exit 0) (S_spec_CodeOf_2 v3)) := by kernel_rfl
theorem f_spec_CodeOf (a0 : Int) (n : Nat) : pcall L (n + 1) 94 [⟨ki, a0⟩] = bnd (pc L n 11 [⟨ki, a0⟩] (.pair ki (.pair ki (.pair .bool .unit)))) fun (q0 : (Int × (Int × (Bool × Unit)))) => cnd (bnot q0.2.2.1) (some [⟨.row (.row ki), ([] : List (List Int))⟩]) (bnd (pc L n 113 [⟨ki, q0.1⟩] (.pair (.row (.row ki)) .unit)) fun (q1 : (List (List Int) × Unit)) => bnd (must (ile (iplus (rlen (([] : List (List Int)))) (rlen q1.1)) 1073741824)) fun (_ : Unit) => LP L n 94 p_spec_CodeOf_0 [] n (S_spec_CodeOf_0 q0.1 q0.2.1 0 (rapp (([] : List (List Int))) q1.1))) := by kernel_rfl
def p_spec_Encode_0 : List Dir := [.r, .r, .r, .r, .l, .r, .i]
def S_spec_Encode_0 (a0 : Int) (a1 : List ByteArray) (v0 : Int) (v1 : Int) (v2 : Int) : St := ⟨tT 73 [(0, .one (.d ki a0)), (1, .one (.d (.row .str) a1)), (6, .one (.d ki v0)), (9, .one (.d ki v1)), (10, .one (.d ki v2))], []⟩
def S_spec_Encode_1  : St := ⟨tT 73 [(4, .one (.ref 4100 0)), (5, .one (.d .bool false))], [(4100, ⟨false, [.own 1 .str (([] : List ByteArray)) none]⟩)]⟩
def S_spec_Encode_2 (a0 : Int) (a1 : List ByteArray) (v0 : Int) (v1 : Int) : St := ⟨tT 73 [(0, .one (.d ki a0)), (1, .one (.d (.row .str) a1)), (6, .one (.d ki v0)), (9, .one (.d ki v1))], []⟩
def p_spec_Encode_1 : List Dir := [.r, .r, .r, .r, .r, .r, .l, .r, .i]
def S_spec_Encode_3 (a0 : Int) (a1 : List ByteArray) (v0 : Int) (v1 : Int) (v3_0 : Int) (v3_1 : List ByteArray) : St := ⟨tT 73 [(0, .one (.d ki a0)), (1, .one (.d (.row .str) a1)), (6, .one (.d ki v0)), (9, .one (.d ki v1)), (11, .one (.ref 4107 0)), (12, .one (.d ki v3_0))], [(4107, ⟨false, [.own 1 .str v3_1 none]⟩)]⟩
def S_spec_Encode_4 (a0 : Int) (v3_1 : List ByteArray) : St := ⟨tT 73 [(0, .one (.d ki a0)), (11, .one (.ref 4107 0))], [(4107, ⟨false, [.own 1 .str v3_1 none]⟩)]⟩
theorem k_spec_Encode_4 (a0 : Int) (n : Nat) (v3_1 : List ByteArray) : KP L n 64 p_spec_Encode_1 [] (.exit 2) (S_spec_Encode_4 a0 v3_1) = bnd (pc L n 94 [⟨ki, a0⟩] (.pair (.row (.row ki)) .unit)) fun (q0 : (List (List Int) × Unit)) => bnd (pc L n 93 [⟨.row (.row ki), q0.1⟩, ⟨.row .str, v3_1⟩] (.pair (.row .str) .unit)) fun (q1 : (List ByteArray × Unit)) => some [⟨.row .str, q1.1⟩, ⟨.bool, true⟩] := by kernel_rfl
theorem l_spec_Encode_3 (a0 : Int) (a1 : List ByteArray) (n : Nat) (v0 : Int) (v1 : Int) (m : Nat) (v3_0 : Int) (v3_1 : List ByteArray) : LP L n 64 p_spec_Encode_1 [] (m + 1) (S_spec_Encode_3 a0 a1 v0 v1 v3_0 v3_1) = cnd (ilt v3_0 v0) (bnd (must (inB v3_0 (rlen a1))) fun (_ : Unit) => bnd (must (cutB 0 v1 1073741824)) fun (_ : Unit) => bnd (pc L n 92 [⟨.str, rget a1 v3_0 ⟨#[]⟩⟩, ⟨.str, sof (rrep v1 (0 : Int))⟩] (.pair .str .unit)) fun (q0 : (ByteArray × Unit)) => bnd (must (ile (iplus (rlen v3_1) (rlen [q0.1])) 1073741824)) fun (_ : Unit) => LP L n 64 p_spec_Encode_1 [] m (S_spec_Encode_3 a0 a1 v0 v1 (iadd .i64 v3_0 1) (rapp v3_1 [q0.1]))) (KP L n 64 p_spec_Encode_1 [] (.exit 2) (S_spec_Encode_4 a0 v3_1)) := by kernel_rfl
theorem k_spec_Encode_2 (a0 : Int) (a1 : List ByteArray) (n : Nat) (v0 : Int) (v1 : Int) : KP L n 64 p_spec_Encode_0 [] (.exit 0) (S_spec_Encode_2 a0 a1 v0 v1) = LP L n 64 p_spec_Encode_1 [] n (S_spec_Encode_3 a0 a1 v0 v1 0 (([] : List ByteArray))) := by kernel_rfl
theorem k_spec_Encode_1 (n : Nat) : KP L n 64 p_spec_Encode_0 [] .ret (S_spec_Encode_1) = some [⟨.row .str, ([] : List ByteArray)⟩, ⟨.bool, false⟩] := by kernel_rfl
theorem l_spec_Encode_0 (n : Nat) (a0 : Int) (a1 : List ByteArray) (m : Nat) (v0 : Int) (v1 : Int) (v2 : Int) : LP L n 64 p_spec_Encode_0 [] (m + 1) (S_spec_Encode_0 a0 a1 v0 v1 v2) = cnd (ilt v2 v0) (bnd (must (inB v2 (rlen a1))) fun (_ : Unit) => cnd (igt (slen (rget a1 v2 ⟨#[]⟩)) 200) (KP L n 64 p_spec_Encode_0 [] .ret (S_spec_Encode_1)) (bnd (must (inB v2 (rlen a1))) fun (_ : Unit) => cnd (igt (slen (rget a1 v2 ⟨#[]⟩)) v1) (bnd (must (inB v2 (rlen a1))) fun (_ : Unit) => LP L n 64 p_spec_Encode_0 [] m (S_spec_Encode_0 a0 a1 v0 (slen (rget a1 v2 ⟨#[]⟩)) (iadd .i64 v2 1))) (LP L n 64 p_spec_Encode_0 [] m (S_spec_Encode_0 a0 a1 v0 v1 (iadd .i64 v2 1))))) (KP L n 64 p_spec_Encode_0 [] (.exit 0) (S_spec_Encode_2 a0 a1 v0 v1)) := by kernel_rfl
theorem f_spec_Encode (a0 : Int) (a1 : List ByteArray) (n : Nat) : pcall L (n + 1) 64 [⟨ki, a0⟩, ⟨.row .str, a1⟩] = bnd (pc L n 11 [⟨ki, a0⟩] (.pair ki (.pair ki (.pair .bool .unit)))) fun (q0 : (Int × (Int × (Bool × Unit)))) => cnd (sel (bnot q0.2.2.1) true (ine (rlen a1) q0.1)) (some [⟨.row .str, ([] : List ByteArray)⟩, ⟨.bool, false⟩]) (LP L n 64 p_spec_Encode_0 [] n (S_spec_Encode_0 a0 a1 q0.1 0 0)) := by kernel_rfl
theorem len_rset {α : Type} {xs : List α} {i : Int} {x : α} : (rset xs i x).length = xs.length := List.length_set ..
theorem len_rapp {α : Type} {xs ys : List α} : (rapp xs ys).length = xs.length + ys.length := List.length_append ..
theorem len_rrep {α : Type} {i : Int} {x : α} : (rrep i x).length = i.toNat := List.length_replicate ..
theorem rget_mem {α : Type} {xs : List α} {i : Int} {d : α} (h0 : @LE.le Int _ 0 i) (h1 : @LT.lt Int _ i xs.length) : rget xs i d ∈ xs := by
 unfold rget
 have h : i.toNat < xs.length := by omega
 rw [List.getD_eq_getElem?_getD, List.getElem?_eq_getElem h]
 exact List.getElem_mem h
theorem rset_mem {α : Type} {xs : List α} {i : Int} {x y : α} (h : y ∈ rset xs i x) : y ∈ xs ∨ y = x := List.mem_or_eq_of_mem_set h
theorem Run.mono {o : Option (List Leaf)} {k : K} {P Q : k.ty → Prop} (h : Run o k P) (hq : ∀ x, P x → Q x) : Run o k Q := h.imp fun _ h => ⟨h.1, hq _ h.2⟩

theorem mod_E : Evt fun n => ∀ a : Int, ∃ x, pc L n 123 [⟨ki, a⟩] (.pair ki .unit) = some x ∧ InI 0 255 x.1 := by
 refine Evt.succ (Evt.now fun n a => pc_run ?_)
 rw [f_spec_l05Mod]
 have hr : -256 < irem a 256 ∧ irem a 256 < 256 := by
  by_cases h : 0 ≤ a
  ·rw [irem_eq h (by omega)]; omega
  ·have : irem a 256 = -(irem (-a) 256) := by unfold irem; rw [Int.neg_tmod]; omega
   rw [this, irem_eq (by omega) (by omega)]
   omega
 by_cases h : irem a 256 < 0
 ·rw [ilt_t h, cnd_t, iadd_eq (by omega) (by omega)]
  exact ⟨(irem a 256 + 256, ()), rfl, show @LE.le Int _ 0 (irem a 256 + 256) from by omega, show @LE.le Int _ (irem a 256 + 256) 255 from by omega⟩
 ·rw [ilt_f h, cnd_f]
  exact ⟨(irem a 256, ()), rfl, show @LE.le Int _ 0 (irem a 256) from by omega, show @LE.le Int _ (irem a 256) 255 from by omega⟩

theorem mulG_loop (n : Nat) : ∀ (m : Nat) (a b o : Int), 0 ≤ b → b < 1000 → b.toNat < m → Run (LP L n 122 p_spec_MulG_0 [] m (S_spec_MulG_0 a b o)) (.pair ki .unit) fun _ => True
 | 0, _, _, _, _, _, h => absurd h (Nat.not_lt_zero _)
 | m + 1, a, b, o, h0, h1, h => by
  rw [l_spec_MulG_0]
  by_cases hb : 0 < b
  ·rw [igt_t hb, cnd_t, iquo_eq h0 (by omega) (by omega)]
   have h2 : b / 2 < b := Int.ediv_lt_of_lt_mul (by omega) (by omega)
   have h3 : 0 ≤ b / 2 := Int.ediv_nonneg h0 (by omega)
   have key : ∀ a o, Run (LP L n 122 p_spec_MulG_0 [] m (S_spec_MulG_0 a (b / 2) o)) (.pair ki .unit) fun _ => True := fun a o => mulG_loop n m a (b / 2) o h3 (by omega) (by omega)
   cases ieq (irem b 2) 1 with
   | true => cases ige (imul .i64 2 a) 256 with
    | true => simp only [cnd_t, cnd_f]; exact key _ _
    | false => simp only [cnd_t, cnd_f]; exact key _ _
   | false => cases ige (imul .i64 2 a) 256 with
    | true => simp only [cnd_t, cnd_f]; exact key _ _
    | false => simp only [cnd_t, cnd_f]; exact key _ _
  ·rw [igt_f hb, cnd_f, k_spec_MulG_1]
   exact ⟨(o, ()), rfl, trivial⟩

theorem mulG_E : Evt fun n => ∀ a b : Int, ∃ x, pc L n 122 [⟨ki, a⟩, ⟨ki, b⟩] (.pair ki .unit) = some x ∧ True := by
 refine Evt.succ ((mod_E.and (Evt.ge 300)).mono fun n hn a b => pc_run ?_)
 rw [f_spec_MulG]
 obtain ⟨x, hx, _⟩ := hn.1 a
 obtain ⟨y, hy, h0, h1⟩ := hn.1 b
 rw [hx, bnd_s, hy, bnd_s]
 exact mulG_loop n n _ _ _ h0 (by omega) (by have := hn.2; omega)

theorem powG_loop (n : Nat) (hg : ∀ a b : Int, ∃ x, pc L n 122 [⟨ki, a⟩, ⟨ki, b⟩] (.pair ki .unit) = some x ∧ True) (a b : Int) (hb : b ≤ 1000) :
  ∀ (m : Nat) (o i : Int), 0 ≤ i → i ≤ 1000 → (b - i).toNat < m → Run (LP L n 124 p_spec_PowG_0 [] m (S_spec_PowG_0 a b o i)) (.pair ki .unit) fun _ => True
 | 0, _, _, _, _, h => absurd h (Nat.not_lt_zero _)
 | m + 1, o, i, h0, h1, h => by
  rw [l_spec_PowG_0]
  by_cases hi : i < b
  ·obtain ⟨x, hx, _⟩ := hg o a
   rw [ilt_t hi, cnd_t, hx, bnd_s, iadd_eq (by omega) (by omega)]
   exact powG_loop n hg a b hb m _ _ (by omega) (by omega) (by omega)
  ·rw [ilt_f hi, cnd_f, k_spec_PowG_1]
   exact ⟨(o, ()), rfl, trivial⟩

theorem powG_E : Evt fun n => ∀ a b : Int, ∃ x, pc L n 124 [⟨ki, a⟩, ⟨ki, b⟩] (.pair ki .unit) = some x ∧ True := by
 refine Evt.succ (((mulG_E.and in_E).and (Evt.ge 1001)).mono fun n hn a b => pc_run ?_)
 rw [f_spec_PowG, hn.1.2, bnd_s]
 by_cases h : 0 ≤ b ∧ b ≤ 1000
 ·rw [show (decide (0 ≤ b ∧ b ≤ 1000), ()).1 = true from decide_eq_true h, bnot_t, cnd_f]
  exact powG_loop n hn.1.1 a b h.2 n _ _ (Int.le_refl 0) (by omega) (by have := hn.2; omega)
 ·rw [show (decide (0 ≤ b ∧ b ≤ 1000), ()).1 = false from decide_eq_false h, bnot_f, cnd_t]
  exact ⟨(0, ()), rfl, trivial⟩

theorem invG_E : Evt fun n => ∀ a : Int, ∃ x, pc L n 114 [⟨ki, a⟩] (.pair ki .unit) = some x ∧ True := by
 refine Evt.succ ((powG_E.and mod_E).mono fun n hn a => pc_run ?_)
 rw [f_spec_InvG]
 obtain ⟨x, hx, _⟩ := hn.2 a
 obtain ⟨y, hy, _⟩ := hn.1 x.1 254
 rw [hx, bnd_s, hy]
 cases ieq x.1 0 with
 | true => exact ⟨(0, ()), rfl, trivial⟩
 | false => exact ⟨(y.1, ()), rfl, trivial⟩

theorem mulT_loop (n : Nat) (hg : ∀ a b : Int, ∃ x, pc L n 122 [⟨ki, a⟩, ⟨ki, b⟩] (.pair ki .unit) = some x ∧ True) (a : Int) (z : Nat) (hz : z ≤ 5000) :
  ∀ (m : Nat) (i : Int) (v : List Int), 0 ≤ i → v.length = z → ((z : Int) - i).toNat < m → Run (LP L n 112 p_spec_MulText_0 [] m (S_spec_MulText_0 a i v)) (.pair .str .unit) fun x => x.1.size = z
 | 0, _, _, _, _, h => absurd h (Nat.not_lt_zero _)
 | m + 1, i, v, h0, hv, h => by
  rw [l_spec_MulText_0]
  by_cases hi : @LT.lt Int _ i v.length
  ·obtain ⟨x, hx, _⟩ := hg a (iwrap .i64 (rget v i 0))
   rw [show ilt i (rlen v) = true from ilt_t hi, cnd_t, must_of (inB_of h0 hi), bnd_s, hx, bnd_s, bnd_s, iadd_eq (by omega) (by omega)]
   exact mulT_loop n hg a z hz m _ _ (by omega) (by rw [len_rset]; exact hv) (by omega)
  ·rw [show ilt i (rlen v) = false from ilt_f hi, cnd_f, k_spec_MulText_1]
   exact ⟨(sof v, ()), rfl, (size_sof v).trans hv⟩

theorem mulT_E : Evt fun n => ∀ (a : Int) (s : ByteArray), s.size ≤ 5000 → ∃ x, pc L n 112 [⟨ki, a⟩, ⟨.str, s⟩] (.pair .str .unit) = some x ∧ x.1.size = s.size := by
 refine Evt.succ ((mulG_E.and (Evt.ge 5001)).mono fun n hn a s hs => pc_run ?_)
 rw [f_spec_MulText]
 exact mulT_loop n hn.1 a s.size hs n 0 _ (Int.le_refl 0) (len_sbytes s) (by have := hn.2; omega)

theorem addT_loop (n : Nat) (s : ByteArray) (z : Nat) (hs : s.size ≤ z) (hz : z ≤ 5000) :
  ∀ (m : Nat) (i : Int) (v : List Int), 0 ≤ i → v.length = z → ((s.size : Int) - i).toNat < m → Run (LP L n 92 p_spec_AddText_0 [] m (S_spec_AddText_0 s i v)) (.pair .str .unit) fun x => x.1.size = z
 | 0, _, _, _, _, h => absurd h (Nat.not_lt_zero _)
 | m + 1, i, v, h0, hv, h => by
  rw [l_spec_AddText_0]
  by_cases hi : @LT.lt Int _ i s.size
  ·rw [show ilt i (slen s) = true from ilt_t hi, cnd_t, must_of (inB_of h0 (by omega)), bnd_s, must_of (sinB_of h0 hi), bnd_s, bnd_s, iadd_eq (by omega) (by omega)]
   exact addT_loop n s z hs hz m _ _ (by omega) (by rw [len_rset]; exact hv) (by omega)
  ·rw [show ilt i (slen s) = false from ilt_f hi, cnd_f, k_spec_AddText_1]
   exact ⟨(sof v, ()), rfl, (size_sof v).trans hv⟩

theorem addT_E : Evt fun n => ∀ (s t : ByteArray), s.size ≤ 5000 → t.size ≤ 5000 → ∃ x, pc L n 92 [⟨.str, s⟩, ⟨.str, t⟩] (.pair .str .unit) = some x ∧ x.1.size = max s.size t.size := by
 refine Evt.succ ((Evt.ge 5001).mono fun n hn s t hs ht => pc_run ?_)
 rw [f_spec_AddText]
 by_cases h : @LT.lt Int _ s.size t.size
 ·rw [show ilt (slen s) (slen t) = true from ilt_t h, cnd_t]
  exact (addT_loop n s t.size (by omega) ht n 0 _ (Int.le_refl 0) (len_sbytes t) (by omega)).mono fun x hx => by rw [hx]; omega
 ·rw [show ilt (slen s) (slen t) = false from ilt_f h, cnd_f]
  exact (addT_loop n t s.size (by omega) hs n 0 _ (Int.le_refl 0) (len_sbytes s) (by omega)).mono fun x hx => by rw [hx]; omega
theorem oneM_loop (n : Nat) (hI : ∀ a b c : Int, pc L n 110 [⟨ki, a⟩, ⟨ki, b⟩, ⟨ki, c⟩] (.pair .bool .unit) = some (decide (b ≤ a ∧ a ≤ c), ())) (a : Int) (h1 : 1 ≤ a) (h8 : a ≤ 8) :
  ∀ (m : Nat) (i : Int) (v : List (List Int)), 0 ≤ i → (v.length : Int) = i → i ≤ a → (a - i).toNat < m → Run (LP L n 113 p_spec_OneM_0 [] m (S_spec_OneM_0 a i v)) (.pair (.row (.row ki)) .unit) fun x => x.1.length ≤ 8
 | 0, _, _, _, _, _, h => absurd h (Nat.not_lt_zero _)
 | m + 1, i, v, h0, hv, hi, h => by
  rw [l_spec_OneM_0]
  by_cases hlt : i < a
  ·rw [ilt_t hlt, cnd_t, hI, bnd_s, sel_t, show (decide (1 ≤ a ∧ a ≤ 8), ()).1 = true from decide_eq_true ⟨h1, h8⟩, cnd_t, must_of (cutB_of (Int.le_refl 0) (by omega) (by omega)), bnd_s,
    must_of (inB_of h0 (by rw [len_rrep]; omega)), bnd_s, fitsR (by simp only [List.length_cons, List.length_nil]; omega), bnd_s, iadd_eq (by omega) (by omega)]
   exact oneM_loop n hI a h1 h8 m _ _ (by omega) (by rw [len_rapp, List.length_singleton]; omega) (by omega) (by omega)
  ·rw [ilt_f hlt, cnd_f, bnd_s, sel_f, cnd_f, k_spec_OneM_1]
   exact ⟨(v, ()), rfl, show v.length ≤ 8 from by omega⟩

theorem oneM_E : Evt fun n => ∀ a : Int, 1 ≤ a → a ≤ 8 → ∃ x, pc L n 113 [⟨ki, a⟩] (.pair (.row (.row ki)) .unit) = some x ∧ x.1.length ≤ 8 := by
 refine Evt.succ ((in_E.and (Evt.ge 10)).mono fun n hn a h1 h8 => pc_run ?_)
 rw [f_spec_OneM]
 exact oneM_loop n hn.1 a h1 h8 n 0 _ (Int.le_refl 0) rfl (by omega) (by have := hn.2; omega)

theorem codeOf_in (n : Nat) (hg : ∀ a : Int, ∃ x, pc L n 114 [⟨ki, a⟩] (.pair ki .unit) = some x ∧ True) (k w i : Int) (v : List (List Int)) (hk : k ≤ 8) (hv : v.length ≤ 20) (m0 : Nat) (P : (K.pair (.row (.row ki)) .unit).ty → Prop)
  (next : ∀ row : List Int, Run (LP L n 94 p_spec_CodeOf_0 [] m0 (S_spec_CodeOf_0 k w (iadd .i64 i 1) (rapp v [row]))) (.pair (.row (.row ki)) .unit) P) :
  ∀ (m : Nat) (j : Int) (r : List Int), 0 ≤ j → j ≤ 8 → r.length ≤ j.toNat → (k - j).toNat < m → Run (LP L n 94 p_spec_CodeOf_1 [m0] m (S_spec_CodeOf_1 k w i v j r)) (.pair (.row (.row ki)) .unit) P
 | 0, _, _, _, _, _, h => absurd h (Nat.not_lt_zero _)
 | m + 1, j, r, h0, h8, hr, h => by
  rw [l_spec_CodeOf_1]
  by_cases hlt : j < k
  ·obtain ⟨x, hx, _⟩ := hg (ixor .i64 (iadd .i64 k i) j)
   rw [ilt_t hlt, cnd_t, hx, bnd_s, fitsR (by simp only [List.length_cons, List.length_nil]; omega), bnd_s, iadd_eq (by omega) (by omega)]
   exact codeOf_in n hg k w i v hk hv m0 P next m _ _ (by omega) (by omega) (by rw [len_rapp, List.length_singleton]; omega) (by omega)
  ·rw [ilt_f hlt, cnd_f, k_spec_CodeOf_3, fitsR (by simp only [List.length_cons, List.length_nil]; omega), bnd_s]
   exact next r

theorem codeOf_loop (n : Nat) (hn : 100 ≤ n) (hg : ∀ a : Int, ∃ x, pc L n 114 [⟨ki, a⟩] (.pair ki .unit) = some x ∧ True) (k w : Int) (hk : k ≤ 8) (hw : w ≤ 8) :
  ∀ (m : Nat) (i : Int) (v : List (List Int)), 0 ≤ i → i ≤ 8 → v.length ≤ 8 + i.toNat → (w - i).toNat < m → Run (LP L n 94 p_spec_CodeOf_0 [] m (S_spec_CodeOf_0 k w i v)) (.pair (.row (.row ki)) .unit) fun x => x.1.length ≤ 20
 | 0, _, _, _, _, _, h => absurd h (Nat.not_lt_zero _)
 | m + 1, i, v, h0, h8, hv, h => by
  rw [l_spec_CodeOf_0]
  by_cases hlt : i < w
  ·rw [ilt_t hlt, cnd_t]
   refine codeOf_in n hg k w i v hk (by omega) m _ (fun row => ?_) n 0 [] (Int.le_refl 0) (by omega) (by simp) (by omega)
   rw [iadd_eq (by omega) (by omega)]
   exact codeOf_loop n hn hg k w hk hw m _ _ (by omega) (by omega) (by rw [len_rapp, List.length_singleton]; omega) (by omega)
  ·rw [ilt_f hlt, cnd_f, k_spec_CodeOf_2]
   exact ⟨(v, ()), rfl, show v.length ≤ 20 from by omega⟩

theorem codeOf_E : Evt fun n => ∀ a : Int, ∃ x, pc L n 94 [⟨ki, a⟩] (.pair (.row (.row ki)) .unit) = some x ∧ x.1.length ≤ 20 := by
 refine Evt.succ ((((schema_E.and oneM_E).and invG_E).and (Evt.ge 100)).mono fun n hn a => pc_run ?_)
 obtain ⟨⟨⟨hs, ho⟩, hg⟩, hn⟩ := hn
 rw [f_spec_CodeOf]
 obtain ⟨⟨k, w, b, u⟩, hx, hc, _⟩ := hs a
 rw [hx, bnd_s]
 rcases hc with ⟨hb, h2, h4, g1, g2, _⟩ | ⟨hb, _⟩
 ·obtain rfl : b = true := hb
  obtain ⟨y, hy, hl⟩ := ho k (Int.le_trans (by decide) h2) (Int.le_trans h4 (by decide))
  rw [show (bnot ((k, w, true, u) : Int × Int × Bool × Unit).2.2.1) = false from rfl, cnd_f, hy, bnd_s, fitsR (by simp only [List.length_nil]; omega), bnd_s]
  refine codeOf_loop n hn hg k w (Int.le_trans h4 (by decide)) (Int.le_trans g2 (by decide)) n 0 _ (Int.le_refl 0) (by omega) (by rw [len_rapp, List.length_nil]; omega) ?_
  have : @LE.le Int _ w 2 := g2
  omega
 ·obtain rfl : b = false := hb
  exact ⟨(([] : List (List Int)), ()), rfl, Nat.zero_le _⟩

def Even (a : List (List Int)) : Prop := (1 ≤ a.length ∧ a.length ≤ 8) ∧ ∀ i : Nat, i < a.length → (a.getD i []).length = (a.getD 0 []).length

theorem matOk_in (n : Nat) (hI : ∀ a b c : Int, pc L n 110 [⟨ki, a⟩, ⟨ki, b⟩, ⟨ki, c⟩] (.pair .bool .unit) = some (decide (b ≤ a ∧ a ≤ c), ())) (a : List (List Int)) (i : Int) (i0 : 0 ≤ i) (i1 : @LT.lt Int _ i a.length) (hl : (rget a i []).length ≤ 8) (m0 : Nat) (P : (K.pair .bool .unit).ty → Prop) (hP : P (false, ()))
  (next : Run (LP L n 111 p_spec_MatrixOk_0 [] m0 (S_spec_MatrixOk_0 a (iadd .i64 i 1))) (.pair .bool .unit) P) :
  ∀ (m : Nat) (j : Int), 0 ≤ j → j ≤ 8 → (8 - j).toNat < m → Run (LP L n 111 p_spec_MatrixOk_1 [m0] m (S_spec_MatrixOk_1 a i j)) (.pair .bool .unit) P
 | 0, _, _, _, h => absurd h (Nat.not_lt_zero _)
 | m + 1, j, h0, h8, h => by
  rw [l_spec_MatrixOk_1, must_of (inB_of i0 i1), bnd_s]
  by_cases hlt : @LT.lt Int _ j (rget a i []).length
  ·rw [show ilt j (rlen (rget a i [])) = true from ilt_t hlt, cnd_t, bnd_s, must_of (inB_of h0 hlt), bnd_s, hI, bnd_s]
   by_cases hd : 0 ≤ rget (rget a i []) j 0 ∧ rget (rget a i []) j 0 ≤ 255
   ·rw [show (decide (0 ≤ rget (rget a i []) j 0 ∧ rget (rget a i []) j 0 ≤ 255), ()).1 = true from decide_eq_true hd, bnot_t, cnd_f, iadd_eq (by omega) (by omega)]
    exact matOk_in n hI a i i0 i1 hl m0 P hP next m _ (by omega) (by omega) (by omega)
   ·rw [show (decide (0 ≤ rget (rget a i []) j 0 ∧ rget (rget a i []) j 0 ≤ 255), ()).1 = false from decide_eq_false hd, bnot_f, cnd_t, k_spec_MatrixOk_4, k_spec_MatrixOk_2]
    exact ⟨(false, ()), rfl, hP⟩
  ·rw [show ilt j (rlen (rget a i [])) = false from ilt_f hlt, cnd_f, k_spec_MatrixOk_5]
   exact next

theorem matOk_loop (n : Nat) (hn : 100 ≤ n) (hI : ∀ a b c : Int, pc L n 110 [⟨ki, a⟩, ⟨ki, b⟩, ⟨ki, c⟩] (.pair .bool .unit) = some (decide (b ≤ a ∧ a ≤ c), ())) (a : List (List Int)) (ha : a.length ≤ 20) :
  ∀ (m : Nat) (i : Int), 0 ≤ i → i ≤ a.length → (∀ j : Nat, (j : Int) < i → (a.getD j []).length = (a.getD 0 []).length) → ((a.length : Int) - i).toNat < m → Run (LP L n 111 p_spec_MatrixOk_0 [] m (S_spec_MatrixOk_0 a i)) (.pair .bool .unit) fun x => x.1 = true → Even a
 | 0, _, _, _, _, h => absurd h (Nat.not_lt_zero _)
 | m + 1, i, h0, hi, hj, h => by
  rw [l_spec_MatrixOk_0]
  by_cases hlt : @LT.lt Int _ i a.length
  ·rw [show ilt i (rlen a) = true from ilt_t hlt, cnd_t, must_of (inB_of h0 hlt), bnd_s, must_of (inB_of (Int.le_refl 0) (by omega)), bnd_s]
   by_cases he : rlen (rget a i []) = rlen (rget a 0 [])
   ·rw [ine_f he, bnot_f, cnd_t, bnd_s, cnd_t, hI, bnd_s, sel_f]
    have he' : (a.getD i.toNat []).length = (a.getD 0 []).length := by unfold rlen rget at he; exact Int.ofNat_inj.1 he
    by_cases hd : 1 ≤ rlen (rget a i []) ∧ rlen (rget a i []) ≤ 8
    ·rw [show (decide (1 ≤ rlen (rget a i []) ∧ rlen (rget a i []) ≤ 8), ()).1 = true from decide_eq_true hd, bnot_t, cnd_f]
     have h88 : (rget a i []).length ≤ 8 := by have := hd.2; unfold rlen at this; omega
     refine matOk_in n hI a i h0 hlt h88 m _ (fun h => by cases h) ?_ n 0 (Int.le_refl 0) (by omega) (by omega)
     rw [iadd_eq (by omega) (by omega)]
     refine matOk_loop n hn hI a ha m _ (by omega) (by omega) (fun j hj' => ?_) (by omega)
     by_cases hji : (j : Int) < i
     ·exact hj j hji
     ·obtain rfl : j = i.toNat := by omega
      exact he'
    ·rw [show (decide (1 ≤ rlen (rget a i []) ∧ rlen (rget a i []) ≤ 8), ()).1 = false from decide_eq_false hd, bnot_f, cnd_t, k_spec_MatrixOk_2]
     exact ⟨(false, ()), rfl, fun h => by cases h⟩
   ·rw [ine_t he, bnot_t, cnd_f, bnd_s, cnd_f, bnd_s, sel_t, cnd_t, k_spec_MatrixOk_2]
    exact ⟨(false, ()), rfl, fun h => by cases h⟩
  ·rw [show ilt i (rlen a) = false from ilt_f hlt, cnd_f, k_spec_MatrixOk_3, hI, bnd_s]
   refine ⟨(_, ()), rfl, fun hd => ?_⟩
   have hd' : 1 ≤ rlen a ∧ rlen a ≤ 8 := of_decide_eq_true hd
   unfold rlen at hd'
   exact ⟨by omega, fun j hj' => hj j (by omega)⟩

theorem matOk_E : Evt fun n => ∀ a : List (List Int), a.length ≤ 20 → ∃ x, pc L n 111 [⟨.row (.row ki), a⟩] (.pair .bool .unit) = some x ∧ (x.1 = true → Even a) := by
 refine Evt.succ ((in_E.and (Evt.ge 100)).mono fun n hn a ha => pc_run ?_)
 rw [f_spec_MatrixOk]
 exact matOk_loop n hn.2 hn.1 a ha n 0 (Int.le_refl 0) (by omega) (fun j hj => by omega) (by have := hn.2; omega)
def Sz (z : Nat) (l : List ByteArray) : Prop := ∀ x ∈ l, x.size ≤ z
theorem Sz.app {z : Nat} {l : List ByteArray} {x : ByteArray} (h : Sz z l) (hx : x.size ≤ z) : Sz z (rapp l [x]) := fun y hy => by
 rcases List.mem_append.1 hy with hy | hy
 ·exact h y hy
 ·obtain rfl := List.mem_singleton.1 hy; exact hx
theorem Sz.get {z : Nat} {l : List ByteArray} {i : Int} (h : Sz z l) (h0 : @LE.le Int _ 0 i) (h1 : @LT.lt Int _ i l.length) : (rget l i ⟨#[]⟩).size ≤ z := h _ (rget_mem h0 h1)

def MulOk (n : Nat) : Prop := ∀ (a : Int) (s : ByteArray), s.size ≤ 5000 → ∃ x, pc L n 112 [⟨ki, a⟩, ⟨.str, s⟩] (.pair .str .unit) = some x ∧ x.1.size = s.size
def AddOk (n : Nat) : Prop := ∀ (s t : ByteArray), s.size ≤ 5000 → t.size ≤ 5000 → ∃ x, pc L n 92 [⟨.str, s⟩, ⟨.str, t⟩] (.pair .str .unit) = some x ∧ x.1.size = max s.size t.size

theorem apply_in (n : Nat) (hm : MulOk n) (ha : AddOk n) (a : List (List Int)) (us : List ByteArray) (hu : Sz 200 us) (i : Int) (i0 : 0 ≤ i) (i1 : @LT.lt Int _ i a.length) (hl : (rget a i []).length = us.length) (hu8 : us.length ≤ 8) (v : List ByteArray) (hv : v.length ≤ 20) (m0 : Nat) (P : (K.pair (.row .str) .unit).ty → Prop)
  (next : ∀ s : ByteArray, s.size ≤ 200 → Run (LP L n 93 p_spec_ApplyM_0 [] m0 (S_spec_ApplyM_0 a us (iadd .i64 i 1) (rapp v [s]))) (.pair (.row .str) .unit) P) :
  ∀ (m : Nat) (j : Int) (s : ByteArray), 0 ≤ j → j ≤ 8 → s.size ≤ 200 → (8 - j).toNat < m → Run (LP L n 93 p_spec_ApplyM_1 [m0] m (S_spec_ApplyM_1 a us i v s j)) (.pair (.row .str) .unit) P
 | 0, _, _, _, _, _, h => absurd h (Nat.not_lt_zero _)
 | m + 1, j, s, h0, h8, hs, h => by
  rw [l_spec_ApplyM_1]
  by_cases hlt : @LT.lt Int _ j us.length
  ·have hz := hu.get h0 hlt
   obtain ⟨x, hx, hxz⟩ := hm (rget (rget a i []) j 0) (rget us j ⟨#[]⟩) (by omega)
   obtain ⟨y, hy, hyz⟩ := ha s x.1 (by omega) (by omega)
   rw [show ilt j (rlen us) = true from ilt_t hlt, cnd_t, must_of (inB_of i0 i1), bnd_s, must_of (inB_of h0 (by omega)), bnd_s, must_of (inB_of h0 hlt), bnd_s, hx, bnd_s, hy, bnd_s, iadd_eq (by omega) (by omega)]
   exact apply_in n hm ha a us hu i i0 i1 hl hu8 v hv m0 P next m _ _ (by omega) (by omega) (by omega) (by omega)
  ·rw [show ilt j (rlen us) = false from ilt_f hlt, cnd_f, k_spec_ApplyM_3, fitsR (by simp only [List.length_cons, List.length_nil]; omega), bnd_s]
   exact next s hs

theorem apply_loop (n : Nat) (hn : 100 ≤ n) (hm : MulOk n) (ha : AddOk n) (a : List (List Int)) (us : List ByteArray) (hu : Sz 200 us) (he : Even a) (hl : (a.getD 0 []).length = us.length) (hu8 : us.length ≤ 8) :
  ∀ (m : Nat) (i : Int) (v : List ByteArray), 0 ≤ i → i ≤ a.length → (v.length : Int) = i → Sz 200 v → ((a.length : Int) - i).toNat < m → Run (LP L n 93 p_spec_ApplyM_0 [] m (S_spec_ApplyM_0 a us i v)) (.pair (.row .str) .unit) fun x => x.1.length ≤ 8 ∧ Sz 200 x.1
 | 0, _, _, _, _, _, _, h => absurd h (Nat.not_lt_zero _)
 | m + 1, i, v, h0, hi, hv, hz, h => by
  have h8 := he.1.2
  rw [l_spec_ApplyM_0]
  by_cases hlt : @LT.lt Int _ i a.length
  ·rw [show ilt i (rlen a) = true from ilt_t hlt, cnd_t]
   have hrow : (rget a i []).length = us.length := by rw [← hl]; exact he.2 i.toNat (by omega)
   refine apply_in n hm ha a us hu i h0 hlt hrow hu8 v (by omega) m _ (fun s hs => ?_) n 0 _ (Int.le_refl 0) (by omega) (Nat.zero_le _) (by omega)
   rw [iadd_eq (by omega) (by omega)]
   exact apply_loop n hn hm ha a us hu he hl hu8 m _ _ (by omega) (by omega) (by rw [len_rapp, List.length_singleton]; omega) (hz.app hs) (by omega)
  ·rw [show ilt i (rlen a) = false from ilt_f hlt, cnd_f, k_spec_ApplyM_2]
   exact ⟨(v, ()), rfl, show v.length ≤ 8 from by omega, hz⟩

theorem apply_E : Evt fun n => ∀ (a : List (List Int)) (us : List ByteArray), a.length ≤ 20 → us.length ≤ 8 → Sz 200 us → ∃ x, pc L n 93 [⟨.row (.row ki), a⟩, ⟨.row .str, us⟩] (.pair (.row .str) .unit) = some x ∧ x.1.length ≤ 8 ∧ Sz 200 x.1 := by
 refine Evt.succ ((((matOk_E.and mulT_E).and addT_E).and (Evt.ge 100)).mono fun n hn a us ha hu hz => pc_run ?_)
 obtain ⟨⟨⟨ho, hm⟩, had⟩, hn⟩ := hn
 rw [f_spec_ApplyM]
 obtain ⟨⟨b, u⟩, hx, he⟩ := ho a ha
 rw [hx, bnd_s]
 cases b with
 | false =>
  rw [show (bnot ((false, u) : Bool × Unit).1) = true from rfl, bnot_t, cnd_f, bnd_s, sel_t, cnd_t]
  exact ⟨(([] : List ByteArray), ()), rfl, Nat.zero_le _, fun x hx => by cases hx⟩
 | true =>
  have he := he rfl
  have h1 := he.1
  rw [show (bnot ((true, u) : Bool × Unit).1) = false from rfl, bnot_f, cnd_t, must_of (inB_of (Int.le_refl 0) (by omega)), bnd_s, sel_f]
  by_cases hl : rlen (rget a 0 []) = rlen us
  ·rw [ine_f hl, cnd_f]
   unfold rlen rget at hl
   exact apply_loop n hn hm had a us hz he (Int.ofNat_inj.1 hl) hu n 0 _ (Int.le_refl 0) (by omega) rfl (fun x hx => by cases hx) (by omega)
  ·rw [ine_t hl, cnd_t]
   exact ⟨(([] : List ByteArray), ()), rfl, Nat.zero_le _, fun x hx => by cases hx⟩

def EncP (x : (K.pair (.row .str) (.pair .bool .unit)).ty) : Prop := x.1.length ≤ 8 ∧ Sz 200 x.1

theorem enc_fill (n : Nat) (s : Int) (hf : ∀ v : List ByteArray, v.length ≤ 8 → Sz 200 v → Run (KP L n 64 p_spec_Encode_1 [] (.exit 2) (S_spec_Encode_4 s v)) (.pair (.row .str) (.pair .bool .unit)) EncP) (ha : AddOk n) (us : List ByteArray) (k w : Int) (hk : k = us.length) (hk8 : k ≤ 8) (hw0 : 0 ≤ w) (hw : w ≤ 200) (hz : Sz 200 us) :
  ∀ (m : Nat) (i : Int) (v : List ByteArray), 0 ≤ i → i ≤ k → (v.length : Int) = i → Sz 200 v → (k - i).toNat < m → Run (LP L n 64 p_spec_Encode_1 [] m (S_spec_Encode_3 s us k w i v)) (.pair (.row .str) (.pair .bool .unit)) EncP
 | 0, _, _, _, _, _, _, h => absurd h (Nat.not_lt_zero _)
 | m + 1, i, v, h0, hi, hv, hvz, h => by
  rw [l_spec_Encode_3]
  by_cases hlt : i < k
  ·have h1 := hz.get h0 (by omega)
   have h2 : (sof (rrep w (0 : Int))).size = w.toNat := by rw [size_sof, len_rrep]
   obtain ⟨x, hx, hxz⟩ := ha (rget us i ⟨#[]⟩) (sof (rrep w (0 : Int))) (by omega) (by omega)
   rw [ilt_t hlt, cnd_t, must_of (inB_of h0 (by omega)), bnd_s, must_of (cutB_of (Int.le_refl 0) hw0 (by omega)), bnd_s, hx, bnd_s, fitsR (by simp only [List.length_cons, List.length_nil]; omega), bnd_s, iadd_eq (by omega) (by omega)]
   exact enc_fill n s hf ha us k w hk hk8 hw0 hw hz m _ _ (by omega) (by omega) (by rw [len_rapp, List.length_singleton]; omega) (hvz.app (by omega)) (by omega)
  ·rw [ilt_f hlt, cnd_f]
   exact hf v (by omega) hvz

theorem enc_loop (n : Nat) (s : Int) (us : List ByteArray) (k : Int) (hk : k = us.length) (hk8 : k ≤ 8)
  (next : ∀ w : Int, 0 ≤ w → w ≤ 200 → Sz 200 us → Run (LP L n 64 p_spec_Encode_1 [] n (S_spec_Encode_3 s us k w 0 [])) (.pair (.row .str) (.pair .bool .unit)) EncP) :
  ∀ (m : Nat) (w i : Int), 0 ≤ w → w ≤ 200 → 0 ≤ i → i ≤ k → (∀ j : Nat, (j : Int) < i → (us.getD j ⟨#[]⟩).size ≤ 200) → (k - i).toNat < m → Run (LP L n 64 p_spec_Encode_0 [] m (S_spec_Encode_0 s us k w i)) (.pair (.row .str) (.pair .bool .unit)) EncP
 | 0, _, _, _, _, _, _, _, h => absurd h (Nat.not_lt_zero _)
 | m + 1, w, i, hw0, hw, h0, hi, hj, h => by
  rw [l_spec_Encode_0]
  by_cases hlt : i < k
  ·rw [ilt_t hlt, cnd_t, must_of (inB_of h0 (by omega)), bnd_s]
   by_cases hb : 200 < slen (rget us i ⟨#[]⟩)
   ·rw [igt_t hb, cnd_t, k_spec_Encode_1]
    exact ⟨(([] : List ByteArray), false, ()), rfl, Nat.zero_le _, fun x hx => by cases hx⟩
   ·rw [igt_f hb, cnd_f, bnd_s, bnd_s, iadd_eq (a := i) (by omega) (by omega)]
    unfold slen at hb
    have hs : (us.getD i.toNat ⟨#[]⟩).size ≤ 200 := by unfold rget at hb; omega
    have hj' : ∀ j : Nat, (j : Int) < i + 1 → (us.getD j ⟨#[]⟩).size ≤ 200 := fun j hj' => by
     by_cases hji : (j : Int) < i
     ·exact hj j hji
     ·obtain rfl : j = i.toNat := by omega
      exact hs
    by_cases hg : w < slen (rget us i ⟨#[]⟩)
    ·rw [igt_t hg, cnd_t]
     exact enc_loop n s us k hk hk8 next m _ _ (by unfold slen; omega) (by unfold slen; omega) (by omega) (by omega) hj' (by omega)
    ·rw [igt_f hg, cnd_f]
     exact enc_loop n s us k hk hk8 next m _ _ hw0 hw (by omega) (by omega) hj' (by omega)
  ·rw [ilt_f hlt, cnd_f, k_spec_Encode_2]
   refine next w hw0 hw fun x hx => ?_
   obtain ⟨j, hj1, rfl⟩ := List.getElem_of_mem hx
   have := hj j (by omega)
   rwa [List.getD_eq_getElem?_getD, List.getElem?_eq_getElem hj1] at this

theorem encode_E : Evt fun n => ∀ (s : Int) (us : List ByteArray), ∃ x, pc L n 64 [⟨ki, s⟩, ⟨.row .str, us⟩] (.pair (.row .str) (.pair .bool .unit)) = some x ∧ EncP x := by
 refine Evt.succ (((((schema_E.and codeOf_E).and apply_E).and addT_E).and (Evt.ge 100)).mono fun n hn s us => pc_run ?_)
 obtain ⟨⟨⟨⟨hs, hc⟩, hap⟩, had⟩, hn⟩ := hn
 rw [f_spec_Encode]
 obtain ⟨⟨k, w, b, u⟩, hx, hk, _⟩ := hs s
 rw [hx, bnd_s]
 have none : Run (some [⟨.row .str, ([] : List ByteArray)⟩, ⟨.bool, false⟩]) (.pair (.row .str) (.pair .bool .unit)) EncP := ⟨(([] : List ByteArray), false, ()), rfl, Nat.zero_le _, fun x hx => by cases hx⟩
 rcases hk with ⟨hb, h2, h4, _⟩ | ⟨hb, _⟩
 ·obtain rfl : b = true := hb
  have h4 : @LE.le Int _ k 4 := h4
  rw [show (bnot ((k, w, true, u) : Int × Int × Bool × Unit).2.2.1) = false from rfl, sel_f]
  by_cases hl : rlen us = k
  ·rw [ine_f hl, cnd_f]
   unfold rlen at hl
   refine enc_loop n s us k hl.symm (by omega) (fun w w0 w1 hz => ?_) n 0 0 (Int.le_refl 0) (by omega) (Int.le_refl 0) (by omega) (fun j hj => by omega) (by omega)
   refine enc_fill n s (fun v hv hvz => ?_) had us k w hl.symm (by omega) w0 w1 hz n 0 [] (Int.le_refl 0) (by omega) rfl (fun x hx => by cases hx) (by omega)
   rw [k_spec_Encode_4]
   obtain ⟨c, hc, hcl⟩ := hc s
   obtain ⟨y, hy, hyl, hyz⟩ := hap c.1 v hcl hv hvz
   rw [hc, bnd_s, hy, bnd_s]
   exact ⟨(y.1, true, ()), rfl, hyl, hyz⟩
  ·rw [ine_t hl, cnd_t]; exact none
 ·obtain rfl : b = false := hb
  rw [show (bnot ((k, w, false, u) : Int × Int × Bool × Unit).2.2.1) = true from rfl, sel_t, cnd_t]
  exact none
def skk (s : Int) : Int := if s = 1 then 2 else if s = 2 then 3 else if s = 3 then 4 else 0
def skm (s : Int) : Int := if s = 1 then 1 else if s = 2 then 2 else if s = 3 then 2 else 0
def sko (s : Int) : Bool := if s = 1 then true else if s = 2 then true else if s = 3 then true else false
theorem schema_eq : Evt fun n => ∀ s : Int, pc L n 11 [⟨ki, s⟩] (.pair ki (.pair ki (.pair .bool .unit))) = some (skk s, skm s, sko s, ()) := by
 refine Evt.succ (Evt.now fun n s => pc_of ?_)
 rw [f_spec_SchemaOf]
 unfold skk skm sko
 by_cases h1 : s = 1
 ·rw [ieq_t h1, cnd_t, if_pos h1, if_pos h1, if_pos h1]; rfl
 rw [ieq_f h1, cnd_f, if_neg h1, if_neg h1, if_neg h1]
 by_cases h2 : s = 2
 ·rw [ieq_t h2, cnd_t, if_pos h2, if_pos h2, if_pos h2]; rfl
 rw [ieq_f h2, cnd_f, if_neg h2, if_neg h2, if_neg h2]
 by_cases h3 : s = 3
 ·rw [ieq_t h3, cnd_t, if_pos h3, if_pos h3, if_pos h3]; rfl
 rw [ieq_f h3, cnd_f, if_neg h3, if_neg h3, if_neg h3]; rfl
theorem skk_range (s : Int) : 0 ≤ skk s ∧ skk s ≤ 4 := by
 unfold skk
 by_cases h1 : s = 1
 ·rw [if_pos h1]; omega
 rw [if_neg h1]
 by_cases h2 : s = 2
 ·rw [if_pos h2]; omega
 rw [if_neg h2]
 by_cases h3 : s = 3
 ·rw [if_pos h3]; omega
 ·rw [if_neg h3]; omega
theorem sko_true {s : Int} (h : sko s = true) : 2 ≤ skk s ∧ 1 ≤ s ∧ s ≤ 3 := by
 unfold sko at h; unfold skk
 split at h
 ·rw [if_pos (by assumption)]; omega
 split at h
 ·rw [if_neg (by assumption), if_pos (by assumption)]; omega
 split at h
 ·rw [if_neg (by assumption), if_neg (by assumption), if_pos (by assumption)]; omega
 ·cases h
theorem group_eq : Evt fun n => ∀ s : Int, pc L n 40 [⟨ki, s⟩] (.pair ki .unit) = some (skk s * 8, ()) := by
 refine Evt.succ (schema_eq.mono fun n hs s => pc_of ?_)
 rw [f_spec_GroupSize, hs s, bnd_s]
 have := skk_range s
 show some [(⟨ki, imul .i64 (imul .i64 (skk s) 4) 2⟩ : Leaf)] = some [⟨ki, skk s * 8⟩]
 rw [imul_eq (a := skk s) (by omega) (by omega), imul_eq (a := skk s * 4) (by omega) (by omega)]
 congr 3
 show skk s * 4 * 2 = skk s * 8
 omega

theorem place_E : Evt fun n => ∀ (s i : Int), 0 ≤ i → i ≤ 100000 → sko s = true → ∃ x, pc L n 91 [⟨ki, s⟩, ⟨ki, i⟩] (.pair ki (.pair ki (.pair ki .unit))) = some x ∧ InI 0 (skk s - 1) x.2.1 := by
 refine Evt.succ (((schema_eq.and group_eq).and in_E).mono fun n hn s i h0 h1 hs => pc_run ?_)
 obtain ⟨⟨hsc, hg⟩, hI⟩ := hn
 obtain ⟨k2, _, _⟩ := sko_true hs
 have k4 := (skk_range s).2
 rw [f_spec_PlaceOf, hsc s, bnd_s, show ((skk s, skm s, sko s, ()) : Int × Int × Bool × Unit).2.2.1 = true from hs, bnot_t, bnot_f, cnd_t, hI, bnd_s, sel_f, show (decide (0 ≤ i ∧ i ≤ 100000), ()).1 = true from decide_eq_true ⟨h0, h1⟩, bnot_t, cnd_f, hg, bnd_s]
 rw [must_of (ine_t (show ¬ skk s * 8 = 0 from by omega)), bnd_s, bnd_s, must_of (ine_t (show ¬ skk s = 0 from by omega)), bnd_s, bnd_s]
 refine ⟨(_, _, _, ()), rfl, ?_⟩
 show InI 0 (skk s - 1) (irem (iquo .i64 (irem i (skk s * 8)) 4) (skk s))
 have e1 : 0 ≤ i % (skk s * 8) := Int.emod_nonneg _ (by omega)
 have e2 : i % (skk s * 8) < skk s * 8 := Int.emod_lt_of_pos _ (by omega)
 rw [irem_eq h0 (by omega), iquo_eq e1 (by omega) (by omega)]
 have e3 : 0 ≤ i % (skk s * 8) / 4 := Int.ediv_nonneg e1 (by omega)
 rw [irem_eq e3 (by omega)]
 have e4 : 0 ≤ i % (skk s * 8) / 4 % skk s := Int.emod_nonneg _ (by omega)
 have e5 : i % (skk s * 8) / 4 % skk s < skk s := Int.emod_lt_of_pos _ (by omega)
 exact ⟨e4, by omega⟩

def PlaceOk (n : Nat) : Prop := ∀ (s i : Int), 0 ≤ i → i ≤ 100000 → sko s = true → ∃ x, pc L n 91 [⟨ki, s⟩, ⟨ki, i⟩] (.pair ki (.pair ki (.pair ki .unit))) = some x ∧ InI 0 (skk s - 1) x.2.1

theorem cut_loop (n : Nat) (hp : PlaceOk n) (s : Int) (t : ByteArray) (hs : sko s = true) (ht : t.size ≤ 32) :
  ∀ (m : Nat) (v : List ByteArray) (i : Int), 0 ≤ i → i ≤ t.size → (v.length : Int) = skk s → Sz i.toNat v → ((t.size : Int) - i).toNat < m → Run (LP L n 63 p_spec_CutUnits_0 [] m (S_spec_CutUnits_0 s t v i)) (.pair (.row .str) (.pair .bool .unit)) fun x => x.1.length ≤ 8 ∧ Sz 200 x.1
 | 0, _, _, _, _, _, _, h => absurd h (Nat.not_lt_zero _)
 | m + 1, v, i, h0, hi, hv, hz, h => by
  have k4 := (skk_range s).2
  rw [l_spec_CutUnits_0]
  by_cases hlt : @LT.lt Int _ i t.size
  ·obtain ⟨⟨_, u, _, _⟩, hx, hu0, hu1⟩ := hp s i h0 (by omega) hs
   have hu0 : @LE.le Int _ 0 u := hu0
   have hu1 : @LE.le Int _ u (skk s - 1) := hu1
   rw [show ilt i (slen t) = true from ilt_t hlt, cnd_t, hx, bnd_s, iadd_eq (by omega) (by omega)]
   show Run (bnd (must (inB u (rlen v))) _) _ _
   have hc : ((scut t i (i + 1)).size : Int) = i + 1 - i := size_cut t h0 (by omega) (by omega)
   have hg := hz.get (i := u) hu0 (by omega)
   rw [must_of (inB_of hu0 (by omega)), bnd_s, must_of (cutB_of h0 (by omega) (show i + 1 ≤ slen t from by unfold slen; omega)), bnd_s]
   show Run (bnd (must (ile (iplus (slen (rget v u ⟨#[]⟩)) (slen (scut t i (i + 1)))) 9223372036854775807)) _) _ _
   rw [fits (by omega), bnd_s, bnd_s]
   refine cut_loop n hp s t hs ht m _ _ (by omega) (by omega) (by rw [len_rset]; exact hv) (fun x hx => ?_) (by omega)
   rcases rset_mem hx with hx | rfl
   ·have := hz x hx; omega
   ·rw [size_cat]
    have : (rget v u ⟨#[]⟩).size ≤ i.toNat := hg
    show (rget v u ⟨#[]⟩).size + _ ≤ _
    omega
  ·rw [show ilt i (slen t) = false from ilt_f hlt, cnd_f, k_spec_CutUnits_1]
   exact ⟨(v, true, ()), rfl, show v.length ≤ 8 from by omega, fun x hx => by have := hz x hx; omega⟩

theorem cut_E : Evt fun n => ∀ (s : Int) (t : ByteArray), ∃ x, pc L n 63 [⟨ki, s⟩, ⟨.str, t⟩] (.pair (.row .str) (.pair .bool .unit)) = some x ∧ x.1.length ≤ 8 ∧ Sz 200 x.1 := by
 refine Evt.succ ((((schema_eq.and group_eq).and place_E).and (Evt.ge 100)).mono fun n hn s t => pc_run ?_)
 obtain ⟨⟨⟨hsc, hg⟩, hp⟩, hn⟩ := hn
 have none : Run (some [⟨.row .str, ([] : List ByteArray)⟩, ⟨.bool, false⟩]) (.pair (.row .str) (.pair .bool .unit)) (fun x => x.1.length ≤ 8 ∧ Sz 200 x.1) := ⟨(([] : List ByteArray), false, ()), rfl, Nat.zero_le _, fun x hx => by cases hx⟩
 rw [f_spec_CutUnits, hsc s, bnd_s]
 by_cases hs : sko s = true
 ·rw [show ((skk s, skm s, sko s, ()) : Int × Int × Bool × Unit).2.2.1 = true from hs, bnot_t, bnot_f, cnd_t, hg, bnd_s, sel_f]
  have k4 := (skk_range s).2
  have k0 := (skk_range s).1
  by_cases hl : skk s * 8 < slen t
  ·rw [show igt (slen t) ((skk s * 8, ()) : Int × Unit).1 = true from igt_t hl, cnd_t]; exact none
  ·rw [show igt (slen t) ((skk s * 8, ()) : Int × Unit).1 = false from igt_f hl, cnd_f]
   show Run (bnd (must (cutB 0 (skk s) 1073741824)) _) _ _
   rw [must_of (cutB_of (Int.le_refl 0) k0 (by omega)), bnd_s]
   unfold slen at hl
   refine cut_loop n hp s t hs (by omega) n _ _ (Int.le_refl 0) (by omega) (by rw [len_rrep]; show ((skk s).toNat : Int) = skk s; omega) (fun x hx => ?_) (by omega)
   have : x = ⟨#[]⟩ := List.eq_of_mem_replicate hx
   subst this
   exact Nat.le_refl 0
 ·have hs' : sko s = false := by simpa using hs
  rw [show ((skk s, skm s, sko s, ()) : Int × Int × Bool × Unit).2.2.1 = false from hs', bnot_f, bnot_t, cnd_f, bnd_s, sel_t, cnd_t]
  exact none
theorem f_spec_l14Copy (n : Nat) (a0 : Int) (a1 : Bool) (a2 : List kUnit.ty) : pcall L (n + 1) 69 [⟨ki, a0⟩, ⟨.bool, a1⟩, ⟨.row kUnit, a2⟩] = bnd (must (ile (iplus (rlen (([] : List kUnit.ty))) (rlen a2)) 1073741824)) fun (_ : Unit) => some [⟨ki, a0⟩, ⟨.bool, a1⟩, ⟨.row kUnit, rapp (([] : List kUnit.ty)) a2⟩] := by kernel_rfl
def p_spec_l15Copy_0 : List Dir := [.r, .r, .l, .r, .i]
def S_spec_l15Copy_0 (a0 : List kHost.ty) (v0 : Int) (v1 : List kHost.ty) : St := ⟨tT 21 [(0, .one (.d (.row kHost) a0)), (3, .one (.ref 4099 0)), (4, .one (.d ki v0))], [(4099, ⟨false, [.own 1 kHost v1 none]⟩)]⟩
def S_spec_l15Copy_1 (v1 : List kHost.ty) : St := ⟨tT 21 [(3, .one (.ref 4099 0))], [(4099, ⟨false, [.own 1 kHost v1 none]⟩)]⟩
theorem k_spec_l15Copy_1 (n : Nat) (v1 : List kHost.ty) : KP L n 66 p_spec_l15Copy_0 [] (.exit 0) (S_spec_l15Copy_1 v1) = some [⟨.row kHost, v1⟩] := by kernel_rfl
theorem l_spec_l15Copy_0 (a0 : List kHost.ty) (n : Nat) (m : Nat) (v0 : Int) (v1 : List kHost.ty) : LP L n 66 p_spec_l15Copy_0 [] (m + 1) (S_spec_l15Copy_0 a0 v0 v1) = cnd (ilt v0 (rlen a0)) (bnd (must (inB v0 (rlen a0))) fun (_ : Unit) => bnd (pc L n 69 [⟨ki, (rget a0 v0 kHost.dflt).1⟩, ⟨.bool, ((rget a0 v0 kHost.dflt).2).1⟩, ⟨.row kUnit, (((rget a0 v0 kHost.dflt).2).2).1⟩] kHost) fun (q0 : kHost.ty) => bnd (must (ile (iplus (rlen v1) (rlen [(q0.1, (q0.2.1, (q0.2.2.1, ())))])) 1073741824)) fun (_ : Unit) => LP L n 66 p_spec_l15Copy_0 [] m (S_spec_l15Copy_0 a0 (iadd .i64 v0 1) (rapp v1 [(q0.1, (q0.2.1, (q0.2.2.1, ())))]))) (KP L n 66 p_spec_l15Copy_0 [] (.exit 0) (S_spec_l15Copy_1 v1)) := by kernel_rfl
theorem f_spec_l15Copy (a0 : List kHost.ty) (n : Nat) : pcall L (n + 1) 66 [⟨.row kHost, a0⟩] = LP L n 66 p_spec_l15Copy_0 [] n (S_spec_l15Copy_0 a0 0 (([] : List kHost.ty))) := by kernel_rfl
def p_spec_l15Host_0 : List Dir := [.r, .l, .r, .i]
def S_spec_l15Host_0 (a0 : List kHost.ty) (a1 : Int) (v0 : Int) : St := ⟨tT 20 [(0, .one (.d (.row kHost) a0)), (1, .one (.d ki a1)), (5, .one (.d ki v0))], []⟩
def S_spec_l15Host_1 (v0 : Int) : St := ⟨tT 20 [(4, .one (.d ki v0))], []⟩
def S_spec_l15Host_2  : St := ⟨tT 20 [], []⟩
theorem k_spec_l15Host_1 (n : Nat) (v0 : Int) : KP L n 67 p_spec_l15Host_0 [] .ret (S_spec_l15Host_1 v0) = some [⟨ki, v0⟩] := by kernel_rfl
theorem l_spec_l15Host_0 (n : Nat) (a0 : List kHost.ty) (a1 : Int) (m : Nat) (v0 : Int) : LP L n 67 p_spec_l15Host_0 [] (m + 1) (S_spec_l15Host_0 a0 a1 v0) = cnd (ilt v0 (rlen a0)) (bnd (must (inB v0 (rlen a0))) fun (_ : Unit) => cnd (ieq ((rget a0 v0 kHost.dflt).1) a1) (KP L n 67 p_spec_l15Host_0 [] .ret (S_spec_l15Host_1 v0)) (LP L n 67 p_spec_l15Host_0 [] m (S_spec_l15Host_0 a0 a1 (iadd .i64 v0 1)))) (KP L n 67 p_spec_l15Host_0 [] (.exit 0) (S_spec_l15Host_2)) := by kernel_rfl
theorem f_spec_l15Host (a0 : List kHost.ty) (a1 : Int) (n : Nat) : pcall L (n + 1) 67 [⟨.row kHost, a0⟩, ⟨ki, a1⟩] = LP L n 67 p_spec_l15Host_0 [] n (S_spec_l15Host_0 a0 a1 0) := by kernel_rfl
theorem f_spec_SumText (a0 : ByteArray) (n : Nat) : pcall L (n + 1) 71 [⟨.str, a0⟩] = bnd (pc L n 98 [⟨.str, a0⟩] (.pair ku32 .unit)) fun (q0 : (Int × Unit)) => some [⟨ki, iwrap .i64 q0.1⟩] := by kernel_rfl
theorem f_spec_SumOf (a0 : ByteArray) (n : Nat) : pcall L (n + 1) 98 [⟨.str, a0⟩] = bnd (pc L n 116 [⟨ku32, 4294967295⟩, ⟨.str, a0⟩] (.pair ku32 .unit)) fun (q0 : (Int × Unit)) => some [⟨ku32, q0.1⟩] := by kernel_rfl
def p_spec_SumMore_0 : List Dir := [.r, .l, .r, .i]
def S_spec_SumMore_0 (a0 : Int) (a1 : ByteArray) (v0 : Int) : St := ⟨tT 33 [(0, .one (.d ku32 a0)), (1, .one (.d .str a1)), (5, .one (.d ki v0))], []⟩
def p_spec_SumMore_1 : List Dir := [.r, .l, .r, .i, .i, .r, .l, .i, .r, .r, .i]
def S_spec_SumMore_1 (a1 : ByteArray) (v0 : Int) (v1_0 : Int) (v1_1 : Int) : St := ⟨tT 33 [(0, .one (.d ku32 v1_0)), (1, .one (.d .str a1)), (5, .one (.d ki v0)), (6, .one (.d ki v1_1))], []⟩
def S_spec_SumMore_2 (a0 : Int) : St := ⟨tT 33 [(0, .one (.d ku32 a0))], []⟩
theorem k_spec_SumMore_3 (n : Nat) (a1 : ByteArray) (v0 : Int) (v1_0 : Int) (m0 : Nat) : KP L n 116 p_spec_SumMore_1 [m0] (.exit 2) (S_spec_SumMore_0 v1_0 a1 v0) = LP L n 116 p_spec_SumMore_0 [] m0 (S_spec_SumMore_0 v1_0 a1 (iadd .i64 v0 1)) := by kernel_rfl
theorem k_spec_SumMore_2 (n : Nat) (a0 : Int) : KP L n 116 p_spec_SumMore_0 [] (.exit 0) (S_spec_SumMore_2 a0) = some [⟨ku32, a0⟩] := by kernel_rfl
theorem l_spec_SumMore_1 (n : Nat) (a1 : ByteArray) (v0 : Int) (m : Nat) (m0 : Nat) (v1_0 : Int) (v1_1 : Int) : LP L n 116 p_spec_SumMore_1 [m0] (m + 1) (S_spec_SumMore_1 a1 v0 v1_0 v1_1) = cnd (ilt v1_1 8) (cnd (ieq (irem v1_0 2) 1) (LP L n 116 p_spec_SumMore_1 [m0] m (S_spec_SumMore_1 a1 v0 (ixor .u32 (iquo .u32 v1_0 2) 3558460437) (iadd .i64 v1_1 1))) (LP L n 116 p_spec_SumMore_1 [m0] m (S_spec_SumMore_1 a1 v0 (iquo .u32 v1_0 2) (iadd .i64 v1_1 1)))) (KP L n 116 p_spec_SumMore_1 [m0] (.exit 2) (S_spec_SumMore_0 v1_0 a1 v0)) := by kernel_rfl
theorem l_spec_SumMore_0 (a0 : Int) (a1 : ByteArray) (n : Nat) (m : Nat) (v0 : Int) : LP L n 116 p_spec_SumMore_0 [] (m + 1) (S_spec_SumMore_0 a0 a1 v0) = cnd (ilt v0 (slen a1)) (bnd (must (inB v0 (slen a1))) fun (_ : Unit) => LP L n 116 p_spec_SumMore_1 [m] n (S_spec_SumMore_1 a1 v0 (ixor .u32 a0 (iwrap .u32 (sat a1 v0))) 0)) (KP L n 116 p_spec_SumMore_0 [] (.exit 0) (S_spec_SumMore_2 a0)) := by kernel_rfl
theorem f_spec_SumMore (a0 : Int) (a1 : ByteArray) (n : Nat) : pcall L (n + 1) 116 [⟨ku32, a0⟩, ⟨.str, a1⟩] = LP L n 116 p_spec_SumMore_0 [] n (S_spec_SumMore_0 a0 a1 0) := by kernel_rfl
def p_spec_HostOk_0 : List Dir := [.r, .l, .r, .i]
def S_spec_HostOk_0 (a0 : Int) (a1 : Bool) (a2 : List kUnit.ty) (v0 : Int) : St := ⟨tT 57 [(1, .one (.adr 1 0)), (3, .one (.d ki v0))], [(1, ⟨true, [.tl (.d ki a0), .tl (.d .bool a1), .tl (.d (.row kUnit) a2)]⟩)]⟩
def S_spec_HostOk_1  : St := ⟨tT 57 [(2, .one (.d .bool false))], []⟩
def S_spec_HostOk_2 (a0 : Int) (a1 : Bool) (a2 : List kUnit.ty) : St := ⟨tT 57 [(1, .one (.adr 1 0))], [(1, ⟨true, [.tl (.d ki a0), .tl (.d .bool a1), .tl (.d (.row kUnit) a2)]⟩)]⟩
theorem k_spec_HostOk_2 (a0 : Int) (a1 : Bool) (a2 : List kUnit.ty) (n : Nat) : KP L n 97 p_spec_HostOk_0 [] (.exit 0) (S_spec_HostOk_2 a0 a1 a2) = bnd (pc L n 110 [⟨ki, a0⟩, ⟨ki, 1⟩, ⟨ki, 7⟩] (.pair .bool .unit)) fun (q0 : (Bool × Unit)) => some [⟨.bool, q0.1⟩] := by kernel_rfl
theorem k_spec_HostOk_1 (n : Nat) : KP L n 97 p_spec_HostOk_0 [] .ret (S_spec_HostOk_1) = some [⟨.bool, false⟩] := by kernel_rfl
theorem l_spec_HostOk_0 (a0 : Int) (a1 : Bool) (a2 : List kUnit.ty) (n : Nat) (m : Nat) (v0 : Int) : LP L n 97 p_spec_HostOk_0 [] (m + 1) (S_spec_HostOk_0 a0 a1 a2 v0) = cnd (ilt v0 (rlen a2)) (bnd (must (inB v0 (rlen a2))) fun (_ : Unit) => bnd (pc L n 110 [⟨ki, (rget a2 v0 kUnit.dflt).1⟩, ⟨ki, 1⟩, ⟨ki, 100000⟩] (.pair .bool .unit)) fun (q0 : (Bool × Unit)) => bnd (cnd (bnot (bnot q0.1)) (pc L n 110 [⟨ki, ((rget a2 v0 kUnit.dflt).2).1⟩, ⟨ki, 0⟩, ⟨ki, 5⟩] (.pair .bool .unit)) (some (false, ()))) fun (q1 : (Bool × Unit)) => bnd (cnd (bnot (sel (sel (bnot q0.1) true (bnot q1.1)) true (igt (slen ((((rget a2 v0 kUnit.dflt).2).2).1)) 200))) (pc L n 110 [⟨ki, ((((rget a2 v0 kUnit.dflt).2).2).2).1⟩, ⟨ki, 0⟩, ⟨ki, 4294967295⟩] (.pair .bool .unit)) (some (false, ()))) fun (q2 : (Bool × Unit)) => bnd (cnd (band (bnot (sel (sel (sel (bnot q0.1) true (bnot q1.1)) true (igt (slen ((((rget a2 v0 kUnit.dflt).2).2).1)) 200)) true (bnot q2.1))) (igt v0 0)) (must (inB (isub .i64 v0 1) (rlen a2))) (some ())) fun (_ : Unit) => bnd (cnd (band (bnot (sel (sel (sel (bnot q0.1) true (bnot q1.1)) true (igt (slen ((((rget a2 v0 kUnit.dflt).2).2).1)) 200)) true (bnot q2.1))) (igt v0 0)) (pc L n 96 [⟨ki, (rget a2 (isub .i64 v0 1) kUnit.dflt).1⟩, ⟨ki, ((rget a2 (isub .i64 v0 1) kUnit.dflt).2).1⟩, ⟨.str, (((rget a2 (isub .i64 v0 1) kUnit.dflt).2).2).1⟩, ⟨ki, ((((rget a2 (isub .i64 v0 1) kUnit.dflt).2).2).2).1⟩, ⟨ki, (rget a2 v0 kUnit.dflt).1⟩, ⟨ki, ((rget a2 v0 kUnit.dflt).2).1⟩, ⟨.str, (((rget a2 v0 kUnit.dflt).2).2).1⟩, ⟨ki, ((((rget a2 v0 kUnit.dflt).2).2).2).1⟩] (.pair .bool .unit)) (some (false, ()))) fun (q3 : (Bool × Unit)) => cnd (sel (sel (sel (sel (bnot q0.1) true (bnot q1.1)) true (igt (slen ((((rget a2 v0 kUnit.dflt).2).2).1)) 200)) true (bnot q2.1)) true (sel (igt v0 0) (bnot q3.1) false)) (KP L n 97 p_spec_HostOk_0 [] .ret (S_spec_HostOk_1)) (LP L n 97 p_spec_HostOk_0 [] m (S_spec_HostOk_0 a0 a1 a2 (iadd .i64 v0 1)))) (KP L n 97 p_spec_HostOk_0 [] (.exit 0) (S_spec_HostOk_2 a0 a1 a2)) := by kernel_rfl
theorem f_spec_HostOk (a0 : Int) (a1 : Bool) (a2 : List kUnit.ty) (n : Nat) : pcall L (n + 1) 97 [⟨ki, a0⟩, ⟨.bool, a1⟩, ⟨.row kUnit, a2⟩] = LP L n 97 p_spec_HostOk_0 [] n (S_spec_HostOk_0 a0 a1 a2 0) := by kernel_rfl
theorem f_spec_l14Ahead (n : Nat) (a0 : Int) (a1 : Int) (a2 : ByteArray) (a3 : Int) (a4 : Int) (a5 : Int) (a6 : ByteArray) (a7 : Int) : pcall L (n + 1) 96 [⟨ki, a0⟩, ⟨ki, a1⟩, ⟨.str, a2⟩, ⟨ki, a3⟩, ⟨ki, a4⟩, ⟨ki, a5⟩, ⟨.str, a6⟩, ⟨ki, a7⟩] = some [⟨.bool, sel (ilt a0 a4) true (sel (ieq a0 a4) (ilt a1 a5) false)⟩] := by kernel_rfl
def p_spec_PutUnit_0 : List Dir := [.r, .r, .r, .r, .l, .r, .i]
def S_spec_PutUnit_0 (a0 : Int) (a1 : Bool) (a2 : List kUnit.ty) (a3 : Int) (a4 : Int) (a5 : ByteArray) (v0 : Int) (v1 : Int) (v2 : Bool) (v3 : List kUnit.ty) (v4 : Int) (v5 : List kUnit.ty) : St := ⟨tT 87 [(2, .one (.adr 2 0)), (3, .one (.adr 3 0)), (4, .one (.adr 4 0)), (6, .one (.adr 6 0)), (7, .one (.ref 4103 0)), (8, .one (.d ki v4))], [(2, ⟨true, [.tl (.d ki a0), .tl (.d .bool a1), .tl (.d (.row kUnit) a2)]⟩), (3, ⟨true, [.tl (.d ki a3), .tl (.d ki a4), .tl (.d .str a5), .tl (.d ki v0)]⟩), (4, ⟨true, [.tl (.d ki 0), .tl (.d .bool false), .own 1 kUnit (([] : List kUnit.ty)) none]⟩), (6, ⟨true, [.tl (.d ki v1), .tl (.d .bool v2), .own 1 kUnit v3 none]⟩), (4103, ⟨false, [.own 1 kUnit v5 none]⟩)]⟩
def S_spec_PutUnit_1 (a0 : Int) (a1 : Bool) (a2 : List kUnit.ty) (a3 : Int) (a4 : Int) (a5 : ByteArray) (v0 : Int) (v1 : Int) (v2 : Bool) (v3 : List kUnit.ty) (v5 : List kUnit.ty) : St := ⟨tT 87 [(2, .one (.adr 2 0)), (3, .one (.adr 3 0)), (4, .one (.adr 4 0)), (6, .one (.adr 6 0)), (7, .one (.ref 4103 0))], [(2, ⟨true, [.tl (.d ki a0), .tl (.d .bool a1), .tl (.d (.row kUnit) a2)]⟩), (3, ⟨true, [.tl (.d ki a3), .tl (.d ki a4), .tl (.d .str a5), .tl (.d ki v0)]⟩), (4, ⟨true, [.tl (.d ki 0), .tl (.d .bool false), .own 1 kUnit (([] : List kUnit.ty)) none]⟩), (6, ⟨true, [.tl (.d ki v1), .tl (.d .bool v2), .own 1 kUnit v3 none]⟩), (4103, ⟨false, [.own 1 kUnit v5 none]⟩)]⟩
def p_spec_PutUnit_1 : List Dir := [.r, .r, .r, .r, .r, .r, .l, .r, .i]
def S_spec_PutUnit_2 (a0 : Int) (a1 : Bool) (a2 : List kUnit.ty) (a3 : Int) (a4 : Int) (a5 : ByteArray) (v0 : Int) (v1 : Int) (v2 : Bool) (v3 : List kUnit.ty) (v2_0 : Int) (v2_1 : List kUnit.ty) : St := ⟨tT 87 [(2, .one (.adr 2 0)), (3, .one (.adr 3 0)), (4, .one (.adr 4 0)), (6, .one (.adr 6 0)), (7, .one (.ref 4103 0)), (9, .one (.d ki v2_0))], [(2, ⟨true, [.tl (.d ki a0), .tl (.d .bool a1), .tl (.d (.row kUnit) a2)]⟩), (3, ⟨true, [.tl (.d ki a3), .tl (.d ki a4), .tl (.d .str a5), .tl (.d ki v0)]⟩), (4, ⟨true, [.tl (.d ki 0), .tl (.d .bool false), .own 1 kUnit (([] : List kUnit.ty)) none]⟩), (6, ⟨true, [.tl (.d ki v1), .tl (.d .bool v2), .own 1 kUnit v3 none]⟩), (4103, ⟨false, [.own 1 kUnit v2_1 none]⟩)]⟩
def S_spec_PutUnit_3 (a0 : Int) (a1 : Bool) (a2 : List kUnit.ty) (v1 : Int) (v2 : Bool) (v3 : List kUnit.ty) (v2_1 : List kUnit.ty) : St := ⟨tT 87 [(2, .one (.adr 2 0)), (4, .one (.adr 4 0)), (6, .one (.adr 6 0)), (7, .one (.ref 4103 0))], [(2, ⟨true, [.tl (.d ki a0), .tl (.d .bool a1), .tl (.d (.row kUnit) a2)]⟩), (4, ⟨true, [.tl (.d ki 0), .tl (.d .bool false), .own 1 kUnit (([] : List kUnit.ty)) none]⟩), (6, ⟨true, [.tl (.d ki v1), .tl (.d .bool v2), .own 1 kUnit v3 none]⟩), (4103, ⟨false, [.own 1 kUnit v2_1 none]⟩)]⟩
theorem k_spec_PutUnit_3 (a0 : Int) (a1 : Bool) (a2 : List kUnit.ty) (n : Nat) (v1 : Int) (v2 : Bool) (v3 : List kUnit.ty) (v2_1 : List kUnit.ty) : KP L n 68 p_spec_PutUnit_1 [] (.exit 2) (S_spec_PutUnit_3 a0 a1 a2 v1 v2 v3 v2_1) = bnd (pc L n 97 [⟨ki, a0⟩, ⟨.bool, a1⟩, ⟨.row kUnit, a2⟩] (.pair .bool .unit)) fun (q0 : (Bool × Unit)) => bnd (cnd (bnot (sel (bnot q0.1) true (bnot a1))) (pc L n 97 [⟨ki, a0⟩, ⟨.bool, a1⟩, ⟨.row kUnit, v2_1⟩] (.pair .bool .unit)) (some (false, ()))) fun (q1 : (Bool × Unit)) => cnd (sel (sel (bnot q0.1) true (bnot a1)) true (bnot q1.1)) (some [⟨ki, v1⟩, ⟨.bool, v2⟩, ⟨.row kUnit, v3⟩, ⟨.bool, false⟩]) (some [⟨ki, a0⟩, ⟨.bool, a1⟩, ⟨.row kUnit, v2_1⟩, ⟨.bool, true⟩]) := by kernel_rfl
theorem l_spec_PutUnit_2 (a0 : Int) (a1 : Bool) (a2 : List kUnit.ty) (a3 : Int) (a4 : Int) (a5 : ByteArray) (n : Nat) (v0 : Int) (v1 : Int) (v2 : Bool) (v3 : List kUnit.ty) (m : Nat) (v2_0 : Int) (v2_1 : List kUnit.ty) : LP L n 68 p_spec_PutUnit_1 [] (m + 1) (S_spec_PutUnit_2 a0 a1 a2 a3 a4 a5 v0 v1 v2 v3 v2_0 v2_1) = cnd (ilt v2_0 (rlen a2)) (bnd (must (inB v2_0 (rlen a2))) fun (_ : Unit) => bnd (pc L n 96 [⟨ki, a3⟩, ⟨ki, a4⟩, ⟨.str, a5⟩, ⟨ki, v0⟩, ⟨ki, (rget a2 v2_0 kUnit.dflt).1⟩, ⟨ki, ((rget a2 v2_0 kUnit.dflt).2).1⟩, ⟨.str, (((rget a2 v2_0 kUnit.dflt).2).2).1⟩, ⟨ki, ((((rget a2 v2_0 kUnit.dflt).2).2).2).1⟩] (.pair .bool .unit)) fun (q0 : (Bool × Unit)) => cnd q0.1 (bnd (must (inB v2_0 (rlen a2))) fun (_ : Unit) => bnd (must (ile (iplus (rlen v2_1) (rlen [((rget a2 v2_0 kUnit.dflt).1, (((rget a2 v2_0 kUnit.dflt).2).1, ((((rget a2 v2_0 kUnit.dflt).2).2).1, (((((rget a2 v2_0 kUnit.dflt).2).2).2).1, ()))))])) 1073741824)) fun (_ : Unit) => LP L n 68 p_spec_PutUnit_1 [] m (S_spec_PutUnit_2 a0 a1 a2 a3 a4 a5 v0 v1 v2 v3 (iadd .i64 v2_0 1) (rapp v2_1 [((rget a2 v2_0 kUnit.dflt).1, (((rget a2 v2_0 kUnit.dflt).2).1, ((((rget a2 v2_0 kUnit.dflt).2).2).1, (((((rget a2 v2_0 kUnit.dflt).2).2).2).1, ()))))]))) (LP L n 68 p_spec_PutUnit_1 [] m (S_spec_PutUnit_2 a0 a1 a2 a3 a4 a5 v0 v1 v2 v3 (iadd .i64 v2_0 1) v2_1))) (KP L n 68 p_spec_PutUnit_1 [] (.exit 2) (S_spec_PutUnit_3 a0 a1 a2 v1 v2 v3 v2_1)) := by kernel_rfl
theorem k_spec_PutUnit_1 (a0 : Int) (a1 : Bool) (a2 : List kUnit.ty) (a3 : Int) (a4 : Int) (a5 : ByteArray) (n : Nat) (v0 : Int) (v1 : Int) (v2 : Bool) (v3 : List kUnit.ty) (v5 : List kUnit.ty) : KP L n 68 p_spec_PutUnit_0 [] (.exit 0) (S_spec_PutUnit_1 a0 a1 a2 a3 a4 a5 v0 v1 v2 v3 v5) = bnd (must (ile (iplus (rlen v5) (rlen [(a3, (a4, (a5, (v0, ()))))])) 1073741824)) fun (_ : Unit) => LP L n 68 p_spec_PutUnit_1 [] n (S_spec_PutUnit_2 a0 a1 a2 a3 a4 a5 v0 v1 v2 v3 0 (rapp v5 [(a3, (a4, (a5, (v0, ()))))])) := by kernel_rfl
theorem l_spec_PutUnit_0 (a0 : Int) (a1 : Bool) (a2 : List kUnit.ty) (a3 : Int) (a4 : Int) (a5 : ByteArray) (n : Nat) (m : Nat) (v0 : Int) (v1 : Int) (v2 : Bool) (v3 : List kUnit.ty) (v4 : Int) (v5 : List kUnit.ty) : LP L n 68 p_spec_PutUnit_0 [] (m + 1) (S_spec_PutUnit_0 a0 a1 a2 a3 a4 a5 v0 v1 v2 v3 v4 v5) = cnd (ilt v4 (rlen a2)) (bnd (must (inB v4 (rlen a2))) fun (_ : Unit) => bnd (pc L n 96 [⟨ki, (rget a2 v4 kUnit.dflt).1⟩, ⟨ki, ((rget a2 v4 kUnit.dflt).2).1⟩, ⟨.str, (((rget a2 v4 kUnit.dflt).2).2).1⟩, ⟨ki, ((((rget a2 v4 kUnit.dflt).2).2).2).1⟩, ⟨ki, a3⟩, ⟨ki, a4⟩, ⟨.str, a5⟩, ⟨ki, v0⟩] (.pair .bool .unit)) fun (q0 : (Bool × Unit)) => cnd q0.1 (bnd (must (inB v4 (rlen a2))) fun (_ : Unit) => bnd (must (ile (iplus (rlen v5) (rlen [((rget a2 v4 kUnit.dflt).1, (((rget a2 v4 kUnit.dflt).2).1, ((((rget a2 v4 kUnit.dflt).2).2).1, (((((rget a2 v4 kUnit.dflt).2).2).2).1, ()))))])) 1073741824)) fun (_ : Unit) => LP L n 68 p_spec_PutUnit_0 [] m (S_spec_PutUnit_0 a0 a1 a2 a3 a4 a5 v0 v1 v2 v3 (iadd .i64 v4 1) (rapp v5 [((rget a2 v4 kUnit.dflt).1, (((rget a2 v4 kUnit.dflt).2).1, ((((rget a2 v4 kUnit.dflt).2).2).1, (((((rget a2 v4 kUnit.dflt).2).2).2).1, ()))))]))) (LP L n 68 p_spec_PutUnit_0 [] m (S_spec_PutUnit_0 a0 a1 a2 a3 a4 a5 v0 v1 v2 v3 (iadd .i64 v4 1) v5))) (KP L n 68 p_spec_PutUnit_0 [] (.exit 0) (S_spec_PutUnit_1 a0 a1 a2 a3 a4 a5 v0 v1 v2 v3 v5)) := by kernel_rfl
theorem f_spec_PutUnit (a0 : Int) (a1 : Bool) (a2 : List kUnit.ty) (a3 : Int) (a4 : Int) (a5 : ByteArray) (a6 : Int) (n : Nat) : pcall L (n + 1) 68 [⟨ki, a0⟩, ⟨.bool, a1⟩, ⟨.row kUnit, a2⟩, ⟨ki, a3⟩, ⟨ki, a4⟩, ⟨.str, a5⟩, ⟨ki, a6⟩] = bnd (pc L n 69 [⟨ki, a0⟩, ⟨.bool, a1⟩, ⟨.row kUnit, a2⟩] kHost) fun (q0 : kHost.ty) => bnd (pc L n 71 [⟨.str, a5⟩] (.pair ki .unit)) fun (q1 : (Int × Unit)) => LP L n 68 p_spec_PutUnit_0 [] n (S_spec_PutUnit_0 a0 a1 a2 a3 a4 a5 q1.1 q0.1 q0.2.1 q0.2.2.1 0 (([] : List kUnit.ty))) := by kernel_rfl
theorem f_spec_LoadOf (n : Nat) (a0 : Int) (a1 : Bool) (a2 : List kUnit.ty) : pcall L (n + 1) 115 [⟨ki, a0⟩, ⟨.bool, a1⟩, ⟨.row kUnit, a2⟩] = some [⟨ki, rlen a2⟩] := by kernel_rfl
def p_spec_l15Order_0 : List Dir := [.r, .r, .l, .r, .i]
def S_spec_l15Order_0 (a0 : List kHost.ty) (v0 : Int) (v1 : List Int) : St := ⟨tT 89 [(0, .one (.d (.row kHost) a0)), (3, .one (.ref 4099 0)), (4, .one (.d ki v0))], [(4099, ⟨false, [.own 1 ki v1 none]⟩)]⟩
def S_spec_l15Order_1 (a0 : List kHost.ty) (v1 : List Int) : St := ⟨tT 89 [(0, .one (.d (.row kHost) a0)), (3, .one (.ref 4099 0))], [(4099, ⟨false, [.own 1 ki v1 none]⟩)]⟩
def p_spec_l15Order_1 : List Dir := [.r, .r, .r, .l, .r, .i]
def S_spec_l15Order_2 (a0 : List kHost.ty) (v1 : List Int) (v2_0 : Int) : St := ⟨tT 89 [(0, .one (.d (.row kHost) a0)), (3, .one (.ref 4099 0)), (5, .one (.d ki v2_0))], [(4099, ⟨false, [.own 1 ki v1 none]⟩)]⟩
def p_spec_l15Order_2 : List Dir := [.r, .r, .r, .l, .r, .i, .i, .r, .l, .i, .r, .i]
def S_spec_l15Order_3 (a0 : List kHost.ty) (v2_0 : Int) (v3_0 : Int) (v3_1 : List Int) : St := ⟨tT 89 [(0, .one (.d (.row kHost) a0)), (3, .one (.ref 4099 0)), (5, .one (.d ki v2_0)), (6, .one (.d ki v3_0))], [(4099, ⟨false, [.own 1 ki v3_1 none]⟩)]⟩
def S_spec_l15Order_4 (v1 : List Int) : St := ⟨tT 89 [(3, .one (.ref 4099 0))], [(4099, ⟨false, [.own 1 ki v1 none]⟩)]⟩
theorem k_spec_l15Order_5 (n : Nat) (a0 : List kHost.ty) (v2_0 : Int) (v3_1 : List Int) (m0 : Nat) : KP L n 95 p_spec_l15Order_2 [m0] (.exit 4) (S_spec_l15Order_2 a0 v3_1 v2_0) = LP L n 95 p_spec_l15Order_1 [] m0 (S_spec_l15Order_2 a0 v3_1 (iadd .i64 v2_0 1)) := by kernel_rfl
theorem k_spec_l15Order_4 (n : Nat) (v1 : List Int) : KP L n 95 p_spec_l15Order_1 [] (.exit 2) (S_spec_l15Order_4 v1) = some [⟨.row ki, v1⟩] := by kernel_rfl
theorem l_spec_l15Order_3 (a0 : List kHost.ty) (n : Nat) (v2_0 : Int) (m : Nat) (m0 : Nat) (v3_0 : Int) (v3_1 : List Int) : LP L n 95 p_spec_l15Order_2 [m0] (m + 1) (S_spec_l15Order_3 a0 v2_0 v3_0 v3_1) = cnd (igt v3_0 0) (bnd (must (inB (isub .i64 v3_0 1) (rlen v3_1))) fun (_ : Unit) => bnd (must (inB (rget v3_1 (isub .i64 v3_0 1) 0) (rlen a0))) fun (_ : Unit) => bnd (must (inB v3_0 (rlen v3_1))) fun (_ : Unit) => bnd (must (inB (rget v3_1 v3_0 0) (rlen a0))) fun (_ : Unit) => bnd (pc L n 115 [⟨ki, (rget a0 (rget v3_1 (isub .i64 v3_0 1) 0) kHost.dflt).1⟩, ⟨.bool, ((rget a0 (rget v3_1 (isub .i64 v3_0 1) 0) kHost.dflt).2).1⟩, ⟨.row kUnit, (((rget a0 (rget v3_1 (isub .i64 v3_0 1) 0) kHost.dflt).2).2).1⟩] (.pair ki .unit)) fun (q0 : (Int × Unit)) => bnd (pc L n 115 [⟨ki, (rget a0 (rget v3_1 v3_0 0) kHost.dflt).1⟩, ⟨.bool, ((rget a0 (rget v3_1 v3_0 0) kHost.dflt).2).1⟩, ⟨.row kUnit, (((rget a0 (rget v3_1 v3_0 0) kHost.dflt).2).2).1⟩] (.pair ki .unit)) fun (q1 : (Int × Unit)) => bnd (cnd (bnot (igt q0.1 q1.1)) (pc L n 115 [⟨ki, (rget a0 (rget v3_1 (isub .i64 v3_0 1) 0) kHost.dflt).1⟩, ⟨.bool, ((rget a0 (rget v3_1 (isub .i64 v3_0 1) 0) kHost.dflt).2).1⟩, ⟨.row kUnit, (((rget a0 (rget v3_1 (isub .i64 v3_0 1) 0) kHost.dflt).2).2).1⟩] (.pair ki .unit)) (some (0, ()))) fun (q2 : (Int × Unit)) => bnd (cnd (bnot (igt q0.1 q1.1)) (pc L n 115 [⟨ki, (rget a0 (rget v3_1 v3_0 0) kHost.dflt).1⟩, ⟨.bool, ((rget a0 (rget v3_1 v3_0 0) kHost.dflt).2).1⟩, ⟨.row kUnit, (((rget a0 (rget v3_1 v3_0 0) kHost.dflt).2).2).1⟩] (.pair ki .unit)) (some (0, ()))) fun (q3 : (Int × Unit)) => cnd (sel (igt q0.1 q1.1) true (sel (ieq q2.1 q3.1) (igt ((rget a0 (rget v3_1 (isub .i64 v3_0 1) 0) kHost.dflt).1) ((rget a0 (rget v3_1 v3_0 0) kHost.dflt).1)) false)) (bnd (must (inB v3_0 (rlen v3_1))) fun (_ : Unit) => bnd (must (inB (isub .i64 v3_0 1) (rlen v3_1))) fun (_ : Unit) => bnd (must (inB v3_0 (rlen v3_1))) fun (_ : Unit) => bnd (must (inB (isub .i64 v3_0 1) (rlen (rset v3_1 v3_0 (rget v3_1 (isub .i64 v3_0 1) 0))))) fun (_ : Unit) => LP L n 95 p_spec_l15Order_2 [m0] m (S_spec_l15Order_3 a0 v2_0 (isub .i64 v3_0 1) (rset (rset v3_1 v3_0 (rget v3_1 (isub .i64 v3_0 1) 0)) (isub .i64 v3_0 1) (rget v3_1 v3_0 0)))) (LP L n 95 p_spec_l15Order_2 [m0] m (S_spec_l15Order_3 a0 v2_0 (isub .i64 v3_0 1) v3_1))) (KP L n 95 p_spec_l15Order_2 [m0] (.exit 4) (S_spec_l15Order_2 a0 v3_1 v2_0)) := by kernel_rfl
theorem l_spec_l15Order_2 (a0 : List kHost.ty) (n : Nat) (v1 : List Int) (m : Nat) (v2_0 : Int) : LP L n 95 p_spec_l15Order_1 [] (m + 1) (S_spec_l15Order_2 a0 v1 v2_0) = cnd (ilt v2_0 (rlen v1)) (LP L n 95 p_spec_l15Order_2 [m] n (S_spec_l15Order_3 a0 v2_0 v2_0 v1)) (KP L n 95 p_spec_l15Order_1 [] (.exit 2) (S_spec_l15Order_4 v1)) := by kernel_rfl
theorem k_spec_l15Order_1 (a0 : List kHost.ty) (n : Nat) (v1 : List Int) : KP L n 95 p_spec_l15Order_0 [] (.exit 0) (S_spec_l15Order_1 a0 v1) = LP L n 95 p_spec_l15Order_1 [] n (S_spec_l15Order_2 a0 v1 1) := by kernel_rfl
theorem l_spec_l15Order_0 (n : Nat) (a0 : List kHost.ty) (m : Nat) (v0 : Int) (v1 : List Int) : LP L n 95 p_spec_l15Order_0 [] (m + 1) (S_spec_l15Order_0 a0 v0 v1) = cnd (ilt v0 (rlen a0)) (bnd (must (inB v0 (rlen a0))) fun (_ : Unit) => cnd (((rget a0 v0 kHost.dflt).2).1) (bnd (must (ile (iplus (rlen v1) (rlen [v0])) 1073741824)) fun (_ : Unit) => LP L n 95 p_spec_l15Order_0 [] m (S_spec_l15Order_0 a0 (iadd .i64 v0 1) (rapp v1 [v0]))) (LP L n 95 p_spec_l15Order_0 [] m (S_spec_l15Order_0 a0 (iadd .i64 v0 1) v1))) (KP L n 95 p_spec_l15Order_0 [] (.exit 0) (S_spec_l15Order_1 a0 v1)) := by kernel_rfl
theorem f_spec_l15Order (a0 : List kHost.ty) (n : Nat) : pcall L (n + 1) 95 [⟨.row kHost, a0⟩] = LP L n 95 p_spec_l15Order_0 [] n (S_spec_l15Order_0 a0 0 (([] : List Int))) := by kernel_rfl
def p_spec_PlaceGroup_0 : List Dir := [.r, .r, .r, .r, .l, .r, .i]
def S_spec_PlaceGroup_0 (a0 : List kHost.ty) (a1 : Int) (v0 : List Int) (v1 : Int) (v2 : List Int) : St := ⟨tT 38 [(0, .one (.d (.row kHost) a0)), (1, .one (.d ki a1)), (6, .one (.ref 4102 0)), (7, .one (.ref 4103 0)), (8, .one (.d ki v1))], [(4102, ⟨false, [.own 1 ki v0 none]⟩), (4103, ⟨false, [.own 1 ki v2 none]⟩)]⟩
def S_spec_PlaceGroup_1 (v2 : List Int) : St := ⟨tT 38 [(7, .one (.ref 4103 0))], [(4103, ⟨false, [.own 1 ki v2 none]⟩)]⟩
theorem k_spec_PlaceGroup_1 (n : Nat) (v2 : List Int) : KP L n 65 p_spec_PlaceGroup_0 [] (.exit 0) (S_spec_PlaceGroup_1 v2) = some [⟨.row ki, v2⟩, ⟨.bool, true⟩] := by kernel_rfl
theorem l_spec_PlaceGroup_0 (n : Nat) (a0 : List kHost.ty) (a1 : Int) (m : Nat) (v0 : List Int) (v1 : Int) (v2 : List Int) : LP L n 65 p_spec_PlaceGroup_0 [] (m + 1) (S_spec_PlaceGroup_0 a0 a1 v0 v1 v2) = cnd (ilt v1 a1) (bnd (must (inB v1 (rlen v0))) fun (_ : Unit) => bnd (must (inB (rget v0 v1 0) (rlen a0))) fun (_ : Unit) => bnd (must (ile (iplus (rlen v2) (rlen [(rget a0 (rget v0 v1 0) kHost.dflt).1])) 1073741824)) fun (_ : Unit) => LP L n 65 p_spec_PlaceGroup_0 [] m (S_spec_PlaceGroup_0 a0 a1 v0 (iadd .i64 v1 1) (rapp v2 [(rget a0 (rget v0 v1 0) kHost.dflt).1]))) (KP L n 65 p_spec_PlaceGroup_0 [] (.exit 0) (S_spec_PlaceGroup_1 v2)) := by kernel_rfl
theorem f_spec_PlaceGroup (a0 : List kHost.ty) (a1 : Int) (n : Nat) : pcall L (n + 1) 65 [⟨.row kHost, a0⟩, ⟨ki, a1⟩] = bnd (pc L n 95 [⟨.row kHost, a0⟩] (.pair (.row ki) .unit)) fun (q0 : (List Int × Unit)) => cnd (sel (ilt a1 0) true (igt a1 (rlen q0.1))) (some [⟨.row ki, ([] : List Int)⟩, ⟨.bool, false⟩]) (LP L n 65 p_spec_PlaceGroup_0 [] n (S_spec_PlaceGroup_0 a0 a1 q0.1 0 (([] : List Int)))) := by kernel_rfl
def p_spec_WriteGroup_0 : List Dir := [.r, .r, .r, .r, .r, .r, .l, .r, .i]
def S_spec_WriteGroup_0 (a0 : List kHost.ty) (a2 : Int) (v0 : Int) (v1 : List ByteArray) (v2 : List Int) (v3 : List kHost.ty) : St := ⟨tT 90 [(0, .one (.d (.row kHost) a0)), (2, .one (.d ki a2)), (12, .one (.ref 4108 0)), (14, .one (.ref 4110 0)), (16, .one (.ref 4112 0)), (17, .one (.d ki v0))], [(4108, ⟨false, [.own 1 .str v1 none]⟩), (4110, ⟨false, [.own 1 ki v2 none]⟩), (4112, ⟨false, [.own 1 kHost v3 none]⟩)]⟩
def S_spec_WriteGroup_1 (u1_0 : List kHost.ty) : St := ⟨tT 90 [(8, .one (.ref 4104 0)), (9, .one (.d .bool false))], [(4104, ⟨false, [.own 1 kHost u1_0 none]⟩)]⟩
def S_spec_WriteGroup_2 (v3 : List kHost.ty) : St := ⟨tT 90 [(16, .one (.ref 4112 0))], [(4112, ⟨false, [.own 1 kHost v3 none]⟩)]⟩
theorem k_spec_WriteGroup_2 (n : Nat) (v3 : List kHost.ty) : KP L n 41 p_spec_WriteGroup_0 [] (.exit 0) (S_spec_WriteGroup_2 v3) = some [⟨.row kHost, v3⟩, ⟨.bool, true⟩] := by kernel_rfl
theorem k_spec_WriteGroup_1 (n : Nat) (u1_0 : List kHost.ty) : KP L n 41 p_spec_WriteGroup_0 [] .ret (S_spec_WriteGroup_1 u1_0) = some [⟨.row kHost, u1_0⟩, ⟨.bool, false⟩] := by kernel_rfl
theorem l_spec_WriteGroup_0 (a0 : List kHost.ty) (a2 : Int) (n : Nat) (m : Nat) (v0 : Int) (v1 : List ByteArray) (v2 : List Int) (v3 : List kHost.ty) : LP L n 41 p_spec_WriteGroup_0 [] (m + 1) (S_spec_WriteGroup_0 a0 a2 v0 v1 v2 v3) = cnd (ilt v0 (rlen v2)) (bnd (must (inB v0 (rlen v2))) fun (_ : Unit) => bnd (pc L n 67 [⟨.row kHost, v3⟩, ⟨ki, rget v2 v0 0⟩] (.pair ki .unit)) fun (q0 : (Int × Unit)) => bnd (must (inB q0.1 (rlen v3))) fun (_ : Unit) => bnd (must (inB v0 (rlen v1))) fun (_ : Unit) => bnd (pc L n 68 [⟨ki, (rget v3 q0.1 kHost.dflt).1⟩, ⟨.bool, ((rget v3 q0.1 kHost.dflt).2).1⟩, ⟨.row kUnit, (((rget v3 q0.1 kHost.dflt).2).2).1⟩, ⟨ki, a2⟩, ⟨ki, v0⟩, ⟨.str, rget v1 v0 ⟨#[]⟩⟩, ⟨ki, 0⟩] (.pair ki (.pair .bool (.pair (.row kUnit) (.pair .bool .unit))))) fun (q1 : (Int × (Bool × (List kUnit.ty × (Bool × Unit))))) => cnd (bnot q1.2.2.2.1) (bnd (pc L n 66 [⟨.row kHost, a0⟩] (.pair (.row kHost) .unit)) fun (q2 : (List kHost.ty × Unit)) => KP L n 41 p_spec_WriteGroup_0 [] .ret (S_spec_WriteGroup_1 q2.1)) (bnd (must (inB q0.1 (rlen v3))) fun (_ : Unit) => LP L n 41 p_spec_WriteGroup_0 [] m (S_spec_WriteGroup_0 a0 a2 (iadd .i64 v0 1) v1 v2 (rset v3 q0.1 (q1.1, (q1.2.1, (q1.2.2.1, (((rget v3 q0.1 kHost.dflt).2).2).2))))))) (KP L n 41 p_spec_WriteGroup_0 [] (.exit 0) (S_spec_WriteGroup_2 v3)) := by kernel_rfl
theorem f_spec_WriteGroup (a0 : List kHost.ty) (a1 : Int) (a2 : Int) (a3 : ByteArray) (n : Nat) : pcall L (n + 1) 41 [⟨.row kHost, a0⟩, ⟨ki, a1⟩, ⟨ki, a2⟩, ⟨.str, a3⟩] = bnd (pc L n 63 [⟨ki, a1⟩, ⟨.str, a3⟩] (.pair (.row .str) (.pair .bool .unit))) fun (q0 : (List ByteArray × (Bool × Unit))) => bnd (pc L n 64 [⟨ki, a1⟩, ⟨.row .str, q0.1⟩] (.pair (.row .str) (.pair .bool .unit))) fun (q1 : (List ByteArray × (Bool × Unit))) => bnd (pc L n 65 [⟨.row kHost, a0⟩, ⟨ki, rlen q1.1⟩] (.pair (.row ki) (.pair .bool .unit))) fun (q2 : (List Int × (Bool × Unit))) => cnd (sel (sel (bnot q0.2.1) true (bnot q1.2.1)) true (bnot q2.2.1)) (bnd (pc L n 66 [⟨.row kHost, a0⟩] (.pair (.row kHost) .unit)) fun (q3 : (List kHost.ty × Unit)) => some [⟨.row kHost, q3.1⟩, ⟨.bool, false⟩]) (bnd (pc L n 66 [⟨.row kHost, a0⟩] (.pair (.row kHost) .unit)) fun (q4 : (List kHost.ty × Unit)) => LP L n 41 p_spec_WriteGroup_0 [] n (S_spec_WriteGroup_0 a0 a2 0 q1.1 q2.1 q4.1)) := by kernel_rfl
theorem run_bnd {α : Type} {o : Option α} {f : α → Option (List Leaf)} {k : K} {P : k.ty → Prop} (h : ∃ x, o = some x) (hf : ∀ x, o = some x → Run (f x) k P) : Run (bnd o f) k P := by
 obtain ⟨x, rfl⟩ := h
 exact hf x rfl
theorem some_cnd {α : Type} {b : Bool} {x y : Option α} (hx : b = true → ∃ v, x = some v) (hy : b = false → ∃ v, y = some v) : ∃ v, cnd b x y = some v := by
 cases b with
 | true => exact hx rfl
 | false => exact hy rfl

def UB (u : Nat) (l : List kUnit.ty) : Prop := l.length ≤ u ∧ ∀ x ∈ l, (x.2.2.1 : ByteArray).size ≤ 200
theorem UB.mono {u w : Nat} {l : List kUnit.ty} (h : UB u l) (hw : u ≤ w) : UB w l := ⟨Nat.le_trans h.1 hw, h.2⟩
theorem UB.app {u : Nat} {l : List kUnit.ty} {x : kUnit.ty} (h : UB u l) (hx : (x.2.2.1 : ByteArray).size ≤ 200) : UB (u + 1) (rapp l [x]) := by
 refine ⟨by rw [len_rapp, List.length_singleton]; exact Nat.succ_le_succ h.1, fun y hy => ?_⟩
 rcases List.mem_append.1 hy with hy | hy
 ·exact h.2 y hy
 ·obtain rfl := List.mem_singleton.1 hy; exact hx
theorem UB.get {u : Nat} {l : List kUnit.ty} {i : Int} {d : kUnit.ty} (h : UB u l) (h0 : @LE.le Int _ 0 i) (h1 : @LT.lt Int _ i l.length) : ((rget l i d).2.2.1 : ByteArray).size ≤ 200 := h.2 _ (rget_mem h0 h1)

theorem copy1_E : Evt fun n => ∀ (a : Int) (b : Bool) (l : List kUnit.ty), l.length ≤ 50000000 → pc L n 69 [⟨ki, a⟩, ⟨.bool, b⟩, ⟨.row kUnit, l⟩] kHost = some (a, b, l, ()) := by
 refine Evt.succ (Evt.now fun n a b l hl => pc_of ?_)
 rw [f_spec_l14Copy, fitsR (by rw [List.length_nil]; omega), bnd_s]
 rfl

theorem copyH_loop (n : Nat) (hc : ∀ (a : Int) (b : Bool) (l : List kUnit.ty), l.length ≤ 50000000 → pc L n 69 [⟨ki, a⟩, ⟨.bool, b⟩, ⟨.row kUnit, l⟩] kHost = some (a, b, l, ())) (hs : List kHost.ty) (hl : hs.length ≤ 1000) (hu : ∀ h ∈ hs, (h.2.2.1 : List kUnit.ty).length ≤ 50000000) :
  ∀ (m i : Nat), i ≤ hs.length → hs.length - i < m → LP L n 66 p_spec_l15Copy_0 [] m (S_spec_l15Copy_0 hs i (hs.take i)) = some [⟨.row kHost, hs⟩]
 | 0, _, _, h => absurd h (Nat.not_lt_zero _)
 | m + 1, i, hi, h => by
  rw [l_spec_l15Copy_0]
  by_cases hlt : i < hs.length
  ·have hd : rget hs i kHost.dflt = hs[i] := row_get hlt
   have e : rapp (hs.take i) [(hs[i].1, hs[i].2.1, hs[i].2.2.1, ())] = hs.take (i + 1) := by
    unfold rapp; rw [List.take_succ_eq_append_getElem hlt]
   rw [row_lt hlt, cnd_t, must_of (row_in hlt), bnd_s, hd, hc _ _ _ (hu _ (List.getElem_mem hlt)), bnd_s]
   show bnd (must (ile (iplus (rlen (hs.take i)) (rlen [((hs[i].1, hs[i].2.1, hs[i].2.2.1, ()) : kHost.ty)])) 1073741824)) _ = _
   rw [fitsR (by rw [List.length_singleton, List.length_take]; omega), bnd_s]
   show LP L n 66 p_spec_l15Copy_0 [] m (S_spec_l15Copy_0 hs (iadd .i64 i 1) (rapp (hs.take i) [((hs[i].1, hs[i].2.1, hs[i].2.2.1, ()) : kHost.ty)])) = _
   rw [e, iadd_eq (by omega) (by omega)]
   exact copyH_loop n hc hs hl hu m (i + 1) (by omega) (by omega)
  ·obtain rfl : i = hs.length := by omega
   rw [row_end, cnd_f, List.take_length, k_spec_l15Copy_1]

theorem copyH_E : Evt fun n => ∀ hs : List kHost.ty, hs.length ≤ 1000 → (∀ h ∈ hs, (h.2.2.1 : List kUnit.ty).length ≤ 50000000) → pc L n 66 [⟨.row kHost, hs⟩] (.pair (.row kHost) .unit) = some (hs, ()) := by
 refine Evt.succ ((copy1_E.and (Evt.ge 1001)).mono fun n hn hs hl hu => pc_of ?_)
 rw [f_spec_l15Copy]
 have hn2 := hn.2
 exact copyH_loop n hn.1 hs hl hu n 0 (Nat.zero_le _) (by omega)

theorem hostOf_loop (n : Nat) (hs : List kHost.ty) (a : Int) (hl : hs.length ≤ 1000) :
  ∀ (m i : Nat), i ≤ hs.length → hs.length - i < m → (∃ h ∈ hs.drop i, @Eq Int h.1 a) → Run (LP L n 67 p_spec_l15Host_0 [] m (S_spec_l15Host_0 hs a i)) (.pair ki .unit) fun x => ∃ k : Nat, ∃ hk : k < hs.length, x.1 = (k : Int) ∧ @Eq Int hs[k].1 a
 | 0, _, _, h, _ => absurd h (Nat.not_lt_zero _)
 | m + 1, i, hi, h, he => by
  rw [l_spec_l15Host_0]
  by_cases hlt : i < hs.length
  ·have hd : rget hs i kHost.dflt = hs[i] := row_get hlt
   rw [row_lt hlt, cnd_t, must_of (row_in hlt), bnd_s, hd]
   by_cases hq : @Eq Int hs[i].1 a
   ·rw [ieq_t hq, cnd_t, k_spec_l15Host_1]
    exact ⟨((i : Int), ()), rfl, i, hlt, rfl, hq⟩
   ·rw [ieq_f hq, cnd_f, iadd_eq (by omega) (by omega)]
    refine hostOf_loop n hs a hl m (i + 1) (by omega) (by omega) ?_
    obtain ⟨x, hx, hxa⟩ := he
    rw [List.drop_eq_getElem_cons hlt] at hx
    rcases List.mem_cons.1 hx with rfl | hx
    ·exact absurd hxa hq
    ·exact ⟨x, hx, hxa⟩
  ·obtain ⟨x, hx, _⟩ := he
   rw [List.drop_eq_nil_of_le (by omega)] at hx
   cases hx

theorem hostOf_E : Evt fun n => ∀ (hs : List kHost.ty) (a : Int), hs.length ≤ 1000 → (∃ h ∈ hs, @Eq Int h.1 a) → ∃ x, pc L n 67 [⟨.row kHost, hs⟩, ⟨ki, a⟩] (.pair ki .unit) = some x ∧ ∃ k : Nat, ∃ hk : k < hs.length, x.1 = (k : Int) ∧ @Eq Int hs[k].1 a := by
 refine Evt.succ ((Evt.ge 1001).mono fun n hn hs a hl he => pc_run ?_)
 rw [f_spec_l15Host]
 exact hostOf_loop n hs a hl n 0 (Nat.zero_le _) (by omega) he

theorem sum_in (n : Nat) (t : ByteArray) (i : Int) (m0 : Nat) (P : (K.pair ku32 .unit).ty → Prop)
  (next : ∀ s : Int, Run (LP L n 116 p_spec_SumMore_0 [] m0 (S_spec_SumMore_0 s t (iadd .i64 i 1))) (.pair ku32 .unit) P) :
  ∀ (m : Nat) (s j : Int), 0 ≤ j → j ≤ 8 → (8 - j).toNat < m → Run (LP L n 116 p_spec_SumMore_1 [m0] m (S_spec_SumMore_1 t i s j)) (.pair ku32 .unit) P
 | 0, _, _, _, _, h => absurd h (Nat.not_lt_zero _)
 | m + 1, s, j, h0, h8, h => by
  rw [l_spec_SumMore_1]
  by_cases hlt : j < 8
  ·rw [ilt_t hlt, cnd_t, iadd_eq (by omega) (by omega)]
   cases ieq (irem s 2) 1 with
   | true => rw [cnd_t]; exact sum_in n t i m0 P next m _ _ (by omega) (by omega) (by omega)
   | false => rw [cnd_f]; exact sum_in n t i m0 P next m _ _ (by omega) (by omega) (by omega)
  ·rw [ilt_f hlt, cnd_f, k_spec_SumMore_3]
   exact next s

theorem sum_loop (n : Nat) (hn : 10 ≤ n) (t : ByteArray) (ht : t.size ≤ 5000) :
  ∀ (m : Nat) (s i : Int), 0 ≤ i → i ≤ 5000 → ((t.size : Int) - i).toNat < m → Run (LP L n 116 p_spec_SumMore_0 [] m (S_spec_SumMore_0 s t i)) (.pair ku32 .unit) fun _ => True
 | 0, _, _, _, _, h => absurd h (Nat.not_lt_zero _)
 | m + 1, s, i, h0, h8, h => by
  rw [l_spec_SumMore_0]
  by_cases hlt : @LT.lt Int _ i t.size
  ·rw [show ilt i (slen t) = true from ilt_t hlt, cnd_t, must_of (sinB_of h0 hlt), bnd_s]
   refine sum_in n t i m _ (fun s => ?_) n _ 0 (Int.le_refl 0) (by omega) (by omega)
   rw [iadd_eq (by omega) (by omega)]
   exact sum_loop n hn t ht m _ _ (by omega) (by omega) (by omega)
  ·rw [show ilt i (slen t) = false from ilt_f hlt, cnd_f, k_spec_SumMore_2]
   exact ⟨(s, ()), rfl, trivial⟩

theorem sumMore_E : Evt fun n => ∀ (s : Int) (t : ByteArray), t.size ≤ 5000 → ∃ x, pc L n 116 [⟨ku32, s⟩, ⟨.str, t⟩] (.pair ku32 .unit) = some x ∧ True := by
 refine Evt.succ ((Evt.ge 5001).mono fun n hn s t ht => pc_run ?_)
 rw [f_spec_SumMore]
 exact sum_loop n (by omega) t ht n _ 0 (Int.le_refl 0) (by omega) (by omega)
theorem sumOf_E : Evt fun n => ∀ (t : ByteArray), t.size ≤ 5000 → ∃ x, pc L n 98 [⟨.str, t⟩] (.pair ku32 .unit) = some x ∧ True := by
 refine Evt.succ (sumMore_E.mono fun n hn t ht => pc_run ?_)
 obtain ⟨x, hx, _⟩ := hn 4294967295 t ht
 rw [f_spec_SumOf, hx, bnd_s]
 exact ⟨(x.1, ()), rfl, trivial⟩
theorem sumT_E : Evt fun n => ∀ (t : ByteArray), t.size ≤ 5000 → ∃ x, pc L n 71 [⟨.str, t⟩] (.pair ki .unit) = some x ∧ True := by
 refine Evt.succ (sumOf_E.mono fun n hn t ht => pc_run ?_)
 obtain ⟨x, hx, _⟩ := hn t ht
 rw [f_spec_SumText, hx, bnd_s]
 exact ⟨(_, ()), rfl, trivial⟩

theorem ahead_E : Evt fun n => ∀ (a b : Int) (s : ByteArray) (c d e : Int) (t : ByteArray) (f : Int), ∃ x, pc L n 96 [⟨ki, a⟩, ⟨ki, b⟩, ⟨.str, s⟩, ⟨ki, c⟩, ⟨ki, d⟩, ⟨ki, e⟩, ⟨.str, t⟩, ⟨ki, f⟩] (.pair .bool .unit) = some x ∧ True := by
 refine Evt.succ (Evt.now fun n a b s c d e t f => pc_run ?_)
 rw [f_spec_l14Ahead]
 exact ⟨(_, ()), rfl, trivial⟩

theorem hostOk_loop (n : Nat) (hI : ∀ a b c : Int, pc L n 110 [⟨ki, a⟩, ⟨ki, b⟩, ⟨ki, c⟩] (.pair .bool .unit) = some (decide (b ≤ a ∧ a ≤ c), ()))
  (hA : ∀ (a b : Int) (s : ByteArray) (c d e : Int) (t : ByteArray) (f : Int), ∃ x, pc L n 96 [⟨ki, a⟩, ⟨ki, b⟩, ⟨.str, s⟩, ⟨ki, c⟩, ⟨ki, d⟩, ⟨ki, e⟩, ⟨.str, t⟩, ⟨ki, f⟩] (.pair .bool .unit) = some x ∧ True) (a : Int) (b : Bool) (l : List kUnit.ty) (hl : l.length ≤ 50000000) :
  ∀ (m : Nat) (i : Int), 0 ≤ i → i ≤ l.length → ((l.length : Int) - i).toNat < m → Run (LP L n 97 p_spec_HostOk_0 [] m (S_spec_HostOk_0 a b l i)) (.pair .bool .unit) fun _ => True
 | 0, _, _, _, h => absurd h (Nat.not_lt_zero _)
 | m + 1, i, h0, h8, h => by
  rw [l_spec_HostOk_0]
  by_cases hlt : @LT.lt Int _ i l.length
  ·rw [show ilt i (rlen l) = true from ilt_t hlt, cnd_t, must_of (inB_of h0 hlt), bnd_s, hI, bnd_s, hI]
   have go : ∀ x : Bool, Run (cnd x (KP L n 97 p_spec_HostOk_0 [] .ret S_spec_HostOk_1) (LP L n 97 p_spec_HostOk_0 [] m (S_spec_HostOk_0 a b l (iadd .i64 i 1)))) (.pair .bool .unit) fun _ => True := fun x => by
    cases x with
    | true => rw [cnd_t, k_spec_HostOk_1]; exact ⟨(false, ()), rfl, trivial⟩
    | false =>
     rw [cnd_f, iadd_eq (by omega) (by omega)]
     exact hostOk_loop n hI hA a b l hl m _ (by omega) (by omega) (by omega)
   refine run_bnd (some_cnd (fun _ => ⟨_, rfl⟩) fun _ => ⟨_, rfl⟩) fun q1 _ => ?_
   refine run_bnd (some_cnd (fun _ => ⟨_, hI _ _ _⟩) fun _ => ⟨_, rfl⟩) fun q2 _ => ?_
   refine run_bnd (some_cnd (fun hb => ?_) fun _ => ⟨_, rfl⟩) fun q3 _ => ?_
   ·have hb' : 0 < i := of_decide_eq_true (Bool.and_eq_true_iff.1 hb).2
    rw [isub_eq (by omega) (by omega), must_of (inB_of (by omega) (by omega))]
    exact ⟨_, rfl⟩
   refine run_bnd (some_cnd (fun _ => ?_) fun _ => ⟨_, rfl⟩) fun q4 _ => go _
   obtain ⟨x, hx, _⟩ := hA (rget l (isub .i64 i 1) kUnit.dflt).1 ((rget l (isub .i64 i 1) kUnit.dflt).2).1 (((rget l (isub .i64 i 1) kUnit.dflt).2).2).1 ((((rget l (isub .i64 i 1) kUnit.dflt).2).2).2).1 (rget l i kUnit.dflt).1 ((rget l i kUnit.dflt).2).1 (((rget l i kUnit.dflt).2).2).1 ((((rget l i kUnit.dflt).2).2).2).1
   exact ⟨x, hx⟩
  ·rw [show ilt i (rlen l) = false from ilt_f hlt, cnd_f, k_spec_HostOk_2, hI, bnd_s]
   exact ⟨(_, ()), rfl, trivial⟩

theorem hostOk_E : Evt fun n => ∀ (a : Int) (b : Bool) (l : List kUnit.ty), l.length ≤ 50000000 → ∃ x, pc L n 97 [⟨ki, a⟩, ⟨.bool, b⟩, ⟨.row kUnit, l⟩] (.pair .bool .unit) = some x ∧ True := by
 refine Evt.succ (((in_E.and ahead_E).and (Evt.ge 50000001)).mono fun n hn a b l hl => pc_run ?_)
 rw [f_spec_HostOk]
 have hn2 := hn.2
 exact hostOk_loop n hn.1.1 hn.1.2 a b l hl n 0 (Int.le_refl 0) (by omega) (by omega)

def PutP (a : Int) (u : Nat) (x : (K.pair ki (.pair .bool (.pair (.row kUnit) (.pair .bool .unit)))).ty) : Prop := @Eq Int x.1 a ∧ UB (2 * u + 1) x.2.2.1

def AheadOk (n : Nat) : Prop := ∀ (a b : Int) (s : ByteArray) (c d e : Int) (t : ByteArray) (f : Int), ∃ x, pc L n 96 [⟨ki, a⟩, ⟨ki, b⟩, ⟨.str, s⟩, ⟨ki, c⟩, ⟨ki, d⟩, ⟨ki, e⟩, ⟨.str, t⟩, ⟨ki, f⟩] (.pair .bool .unit) = some x ∧ True
def HostOkOk (n : Nat) : Prop := ∀ (a : Int) (b : Bool) (l : List kUnit.ty), l.length ≤ 50000000 → ∃ x, pc L n 97 [⟨ki, a⟩, ⟨.bool, b⟩, ⟨.row kUnit, l⟩] (.pair .bool .unit) = some x ∧ True

theorem put_last (n : Nat) (hH : HostOkOk n) (a : Int) (b : Bool) (l : List kUnit.ty) (u : Nat) (hu : u ≤ 20000000) (hl : UB u l) (w : List kUnit.ty) (hw : UB (2 * u + 1) w) :
  Run (KP L n 68 p_spec_PutUnit_1 [] (.exit 2) (S_spec_PutUnit_3 a b l a b l w)) (.pair ki (.pair .bool (.pair (.row kUnit) (.pair .bool .unit)))) (PutP a u) := by
 rw [k_spec_PutUnit_3]
 have h1 := hl.1
 have h2 := hw.1
 obtain ⟨x, hx, _⟩ := hH a b l (by omega)
 obtain ⟨y, hy, _⟩ := hH a b w (by omega)
 rw [hx, bnd_s]
 refine run_bnd (some_cnd (fun _ => ⟨_, hy⟩) fun _ => ⟨_, rfl⟩) fun q _ => ?_
 generalize sel (sel (bnot x.1) true (bnot b)) true (bnot q.1) = c
 cases c with
 | true => rw [cnd_t]; exact ⟨(a, b, l, false, ()), rfl, rfl, hl.mono (by omega)⟩
 | false => rw [cnd_f]; exact ⟨(a, b, w, true, ()), rfl, rfl, hw⟩

theorem put_behind (n : Nat) (hH : HostOkOk n) (hA : AheadOk n) (a : Int) (b : Bool) (l : List kUnit.ty) (u : Nat) (hu : u ≤ 20000000) (hl : UB u l) (g j s : Int) (t : ByteArray) :
  ∀ (m : Nat) (i : Int) (w : List kUnit.ty), 0 ≤ i → i ≤ l.length → UB (u + 1 + i.toNat) w → ((l.length : Int) - i).toNat < m → Run (LP L n 68 p_spec_PutUnit_1 [] m (S_spec_PutUnit_2 a b l g j t s a b l i w)) (.pair ki (.pair .bool (.pair (.row kUnit) (.pair .bool .unit)))) (PutP a u)
 | 0, _, _, _, _, _, h => absurd h (Nat.not_lt_zero _)
 | m + 1, i, w, h0, h8, hw, h => by
  have h1 := hl.1
  have h2 := hw.1
  rw [l_spec_PutUnit_2]
  by_cases hlt : @LT.lt Int _ i l.length
  ·obtain ⟨x, hx, _⟩ := hA g j t s (rget l i kUnit.dflt).1 ((rget l i kUnit.dflt).2).1 (((rget l i kUnit.dflt).2).2).1 ((((rget l i kUnit.dflt).2).2).2).1
   rw [show ilt i (rlen l) = true from ilt_t hlt, cnd_t, must_of (inB_of h0 hlt), bnd_s, hx, bnd_s, iadd_eq (by omega) (by omega)]
   cases x.1 with
   | true =>
    rw [cnd_t, bnd_s, fitsR (by rw [List.length_singleton]; omega), bnd_s]
    exact put_behind n hH hA a b l u hu hl g j s t m _ _ (by omega) (by omega) ((hw.app (hl.get (d := kUnit.dflt) h0 hlt)).mono (by omega)) (by omega)
   | false =>
    rw [cnd_f]
    exact put_behind n hH hA a b l u hu hl g j s t m _ _ (by omega) (by omega) (hw.mono (by omega)) (by omega)
  ·rw [show ilt i (rlen l) = false from ilt_f hlt, cnd_f]
   exact put_last n hH a b l u hu hl w (hw.mono (by omega))

theorem put_ahead (n : Nat) (hn : 50000001 ≤ n) (hH : HostOkOk n) (hA : AheadOk n) (a : Int) (b : Bool) (l : List kUnit.ty) (u : Nat) (hu : u ≤ 20000000) (hl : UB u l) (g j s : Int) (t : ByteArray) (ht : t.size ≤ 200) :
  ∀ (m : Nat) (i : Int) (w : List kUnit.ty), 0 ≤ i → i ≤ l.length → UB i.toNat w → ((l.length : Int) - i).toNat < m → Run (LP L n 68 p_spec_PutUnit_0 [] m (S_spec_PutUnit_0 a b l g j t s a b l i w)) (.pair ki (.pair .bool (.pair (.row kUnit) (.pair .bool .unit)))) (PutP a u)
 | 0, _, _, _, _, _, h => absurd h (Nat.not_lt_zero _)
 | m + 1, i, w, h0, h8, hw, h => by
  have h1 := hl.1
  have h2 := hw.1
  rw [l_spec_PutUnit_0]
  by_cases hlt : @LT.lt Int _ i l.length
  ·obtain ⟨x, hx, _⟩ := hA (rget l i kUnit.dflt).1 ((rget l i kUnit.dflt).2).1 (((rget l i kUnit.dflt).2).2).1 ((((rget l i kUnit.dflt).2).2).2).1 g j t s
   rw [show ilt i (rlen l) = true from ilt_t hlt, cnd_t, must_of (inB_of h0 hlt), bnd_s, hx, bnd_s, iadd_eq (by omega) (by omega)]
   cases x.1 with
   | true =>
    rw [cnd_t, bnd_s, fitsR (by rw [List.length_singleton]; omega), bnd_s]
    exact put_ahead n hn hH hA a b l u hu hl g j s t ht m _ _ (by omega) (by omega) ((hw.app (hl.get (d := kUnit.dflt) h0 hlt)).mono (by omega)) (by omega)
   | false =>
    rw [cnd_f]
    exact put_ahead n hn hH hA a b l u hu hl g j s t ht m _ _ (by omega) (by omega) (hw.mono (by omega)) (by omega)
  ·rw [show ilt i (rlen l) = false from ilt_f hlt, cnd_f, k_spec_PutUnit_1, fitsR (by rw [List.length_singleton]; omega), bnd_s]
   exact put_behind n hH hA a b l u hu hl g j s t n 0 _ (Int.le_refl 0) (by omega) ((hw.app (x := (g, j, t, s, ())) ht).mono (by omega)) (by omega)

theorem put_E : Evt fun n => ∀ (a : Int) (b : Bool) (l : List kUnit.ty) (g j : Int) (t : ByteArray) (s : Int) (u : Nat), u ≤ 20000000 → UB u l → t.size ≤ 200 → ∃ x, pc L n 68 [⟨ki, a⟩, ⟨.bool, b⟩, ⟨.row kUnit, l⟩, ⟨ki, g⟩, ⟨ki, j⟩, ⟨.str, t⟩, ⟨ki, s⟩] (.pair ki (.pair .bool (.pair (.row kUnit) (.pair .bool .unit)))) = some x ∧ PutP a u x := by
 refine Evt.succ (((((copy1_E.and sumT_E).and hostOk_E).and ahead_E).and (Evt.ge 50000001)).mono fun n hn a b l g j t s u hu hl ht => pc_run ?_)
 obtain ⟨⟨⟨⟨hc, hs⟩, hH⟩, hA⟩, hn⟩ := hn
 have h1 := hl.1
 obtain ⟨x, hx, _⟩ := hs t (by omega)
 rw [f_spec_PutUnit, hc a b l (by omega), bnd_s, hx, bnd_s]
 exact put_ahead n hn hH hA a b l u hu hl g j x.1 t ht n 0 [] (Int.le_refl 0) (by omega) ⟨Nat.zero_le _, fun x hx => by cases hx⟩ (by omega)
def Ix (z : Nat) (v : List Int) : Prop := v.length ≤ z ∧ ∀ x ∈ v, 0 ≤ x ∧ x < z
theorem Ix.get {z : Nat} {v : List Int} {i : Int} (h : Ix z v) (h0 : 0 ≤ i) (h1 : i < v.length) : 0 ≤ rget v i 0 ∧ rget v i 0 < z := h.2 _ (rget_mem h0 h1)
theorem Ix.set {z : Nat} {v : List Int} {i x : Int} (h : Ix z v) (hx : 0 ≤ x ∧ x < z) : Ix z (rset v i x) := ⟨by rw [len_rset]; exact h.1, fun y hy => by
 rcases rset_mem hy with hy | rfl
 ·exact h.2 y hy
 ·exact hx⟩

def LoadOk (n : Nat) : Prop := ∀ (a : Int) (b : Bool) (l : List kUnit.ty), pc L n 115 [⟨ki, a⟩, ⟨.bool, b⟩, ⟨.row kUnit, l⟩] (.pair ki .unit) = some (rlen l, ())
theorem load_E : Evt LoadOk := Evt.succ (Evt.now fun n a b l => pc_of (f_spec_LoadOf n a b l))

theorem order_in (n : Nat) (hL : LoadOk n) (hs : List kHost.ty) (hz : hs.length ≤ 100) (i : Int) (i1 : 0 ≤ i) (i8 : i ≤ 100) (m0 : Nat) (P : (K.pair (.row ki) .unit).ty → Prop)
  (next : ∀ v : List Int, Ix hs.length v → Run (LP L n 95 p_spec_l15Order_1 [] m0 (S_spec_l15Order_2 hs v (iadd .i64 i 1))) (.pair (.row ki) .unit) P) :
  ∀ (m : Nat) (k : Int) (v : List Int), 0 ≤ k → k < v.length → Ix hs.length v → k.toNat < m → Run (LP L n 95 p_spec_l15Order_2 [m0] m (S_spec_l15Order_3 hs i k v)) (.pair (.row ki) .unit) P
 | 0, _, _, _, _, _, h => absurd h (Nat.not_lt_zero _)
 | m + 1, k, v, h0, hk, hv, h => by
  have hvl := hv.1
  rw [l_spec_l15Order_3]
  by_cases hlt : 0 < k
  ·obtain ⟨a0, a1⟩ := hv.get (i := k - 1) (by omega) (by omega)
   obtain ⟨b0, b1⟩ := hv.get (i := k) (by omega) (by omega)
   rw [igt_t hlt, cnd_t, isub_eq (by omega) (by omega), must_of (inB_of (by omega) (by omega)), bnd_s, must_of (inB_of a0 a1), bnd_s, must_of (inB_of h0 hk), bnd_s, must_of (inB_of b0 b1), bnd_s, hL, bnd_s, hL, bnd_s]
   refine run_bnd (some_cnd (fun _ => ⟨_, rfl⟩) fun _ => ⟨_, rfl⟩) fun q2 _ => ?_
   refine run_bnd (some_cnd (fun _ => ⟨_, rfl⟩) fun _ => ⟨_, rfl⟩) fun q3 _ => ?_
   have go : ∀ w : List Int, w.length = v.length → Ix hs.length w → Run (LP L n 95 p_spec_l15Order_2 [m0] m (S_spec_l15Order_3 hs i (k - 1) w)) (.pair (.row ki) .unit) P := fun w hwl hw => order_in n hL hs hz i i1 i8 m0 P next m _ _ (by omega) (by omega) hw (by omega)
   have sw : ∀ x : Bool, Run (cnd x (bnd (some ()) fun (_ : Unit) => bnd (some ()) fun (_ : Unit) => bnd (some ()) fun (_ : Unit) => bnd (must (inB (k - 1) (rlen (rset v k (rget v (k - 1) 0))))) fun (_ : Unit) => LP L n 95 p_spec_l15Order_2 [m0] m (S_spec_l15Order_3 hs i (k - 1) (rset (rset v k (rget v (k - 1) 0)) (k - 1) (rget v k 0)))) (LP L n 95 p_spec_l15Order_2 [m0] m (S_spec_l15Order_3 hs i (k - 1) v))) (.pair (.row ki) .unit) P := fun x => by
    cases x with
    | true =>
     rw [cnd_t, bnd_s, bnd_s, bnd_s, must_of (inB_of (by omega) (by rw [len_rset]; omega)), bnd_s]
     exact go _ (by rw [len_rset, len_rset]) ((hv.set ⟨a0, a1⟩).set ⟨b0, b1⟩)
    | false => rw [cnd_f]; exact go v rfl hv
   exact sw _
  ·rw [igt_f hlt, cnd_f, k_spec_l15Order_5]
   exact next v hv

theorem order_out (n : Nat) (hn : 1000 ≤ n) (hL : LoadOk n) (hs : List kHost.ty) (hz : hs.length ≤ 100) :
  ∀ (m : Nat) (i : Int) (v : List Int), 0 ≤ i → i ≤ 100 → Ix hs.length v → (100 - i).toNat < m → Run (LP L n 95 p_spec_l15Order_1 [] m (S_spec_l15Order_2 hs v i)) (.pair (.row ki) .unit) fun x => Ix hs.length x.1
 | 0, _, _, _, _, _, h => absurd h (Nat.not_lt_zero _)
 | m + 1, i, v, h0, h8, hv, h => by
  have hvl := hv.1
  rw [l_spec_l15Order_2]
  by_cases hlt : @LT.lt Int _ i v.length
  ·rw [show ilt i (rlen v) = true from ilt_t hlt, cnd_t]
   refine order_in n hL hs hz i h0 h8 m _ (fun w hw => ?_) n i v h0 hlt hv (by omega)
   rw [iadd_eq (by omega) (by omega)]
   exact order_out n hn hL hs hz m _ _ (by omega) (by omega) hw (by omega)
  ·rw [show ilt i (rlen v) = false from ilt_f hlt, cnd_f, k_spec_l15Order_4]
   exact ⟨(v, ()), rfl, hv⟩

theorem order_first (n : Nat) (hn : 1000 ≤ n) (hL : LoadOk n) (hs : List kHost.ty) (hz : hs.length ≤ 100) :
  ∀ (m : Nat) (i : Int) (v : List Int), 0 ≤ i → i ≤ hs.length → (v.length : Int) ≤ i → (∀ x ∈ v, 0 ≤ x ∧ x < i) → ((hs.length : Int) - i).toNat < m → Run (LP L n 95 p_spec_l15Order_0 [] m (S_spec_l15Order_0 hs i v)) (.pair (.row ki) .unit) fun x => Ix hs.length x.1
 | 0, _, _, _, _, _, _, h => absurd h (Nat.not_lt_zero _)
 | m + 1, i, v, h0, h8, hl, hv, h => by
  rw [l_spec_l15Order_0]
  by_cases hlt : @LT.lt Int _ i hs.length
  ·rw [show ilt i (rlen hs) = true from ilt_t hlt, cnd_t, must_of (inB_of h0 hlt), bnd_s]
   have hb : (rget hs i kHost.dflt).2.1 = true ∨ (rget hs i kHost.dflt).2.1 = false := by cases (rget hs i kHost.dflt).2.1; exact .inr rfl; exact .inl rfl
   rcases hb with hb | hb
   ·rw [hb, cnd_t, fitsR (by rw [List.length_singleton]; omega), bnd_s, iadd_eq (by omega) (by omega)]
    refine order_first n hn hL hs hz m _ _ (by omega) (by omega) (by rw [len_rapp, List.length_singleton]; omega) (fun x hx => ?_) (by omega)
    rcases List.mem_append.1 hx with hx | hx
    ·have := hv x hx; omega
    ·obtain rfl := List.mem_singleton.1 hx; omega
   ·rw [hb, cnd_f, iadd_eq (by omega) (by omega)]
    exact order_first n hn hL hs hz m _ _ (by omega) (by omega) (by omega) (fun x hx => by have := hv x hx; omega) (by omega)
  ·rw [show ilt i (rlen hs) = false from ilt_f hlt, cnd_f, k_spec_l15Order_1]
   exact order_out n hn hL hs hz n 1 v (by omega) (by omega) ⟨by omega, fun x hx => by have := hv x hx; omega⟩ (by omega)

def OrderOk (n : Nat) : Prop := ∀ hs : List kHost.ty, hs.length ≤ 100 → ∃ x, pc L n 95 [⟨.row kHost, hs⟩] (.pair (.row ki) .unit) = some x ∧ Ix hs.length x.1
theorem order_E : Evt OrderOk := by
 refine Evt.succ ((load_E.and (Evt.ge 1000)).mono fun n hn hs hz => pc_run ?_)
 have hn2 := hn.2
 rw [f_spec_l15Order]
 exact order_first n hn.2 hn.1 hs hz n 0 [] (Int.le_refl 0) (by omega) (Int.le_refl 0) (fun x hx => by cases hx) (by omega)

def Ids (hs : List kHost.ty) : List Int := hs.map fun h => (h.1 : Int)
theorem ids_get {hs : List kHost.ty} {i : Int} {d : kHost.ty} (h0 : @LE.le Int _ 0 i) (h1 : @LT.lt Int _ i hs.length) : @Membership.mem Int (List Int) _ (Ids hs) (rget hs i d).1 := List.mem_map.2 ⟨_, rget_mem h0 h1, rfl⟩

theorem place_loop (n : Nat) (hs : List kHost.ty) (hz : hs.length ≤ 100) (a : Int) (o : List Int) (ho : Ix hs.length o) (ha : a ≤ o.length) :
  ∀ (m : Nat) (i : Int) (v : List Int), 0 ≤ i → (i ≤ a ∨ i = 0) → (v.length : Int) = i → (∀ x ∈ v, x ∈ Ids hs) → (a - i).toNat < m → Run (LP L n 65 p_spec_PlaceGroup_0 [] m (S_spec_PlaceGroup_0 hs a o i v)) (.pair (.row ki) (.pair .bool .unit)) fun x => (x.1 : List Int).length ≤ 100 ∧ (∀ y ∈ (x.1 : List Int), y ∈ Ids hs) ∧ (x.2.1 = true → ((x.1 : List Int).length : Int) = max a 0)
 | 0, _, _, _, _, _, _, h => absurd h (Nat.not_lt_zero _)
 | m + 1, i, v, h0, h8, hl, hv, h => by
  have hol := ho.1
  rw [l_spec_PlaceGroup_0]
  by_cases hlt : i < a
  ·obtain ⟨a0, a1⟩ := ho.get (i := i) h0 (by omega)
   rw [ilt_t hlt, cnd_t, must_of (inB_of h0 (by omega)), bnd_s, must_of (inB_of a0 a1), bnd_s, fitsR (by rw [List.length_singleton]; omega), bnd_s, iadd_eq (by omega) (by omega)]
   refine place_loop n hs hz a o ho ha m _ _ (by omega) (by omega) (by rw [len_rapp, List.length_singleton]; omega) (fun x hx => ?_) (by omega)
   rcases List.mem_append.1 hx with hx | hx
   ·exact hv x hx
   ·rw [List.mem_singleton.1 hx]
    exact ids_get a0 a1
  ·rw [ilt_f hlt, cnd_f, k_spec_PlaceGroup_1]
   exact ⟨(v, true, ()), rfl, show v.length ≤ 100 from by omega, hv, fun _ => show (v.length : Int) = max a 0 from by omega⟩

theorem placeS_E : Evt fun n => ∀ (hs : List kHost.ty) (a : Int), hs.length ≤ 100 → ∃ x, pc L n 65 [⟨.row kHost, hs⟩, ⟨ki, a⟩] (.pair (.row ki) (.pair .bool .unit)) = some x ∧ (x.1 : List Int).length ≤ 100 ∧ (∀ y ∈ (x.1 : List Int), y ∈ Ids hs) ∧ (x.2.1 = true → ((x.1 : List Int).length : Int) = max a 0) := by
 refine Evt.succ ((order_E.and (Evt.ge 1000)).mono fun n hn hs a hz => pc_run ?_)
 obtain ⟨x, hx, hxi⟩ := hn.1 hs hz
 have hn2 := hn.2
 have hxl := hxi.1
 rw [f_spec_PlaceGroup, hx, bnd_s]
 have none : Run (some [⟨.row ki, ([] : List Int)⟩, ⟨.bool, false⟩]) (.pair (.row ki) (.pair .bool .unit)) fun x => (x.1 : List Int).length ≤ 100 ∧ (∀ y ∈ (x.1 : List Int), y ∈ Ids hs) ∧ (x.2.1 = true → ((x.1 : List Int).length : Int) = max a 0) := ⟨(([] : List Int), false, ()), rfl, Nat.zero_le _, (fun x hx => by cases hx), (fun h => by cases h)⟩
 by_cases h0 : a < 0
 ·rw [ilt_t h0, sel_t, cnd_t]; exact none
 rw [ilt_f h0, sel_f]
 by_cases h1 : rlen x.1 < a
 ·rw [igt_t h1, cnd_t]; exact none
 ·rw [igt_f h1, cnd_f]
  unfold rlen at h1
  exact place_loop n hs hz a x.1 hxi (by omega) n 0 [] (Int.le_refl 0) (by omega) rfl (fun x hx => by cases hx) (by omega)

def HB (ids : List Int) (u : Nat) (hs : List kHost.ty) : Prop := Ids hs = ids ∧ ∀ h ∈ hs, UB u h.2.2.1
theorem HB.mono {ids : List Int} {u w : Nat} {hs : List kHost.ty} (h : HB ids u hs) (hw : u ≤ w) : HB ids w hs := ⟨h.1, fun x hx => (h.2 x hx).mono hw⟩
theorem HB.len {ids : List Int} {u : Nat} {hs : List kHost.ty} (h : HB ids u hs) : hs.length = ids.length := by rw [← h.1]; exact (List.length_map ..).symm
theorem HB.set {ids : List Int} {u w : Nat} {hs : List kHost.ty} {i : Int} {x d : kHost.ty} (h : HB ids u hs) (hw : u ≤ w) (h0 : @LE.le Int _ 0 i) (h1 : @LT.lt Int _ i hs.length) (e : @Eq Int x.1 (rget hs i d).1) (hx : UB w x.2.2.1) : HB ids w (rset hs i x) := by
 refine ⟨?_, fun y hy => ?_⟩
 ·rw [← h.1]
  have hk : i.toNat < hs.length := by omega
  unfold Ids rset
  rw [List.map_set, e]
  unfold rget
  rw [List.getD_eq_getElem?_getD, List.getElem?_eq_getElem hk]
  show (List.map _ hs).set i.toNat hs[i.toNat].1 = _
  refine List.ext_getElem (by simp) fun j h2 h3 => ?_
  rw [List.getElem_set]
  split
  ·subst_vars; rw [List.getElem_map]
  ·rfl
 ·rcases rset_mem hy with hy | rfl
  ·exact (h.2 y hy).mono hw
  ·exact hx
def p_spec_l14At_0 : List Dir := [.r, .l, .r, .i]
def S_spec_l14At_0 (a0 : Int) (a1 : Bool) (a2 : List kUnit.ty) (a3 : Int) (a4 : Int) (v0 : Int) : St := ⟨tT 34 [(1, .one (.d ki a3)), (2, .one (.d ki a4)), (3, .one (.adr 3 0)), (7, .one (.d ki v0))], [(3, ⟨true, [.tl (.d ki a0), .tl (.d .bool a1), .tl (.d (.row kUnit) a2)]⟩)]⟩
def S_spec_l14At_1 (v0 : Int) : St := ⟨tT 34 [(6, .one (.d ki v0))], []⟩
def S_spec_l14At_2  : St := ⟨tT 34 [], []⟩
theorem k_spec_l14At_2 (n : Nat) : KP L n 70 p_spec_l14At_0 [] (.exit 0) (S_spec_l14At_2) = some [⟨ki, (-1)⟩] := by kernel_rfl
theorem k_spec_l14At_1 (n : Nat) (v0 : Int) : KP L n 70 p_spec_l14At_0 [] .ret (S_spec_l14At_1 v0) = some [⟨ki, v0⟩] := by kernel_rfl
theorem l_spec_l14At_0 (n : Nat) (a0 : Int) (a1 : Bool) (a2 : List kUnit.ty) (a3 : Int) (a4 : Int) (m : Nat) (v0 : Int) : LP L n 70 p_spec_l14At_0 [] (m + 1) (S_spec_l14At_0 a0 a1 a2 a3 a4 v0) = cnd (ilt v0 (rlen a2)) (bnd (must (inB v0 (rlen a2))) fun (_ : Unit) => bnd (cnd (ieq ((rget a2 v0 kUnit.dflt).1) a3) (must (inB v0 (rlen a2))) (some ())) fun (_ : Unit) => cnd (sel (ieq ((rget a2 v0 kUnit.dflt).1) a3) (ieq (((rget a2 v0 kUnit.dflt).2).1) a4) false) (KP L n 70 p_spec_l14At_0 [] .ret (S_spec_l14At_1 v0)) (LP L n 70 p_spec_l14At_0 [] m (S_spec_l14At_0 a0 a1 a2 a3 a4 (iadd .i64 v0 1)))) (KP L n 70 p_spec_l14At_0 [] (.exit 0) (S_spec_l14At_2)) := by kernel_rfl
theorem f_spec_l14At (a0 : Int) (a1 : Bool) (a2 : List kUnit.ty) (a3 : Int) (a4 : Int) (n : Nat) : pcall L (n + 1) 70 [⟨ki, a0⟩, ⟨.bool, a1⟩, ⟨.row kUnit, a2⟩, ⟨ki, a3⟩, ⟨ki, a4⟩] = LP L n 70 p_spec_l14At_0 [] n (S_spec_l14At_0 a0 a1 a2 a3 a4 0) := by kernel_rfl
theorem f_spec_Spoil (a0 : Int) (a1 : Bool) (a2 : List kUnit.ty) (a3 : Int) (a4 : Int) (a5 : Int) (n : Nat) : pcall L (n + 1) 42 [⟨ki, a0⟩, ⟨.bool, a1⟩, ⟨.row kUnit, a2⟩, ⟨ki, a3⟩, ⟨ki, a4⟩, ⟨ki, a5⟩] = bnd (pc L n 69 [⟨ki, a0⟩, ⟨.bool, a1⟩, ⟨.row kUnit, a2⟩] kHost) fun (q0 : kHost.ty) => bnd (pc L n 70 [⟨ki, a0⟩, ⟨.bool, a1⟩, ⟨.row kUnit, a2⟩, ⟨ki, a3⟩, ⟨ki, a4⟩] (.pair ki .unit)) fun (q1 : (Int × Unit)) => bnd (cnd (bnot (sel (ilt q1.1 0) true (ilt a5 0))) (must (inB q1.1 (rlen a2))) (some ())) fun (_ : Unit) => bnd (cnd (bnot (sel (sel (ilt q1.1 0) true (ilt a5 0)) true (seq ((((rget a2 q1.1 kUnit.dflt).2).2).1) ⟨#[]⟩))) (must (inB q1.1 (rlen a2))) (some ())) fun (_ : Unit) => bnd (cnd (bnot (sel (sel (ilt q1.1 0) true (ilt a5 0)) true (seq ((((rget a2 q1.1 kUnit.dflt).2).2).1) ⟨#[]⟩))) (must (inB q1.1 (rlen a2))) (some ())) fun (_ : Unit) => bnd (cnd (bnot (sel (sel (ilt q1.1 0) true (ilt a5 0)) true (seq ((((rget a2 q1.1 kUnit.dflt).2).2).1) ⟨#[]⟩))) (pc L n 71 [⟨.str, (((rget a2 q1.1 kUnit.dflt).2).2).1⟩] (.pair ki .unit)) (some (0, ()))) fun (q2 : (Int × Unit)) => cnd (sel (sel (sel (ilt q1.1 0) true (ilt a5 0)) true (seq ((((rget a2 q1.1 kUnit.dflt).2).2).1) ⟨#[]⟩)) true (ine (((((rget a2 q1.1 kUnit.dflt).2).2).2).1) q2.1)) (some [⟨ki, q0.1⟩, ⟨.bool, q0.2.1⟩, ⟨.row kUnit, q0.2.2.1⟩, ⟨.bool, false⟩]) (bnd (must (inB q1.1 (rlen a2))) fun (_ : Unit) => bnd (must (ine (rlen (sbytes ((((rget a2 q1.1 kUnit.dflt).2).2).1))) 0)) fun (_ : Unit) => bnd (must (ine (rlen (sbytes ((((rget a2 q1.1 kUnit.dflt).2).2).1))) 0)) fun (_ : Unit) => bnd (must (inB (irem a5 (rlen (sbytes ((((rget a2 q1.1 kUnit.dflt).2).2).1)))) (rlen (sbytes ((((rget a2 q1.1 kUnit.dflt).2).2).1))))) fun (_ : Unit) => bnd (must (inB (irem a5 (rlen (sbytes ((((rget a2 q1.1 kUnit.dflt).2).2).1)))) (rlen (sbytes ((((rget a2 q1.1 kUnit.dflt).2).2).1))))) fun (_ : Unit) => bnd (must (inB q1.1 (rlen q0.2.2.1))) fun (_ : Unit) => some [⟨ki, q0.1⟩, ⟨.bool, q0.2.1⟩, ⟨.row kUnit, rset q0.2.2.1 q1.1 ((rget q0.2.2.1 q1.1 (0, (0, (⟨#[]⟩, (0, ()))))).1, (((rget q0.2.2.1 q1.1 (0, (0, (⟨#[]⟩, (0, ()))))).2).1, (sof (rset (sbytes ((((rget a2 q1.1 kUnit.dflt).2).2).1)) (irem a5 (rlen (sbytes ((((rget a2 q1.1 kUnit.dflt).2).2).1)))) (ixor .u8 (rget (sbytes ((((rget a2 q1.1 kUnit.dflt).2).2).1)) (irem a5 (rlen (sbytes ((((rget a2 q1.1 kUnit.dflt).2).2).1)))) 0) 1)), (((rget q0.2.2.1 q1.1 (0, (0, (⟨#[]⟩, (0, ()))))).2).2).2)))⟩, ⟨.bool, true⟩]) := by kernel_rfl
def p_spec_l15Hosts_0 : List Dir := [.r, .r, .l, .r, .i]
def S_spec_l15Hosts_0 (v0 : Int) (v1 : List kHost.ty) (v2 : List Int) (v3 : Int) (v4 : Int) : St := ⟨tT 127 [(0, .one (.adr 0 0)), (6, .one (.ref 4102 0)), (7, .one (.d ki v0))], [(0, ⟨true, [.tl (.d (.row ku8) v2), .tl (.d ki v3), .tl (.d ki v4)]⟩), (4102, ⟨false, [.own 1 kHost v1 none]⟩)]⟩
def S_spec_l15Hosts_1 (v1 : List kHost.ty) (v2 : List Int) (v3 : Int) (v4 : Int) : St := ⟨tT 127 [(0, .one (.adr 0 0)), (6, .one (.ref 4102 0))], [(0, ⟨true, [.tl (.d (.row ku8) v2), .tl (.d ki v3), .tl (.d ki v4)]⟩), (4102, ⟨false, [.own 1 kHost v1 none]⟩)]⟩
def p_spec_l15Hosts_1 : List Dir := [.r, .r, .r, .r, .r, .l, .r, .i]
def S_spec_l15Hosts_2 (v2_0 : Int) (v2_1 : ByteArray) (v2_2 : Int) (v2_3 : List Int) (v2_4 : Int) (v2_5 : Int) (v2_6 : List kHost.ty) : St := ⟨tT 127 [(0, .one (.adr 0 0)), (6, .one (.ref 4102 0)), (8, .one (.d ki v2_0)), (9, .one (.d .str v2_1)), (10, .one (.d ki v2_2))], [(0, ⟨true, [.tl (.d (.row ku8) v2_3), .tl (.d ki v2_4), .tl (.d ki v2_5)]⟩), (4102, ⟨false, [.own 1 kHost v2_6 none]⟩)]⟩
def S_spec_l15Hosts_3 (v2_0 : Int) (v2_1 : ByteArray) (v2_6 : List kHost.ty) (u3_0 : List Int) (u3_1 : Int) (u3_2 : Int) : St := ⟨tT 127 [(0, .one (.adr 0 0)), (6, .one (.ref 4102 0)), (8, .one (.d ki v2_0)), (9, .one (.d .str v2_1))], [(0, ⟨true, [.tl (.d (.row ku8) u3_0), .tl (.d ki u3_1), .tl (.d ki u3_2)]⟩), (4102, ⟨false, [.own 1 kHost v2_6 none]⟩)]⟩
def p_spec_l15Hosts_2 : List Dir := [.r, .r, .r, .r, .r, .r, .l, .r, .i]
def S_spec_l15Hosts_4 (v2_0 : Int) (v2_1 : ByteArray) (v4_0 : Int) (v4_1 : List Int) (v4_2 : Int) (v4_3 : Int) (v4_4 : List kHost.ty) : St := ⟨tT 127 [(0, .one (.adr 0 0)), (6, .one (.ref 4102 0)), (8, .one (.d ki v2_0)), (9, .one (.d .str v2_1)), (14, .one (.d ki v4_0))], [(0, ⟨true, [.tl (.d (.row ku8) v4_1), .tl (.d ki v4_2), .tl (.d ki v4_3)]⟩), (4102, ⟨false, [.own 1 kHost v4_4 none]⟩)]⟩
def S_spec_l15Hosts_5 (v2_0 : Int) (v2_1 : ByteArray) (v4_4 : List kHost.ty) (u5_0 : List Int) (u5_1 : Int) (u5_2 : Int) : St := ⟨tT 127 [(6, .one (.ref 4102 0)), (8, .one (.d ki v2_0)), (9, .one (.d .str v2_1))], [(0, ⟨true, [.tl (.d (.row ku8) u5_0), .tl (.d ki u5_1), .tl (.d ki u5_2)]⟩), (4102, ⟨false, [.own 1 kHost v4_4 none]⟩)]⟩
theorem k_spec_l15Hosts_5 (n : Nat) (v2_0 : Int) (v2_1 : ByteArray) (v4_4 : List kHost.ty) (u5_0 : List Int) (u5_1 : Int) (u5_2 : Int) : KP L n 17 p_spec_l15Hosts_2 [] (.exit 4) (S_spec_l15Hosts_5 v2_0 v2_1 v4_4 u5_0 u5_1 u5_2) = some [⟨.row kHost, v4_4⟩, ⟨ki, v2_0⟩, ⟨ki, 1⟩, ⟨.str, v2_1⟩, ⟨.row ku8, u5_0⟩, ⟨ki, u5_1⟩, ⟨ki, u5_2⟩] := by kernel_rfl
theorem l_spec_l15Hosts_4 (n : Nat) (v2_0 : Int) (v2_1 : ByteArray) (m : Nat) (v4_0 : Int) (v4_1 : List Int) (v4_2 : Int) (v4_3 : Int) (v4_4 : List kHost.ty) : LP L n 17 p_spec_l15Hosts_2 [] (m + 1) (S_spec_l15Hosts_4 v2_0 v2_1 v4_0 v4_1 v4_2 v4_3 v4_4) = bnd (pc L n 20 [⟨.row ku8, v4_1⟩, ⟨ki, v4_2⟩, ⟨ki, v4_3⟩, ⟨ki, 4⟩] (.pair ki kCur)) fun (q0 : (Int × kCur.ty)) => cnd (ilt v4_0 q0.1) (bnd (pc L n 20 [⟨.row ku8, q0.2.1⟩, ⟨ki, q0.2.2.1⟩, ⟨ki, q0.2.2.2.1⟩, ⟨ki, rlen v4_4⟩] (.pair ki kCur)) fun (q1 : (Int × kCur.ty)) => bnd (pc L n 20 [⟨.row ku8, q1.2.1⟩, ⟨ki, q1.2.2.1⟩, ⟨ki, q1.2.2.2.1⟩, ⟨ki, 4⟩] (.pair ki kCur)) fun (q2 : (Int × kCur.ty)) => cnd (ieq q2.1 0) (bnd (must (inB q1.1 (rlen v4_4))) fun (_ : Unit) => LP L n 17 p_spec_l15Hosts_2 [] m (S_spec_l15Hosts_4 v2_0 v2_1 (iadd .i64 v4_0 1) q2.2.1 q2.2.2.1 q2.2.2.2.1 (rset v4_4 q1.1 ((rget v4_4 q1.1 kHost.dflt).1, (false, ((rget v4_4 q1.1 kHost.dflt).2).2))))) (cnd (ieq q2.1 1) (bnd (must (inB q1.1 (rlen v4_4))) fun (_ : Unit) => LP L n 17 p_spec_l15Hosts_2 [] m (S_spec_l15Hosts_4 v2_0 v2_1 (iadd .i64 v4_0 1) q2.2.1 q2.2.2.1 q2.2.2.2.1 (rset v4_4 q1.1 ((rget v4_4 q1.1 kHost.dflt).1, (((rget v4_4 q1.1 kHost.dflt).2).1, (([] : List kUnit.ty), (((rget v4_4 q1.1 kHost.dflt).2).2).2)))))) (cnd (ieq q2.1 2) (bnd (must (inB q1.1 (rlen v4_4))) fun (_ : Unit) => cnd (igt (rlen ((((rget v4_4 q1.1 kHost.dflt).2).2).1)) 0) (bnd (must (inB q1.1 (rlen v4_4))) fun (_ : Unit) => bnd (must (inB 0 (rlen ((((rget v4_4 q1.1 kHost.dflt).2).2).1)))) fun (_ : Unit) => bnd (must (inB q1.1 (rlen v4_4))) fun (_ : Unit) => bnd (pc L n 20 [⟨.row ku8, q2.2.1⟩, ⟨ki, q2.2.2.1⟩, ⟨ki, q2.2.2.2.1⟩, ⟨ki, 9⟩] (.pair ki kCur)) fun (q3 : (Int × kCur.ty)) => bnd (pc L n 42 [⟨ki, (rget v4_4 q1.1 kHost.dflt).1⟩, ⟨.bool, ((rget v4_4 q1.1 kHost.dflt).2).1⟩, ⟨.row kUnit, (((rget v4_4 q1.1 kHost.dflt).2).2).1⟩, ⟨ki, (rget ((((rget v4_4 q1.1 kHost.dflt).2).2).1) 0 kUnit.dflt).1⟩, ⟨ki, ((rget ((((rget v4_4 q1.1 kHost.dflt).2).2).1) 0 kUnit.dflt).2).1⟩, ⟨ki, q3.1⟩] (.pair ki (.pair .bool (.pair (.row kUnit) (.pair .bool .unit))))) fun (q4 : (Int × (Bool × (List kUnit.ty × (Bool × Unit))))) => bnd (must (inB q1.1 (rlen v4_4))) fun (_ : Unit) => LP L n 17 p_spec_l15Hosts_2 [] m (S_spec_l15Hosts_4 v2_0 v2_1 (iadd .i64 v4_0 1) q3.2.1 q3.2.2.1 q3.2.2.2.1 (rset v4_4 q1.1 (q4.1, (q4.2.1, (q4.2.2.1, (((rget v4_4 q1.1 kHost.dflt).2).2).2)))))) (LP L n 17 p_spec_l15Hosts_2 [] m (S_spec_l15Hosts_4 v2_0 v2_1 (iadd .i64 v4_0 1) q2.2.1 q2.2.2.1 q2.2.2.2.1 v4_4))) (bnd (must (inB q1.1 (rlen v4_4))) fun (_ : Unit) => LP L n 17 p_spec_l15Hosts_2 [] m (S_spec_l15Hosts_4 v2_0 v2_1 (iadd .i64 v4_0 1) q2.2.1 q2.2.2.1 q2.2.2.2.1 (rset v4_4 q1.1 ((rget v4_4 q1.1 kHost.dflt).1, (true, ((rget v4_4 q1.1 kHost.dflt).2).2)))))))) (KP L n 17 p_spec_l15Hosts_2 [] (.exit 4) (S_spec_l15Hosts_5 v2_0 v2_1 v4_4 q0.2.1 q0.2.2.1 q0.2.2.2.1)) := by kernel_rfl
theorem k_spec_l15Hosts_3 (n : Nat) (v2_0 : Int) (v2_1 : ByteArray) (v2_6 : List kHost.ty) (u3_0 : List Int) (u3_1 : Int) (u3_2 : Int) : KP L n 17 p_spec_l15Hosts_1 [] (.exit 2) (S_spec_l15Hosts_3 v2_0 v2_1 v2_6 u3_0 u3_1 u3_2) = LP L n 17 p_spec_l15Hosts_2 [] n (S_spec_l15Hosts_4 v2_0 v2_1 0 u3_0 u3_1 u3_2 v2_6) := by kernel_rfl
theorem l_spec_l15Hosts_2 (n : Nat) (m : Nat) (v2_0 : Int) (v2_1 : ByteArray) (v2_2 : Int) (v2_3 : List Int) (v2_4 : Int) (v2_5 : Int) (v2_6 : List kHost.ty) : LP L n 17 p_spec_l15Hosts_1 [] (m + 1) (S_spec_l15Hosts_2 v2_0 v2_1 v2_2 v2_3 v2_4 v2_5 v2_6) = bnd (pc L n 20 [⟨.row ku8, v2_3⟩, ⟨ki, v2_4⟩, ⟨ki, v2_5⟩, ⟨ki, 3⟩] (.pair ki kCur)) fun (q0 : (Int × kCur.ty)) => cnd (ile v2_2 (iadd .i64 1 q0.1)) (bnd (pc L n 40 [⟨ki, v2_0⟩] (.pair ki .unit)) fun (q1 : (Int × Unit)) => bnd (pc L n 20 [⟨.row ku8, q0.2.1⟩, ⟨ki, q0.2.2.1⟩, ⟨ki, q0.2.2.2.1⟩, ⟨ki, q1.1⟩] (.pair ki kCur)) fun (q2 : (Int × kCur.ty)) => bnd (pc L n 39 [⟨.row ku8, q2.2.1⟩, ⟨ki, q2.2.2.1⟩, ⟨ki, q2.2.2.2.1⟩, ⟨ki, iadd .i64 1 q2.1⟩] (.pair .str kCur)) fun (q3 : (ByteArray × kCur.ty)) => bnd (pc L n 41 [⟨.row kHost, v2_6⟩, ⟨ki, v2_0⟩, ⟨ki, v2_2⟩, ⟨.str, q3.1⟩] (.pair (.row kHost) (.pair .bool .unit))) fun (q4 : (List kHost.ty × (Bool × Unit))) => cnd (sel q4.2.1 (ieq v2_2 1) false) (LP L n 17 p_spec_l15Hosts_1 [] m (S_spec_l15Hosts_2 v2_0 q3.1 (iadd .i64 v2_2 1) q3.2.1 q3.2.2.1 q3.2.2.2.1 q4.1)) (LP L n 17 p_spec_l15Hosts_1 [] m (S_spec_l15Hosts_2 v2_0 v2_1 (iadd .i64 v2_2 1) q3.2.1 q3.2.2.1 q3.2.2.2.1 q4.1))) (KP L n 17 p_spec_l15Hosts_1 [] (.exit 2) (S_spec_l15Hosts_3 v2_0 v2_1 v2_6 q0.2.1 q0.2.2.1 q0.2.2.2.1)) := by kernel_rfl
theorem k_spec_l15Hosts_1 (n : Nat) (v1 : List kHost.ty) (v2 : List Int) (v3 : Int) (v4 : Int) : KP L n 17 p_spec_l15Hosts_0 [] (.exit 0) (S_spec_l15Hosts_1 v1 v2 v3 v4) = bnd (pc L n 20 [⟨.row ku8, v2⟩, ⟨ki, v3⟩, ⟨ki, v4⟩, ⟨ki, 3⟩] (.pair ki kCur)) fun (q0 : (Int × kCur.ty)) => LP L n 17 p_spec_l15Hosts_1 [] n (S_spec_l15Hosts_2 (iadd .i64 1 q0.1) ⟨#[]⟩ 1 q0.2.1 q0.2.2.1 q0.2.2.2.1 v1) := by kernel_rfl
theorem l_spec_l15Hosts_0 (n : Nat) (m : Nat) (v0 : Int) (v1 : List kHost.ty) (v2 : List Int) (v3 : Int) (v4 : Int) : LP L n 17 p_spec_l15Hosts_0 [] (m + 1) (S_spec_l15Hosts_0 v0 v1 v2 v3 v4) = cnd (ile v0 7) (bnd (pc L n 38 [⟨.row ku8, v2⟩, ⟨ki, v3⟩, ⟨ki, v4⟩, ⟨ki, 12⟩] (.pair .bool kCur)) fun (q0 : (Bool × kCur.ty)) => bnd (must (ile (iplus (rlen v1) (rlen [(v0, (bnot q0.1, (([] : List kUnit.ty), ())))])) 1073741824)) fun (_ : Unit) => LP L n 17 p_spec_l15Hosts_0 [] m (S_spec_l15Hosts_0 (iadd .i64 v0 1) (rapp v1 [(v0, (bnot q0.1, (([] : List kUnit.ty), ())))]) q0.2.1 q0.2.2.1 q0.2.2.2.1)) (KP L n 17 p_spec_l15Hosts_0 [] (.exit 0) (S_spec_l15Hosts_1 v1 v2 v3 v4)) := by kernel_rfl
theorem f_spec_l15Hosts (a0 : List Int) (a1 : Int) (a2 : Int) (n : Nat) : pcall L (n + 1) 17 [⟨.row ku8, a0⟩, ⟨ki, a1⟩, ⟨ki, a2⟩] = LP L n 17 p_spec_l15Hosts_0 [] n (S_spec_l15Hosts_0 1 (([] : List kHost.ty)) a0 a1 a2) := by kernel_rfl
theorem f_spec_DrawHosts (a0 : List Int) (n : Nat) : pcall L (n + 1) 6 [⟨.row ku8, a0⟩] = bnd (pc L n 17 [⟨.row ku8, a0⟩, ⟨ki, 0⟩, ⟨ki, newH a0⟩] (.pair (.row kHost) (.pair ki (.pair ki (.pair .str kCur))))) fun (q0 : (List kHost.ty × (Int × (Int × (ByteArray × kCur.ty))))) => some [⟨.row kHost, q0.1⟩, ⟨ki, q0.2.1⟩, ⟨ki, q0.2.2.1⟩, ⟨.str, q0.2.2.2.1⟩] := by kernel_rfl
def p_spec_DrawPlaces_0 : List Dir := [.r, .r, .r, .r, .l, .r, .i]
def S_spec_DrawPlaces_0 (v0 : List Int) (v1 : Int) (v2 : Int) (v3 : Int) (v4 : List Int) : St := ⟨tT 21 [(3, .one (.adr 7 0)), (4, .one (.ref 4100 0)), (5, .one (.d ki v3))], [(7, ⟨true, [.tl (.d (.row ku8) v0), .tl (.d ki v1), .tl (.d ki v2)]⟩), (4100, ⟨false, [.own 1 ki v4 none]⟩)]⟩
def S_spec_DrawPlaces_1 (v4 : List Int) : St := ⟨tT 21 [(4, .one (.ref 4100 0))], [(4100, ⟨false, [.own 1 ki v4 none]⟩)]⟩
theorem k_spec_DrawPlaces_1 (n : Nat) (v4 : List Int) : KP L n 7 p_spec_DrawPlaces_0 [] (.exit 0) (S_spec_DrawPlaces_1 v4) = some [⟨.row ki, v4⟩] := by kernel_rfl
theorem l_spec_DrawPlaces_0 (n : Nat) (m : Nat) (v0 : List Int) (v1 : Int) (v2 : Int) (v3 : Int) (v4 : List Int) : LP L n 7 p_spec_DrawPlaces_0 [] (m + 1) (S_spec_DrawPlaces_0 v0 v1 v2 v3 v4) = cnd (ilt v3 12) (bnd (pc L n 20 [⟨.row ku8, v0⟩, ⟨ki, v1⟩, ⟨ki, v2⟩, ⟨ki, 10000⟩] (.pair ki kCur)) fun (q0 : (Int × kCur.ty)) => bnd (must (ile (iplus (rlen v4) (rlen [q0.1])) 1073741824)) fun (_ : Unit) => LP L n 7 p_spec_DrawPlaces_0 [] m (S_spec_DrawPlaces_0 q0.2.1 q0.2.2.1 q0.2.2.2.1 (iadd .i64 v3 1) (rapp v4 [q0.1]))) (KP L n 7 p_spec_DrawPlaces_0 [] (.exit 0) (S_spec_DrawPlaces_1 v4)) := by kernel_rfl
theorem f_spec_DrawPlaces (a0 : List Int) (n : Nat) : pcall L (n + 1) 7 [⟨.row ku8, a0⟩] = bnd (pc L n 19 [⟨.row ku8, a0⟩, ⟨ki, 0⟩, ⟨ki, newH a0⟩] (.pair ki kCur)) fun (q0 : (Int × kCur.ty)) => LP L n 7 p_spec_DrawPlaces_0 [] n (S_spec_DrawPlaces_0 q0.2.1 q0.2.2.1 q0.2.2.2.1 0 (([] : List Int))) := by kernel_rfl
def grow : Nat → Nat → Nat
 | 0, u => u
 | k + 1, u => grow k (2 * u + 1)
theorem le_grow : ∀ k u, u ≤ grow k u
 | 0, _ => Nat.le_refl _
 | k + 1, u => Nat.le_trans (by omega) (le_grow k (2 * u + 1))
theorem grow_le {r u : Nat} (h : r ≤ 8) : grow r u ≤ 256 * u + 255 := by
 rcases r with _ | _ | _ | _ | _ | _ | _ | _ | _ | r
 all_goals first | (simp only [grow]; omega) | omega

def CopyOk (n : Nat) : Prop := ∀ hs : List kHost.ty, hs.length ≤ 1000 → (∀ h ∈ hs, (h.2.2.1 : List kUnit.ty).length ≤ 50000000) → pc L n 66 [⟨.row kHost, hs⟩] (.pair (.row kHost) .unit) = some (hs, ())
def FindOk (n : Nat) : Prop := ∀ (hs : List kHost.ty) (a : Int), hs.length ≤ 1000 → (∃ h ∈ hs, @Eq Int h.1 a) → ∃ x, pc L n 67 [⟨.row kHost, hs⟩, ⟨ki, a⟩] (.pair ki .unit) = some x ∧ ∃ k : Nat, ∃ hk : k < hs.length, x.1 = (k : Int) ∧ @Eq Int hs[k].1 a
def PutOk (n : Nat) : Prop := ∀ (a : Int) (b : Bool) (l : List kUnit.ty) (g j : Int) (t : ByteArray) (s : Int) (u : Nat), u ≤ 20000000 → UB u l → t.size ≤ 200 → ∃ x, pc L n 68 [⟨ki, a⟩, ⟨.bool, b⟩, ⟨.row kUnit, l⟩, ⟨ki, g⟩, ⟨ki, j⟩, ⟨.str, t⟩, ⟨ki, s⟩] (.pair ki (.pair .bool (.pair (.row kUnit) (.pair .bool .unit)))) = some x ∧ PutP a u x

theorem HB.short {ids : List Int} {u : Nat} {hs : List kHost.ty} (h : HB ids u hs) (hu : u ≤ 20000000) : ∀ x ∈ hs, (x.2.2.1 : List kUnit.ty).length ≤ 50000000 := fun x hx => Nat.le_trans (h.2 x hx).1 (by omega)

theorem write_loop (n : Nat) (hc : CopyOk n) (hf : FindOk n) (hp : PutOk n) (ids : List Int) (hid : ids.length ≤ 100) (hs : List kHost.ty) (g : Int) (ts : List ByteArray) (ht : Sz 200 ts) (is : List Int) (hi : ∀ x ∈ is, x ∈ ids) (hl : is.length = ts.length) (h8 : is.length ≤ 8) (W : Nat) (hW : W ≤ 20000000) (hhs : HB ids W hs) :
  ∀ (m r : Nat) (i : Int) (v : List kHost.ty) (u : Nat), 0 ≤ i → i + r = is.length → HB ids u v → grow r u ≤ W → r < m →
   Run (LP L n 41 p_spec_WriteGroup_0 [] m (S_spec_WriteGroup_0 hs g i ts is v)) (.pair (.row kHost) (.pair .bool .unit)) fun x => HB ids W x.1
 | 0, _, _, _, _, _, _, _, _, h => absurd h (Nat.not_lt_zero _)
 | m + 1, r, i, v, u, h0, hr, hv, hg, h => by
  have hgu := le_grow r u
  have hvl := hv.len
  rw [l_spec_WriteGroup_0]
  by_cases hlt : @LT.lt Int _ i is.length
  ·obtain ⟨r, rfl⟩ : ∃ k, r = k + 1 := ⟨r - 1, by omega⟩
   have hmem : rget is i 0 ∈ ids := hi _ (rget_mem h0 hlt)
   have hex : ∃ h ∈ v, @Eq Int h.1 (rget is i 0) := by
    rw [← hv.1] at hmem
    obtain ⟨h, hh, e⟩ := List.mem_map.1 hmem
    exact ⟨h, hh, e⟩
   obtain ⟨⟨k', _⟩, hx, k, hk, rfl, _⟩ := hf v (rget is i 0) (by omega) hex
   rw [show ilt i (rlen is) = true from ilt_t hlt, cnd_t, must_of (inB_of h0 hlt), bnd_s, hx, bnd_s]
   have e0 : @LE.le Int _ 0 (k : Int) := by omega
   have e1 : @LT.lt Int _ (k : Int) v.length := by omega
   have hu := hv.2 _ (rget_mem (d := kHost.dflt) e0 e1)
   obtain ⟨y, hy, hya, hyu⟩ := hp (rget v (k : Int) kHost.dflt).1 (rget v (k : Int) kHost.dflt).2.1 (rget v (k : Int) kHost.dflt).2.2.1 g i (rget ts i ⟨#[]⟩) 0 u (by omega) hu (ht.get h0 (by omega))
   rw [must_of (inB_of e0 e1), bnd_s, must_of (inB_of h0 (by omega)), bnd_s, hy, bnd_s]
   cases y.2.2.2.1 with
   | false =>
    rw [bnot_f, cnd_t, hc hs (by have := hhs.len; omega) (hhs.short hW), bnd_s, k_spec_WriteGroup_1]
    exact ⟨(hs, false, ()), rfl, hhs⟩
   | true =>
    rw [bnot_t, cnd_f, bnd_s, iadd_eq (by omega) (by omega)]
    refine write_loop n hc hf hp ids hid hs g ts ht is hi hl h8 W hW hhs m r _ _ (2 * u + 1) (by omega) (by omega) (hv.set (d := kHost.dflt) (by omega) e0 e1 ?_ ?_) hg (by omega)
    ·exact hya
    ·exact hyu
  ·rw [show ilt i (rlen is) = false from ilt_f hlt, cnd_f, k_spec_WriteGroup_2]
   exact ⟨(v, true, ()), rfl, hv.mono (by omega)⟩

def WriteOk (n : Nat) : Prop := ∀ (ids : List Int) (hs : List kHost.ty) (u : Nat) (s g : Int) (t : ByteArray), ids.length ≤ 100 → HB ids u hs → 256 * u + 255 ≤ 20000000 → ∃ x, pc L n 41 [⟨.row kHost, hs⟩, ⟨ki, s⟩, ⟨ki, g⟩, ⟨.str, t⟩] (.pair (.row kHost) (.pair .bool .unit)) = some x ∧ HB ids (256 * u + 255) x.1
theorem write_E : Evt WriteOk := by
 refine Evt.succ (((((((cut_E.and encode_E).and placeS_E).and copyH_E).and hostOf_E).and put_E).and (Evt.ge 1000)).mono fun n hn ids hs u s g t hid hhs hu => pc_run ?_)
 obtain ⟨⟨⟨⟨⟨⟨hcut, henc⟩, hpl⟩, hc⟩, hf⟩, hp⟩, hn⟩ := hn
 have hlen := hhs.len
 obtain ⟨x, hx, _, _⟩ := hcut s t
 obtain ⟨y, hy, hyl, hyz⟩ := henc s x.1
 obtain ⟨z, hz, hzl, hzi, hzt⟩ := hpl hs (rlen y.1) (by omega)
 rw [f_spec_WriteGroup, hx, bnd_s, hy, bnd_s, hz, bnd_s]
 have hW : HB ids (256 * u + 255) hs := hhs.mono (by omega)
 by_cases hok : z.2.1 = true
 ·have key : ∀ b : Bool, Run (cnd b (bnd (pc L n 66 [⟨.row kHost, hs⟩] (.pair (.row kHost) .unit)) fun (q3 : (List kHost.ty × Unit)) => some [⟨.row kHost, q3.1⟩, ⟨.bool, false⟩]) (bnd (pc L n 66 [⟨.row kHost, hs⟩] (.pair (.row kHost) .unit)) fun (q4 : (List kHost.ty × Unit)) => LP L n 41 p_spec_WriteGroup_0 [] n (S_spec_WriteGroup_0 hs g 0 y.1 z.1 q4.1))) (.pair (.row kHost) (.pair .bool .unit)) fun x => HB ids (256 * u + 255) x.1 := fun b => by
   rw [hc hs (by omega) (hhs.short (by omega))]
   cases b with
   | true => rw [cnd_t, bnd_s]; exact ⟨(hs, false, ()), rfl, hW⟩
   | false =>
    rw [cnd_f, bnd_s]
    have hl : ((z.1 : List Int).length : Int) = max (rlen y.1) 0 := hzt hok
    unfold rlen at hl
    have hl' : (z.1 : List Int).length = (y.1 : List ByteArray).length := by omega
    have hyl' : (y.1 : List ByteArray).length ≤ 8 := hyl
    refine write_loop n hc hf hp ids hid hs g y.1 hyz z.1 (fun a ha => by rw [← hhs.1]; exact hzi a ha) hl' (by omega) (256 * u + 255) hu hW n (z.1 : List Int).length 0 hs u (Int.le_refl 0) (by omega) hhs (grow_le (by omega)) (by omega)
  exact key _
 ·have hok' : z.2.1 = false := by simpa using hok
  rw [hok', bnot_f]
  generalize sel (bnot x.2.1) true (bnot y.2.1) = c
  have e : sel c true true = true := by cases c <;> rfl
  rw [e, cnd_t, hc hs (by omega) (hhs.short (by omega)), bnd_s]
  exact ⟨(hs, false, ()), rfl, hW⟩

theorem at_loop (n : Nat) (a : Int) (b : Bool) (l : List kUnit.ty) (hl : l.length ≤ 50000000) (g j : Int) :
  ∀ (m : Nat) (i : Int), 0 ≤ i → i ≤ l.length → ((l.length : Int) - i).toNat < m → Run (LP L n 70 p_spec_l14At_0 [] m (S_spec_l14At_0 a b l g j i)) (.pair ki .unit) fun x => InI (-1) ((l.length : Int) - 1) x.1
 | 0, _, _, _, h => absurd h (Nat.not_lt_zero _)
 | m + 1, i, h0, h8, h => by
  rw [l_spec_l14At_0]
  by_cases hlt : @LT.lt Int _ i l.length
  ·rw [show ilt i (rlen l) = true from ilt_t hlt, cnd_t, must_of (inB_of h0 hlt), bnd_s]
   refine run_bnd (some_cnd (fun _ => ⟨_, rfl⟩) fun _ => ⟨_, rfl⟩) fun _ _ => ?_
   generalize sel (ieq ((rget l i kUnit.dflt).1) g) (ieq (((rget l i kUnit.dflt).2).1) j) false = c
   cases c with
   | true => rw [cnd_t, k_spec_l14At_1]; exact ⟨(i, ()), rfl, show @LE.le Int _ (-1) i from by omega, show @LE.le Int _ i ((l.length : Int) - 1) from by omega⟩
   | false =>
    rw [cnd_f, iadd_eq (by omega) (by omega)]
    exact at_loop n a b l hl g j m _ (by omega) (by omega) (by omega)
  ·rw [show ilt i (rlen l) = false from ilt_f hlt, cnd_f, k_spec_l14At_2]
   exact ⟨((-1 : Int), ()), rfl, Int.le_refl _, show @LE.le Int _ (-1) ((l.length : Int) - 1) from by omega⟩

theorem at_E : Evt fun n => ∀ (a : Int) (b : Bool) (l : List kUnit.ty) (g j : Int), l.length ≤ 50000000 → ∃ x, pc L n 70 [⟨ki, a⟩, ⟨.bool, b⟩, ⟨.row kUnit, l⟩, ⟨ki, g⟩, ⟨ki, j⟩] (.pair ki .unit) = some x ∧ InI (-1) ((l.length : Int) - 1) x.1 := by
 refine Evt.succ ((Evt.ge 50000001).mono fun n hn a b l g j hl => pc_run ?_)
 rw [f_spec_l14At]
 exact at_loop n a b l hl g j n 0 (Int.le_refl 0) (by omega) (by omega)

def SpoilP (a : Int) (u : Nat) (x : (K.pair ki (.pair .bool (.pair (.row kUnit) (.pair .bool .unit)))).ty) : Prop := @Eq Int x.1 a ∧ UB u x.2.2.1

theorem spoil_E : Evt fun n => ∀ (a : Int) (b : Bool) (l : List kUnit.ty) (g j p : Int) (u : Nat), u ≤ 20000000 → UB u l → ∃ x, pc L n 42 [⟨ki, a⟩, ⟨.bool, b⟩, ⟨.row kUnit, l⟩, ⟨ki, g⟩, ⟨ki, j⟩, ⟨ki, p⟩] (.pair ki (.pair .bool (.pair (.row kUnit) (.pair .bool .unit)))) = some x ∧ SpoilP a u x := by
 refine Evt.succ (((copy1_E.and at_E).and sumT_E).mono fun n hn a b l g j p u hu hl => pc_run ?_)
 obtain ⟨⟨hc, hat⟩, hs⟩ := hn
 have hl1 := hl.1
 obtain ⟨⟨k, _⟩, hx, k0, k1⟩ := hat a b l g j (by omega)
 have k0 : @LE.le Int _ (-1) k := k0
 have k1 : @LE.le Int _ k ((l.length : Int) - 1) := k1
 rw [f_spec_Spoil, hc a b l (by omega), bnd_s, hx, bnd_s]
 have none : Run (some [⟨ki, a⟩, ⟨.bool, b⟩, ⟨.row kUnit, l⟩, ⟨.bool, false⟩]) (.pair ki (.pair .bool (.pair (.row kUnit) (.pair .bool .unit)))) (SpoilP a u) := ⟨(a, b, l, false, ()), rfl, rfl, hl⟩
 by_cases hk : @LT.lt Int _ k 0
 ·rw [show ilt ((k, ()) : Int × Unit).1 0 = true from ilt_t hk]
  exact none
 rw [show ilt ((k, ()) : Int × Unit).1 0 = false from ilt_f hk, sel_f]
 by_cases hp : p < 0
 ·rw [ilt_t hp]
  exact none
 rw [ilt_f hp]
 have k2 : @LE.le Int _ 0 k := by omega
 have k3 : @LT.lt Int _ k l.length := by omega
 show Run (bnd (cnd (bnot false) (must (inB k (rlen l))) (some ())) _) _ _
 rw [bnot_f, cnd_t, must_of (inB_of k2 k3), bnd_s]
 have ht := hl.get (d := kUnit.dflt) k2 k3
 show Run (bnd (cnd (bnot (sel false true (seq (rget l k kUnit.dflt).2.2.1 ⟨#[]⟩))) (some ()) (some ())) fun (_ : Unit) => bnd (cnd (bnot (sel false true (seq (rget l k kUnit.dflt).2.2.1 ⟨#[]⟩))) (some ()) (some ())) fun (_ : Unit) => bnd (cnd (bnot (sel false true (seq (rget l k kUnit.dflt).2.2.1 ⟨#[]⟩))) (pc L n 71 [⟨.str, (rget l k kUnit.dflt).2.2.1⟩] (.pair ki .unit)) (some (0, ()))) fun (q2 : (Int × Unit)) => cnd (sel (sel false true (seq (rget l k kUnit.dflt).2.2.1 ⟨#[]⟩)) true (ine (rget l k kUnit.dflt).2.2.2.1 q2.1)) (some [⟨ki, a⟩, ⟨.bool, b⟩, ⟨.row kUnit, l⟩, ⟨.bool, false⟩]) _) _ _
 rw [sel_f]
 obtain ⟨y, hy, _⟩ := hs (rget l k kUnit.dflt).2.2.1 (by omega)
 cases hq : seq (rget l k kUnit.dflt).2.2.1 ⟨#[]⟩ with
 | true =>
  rw [bnot_t, cnd_f, bnd_s, bnd_s, cnd_f, bnd_s, sel_t, cnd_t]
  exact none
 | false =>
  rw [bnot_f, cnd_t, bnd_s, bnd_s, cnd_t, hy, bnd_s, sel_f]
  cases ine (rget l k kUnit.dflt).2.2.2.1 y.1 with
  | true => rw [cnd_t]; exact none
  | false =>
   have hz : ¬ ((rget l k kUnit.dflt).2.2.1 : ByteArray).size = 0 := fun e => by
    have : ((rget l k kUnit.dflt).2.2.1 : ByteArray) = ⟨#[]⟩ := bs_inj (List.eq_nil_of_length_eq_zero e)
    rw [this] at hq
    exact absurd ((seq_refl _).symm.trans hq) (by decide)
   have hzl : (sbytes (rget l k kUnit.dflt).2.2.1).length = ((rget l k kUnit.dflt).2.2.1 : ByteArray).size := len_sbytes _
   have e0 : 0 ≤ p % rlen (sbytes (rget l k kUnit.dflt).2.2.1) := Int.emod_nonneg _ (by unfold rlen; omega)
   have e1 : p % rlen (sbytes (rget l k kUnit.dflt).2.2.1) < rlen (sbytes (rget l k kUnit.dflt).2.2.1) := Int.emod_lt_of_pos _ (by unfold rlen; omega)
   rw [cnd_f]
   show Run (bnd (some ()) fun (_ : Unit) => bnd (must (ine (rlen (sbytes (rget l k kUnit.dflt).2.2.1)) 0)) fun (_ : Unit) => bnd (must (ine (rlen (sbytes (rget l k kUnit.dflt).2.2.1)) 0)) fun (_ : Unit) => bnd (must (inB (irem p (rlen (sbytes (rget l k kUnit.dflt).2.2.1))) (rlen (sbytes (rget l k kUnit.dflt).2.2.1)))) fun (_ : Unit) => bnd (must (inB (irem p (rlen (sbytes (rget l k kUnit.dflt).2.2.1))) (rlen (sbytes (rget l k kUnit.dflt).2.2.1)))) fun (_ : Unit) => bnd (some ()) fun (_ : Unit) => some [⟨ki, a⟩, ⟨.bool, b⟩, ⟨.row kUnit, rset l k ((rget l k kUnit.dflt).1, ((rget l k kUnit.dflt).2.1, (sof (rset (sbytes (rget l k kUnit.dflt).2.2.1) (irem p (rlen (sbytes (rget l k kUnit.dflt).2.2.1))) (ixor .u8 (rget (sbytes (rget l k kUnit.dflt).2.2.1) (irem p (rlen (sbytes (rget l k kUnit.dflt).2.2.1))) 0) 1)), (rget l k kUnit.dflt).2.2.2)))⟩, ⟨.bool, true⟩]) _ _
   rw [bnd_s, must_of (ine_t (show ¬ rlen (sbytes (rget l k kUnit.dflt).2.2.1) = 0 from by unfold rlen; omega)), bnd_s, bnd_s, irem_eq (by omega) (by unfold rlen; omega), must_of (inB_of e0 e1), bnd_s, bnd_s, bnd_s]
   refine ⟨(a, b, rset l k _, true, ()), rfl, rfl, ⟨by rw [len_rset]; exact hl.1, fun x hx => ?_⟩⟩
   rcases rset_mem hx with hx | rfl
   ·exact hl.2 x hx
   ·show (sof _).size ≤ 200
    rw [size_sof, len_rset, hzl]
    exact ht
def upto (k : Nat) : List Int := (List.range k).map fun (j : Nat) => (j : Int) + 1
theorem upto_succ (k : Nat) : upto (k + 1) = upto k ++ [(k : Int) + 1] := by unfold upto; rw [List.range_succ, List.map_append]; rfl
theorem len_upto (k : Nat) : (upto k).length = k := by unfold upto; rw [List.length_map, List.length_range]
def U : Nat := 16777215
abbrev kHs : K := .pair (.row kHost) (.pair ki (.pair ki (.pair .str kCur)))
def HsP (x : kHs.ty) : Prop := HB (upto 7) U x.1

def BelowOk (n : Nat) : Prop := ∀ (c : kCur.ty) (a : Int), CurOk c → ∃ x, pc L n 20 [⟨.row ku8, c.1⟩, ⟨ki, c.2.1⟩, ⟨ki, c.2.2.1⟩, ⟨ki, a⟩] (.pair ki kCur) = some x ∧ (InI 0 (max 0 (a - 1)) x.1) ∧ CurOk x.2
def TextOk (n : Nat) : Prop := ∀ (c : kCur.ty) (a : Int), CurOk c → ∃ x, pc L n 39 [⟨.row ku8, c.1⟩, ⟨ki, c.2.1⟩, ⟨ki, c.2.2.1⟩, ⟨ki, a⟩] (.pair .str kCur) = some x ∧ ((x.1.size : Int) ≤ 5000) ∧ CurOk x.2
def SpoilOk (n : Nat) : Prop := ∀ (a : Int) (b : Bool) (l : List kUnit.ty) (g j p : Int) (u : Nat), u ≤ 20000000 → UB u l → ∃ x, pc L n 42 [⟨ki, a⟩, ⟨.bool, b⟩, ⟨.row kUnit, l⟩, ⟨ki, g⟩, ⟨ki, j⟩, ⟨ki, p⟩] (.pair ki (.pair .bool (.pair (.row kUnit) (.pair .bool .unit)))) = some x ∧ SpoilP a u x

theorem hosts_last (n : Nat) (hb : BelowOk n) (hsp : SpoilOk n) (s : Int) (t : ByteArray) :
  ∀ (m : Nat) (i : Int) (c : kCur.ty) (v : List kHost.ty), 0 ≤ i → i ≤ 4 → CurOk c → HB (upto 7) U v → (4 - i).toNat < m → Run (LP L n 17 p_spec_l15Hosts_2 [] m (S_spec_l15Hosts_4 s t i c.1 c.2.1 c.2.2.1 v)) kHs HsP
 | 0, _, _, _, _, _, _, _, h => absurd h (Nat.not_lt_zero _)
 | m + 1, i, c, v, h0, h4, hc, hv, h => by
  have hvl := hv.len
  rw [len_upto] at hvl
  rw [l_spec_l15Hosts_4]
  obtain ⟨x, hx, ⟨x0, x1⟩, hxc⟩ := hb c 4 hc
  rw [hx, bnd_s]
  by_cases hlt : i < x.1
  ·obtain ⟨y, hy, ⟨y0, y1⟩, hyc⟩ := hb x.2 (rlen v) hxc
   obtain ⟨z, hz, _, hzc⟩ := hb y.2 4 hyc
   have yl : rlen v = 7 := by unfold rlen; omega
   have y2 : @LT.lt Int _ y.1 v.length := by omega
   have hu := hv.2 _ (rget_mem (d := kHost.dflt) y0 y2)
   have go : ∀ (c : kCur.ty) (w : List kHost.ty), CurOk c → HB (upto 7) U w → Run (LP L n 17 p_spec_l15Hosts_2 [] m (S_spec_l15Hosts_4 s t (iadd .i64 i 1) c.1 c.2.1 c.2.2.1 w)) kHs HsP := fun c w hc hw => by
    rw [iadd_eq (by omega) (by omega)]
    exact hosts_last n hb hsp s t m _ c w (by omega) (by omega) hc hw (by omega)
   rw [ilt_t hlt, cnd_t, hy, bnd_s, hz, bnd_s]
   have hin : must (inB y.1 (rlen v)) = some () := must_of (inB_of y0 y2)
   cases ieq z.1 0 with
   | true => rw [cnd_t, hin, bnd_s]; exact go z.2 _ hzc (hv.set (d := kHost.dflt) (Nat.le_refl _) y0 y2 rfl hu)
   | false =>
    rw [cnd_f]
    cases ieq z.1 1 with
    | true => rw [cnd_t, hin, bnd_s]; exact go z.2 _ hzc (hv.set (d := kHost.dflt) (Nat.le_refl _) y0 y2 rfl ⟨Nat.zero_le _, fun x hx => by cases hx⟩)
    | false =>
     rw [cnd_f]
     cases ieq z.1 2 with
     | true =>
      rw [cnd_t, hin, bnd_s]
      by_cases hg : 0 < rlen (rget v y.1 kHost.dflt).2.2.1
      ·obtain ⟨w, hw, _, hwc⟩ := hb z.2 9 hzc
       obtain ⟨r, hr, hra, hru⟩ := hsp (rget v y.1 kHost.dflt).1 (rget v y.1 kHost.dflt).2.1 (rget v y.1 kHost.dflt).2.2.1 (rget (rget v y.1 kHost.dflt).2.2.1 0 kUnit.dflt).1 ((rget (rget v y.1 kHost.dflt).2.2.1 0 kUnit.dflt).2).1 w.1 U (by unfold U; omega) hu
       rw [igt_t hg, cnd_t, bnd_s, must_of (inB_of (Int.le_refl 0) hg), bnd_s, bnd_s, hw, bnd_s, hr, bnd_s, bnd_s]
       exact go w.2 _ hwc (hv.set (d := kHost.dflt) (Nat.le_refl _) y0 y2 hra hru)
      ·rw [igt_f hg, cnd_f]
       exact go z.2 v hzc hv
     | false => rw [cnd_f, hin, bnd_s]; exact go z.2 _ hzc (hv.set (d := kHost.dflt) (Nat.le_refl _) y0 y2 rfl hu)
  ·rw [ilt_f hlt, cnd_f, k_spec_l15Hosts_5]
   exact ⟨(v, s, (1 : Int), t, x.2), rfl, hv⟩

theorem hosts_groups (n : Nat) (hn : 100 ≤ n) (hb : BelowOk n) (ht : TextOk n) (hG : ∀ s : Int, pc L n 40 [⟨ki, s⟩] (.pair ki .unit) = some (skk s * 8, ())) (hw : WriteOk n) (hsp : SpoilOk n) (s : Int) :
  ∀ (m k : Nat) (t : ByteArray) (c : kCur.ty) (v : List kHost.ty), k ≤ 3 → CurOk c → HB (upto 7) (256 ^ k - 1) v → 3 - k < m → Run (LP L n 17 p_spec_l15Hosts_1 [] m (S_spec_l15Hosts_2 s t ((k : Int) + 1) c.1 c.2.1 c.2.2.1 v)) kHs HsP
 | 0, _, _, _, _, _, _, _, h => absurd h (Nat.not_lt_zero _)
 | m + 1, k, t, c, v, hk, hc, hv, h => by
  rw [l_spec_l15Hosts_2]
  obtain ⟨x, hx, ⟨x0, x1⟩, hxc⟩ := hb c 3 hc
  have x2 : @LE.le Int _ x.1 2 := by omega
  rw [hx, bnd_s, iadd_eq (a := 1) (by omega) (by omega)]
  by_cases hlt : (k : Int) + 1 ≤ 1 + x.1
  ·obtain ⟨y, hy, _, hyc⟩ := hb x.2 (skk s * 8) hxc
   obtain ⟨z, hz, _, hzc⟩ := ht y.2 (iadd .i64 1 y.1) hyc
   have hbd : 256 * (256 ^ k - 1) + 255 ≤ 20000000 ∧ 256 * (256 ^ k - 1) + 255 = 256 ^ (k + 1) - 1 := by
    have : k = 0 ∨ k = 1 ∨ k = 2 := by omega
    rcases this with rfl | rfl | rfl <;> decide
   obtain ⟨w, hw', hww⟩ := hw (upto 7) v (256 ^ k - 1) s ((k : Int) + 1) z.1 (by rw [len_upto]; omega) hv hbd.1
   rw [hbd.2] at hww
   rw [ile_t hlt, cnd_t, hG, bnd_s, hy, bnd_s, hz, bnd_s, hw', bnd_s, iadd_eq (a := (k : Int) + 1) (by omega) (by omega)]
   have go : ∀ t : ByteArray, Run (LP L n 17 p_spec_l15Hosts_1 [] m (S_spec_l15Hosts_2 s t ((k : Int) + 1 + 1) z.2.1 z.2.2.1 z.2.2.2.1 w.1)) kHs HsP := fun t => hosts_groups n hn hb ht hG hw hsp s m (k + 1) t z.2 w.1 (by omega) hzc hww (by omega)
   cases sel w.2.1 (ieq ((k : Int) + 1) 1) false with
   | true => rw [cnd_t]; exact go _
   | false => rw [cnd_f]; exact go _
  ·rw [ile_f hlt, cnd_f, k_spec_l15Hosts_3]
   have hU : 256 ^ k - 1 ≤ U := by
    have : k = 0 ∨ k = 1 ∨ k = 2 ∨ k = 3 := by omega
    rcases this with rfl | rfl | rfl | rfl <;> decide
   exact hosts_last n hb hsp s t n 0 x.2 v (Int.le_refl 0) (by omega) hxc (hv.mono hU) (by omega)

theorem hosts_first (n : Nat) (hn : 100 ≤ n) (ho : ∀ (c : kCur.ty) (a : Int), CurOk c → ∃ x, pc L n 38 [⟨.row ku8, c.1⟩, ⟨ki, c.2.1⟩, ⟨ki, c.2.2.1⟩, ⟨ki, a⟩] (.pair .bool kCur) = some x ∧ CurOk x.2) (hb : BelowOk n)
  (next : ∀ (s : Int) (c : kCur.ty) (v : List kHost.ty), CurOk c → HB (upto 7) 0 v → Run (LP L n 17 p_spec_l15Hosts_1 [] n (S_spec_l15Hosts_2 s ⟨#[]⟩ 1 c.1 c.2.1 c.2.2.1 v)) kHs HsP) :
  ∀ (m k : Nat) (v : List kHost.ty) (c : kCur.ty), k ≤ 7 → CurOk c → HB (upto k) 0 v → 7 - k < m → Run (LP L n 17 p_spec_l15Hosts_0 [] m (S_spec_l15Hosts_0 ((k : Int) + 1) v c.1 c.2.1 c.2.2.1)) kHs HsP
 | 0, _, _, _, _, _, _, h => absurd h (Nat.not_lt_zero _)
 | m + 1, k, v, c, hk, hc, hv, h => by
  have hvl := hv.len
  rw [len_upto] at hvl
  rw [l_spec_l15Hosts_0]
  by_cases hlt : (k : Int) + 1 ≤ 7
  ·obtain ⟨x, hx, hxc⟩ := ho c 12 hc
   rw [ile_t hlt, cnd_t, hx, bnd_s, fitsR (by rw [List.length_singleton]; omega), bnd_s, iadd_eq (by omega) (by omega)]
   refine hosts_first n hn ho hb next m (k + 1) _ x.2 (by omega) hxc ⟨?_, fun y hy => ?_⟩ (by omega)
   ·rw [upto_succ, ← hv.1]
    unfold Ids rapp
    rw [List.map_append]
    rfl
   ·rcases List.mem_append.1 hy with hy | hy
    ·exact hv.2 y hy
    ·rw [List.mem_singleton.1 hy]
     exact ⟨Nat.le_refl 0, fun x hx => by cases hx⟩
  ·obtain rfl : k = 7 := by omega
   obtain ⟨x, hx, _, hxc⟩ := hb c 3 hc
   rw [ile_f hlt, cnd_f, k_spec_l15Hosts_1, hx, bnd_s]
   exact next _ x.2 v hxc hv

theorem hosts_E : Evt fun n => ∀ c : kCur.ty, CurOk c → ∃ x, pc L n 17 [⟨.row ku8, c.1⟩, ⟨ki, c.2.1⟩, ⟨ki, c.2.2.1⟩] kHs = some x ∧ HsP x := by
 refine Evt.succ (((((((below_E.and once_E).and text_E).and group_eq).and write_E).and spoil_E).and (Evt.ge 100)).mono fun n hn c hc => pc_run ?_)
 obtain ⟨⟨⟨⟨⟨⟨hb, ho⟩, ht⟩, hG⟩, hw⟩, hsp⟩, hn⟩ := hn
 rw [f_spec_l15Hosts]
 exact hosts_first n hn ho hb (fun s c v hc hv => hosts_groups n hn hb ht hG hw hsp s n 0 _ c v (by omega) hc hv (by omega)) n 0 [] c (by omega) hc ⟨rfl, fun x hx => by cases hx⟩ (by omega)

theorem drawHosts_E : Evt fun n => ∀ b : List Int, b.length ≤ 1048576 → ∃ x, pc L n 6 [⟨.row ku8, b⟩] (.pair (.row kHost) (.pair ki (.pair ki (.pair .str .unit)))) = some x ∧ HB (upto 7) U x.1 := by
 refine Evt.succ (hosts_E.mono fun n hn b hb => pc_run ?_)
 obtain ⟨x, hx, hxp⟩ := hn (b, (0 : Int), newH b, ()) ⟨⟨Int.le_refl _, Int.natCast_nonneg _⟩, hb⟩
 rw [f_spec_DrawHosts, hx, bnd_s]
 exact ⟨(x.1, x.2.1, x.2.2.1, x.2.2.2.1, ()), rfl, hxp⟩

theorem places_loop (n : Nat) (hb : BelowOk n) : ∀ (m : Nat) (i : Int) (c : kCur.ty) (v : List Int), 0 ≤ i → i ≤ 12 → CurOk c → (v.length : Int) = i → (∀ x ∈ v, InI 0 9999 x) → (12 - i).toNat < m →
   Run (LP L n 7 p_spec_DrawPlaces_0 [] m (S_spec_DrawPlaces_0 c.1 c.2.1 c.2.2.1 i v)) (.pair (.row ki) .unit) fun x => (x.1 : List Int).length = 12 ∧ ∀ y ∈ (x.1 : List Int), InI 0 9999 y
 | 0, _, _, _, _, _, _, _, _, h => absurd h (Nat.not_lt_zero _)
 | m + 1, i, c, v, h0, h12, hc, hl, hv, h => by
  rw [l_spec_DrawPlaces_0]
  by_cases hlt : i < 12
  ·obtain ⟨x, hx, hxi, hxc⟩ := hb c 10000 hc
   rw [ilt_t hlt, cnd_t, hx, bnd_s, fitsR (by rw [List.length_singleton]; omega), bnd_s, iadd_eq (by omega) (by omega)]
   refine places_loop n hb m _ x.2 _ (by omega) (by omega) hxc (by rw [len_rapp, List.length_singleton]; omega) (fun y hy => ?_) (by omega)
   rcases List.mem_append.1 hy with hy | hy
   ·exact hv y hy
   ·rw [List.mem_singleton.1 hy]
    exact ⟨hxi.1, by have := hxi.2; omega⟩
  ·rw [ilt_f hlt, cnd_f, k_spec_DrawPlaces_1]
   exact ⟨(v, ()), rfl, show v.length = 12 from by omega, hv⟩

theorem drawPlaces_E : Evt fun n => ∀ b : List Int, b.length ≤ 1048576 → ∃ x, pc L n 7 [⟨.row ku8, b⟩] (.pair (.row ki) .unit) = some x ∧ (x.1 : List Int).length = 12 ∧ ∀ y ∈ (x.1 : List Int), InI 0 9999 y := by
 refine Evt.succ (((byte_E.and below_E).and (Evt.ge 100)).mono fun n hn b hb => pc_run ?_)
 obtain ⟨⟨hby, hbe⟩, hn⟩ := hn
 obtain ⟨x, hx, _, hxc⟩ := hby (b, (0 : Int), newH b, ()) ⟨⟨Int.le_refl _, Int.natCast_nonneg _⟩, hb⟩
 rw [f_spec_DrawPlaces, hx, bnd_s]
 exact places_loop n hbe n 0 x.2 [] (Int.le_refl 0) (by omega) hxc rfl (fun x hx => by cases hx) (by omega)
def p_laws_FnLoads_0 : List Dir := [.r, .r, .r, .r, .r, .r, .l, .r, .i]
def S_laws_FnLoads_0 (v0 : Int) (v1 : Bool) (v2 : Int) (v3 : Int) (v4 : List kHost.ty) (v5 : List Int) : St := ⟨tT 126 [(3, .one (.ref 4099 0)), (7, .one (.d ki v0)), (8, .one (.ref 4104 0)), (9, .one (.d .bool v1)), (10, .one (.d ki v2)), (11, .one (.d ki v3))], [(4099, ⟨false, [.own 1 kHost v4 none]⟩), (4104, ⟨false, [.own 1 ki v5 none]⟩)]⟩
def S_laws_FnLoads_1 (v0 : Int) (v1 : Bool) (v2 : Int) (v4 : List kHost.ty) (v5 : List Int) : St := ⟨tT 126 [(3, .one (.ref 4099 0)), (7, .one (.d ki v0)), (8, .one (.ref 4104 0)), (9, .one (.d .bool v1)), (10, .one (.d ki v2))], [(4099, ⟨false, [.own 1 kHost v4 none]⟩), (4104, ⟨false, [.own 1 ki v5 none]⟩)]⟩
def p_laws_FnLoads_1 : List Dir := [.r, .r, .r, .r, .r, .r, .r, .r, .r, .l, .r, .i]
def S_laws_FnLoads_2 (v0 : Int) (v4 : List kHost.ty) (v5 : List Int) (v2_0 : Int) : St := ⟨tT 126 [(3, .one (.ref 4099 0)), (7, .one (.d ki v0)), (8, .one (.ref 4104 0)), (12, .one (.d ki v2_0))], [(4099, ⟨false, [.own 1 kHost v4 none]⟩), (4104, ⟨false, [.own 1 ki v5 none]⟩)]⟩
def p_laws_FnLoads_2 : List Dir := [.r, .r, .r, .r, .r, .r, .r, .r, .r, .l, .r, .i, .i, .r, .l, .i, .r, .r, .i]
def S_laws_FnLoads_3 (v0 : Int) (v4 : List kHost.ty) (v5 : List Int) (v2_0 : Int) (v3_0 : Int) : St := ⟨tT 126 [(3, .one (.ref 4099 0)), (7, .one (.d ki v0)), (8, .one (.ref 4104 0)), (12, .one (.d ki v2_0)), (13, .one (.d ki v3_0))], [(4099, ⟨false, [.own 1 kHost v4 none]⟩), (4104, ⟨false, [.own 1 ki v5 none]⟩)]⟩
def S_laws_FnLoads_4 (v0 : Int) (v5 : List Int) : St := ⟨tT 126 [(7, .one (.d ki v0)), (8, .one (.ref 4104 0))], [(4104, ⟨false, [.own 1 ki v5 none]⟩)]⟩
def S_laws_FnLoads_5  : St := ⟨tT 126 [(2, .one (.d .bool false))], []⟩
theorem k_laws_FnLoads_6 (n : Nat) (v0 : Int) (v4 : List kHost.ty) (v5 : List Int) (v2_0 : Int) (m0 : Nat) : KP L n 3 p_laws_FnLoads_2 [m0] (.exit 4) (S_laws_FnLoads_2 v0 v4 v5 v2_0) = LP L n 3 p_laws_FnLoads_1 [] m0 (S_laws_FnLoads_2 v0 v4 v5 (iadd .i64 v2_0 1)) := by kernel_rfl
theorem k_laws_FnLoads_4 (n : Nat) (v0 : Int) (v5 : List Int) : KP L n 3 p_laws_FnLoads_1 [] (.exit 2) (S_laws_FnLoads_4 v0 v5) = some [⟨.bool, ieq (rlen v5) v0⟩] := by kernel_rfl
theorem l_laws_FnLoads_3 (n : Nat) (v0 : Int) (v4 : List kHost.ty) (v5 : List Int) (v2_0 : Int) (m : Nat) (m0 : Nat) (v3_0 : Int) : LP L n 3 p_laws_FnLoads_2 [m0] (m + 1) (S_laws_FnLoads_3 v0 v4 v5 v2_0 v3_0) = cnd (ilt v3_0 (rlen v5)) (bnd (must (inB v3_0 (rlen v5))) fun (_ : Unit) => bnd (must (inB (isub .i64 (rget v5 v3_0 0) 1) (rlen v4))) fun (_ : Unit) => bnd (pc L n 10 [⟨ki, (rget v4 (isub .i64 (rget v5 v3_0 0) 1) kHost.dflt).1⟩, ⟨.bool, ((rget v4 (isub .i64 (rget v5 v3_0 0) 1) kHost.dflt).2).1⟩, ⟨.row kUnit, (((rget v4 (isub .i64 (rget v5 v3_0 0) 1) kHost.dflt).2).2).1⟩] (.pair ki .unit)) fun (q0 : (Int × Unit)) => bnd (must (inB v2_0 (rlen v4))) fun (_ : Unit) => bnd (pc L n 10 [⟨ki, (rget v4 v2_0 kHost.dflt).1⟩, ⟨.bool, ((rget v4 v2_0 kHost.dflt).2).1⟩, ⟨.row kUnit, (((rget v4 v2_0 kHost.dflt).2).2).1⟩] (.pair ki .unit)) fun (q1 : (Int × Unit)) => bnd (cnd (bnot (igt q0.1 q1.1)) (pc L n 10 [⟨ki, (rget v4 (isub .i64 (rget v5 v3_0 0) 1) kHost.dflt).1⟩, ⟨.bool, ((rget v4 (isub .i64 (rget v5 v3_0 0) 1) kHost.dflt).2).1⟩, ⟨.row kUnit, (((rget v4 (isub .i64 (rget v5 v3_0 0) 1) kHost.dflt).2).2).1⟩] (.pair ki .unit)) (some (0, ()))) fun (q2 : (Int × Unit)) => bnd (cnd (bnot (igt q0.1 q1.1)) (must (inB v2_0 (rlen v4))) (some ())) fun (_ : Unit) => bnd (cnd (bnot (igt q0.1 q1.1)) (pc L n 10 [⟨ki, (rget v4 v2_0 kHost.dflt).1⟩, ⟨.bool, ((rget v4 v2_0 kHost.dflt).2).1⟩, ⟨.row kUnit, (((rget v4 v2_0 kHost.dflt).2).2).1⟩] (.pair ki .unit)) (some (0, ()))) fun (q3 : (Int × Unit)) => bnd (cnd (band (bnot (igt q0.1 q1.1)) (ieq q2.1 q3.1)) (must (inB v2_0 (rlen v4))) (some ())) fun (_ : Unit) => cnd (sel (igt q0.1 q1.1) true (sel (ieq q2.1 q3.1) (igt ((rget v4 (isub .i64 (rget v5 v3_0 0) 1) kHost.dflt).1) ((rget v4 v2_0 kHost.dflt).1)) false)) (KP L n 3 p_laws_FnLoads_2 [m0] .ret (S_laws_FnLoads_5)) (LP L n 3 p_laws_FnLoads_2 [m0] m (S_laws_FnLoads_3 v0 v4 v5 v2_0 (iadd .i64 v3_0 1)))) (KP L n 3 p_laws_FnLoads_2 [m0] (.exit 4) (S_laws_FnLoads_2 v0 v4 v5 v2_0)) := by kernel_rfl
theorem l_laws_FnLoads_2 (n : Nat) (v0 : Int) (v4 : List kHost.ty) (v5 : List Int) (m : Nat) (v2_0 : Int) : LP L n 3 p_laws_FnLoads_1 [] (m + 1) (S_laws_FnLoads_2 v0 v4 v5 v2_0) = cnd (ilt v2_0 (rlen v4)) (bnd (must (inB v2_0 (rlen v4))) fun (_ : Unit) => bnd (cnd (bnot (bnot (((rget v4 v2_0 kHost.dflt).2).1))) (must (inB v2_0 (rlen v4))) (some ())) fun (_ : Unit) => bnd (cnd (bnot (bnot (((rget v4 v2_0 kHost.dflt).2).1))) (pc L n 9 [⟨.row ki, v5⟩, ⟨ki, (rget v4 v2_0 kHost.dflt).1⟩] (.pair .bool .unit)) (some (false, ()))) fun (q0 : (Bool × Unit)) => cnd (sel (bnot (((rget v4 v2_0 kHost.dflt).2).1)) true q0.1) (LP L n 3 p_laws_FnLoads_1 [] m (S_laws_FnLoads_2 v0 v4 v5 (iadd .i64 v2_0 1))) (LP L n 3 p_laws_FnLoads_2 [m] n (S_laws_FnLoads_3 v0 v4 v5 v2_0 0))) (KP L n 3 p_laws_FnLoads_1 [] (.exit 2) (S_laws_FnLoads_4 v0 v5)) := by kernel_rfl
theorem k_laws_FnLoads_1 (n : Nat) (v0 : Int) (v1 : Bool) (v2 : Int) (v4 : List kHost.ty) (v5 : List Int) : KP L n 3 p_laws_FnLoads_0 [] (.exit 0) (S_laws_FnLoads_1 v0 v1 v2 v4 v5) = cnd (bnot (beq v1 (ile v0 v2))) (some [⟨.bool, false⟩]) (cnd (bnot v1) (some [⟨.bool, ieq (rlen v5) 0⟩]) (LP L n 3 p_laws_FnLoads_1 [] n (S_laws_FnLoads_2 v0 v4 v5 0))) := by kernel_rfl
theorem l_laws_FnLoads_0 (n : Nat) (m : Nat) (v0 : Int) (v1 : Bool) (v2 : Int) (v3 : Int) (v4 : List kHost.ty) (v5 : List Int) : LP L n 3 p_laws_FnLoads_0 [] (m + 1) (S_laws_FnLoads_0 v0 v1 v2 v3 v4 v5) = cnd (ilt v3 (rlen v4)) (bnd (must (inB v3 (rlen v4))) fun (_ : Unit) => cnd (((rget v4 v3 kHost.dflt).2).1) (LP L n 3 p_laws_FnLoads_0 [] m (S_laws_FnLoads_0 v0 v1 (iadd .i64 v2 1) (iadd .i64 v3 1) v4 v5)) (LP L n 3 p_laws_FnLoads_0 [] m (S_laws_FnLoads_0 v0 v1 v2 (iadd .i64 v3 1) v4 v5))) (KP L n 3 p_laws_FnLoads_0 [] (.exit 0) (S_laws_FnLoads_1 v0 v1 v2 v4 v5)) := by kernel_rfl
theorem f_laws_FnLoads (a0 : List Int) (n : Nat) : pcall L (n + 1) 3 [⟨.row ku8, a0⟩] = bnd (pc L n 5 [⟨.row ku8, a0⟩] (.pair .bool .unit)) fun (q0 : (Bool × Unit)) => cnd q0.1 (some [⟨.bool, true⟩]) (bnd (pc L n 6 [⟨.row ku8, a0⟩] (.pair (.row kHost) (.pair ki (.pair ki (.pair .str .unit))))) fun (q1 : (List kHost.ty × (Int × (Int × (ByteArray × Unit))))) => bnd (pc L n 7 [⟨.row ku8, a0⟩] (.pair (.row ki) .unit)) fun (q2 : (List Int × Unit)) => bnd (must (inB 0 (rlen q2.1))) fun (_ : Unit) => bnd (pc L n 8 [⟨.row kHost, q1.1⟩, ⟨ki, iadd .i64 1 (irem (rget q2.1 0 0) 7)⟩] (.pair (.row ki) (.pair .bool .unit))) fun (q3 : (List Int × (Bool × Unit))) => LP L n 3 p_laws_FnLoads_0 [] n (S_laws_FnLoads_0 (iadd .i64 1 (irem (rget q2.1 0 0) 7)) q3.2.1 0 0 q1.1 q3.1)) := by kernel_rfl
theorem f_laws_big (n : Nat) (a0 : List Int) : pcall L (n + 1) 5 [⟨.row ku8, a0⟩] = some [⟨.bool, igt (rlen a0) 1048576⟩] := by kernel_rfl
def p_laws_in_0 : List Dir := [.r, .l, .r, .i]
def S_laws_in_0 (a0 : List Int) (a1 : Int) (v0 : Int) : St := ⟨tT 18 [(0, .one (.d (.row ki) a0)), (1, .one (.d ki a1)), (5, .one (.d ki v0))], []⟩
def S_laws_in_1  : St := ⟨tT 18 [(4, .one (.d .bool true))], []⟩
def S_laws_in_2  : St := ⟨tT 18 [], []⟩
theorem k_laws_in_2 (n : Nat) : KP L n 9 p_laws_in_0 [] (.exit 0) (S_laws_in_2) = some [⟨.bool, false⟩] := by kernel_rfl
theorem k_laws_in_1 (n : Nat) : KP L n 9 p_laws_in_0 [] .ret (S_laws_in_1) = some [⟨.bool, true⟩] := by kernel_rfl
theorem l_laws_in_0 (n : Nat) (a0 : List Int) (a1 : Int) (m : Nat) (v0 : Int) : LP L n 9 p_laws_in_0 [] (m + 1) (S_laws_in_0 a0 a1 v0) = cnd (ilt v0 (rlen a0)) (bnd (must (inB v0 (rlen a0))) fun (_ : Unit) => cnd (ieq (rget a0 v0 0) a1) (KP L n 9 p_laws_in_0 [] .ret (S_laws_in_1)) (LP L n 9 p_laws_in_0 [] m (S_laws_in_0 a0 a1 (iadd .i64 v0 1)))) (KP L n 9 p_laws_in_0 [] (.exit 0) (S_laws_in_2)) := by kernel_rfl
theorem f_laws_in (a0 : List Int) (a1 : Int) (n : Nat) : pcall L (n + 1) 9 [⟨.row ki, a0⟩, ⟨ki, a1⟩] = LP L n 9 p_laws_in_0 [] n (S_laws_in_0 a0 a1 0) := by kernel_rfl
theorem f_impl_LoadOf (n : Nat) (a0 : Int) (a1 : Bool) (a2 : List kUnit.ty) : pcall L (n + 1) 10 [⟨ki, a0⟩, ⟨.bool, a1⟩, ⟨.row kUnit, a2⟩] = some [⟨ki, rlen a2⟩] := by kernel_rfl
theorem placeI_E : Evt fun n => ∀ (hs : List kHost.ty) (a : Int), placeD hs = true → pc L n 8 [⟨.row kHost, hs⟩, ⟨ki, a⟩] (.pair (.row ki) (.pair .bool .unit)) = some ((placeX hs a).1, (placeX hs a).2, ()) := by
 refine Evt.succ (Evt.now fun n hs a hl => pc_of ?_)
 show (if placeD hs = true then some ([⟨.row ki, (placeX hs a).1⟩, ⟨.bool, (placeX hs a).2⟩] : List Leaf) else none) = _
 rw [if_pos hl]
 rfl

theorem loadI_E : Evt fun n => ∀ (a : Int) (b : Bool) (l : List kUnit.ty), pc L n 10 [⟨ki, a⟩, ⟨.bool, b⟩, ⟨.row kUnit, l⟩] (.pair ki .unit) = some (rlen l, ()) := Evt.succ (Evt.now fun n a b l => pc_of (f_impl_LoadOf n a b l))

theorem isIn_loop (n : Nat) (v : List Int) (a : Int) (hz : v.length ≤ 1000) :
  ∀ (m : Nat) (i : Nat), i ≤ v.length → a ∉ v.take i → v.length - i < m → LP L n 9 p_laws_in_0 [] m (S_laws_in_0 v a i) = some [⟨.bool, decide (a ∈ v)⟩]
 | 0, _, _, _, h => absurd h (Nat.not_lt_zero _)
 | m + 1, i, hi, hni, h => by
  rw [l_laws_in_0]
  by_cases hlt : i < v.length
  ·rw [row_lt hlt, cnd_t, must_of (row_in hlt), bnd_s, row_get hlt]
   by_cases hq : v[i] = a
   ·rw [ieq_t hq, cnd_t, k_laws_in_1, decide_eq_true (show a ∈ v from hq ▸ List.getElem_mem hlt)]
   ·rw [ieq_f hq, cnd_f, iadd_eq (by omega) (by omega)]
    refine isIn_loop n v a hz m (i + 1) (by omega) ?_ (by omega)
    rw [List.take_succ_eq_append_getElem hlt, List.mem_append, List.mem_singleton]
    exact fun hx => hx.elim hni fun e => hq e.symm
  ·obtain rfl : i = v.length := by omega
   rw [List.take_length] at hni
   rw [row_end, cnd_f, k_laws_in_2, decide_eq_false hni]
theorem isIn_E : Evt fun n => ∀ (v : List Int) (a : Int), v.length ≤ 1000 → pc L n 9 [⟨.row ki, v⟩, ⟨ki, a⟩] (.pair .bool .unit) = some (decide (a ∈ v), ()) := by
 refine Evt.succ ((Evt.ge 1001).mono fun n hn v a hz => pc_of ?_)
 rw [f_laws_in]
 exact isIn_loop n v a hz n 0 (Nat.zero_le _) (by simp) (by omega)

def rank (hs : List kHost.ty) : List kHost.ty := (hs.filter fun h => h.2.1).mergeSort fun a b => !hostLess b a
theorem less_iff {a b : kHost.ty} : hostLess a b = true ↔ (a.2.2.1 : List kUnit.ty).length < (b.2.2.1 : List kUnit.ty).length ∨ (a.2.2.1 : List kUnit.ty).length = (b.2.2.1 : List kUnit.ty).length ∧ @LT.lt Int _ a.1 b.1 := by
 unfold hostLess
 rw [Bool.or_eq_true, Bool.and_eq_true, decide_eq_true_eq, decide_eq_true_eq, decide_eq_true_eq]
theorem less_not {a b : kHost.ty} : (!hostLess a b) = true ↔ ¬ ((a.2.2.1 : List kUnit.ty).length < (b.2.2.1 : List kUnit.ty).length ∨ (a.2.2.1 : List kUnit.ty).length = (b.2.2.1 : List kUnit.ty).length ∧ @LT.lt Int _ a.1 b.1) := by
 rw [← less_iff]
 cases hostLess a b <;> simp
theorem rank_sorted (hs : List kHost.ty) : (rank hs).Pairwise fun a b => (!hostLess b a) = true := by
 refine List.pairwise_mergeSort (fun a b c h1 h2 => ?_) (fun a b => ?_) _
 ·rw [less_not] at h1 h2 ⊢
  omega
 ·rw [Bool.or_eq_true, less_not, less_not]
  omega
theorem rank_mem {hs : List kHost.ty} {h : kHost.ty} : h ∈ rank hs ↔ h ∈ hs ∧ h.2.1 = true := by
 unfold rank
 rw [List.mem_mergeSort, List.mem_filter]
theorem rank_len (hs : List kHost.ty) : (rank hs).length = (hs.filter fun h => h.2.1).length := by unfold rank; rw [List.length_mergeSort]
theorem upIds_rank (hs : List kHost.ty) : upIds hs = (rank hs).map fun h => h.1 := rfl

theorem chosen {hs : List kHost.ty} {k : Nat} {x y : kHost.ty} (hx : x ∈ (rank hs).take k) (hy : y ∈ hs) (hu : y.2.1 = true) (hn : @Membership.mem Int (List Int) _ ((upIds hs).take k) y.1 → False) : (!hostLess y x) = true := by
 have hy' : y ∈ rank hs := rank_mem.2 ⟨hy, hu⟩
 rw [← List.take_append_drop k (rank hs)] at hy'
 have hp := rank_sorted hs
 rw [← List.take_append_drop k (rank hs), List.pairwise_append] at hp
 rcases List.mem_append.1 hy' with h | h
 ·refine absurd ?_ hn
  rw [upIds_rank, ← List.map_take]
  exact List.mem_map.2 ⟨y, h, rfl⟩
 ·exact hp.2.2 x hx y h
abbrev kB : K := .pair .bool .unit
def LoadIOk (n : Nat) : Prop := ∀ (a : Int) (b : Bool) (l : List kUnit.ty), pc L n 10 [⟨ki, a⟩, ⟨.bool, b⟩, ⟨.row kUnit, l⟩] (.pair ki .unit) = some (rlen l, ())
def InOk (n : Nat) : Prop := ∀ (v : List Int) (a : Int), v.length ≤ 1000 → pc L n 9 [⟨.row ki, v⟩, ⟨ki, a⟩] (.pair .bool .unit) = some (decide (a ∈ v), ())

theorem law_in (n : Nat) (hL : LoadIOk n) (w : Int) (hs : List kHost.ty) (ids : List Int) (hids : ids.length ≤ 1000) (i : Nat) (hi : i < hs.length) (hz : hs.length ≤ 100)
  (hok : ∀ a ∈ ids, (1 ≤ a ∧ a ≤ hs.length) ∧ hostLess hs[i] (rget hs (a - 1) kHost.dflt) = false) (m0 : Nat) (P : kB.ty → Prop)
  (next : Run (LP L n 3 p_laws_FnLoads_1 [] m0 (S_laws_FnLoads_2 w hs ids (iadd .i64 i 1))) kB P) :
  ∀ (m : Nat) (k : Int), 0 ≤ k → k ≤ ids.length → ((ids.length : Int) - k).toNat < m → Run (LP L n 3 p_laws_FnLoads_2 [m0] m (S_laws_FnLoads_3 w hs ids i k)) kB P
 | 0, _, _, _, h => absurd h (Nat.not_lt_zero _)
 | m + 1, k, h0, hk, h => by
  rw [l_laws_FnLoads_3]
  by_cases hlt : @LT.lt Int _ k ids.length
  ·obtain ⟨⟨a1, a2⟩, hless⟩ := hok _ (rget_mem (d := 0) h0 hlt)
   have hless' := (Bool.eq_false_iff.1 hless)
   rw [ne_eq, less_iff] at hless'
   have hgi : rget hs (i : Int) kHost.dflt = hs[i] := row_get hi
   rw [show ilt k (rlen ids) = true from ilt_t hlt, cnd_t, must_of (inB_of h0 hlt), bnd_s, isub_eq (by omega) (by omega), must_of (inB_of (xs := hs) (k := rget ids k 0 - 1) (by omega) (by omega)), bnd_s, hL, bnd_s, must_of (row_in hi), bnd_s, hL, bnd_s, hgi]
   generalize hx : rget hs (rget ids k 0 - 1) kHost.dflt = x at hless' ⊢
   have go : Run (LP L n 3 p_laws_FnLoads_2 [m0] m (S_laws_FnLoads_3 w hs ids i (iadd .i64 k 1))) kB P := by
    rw [iadd_eq (by omega) (by omega)]
    exact law_in n hL w hs ids hids i hi hz hok m0 P next m _ (by omega) (by omega) (by omega)
   have e1 : igt (rlen x.2.2.1) (rlen hs[i].2.2.1) = false := igt_f (by unfold rlen; omega)
   have e2 : ieq (rlen x.2.2.1) (rlen hs[i].2.2.1) = true → igt x.1 hs[i].1 = false := fun e => igt_f (by
    have e := beq_iff_eq.1 e
    unfold rlen at e
    intro hlt'
    exact hless' (.inr ⟨by omega, hlt'⟩))
   rw [show igt ((rlen x.2.2.1, ()) : Int × Unit).1 ((rlen hs[i].2.2.1, ()) : Int × Unit).1 = false from e1, bnot_f, cnd_t, bnd_s, cnd_t, bnd_s, cnd_t, bnd_s, sel_f]
   refine run_bnd (some_cnd (fun _ => ⟨_, rfl⟩) fun _ => ⟨_, rfl⟩) fun _ _ => ?_
   show Run (cnd (sel (ieq (rlen x.2.2.1) (rlen hs[i].2.2.1)) (igt x.1 hs[i].1) false) _ _) _ _
   cases hq : ieq (rlen x.2.2.1) (rlen hs[i].2.2.1) with
   | true => rw [sel_t, e2 hq, cnd_f]; exact go
   | false => rw [sel_f, cnd_f]; exact go
  ·rw [show ilt k (rlen ids) = false from ilt_f hlt, cnd_f, k_laws_FnLoads_6]
   exact next

theorem law_out (n : Nat) (hn : 2000 ≤ n) (hL : LoadIOk n) (hI : InOk n) (w : Int) (hs : List kHost.ty) (ids : List Int) (hids : ids.length ≤ 1000) (hw : (ids.length : Int) = w) (hz : hs.length ≤ 100)
  (hok : ∀ i : Nat, ∀ hi : i < hs.length, hs[i].2.1 = true → @Membership.mem Int (List Int) _ ids hs[i].1 → False → True)
  (hok : ∀ i : Nat, ∀ hi : i < hs.length, hs[i].2.1 = true → ¬ @Membership.mem Int (List Int) _ ids hs[i].1 → ∀ a ∈ ids, (1 ≤ a ∧ a ≤ hs.length) ∧ hostLess hs[i] (rget hs (a - 1) kHost.dflt) = false) :
  ∀ (m i : Nat), i ≤ hs.length → hs.length - i < m → Run (LP L n 3 p_laws_FnLoads_1 [] m (S_laws_FnLoads_2 w hs ids i)) kB fun x => x.1 = true
 | 0, _, _, h => absurd h (Nat.not_lt_zero _)
 | m + 1, i, hi, h => by
  rw [l_laws_FnLoads_2]
  by_cases hlt : i < hs.length
  ·have hgi : rget hs (i : Int) kHost.dflt = hs[i] := row_get hlt
   have go : Run (LP L n 3 p_laws_FnLoads_1 [] m (S_laws_FnLoads_2 w hs ids (iadd .i64 i 1))) kB fun x => x.1 = true := by
    rw [iadd_eq (by omega) (by omega)]
    exact law_out n hn hL hI w hs ids hids hw hz (fun _ _ _ _ _ => trivial) hok m (i + 1) (by omega) (by omega)
   rw [row_lt hlt, cnd_t, must_of (row_in hlt), bnd_s, hgi]
   have hb : hs[i].2.1 = true ∨ hs[i].2.1 = false := by cases hs[i].2.1; exact .inr rfl; exact .inl rfl
   rcases hb with hb | hb
   ·rw [hb, bnot_t, bnot_f, cnd_t, bnd_s, cnd_t, hI ids _ hids, bnd_s, sel_f]
    by_cases hm : @Membership.mem Int (List Int) _ ids hs[i].1
    ·rw [show ((decide (@Membership.mem Int (List Int) _ ids hs[i].1), ()) : Bool × Unit).1 = true from decide_eq_true hm, cnd_t]
     exact go
    ·rw [show ((decide (@Membership.mem Int (List Int) _ ids hs[i].1), ()) : Bool × Unit).1 = false from decide_eq_false hm, cnd_f]
     exact law_in n hL w hs ids hids i hlt hz (hok i hlt hb hm) m _ go n 0 (Int.le_refl 0) (by omega) (by omega)
   ·rw [hb, bnot_f, bnot_t, cnd_f, bnd_s, cnd_f, bnd_s, sel_t, cnd_t]
    exact go
  ·obtain rfl : i = hs.length := by omega
   rw [row_end, cnd_f, k_laws_FnLoads_4]
   exact ⟨(true, ()), by rw [show ieq (rlen ids) w = true from ieq_t hw]; rfl, rfl⟩

theorem law_ups (n : Nat) (w : Int) (b : Bool) (hs : List kHost.ty) (ids : List Int) (hz : hs.length ≤ 100) (P : kB.ty → Prop)
  (next : Run (KP L n 3 p_laws_FnLoads_0 [] (.exit 0) (S_laws_FnLoads_1 w b ((hs.filter fun h => h.2.1).length : Int) hs ids)) kB P) :
  ∀ (m i : Nat), i ≤ hs.length → hs.length - i < m → Run (LP L n 3 p_laws_FnLoads_0 [] m (S_laws_FnLoads_0 w b (((hs.take i).filter fun h => h.2.1).length : Int) i hs ids)) kB P
 | 0, _, _, h => absurd h (Nat.not_lt_zero _)
 | m + 1, i, hi, h => by
  rw [l_laws_FnLoads_0]
  by_cases hlt : i < hs.length
  ·have hgi : rget hs (i : Int) kHost.dflt = hs[i] := row_get hlt
   have hle : ((hs.take i).filter fun h => h.2.1).length ≤ i := Nat.le_trans (List.length_filter_le _ _) (by rw [List.length_take]; omega)
   have ht := List.take_succ_eq_append_getElem hlt
   rw [row_lt hlt, cnd_t, must_of (row_in hlt), bnd_s, hgi]
   have hb : hs[i].2.1 = true ∨ hs[i].2.1 = false := by cases hs[i].2.1; exact .inr rfl; exact .inl rfl
   rcases hb with hb | hb
   ·rw [hb, cnd_t, iadd_eq (by omega) (by omega), iadd_eq (by omega) (by omega)]
    have := law_ups n w b hs ids hz P next m (i + 1) (by omega) (by omega)
    rw [ht, List.filter_append, List.length_append, List.filter_cons_of_pos (by exact hb), List.filter_nil, List.length_singleton] at this
    exact this
   ·rw [hb, cnd_f, iadd_eq (by omega) (by omega)]
    have := law_ups n w b hs ids hz P next m (i + 1) (by omega) (by omega)
    rw [ht, List.filter_append, List.length_append, List.filter_cons_of_neg (by rw [hb]; exact Bool.false_ne_true), List.filter_nil, List.length_nil] at this
    exact this
  ·obtain rfl : i = hs.length := by omega
   rw [row_end, cnd_f, List.take_length]
   exact next

theorem big_E : Evt fun n => ∀ b : List Int, pc L n 5 [⟨.row ku8, b⟩] (.pair .bool .unit) = some (igt (rlen b) 1048576, ()) := Evt.succ (Evt.now fun n b => pc_of (f_laws_big n b))

theorem ids_at {hs : List kHost.ty} (h : Ids hs = upto 7) {x : kHost.ty} (hx : x ∈ hs) : (@LE.le Int _ 1 x.1 ∧ @LE.le Int _ x.1 hs.length) ∧ rget hs ((x.1 : Int) - 1) kHost.dflt = x := by
 obtain ⟨j, hj, rfl⟩ := List.getElem_of_mem hx
 have hl : hs.length = 7 := by
  have e : (Ids hs).length = hs.length := List.length_map ..
  rw [← e, h, len_upto]
 have e : (hs[j].1 : Int) = (j : Int) + 1 := by
  have h1 : (Ids hs)[j]'(by unfold Ids; rw [List.length_map]; exact hj) = hs[j].1 := by unfold Ids; rw [List.getElem_map]
  have h2 : (upto 7)[j]'(by rw [len_upto]; omega) = (j : Int) + 1 := by unfold upto; rw [List.getElem_map, List.getElem_range]
  rw [← h1, ← h2]
  congr 1
 rw [e]
 refine ⟨⟨show @LE.le Int _ 1 ((j : Int) + 1) from by omega, show @LE.le Int _ ((j : Int) + 1) hs.length from by omega⟩, ?_⟩
 rw [show ((j : Int) + 1 - 1) = (j : Int) from by omega]
 exact row_get hj

theorem law_E : Evt fun n => ∀ b : List Int, Run (pcall L n 3 [⟨.row ku8, b⟩]) kB fun x => x.1 = true := by
 refine Evt.succ (((((((big_E.and drawHosts_E).and drawPlaces_E).and placeI_E).and loadI_E).and isIn_E).and (Evt.ge 2000)).mono fun n hn b => ?_)
 obtain ⟨⟨⟨⟨⟨⟨hbig, hdh⟩, hdp⟩, hpl⟩, hL⟩, hI⟩, hn⟩ := hn
 rw [f_laws_FnLoads, hbig, bnd_s]
 by_cases hb : 1048576 < rlen b
 ·rw [show ((igt (rlen b) 1048576, ()) : Bool × Unit).1 = true from igt_t hb, cnd_t]
  exact ⟨(true, ()), rfl, rfl⟩
 rw [show ((igt (rlen b) 1048576, ()) : Bool × Unit).1 = false from igt_f hb, cnd_f]
 unfold rlen at hb
 obtain ⟨⟨hs, r1⟩, hx, hhs⟩ := hdh b (by omega)
 have hhs : HB (upto 7) U hs := hhs
 obtain ⟨⟨(ps : List Int), r2⟩, hy, hpl', hps⟩ := hdp b (by omega)
 have hpl' : ps.length = 12 := hpl'
 have hps : ∀ y ∈ ps, InI 0 9999 y := hps
 have hlen := hhs.len
 rw [len_upto] at hlen
 have hp0 := hps _ (rget_mem (xs := ps) (i := 0) (d := 0) (Int.le_refl 0) (by omega))
 rw [hx, bnd_s, hy, bnd_s]
 have h00 := hp0.1
 have hw0 : 0 ≤ rget ps 0 0 % 7 := Int.emod_nonneg _ (by omega)
 have hw1 : rget ps 0 0 % 7 < 7 := Int.emod_lt_of_pos _ (by omega)
 show Run (bnd (must (inB 0 (rlen ps))) fun (_ : Unit) => bnd (pc L n 8 [⟨.row kHost, hs⟩, ⟨ki, iadd .i64 1 (irem (rget ps 0 0) 7)⟩] (.pair (.row ki) (.pair .bool .unit))) fun (q3 : (List Int × (Bool × Unit))) => LP L n 3 p_laws_FnLoads_0 [] n (S_laws_FnLoads_0 (iadd .i64 1 (irem (rget ps 0 0) 7)) q3.2.1 0 0 hs q3.1)) _ _
 rw [must_of (inB_of (Int.le_refl 0) (by omega)), bnd_s, irem_eq h00 (by omega), iadd_eq (by omega) (by omega)]
 have hw2 : 1 ≤ 1 + rget ps 0 0 % 7 ∧ 1 + rget ps 0 0 % 7 ≤ 7 := by omega
 generalize 1 + rget ps 0 0 % 7 = w at hw2 ⊢
 have hpd : placeD hs = true := by
  unfold placeD
  rw [Bool.and_eq_true, decide_eq_true_eq, List.all_eq_true]
  refine ⟨by omega, fun h hh => decide_eq_true ?_⟩
  have := (hhs.2 h hh).1
  unfold U at this
  omega
 rw [hpl hs w hpd, bnd_s]
 refine law_ups n w (placeX hs w).2 hs (placeX hs w).1 (by omega) _ ?_ n 0 (Nat.zero_le _) (by omega)
 rw [k_laws_FnLoads_1]
 have hul : (upIds hs).length = (hs.filter fun h => h.2.1).length := by rw [upIds_rank, List.length_map, rank_len]
 have hle : (hs.filter fun h => h.2.1).length ≤ hs.length := List.length_filter_le _ _
 by_cases hwu : w ≤ ((hs.filter fun h => h.2.1).length : Int)
 ·have hpx : placeX hs w = ((upIds hs).take w.toNat, true) := by unfold placeX; rw [if_neg (by omega)]
  rw [hpx, show beq true (ile w ((hs.filter fun h => h.2.1).length : Int)) = true from by rw [ile_t hwu]; rfl, bnot_t, cnd_f, cnd_f]
  have htl : ((upIds hs).take w.toNat).length = w.toNat := by rw [List.length_take]; omega
  refine law_out n hn hL hI w hs _ (by show ((upIds hs).take w.toNat).length ≤ 1000; omega) (by show ((((upIds hs).take w.toNat).length : Nat) : Int) = w; omega) (by omega) (fun _ _ _ _ _ => trivial) (fun i hi hu hm a ha => ?_) n 0 (Nat.zero_le _) (by omega)
  rw [upIds_rank, ← List.map_take] at ha
  obtain ⟨x, hx, rfl⟩ := List.mem_map.1 ha
  obtain ⟨h1, h2⟩ := ids_at hhs.1 (rank_mem.1 (List.mem_of_mem_take hx)).1
  refine ⟨h1, ?_⟩
  rw [h2]
  have := chosen hx (List.getElem_mem hi) hu hm
  simpa using this
 ·have hpx : placeX hs w = ([], false) := by unfold placeX; rw [if_pos (by omega)]
  rw [hpx, show beq false (ile w ((hs.filter fun h => h.2.1).length : Int)) = true from by rw [ile_f hwu]; rfl, bnot_t, cnd_f, bnot_f, cnd_t]
  exact ⟨(true, ()), rfl, rfl⟩

theorem law_true (b : List Int) : ∃ n, pcall L n 3 [⟨.row ku8, b⟩] = some [⟨.bool, true⟩] := by
 obtain ⟨N, h⟩ := law_E
 obtain ⟨x, hx, e⟩ := h N (Nat.le_refl _) b
 refine ⟨N, hx.trans ?_⟩
 show some [(⟨.bool, x.1⟩ : Leaf)] = _
 rw [show x.1 = true from e]
end Go.Proofs.Ythamiihdoicjkaa.Pv
namespace Go.Proofs.Ythamiihdoicjkaa.Pr
open Go.RowKit Go.Proofs.YthamiihdoicjkaaW.PrintWords Go.Proofs.YthamiihdoicjkaaW.PrintLast Go.Proofs.YthamiihdoicjkaaW.PrintMore
attribute [local go_sem] max2_int min2_int max_two min_two max_three min_three max_four min_four
def cmp_isNaN_int.f (a0 : Int) : Option (Bool) := some (a0 != a0)
set_option maxHeartbeats 8000000 in
set_option maxRecDepth 100000 in
theorem cmp_isNaN_int.calls (a0 : Int) (r : Bool) (w : World) (h : cmp_isNaN_int.f a0 = some r) :
  Calls Try.prog 73 #[.int .i64 a0] w fun e w' => e = .returned (.bool r) ∧ Drawn0 w w' := by
 have H : (some (a0 != a0)) = some r := h
 clear h
 obtain rfl := Option.some.inj H
 go_enter Try.func73, Try.ntmps73
 go_wp2
 go_ret
 exact ⟨FR, by repeat (first | exact Drawn0.refl _ | apply Drawn0.step)⟩

def cmp_Compare_int.f (a0 : Int) (a1 : Int) : Option (Int) := (cmp_isNaN_int.f a0).bind fun t727 => ((cmp_isNaN_int.f a1).bind fun t728 => (if t727 = true then (if t728 = true then (some 0) else (some (-1))) else (if t728 = true then (some 1) else (if a0 < a1 then (some (-1)) else (if a0 > a1 then (some 1) else (some 0))))))
set_option maxHeartbeats 8000000 in
set_option maxRecDepth 100000 in
theorem cmp_Compare_int.calls (a0 : Int) (a1 : Int) (r : Int) (w : World) (h : cmp_Compare_int.f a0 a1 = some r) :
  Calls Try.prog 46 #[.int .i64 a0, .int .i64 a1] w fun e w' => e = .returned (.int .i64 r) ∧ Drawn0 w w' := by
 have H : ((cmp_isNaN_int.f a0).bind fun t727 => ((cmp_isNaN_int.f a1).bind fun t728 => (if t727 = true then (if t728 = true then (some 0) else (some (-1))) else (if t728 = true then (some 1) else (if a0 < a1 then (some (-1)) else (if a0 > a1 then (some 1) else (some 0))))))) = some r := h
 clear h
 replace H := Option.bind_eq_some_iff.mp H
 obtain ⟨t727, A30, H⟩ := H
 replace H : ((cmp_isNaN_int.f a1).bind fun t728 => (if t727 = true then (if t728 = true then (some 0) else (some (-1))) else (if t728 = true then (some 1) else (if a0 < a1 then (some (-1)) else (if a0 > a1 then (some 1) else (some 0)))))) = some r := H
 have A3 := AM A30
 clear A30
 replace H := Option.bind_eq_some_iff.mp H
 obtain ⟨t728, A40, H⟩ := H
 replace H : (if t727 = true then (if t728 = true then (some 0) else (some (-1))) else (if t728 = true then (some 1) else (if a0 < a1 then (some (-1)) else (if a0 > a1 then (some 1) else (some 0))))) = some r := H
 have A4 := AM A40
 clear A40
 by_cases c5 : t727 = true
 ·subst c5
  have H1 : (if t728 = true then (some 0) else (some (-1))) = some r := by rw [if_pos rfl] at H; exact H
  clear H
  have H := H1
  clear H1
  by_cases c6 : t728 = true
  ·subst c6
   have H1 : (some 0) = some r := by rw [if_pos rfl] at H; exact H
   clear H
   have H := H1
   clear H1
   obtain rfl := Option.some.inj H
   go_enter Try.func46, Try.ntmps46
   go_wp2_with (first | ((with_reducible refine gate_callee (f := 73) rfl ?_); refine GL (some 8) rfl rfl Try.func73 #[.int .i64 a0] rfl ?_; (with_reducible refine (cmp_isNaN_int.calls a0 true _ A3.out).mono ?_); rintro e w' ⟨rfl, ⟨nd, rfl⟩⟩; refine ⟨_, rfl, ?_⟩) | ((with_reducible refine gate_callee (f := 73) rfl ?_); refine GL (some 10) rfl rfl Try.func73 #[.int .i64 a1] rfl ?_; (with_reducible refine (cmp_isNaN_int.calls a1 true _ A4.out).mono ?_); rintro e w' ⟨rfl, ⟨nd, rfl⟩⟩; refine ⟨_, rfl, ?_⟩))
   go_ret
   exact ⟨FR, by repeat (first | exact Drawn0.refl _ | apply Drawn0.step)⟩
  ·replace c6 := Bool.eq_false_iff.mpr c6
   subst c6
   have H1 : (some (-1)) = some r := by rw [if_neg (show ¬ (false = true) by decide)] at H; exact H
   clear H
   have H := H1
   clear H1
   obtain rfl := Option.some.inj H
   go_enter Try.func46, Try.ntmps46
   go_wp2_with (first | ((with_reducible refine gate_callee (f := 73) rfl ?_); refine GL (some 8) rfl rfl Try.func73 #[.int .i64 a0] rfl ?_; (with_reducible refine (cmp_isNaN_int.calls a0 true _ A3.out).mono ?_); rintro e w' ⟨rfl, ⟨nd, rfl⟩⟩; refine ⟨_, rfl, ?_⟩) | ((with_reducible refine gate_callee (f := 73) rfl ?_); refine GL (some 10) rfl rfl Try.func73 #[.int .i64 a1] rfl ?_; (with_reducible refine (cmp_isNaN_int.calls a1 false _ A4.out).mono ?_); rintro e w' ⟨rfl, ⟨nd, rfl⟩⟩; refine ⟨_, rfl, ?_⟩))
   go_ret
   exact ⟨FR, by repeat (first | exact Drawn0.refl _ | apply Drawn0.step)⟩
 ·replace c5 := Bool.eq_false_iff.mpr c5
  subst c5
  have H1 : (if t728 = true then (some 1) else (if a0 < a1 then (some (-1)) else (if a0 > a1 then (some 1) else (some 0)))) = some r := by rw [if_neg (show ¬ (false = true) by decide)] at H; exact H
  clear H
  have H := H1
  clear H1
  by_cases c7 : t728 = true
  ·subst c7
   have H1 : (some 1) = some r := by rw [if_pos rfl] at H; exact H
   clear H
   have H := H1
   clear H1
   obtain rfl := Option.some.inj H
   go_enter Try.func46, Try.ntmps46
   go_wp2_with (first | ((with_reducible refine gate_callee (f := 73) rfl ?_); refine GL (some 8) rfl rfl Try.func73 #[.int .i64 a0] rfl ?_; (with_reducible refine (cmp_isNaN_int.calls a0 false _ A3.out).mono ?_); rintro e w' ⟨rfl, ⟨nd, rfl⟩⟩; refine ⟨_, rfl, ?_⟩) | ((with_reducible refine gate_callee (f := 73) rfl ?_); refine GL (some 10) rfl rfl Try.func73 #[.int .i64 a1] rfl ?_; (with_reducible refine (cmp_isNaN_int.calls a1 true _ A4.out).mono ?_); rintro e w' ⟨rfl, ⟨nd, rfl⟩⟩; refine ⟨_, rfl, ?_⟩))
   go_ret
   exact ⟨FR, by repeat (first | exact Drawn0.refl _ | apply Drawn0.step)⟩
  ·replace c7 := Bool.eq_false_iff.mpr c7
   subst c7
   have H1 : (if a0 < a1 then (some (-1)) else (if a0 > a1 then (some 1) else (some 0))) = some r := by rw [if_neg (show ¬ (false = true) by decide)] at H; exact H
   clear H
   have H := H1
   clear H1
   by_cases c8 : a0 < a1
   ·rw [if_pos c8] at H
    have c8b0 := decide_eq_true c8
    clear c8
    obtain rfl := Option.some.inj H
    go_enter Try.func46, Try.ntmps46
    go_wp2_with (first | ((with_reducible refine gate_callee (f := 73) rfl ?_); refine GL (some 8) rfl rfl Try.func73 #[.int .i64 a0] rfl ?_; (with_reducible refine (cmp_isNaN_int.calls a0 false _ A3.out).mono ?_); rintro e w' ⟨rfl, ⟨nd, rfl⟩⟩; refine ⟨_, rfl, ?_⟩) | ((with_reducible refine gate_callee (f := 73) rfl ?_); refine GL (some 10) rfl rfl Try.func73 #[.int .i64 a1] rfl ?_; (with_reducible refine (cmp_isNaN_int.calls a1 false _ A4.out).mono ?_); rintro e w' ⟨rfl, ⟨nd, rfl⟩⟩; refine ⟨_, rfl, ?_⟩))
    go_ret
    exact ⟨FR, by repeat (first | exact Drawn0.refl _ | apply Drawn0.step)⟩
   ·rw [if_neg c8] at H
    have c8b0 := decide_eq_false c8
    clear c8
    by_cases c9 : a0 > a1
    ·rw [if_pos c9] at H
     have c9b0 := decide_eq_true c9
     clear c9
     obtain rfl := Option.some.inj H
     go_enter Try.func46, Try.ntmps46
     go_wp2_with (first | ((with_reducible refine gate_callee (f := 73) rfl ?_); refine GL (some 8) rfl rfl Try.func73 #[.int .i64 a0] rfl ?_; (with_reducible refine (cmp_isNaN_int.calls a0 false _ A3.out).mono ?_); rintro e w' ⟨rfl, ⟨nd, rfl⟩⟩; refine ⟨_, rfl, ?_⟩) | ((with_reducible refine gate_callee (f := 73) rfl ?_); refine GL (some 10) rfl rfl Try.func73 #[.int .i64 a1] rfl ?_; (with_reducible refine (cmp_isNaN_int.calls a1 false _ A4.out).mono ?_); rintro e w' ⟨rfl, ⟨nd, rfl⟩⟩; refine ⟨_, rfl, ?_⟩))
     go_ret
     exact ⟨FR, by repeat (first | exact Drawn0.refl _ | apply Drawn0.step)⟩
    ·rw [if_neg c9] at H
     have c9b0 := decide_eq_false c9
     clear c9
     obtain rfl := Option.some.inj H
     go_enter Try.func46, Try.ntmps46
     go_wp2_with (first | ((with_reducible refine gate_callee (f := 73) rfl ?_); refine GL (some 8) rfl rfl Try.func73 #[.int .i64 a0] rfl ?_; (with_reducible refine (cmp_isNaN_int.calls a0 false _ A3.out).mono ?_); rintro e w' ⟨rfl, ⟨nd, rfl⟩⟩; refine ⟨_, rfl, ?_⟩) | ((with_reducible refine gate_callee (f := 73) rfl ?_); refine GL (some 10) rfl rfl Try.func73 #[.int .i64 a1] rfl ?_; (with_reducible refine (cmp_isNaN_int.calls a1 false _ A4.out).mono ?_); rintro e w' ⟨rfl, ⟨nd, rfl⟩⟩; refine ⟨_, rfl, ?_⟩))
     go_ret
     exact ⟨FR, by repeat (first | exact Drawn0.refl _ | apply Drawn0.step)⟩

def cmp_Or_int.l0 : Nat → Int → List Int → Int → Int → Option (Int)
 | 0, _, _, _, _ => none
 | k + 1, x3, x6, x7, x8 => if x8 < x7 then (if 0 ≤ x8 then (if x8 < (x6.length : Int) then (if (rd x6 x8) = x3 then (cmp_Or_int.l0 k x3 x6 x7 (wrap64 (x8 + 1))) else (some (rd x6 x8))) else (none)) else (none)) else (some x3)
def cmp_Or_int.f (k : Nat) (l0 : List Int) : Option (Int) := cmp_Or_int.l0 k 0 l0 (l0.length : Int) 0
set_option maxHeartbeats 8000000 in
set_option maxRecDepth 100000 in
theorem cmp_Or_int.calls (k : Nat) (A0 : Option Addr) (c0 : Nat) (l0 : List Int) (r : Int) (w : World) (hr0 : Kd.C (Kd.int .i64) w A0 l0.length l0) (hc0 : l0.length ≤ c0) (h : cmp_Or_int.f k l0 = some r) :
  Calls Try.prog 45 #[.slice A0 l0.length c0] w fun e w' => e = .returned (.int .i64 r) ∧ Drawn0 w w' := by
 have HR0 := AM hr0
 have HC0 := AM hc0
 clear hr0 hc0
 have H : (cmp_Or_int.l0 k 0 l0 (l0.length : Int) 0) = some r := h
 clear h
 have H' := AM H
 clear H
 go_enter Try.func45, Try.ntmps45
 go_wp2
 go_loopg [8] k (fun kq v8 w' => ∃ (x8_1 : Int), v8 = .int .i64 x8_1 ∧ Aside0 (cmp_Or_int.l0 kq 0 l0 (l0.length : Int) x8_1 = some r) ∧ Aside0 (kq ≤ k) ∧ Drawn0 w w')
 case atStart => exact ⟨(0), FR, H', ⟨Nat.le_refl _⟩, by repeat (first | exact Drawn0.refl _ | apply Drawn0.step)⟩
 case round =>
  clear H'
  obtain ⟨x8_1, rfl, HA, HK1, ⟨m1, rfl⟩⟩ := hrel
  cases gk with
  | zero => exact absurd HA.out (by simp [cmp_Or_int.l0])
  | succ k1 =>
   have H := HA.out
   clear HA
   simp only [cmp_Or_int.l0] at H
   by_cases c2 : x8_1 < (l0.length : Int)
   ·rw [if_pos c2] at H
    have c2b0 := decide_eq_true c2
    clear c2
    by_cases c3 : 0 ≤ x8_1
    rotate_left
    ·rw [if_neg c3] at H; exact absurd H (by simp)
    rw [if_pos c3] at H
    have c3b0 := decide_eq_true c3
    clear c3
    by_cases c4 : x8_1 < (l0.length : Int)
    rotate_left
    ·rw [if_neg c4] at H; exact absurd H (by simp)
    rw [if_pos c4] at H
    have c4b0 := decide_eq_true c4
    clear c4
    by_cases c5 : (rd l0 x8_1) = 0
    ·rw [if_pos c5] at H
     have c5b0 : ((rd l0 x8_1) == 0) = true := beq_iff_eq.mpr c5
     have c5b1 : ((rd l0 x8_1) != 0) = false := bne_eq_false_iff_eq.mpr c5
     clear c5
     have H' := AM H
     clear H
     have p729 : 0 ≤ (x8_1 : Int) := DT
     have q729 : x8_1 < (l0.length : Int) := DT
     obtain ⟨ad729, e729, hx729_0⟩ := Kd.at_int HR0.out x8_1 p729 q729
     cases e729
     replace p729 := eq_true p729
     replace q729 := eq_true q729
     go_wp2
     go_roundg k1
     case measure => have := HK1.out; omega
     case rel => exact ⟨(wrap64 (x8_1 + 1)), FR, H', ⟨by have := HK1.out; omega⟩, by repeat (first | exact Drawn0.refl _ | apply Drawn0.step)⟩
    ·rw [if_neg c5] at H
     have c5b0 : ((rd l0 x8_1) == 0) = false := beq_eq_false_iff_ne.mpr c5
     have c5b1 : ((rd l0 x8_1) != 0) = true := bne_iff_ne.mpr c5
     obtain rfl := Option.some.inj H
     have p729 : 0 ≤ (x8_1 : Int) := DT
     have q729 : x8_1 < (l0.length : Int) := DT
     obtain ⟨ad729, e729, hx729_0⟩ := Kd.at_int HR0.out x8_1 p729 q729
     cases e729
     replace p729 := eq_true p729
     replace q729 := eq_true q729
     go_wp2
     go_ret
     exact ⟨FR, by repeat (first | exact Drawn0.refl _ | apply Drawn0.step)⟩
   ·rw [if_neg c2] at H
    have c2b0 := decide_eq_false c2
    clear c2
    obtain rfl := Option.some.inj H
    go_wp2
    go_ret
    exact ⟨FR, by repeat (first | exact Drawn0.refl _ | apply Drawn0.step)⟩

end Go.Proofs.Ythamiihdoicjkaa.Pr
namespace Go.Proofs.Ythamiihdoicjkaa.Pr
open Go.RowKit Go.Proofs.YthamiihdoicjkaaW.PrintWords Go.Proofs.YthamiihdoicjkaaW.PrintLast Go.Proofs.YthamiihdoicjkaaW.PrintMore
open Go.Shelf Go.Lib Go.Sort
def cmpI (x y : Int) : Int := if x < y then -1 else if y < x then 1 else 0
def orI (p q : Int) : Int := if p = 0 then q else p
structure Gr (W w' : World) : Prop where mk :: (out : ∃ q os', w' = grow (W.drewN q) os')
theorem Gr.refl (W : World) : Gr W W := ⟨0, #[], by simp [World.drewN_zero]⟩
theorem grow_drewN (W : World) (os : Array Obj) (q : Nat) : (Go.Sort.grow W os).drewN q = Go.Sort.grow (W.drewN q) os := rfl
theorem drewN_add (W : World) (q r : Nat) : (W.drewN q).drewN r = W.drewN (q + r) := by simp [World.drewN, Nat.add_assoc]
theorem Gr.drewN {W w : World} (h : Gr W w) (r : Nat) : Gr W (w.drewN r) := by
 obtain ⟨q, os, rfl⟩ := h.out
 exact ⟨q + r, os, by rw [grow_drewN, drewN_add]⟩
theorem Gr.drew {W w : World} (h : Gr W w) : Gr W w.drew := h.drewN 1
theorem Gr.drawn0 {W w w' : World} (h : Gr W w) (k : Drawn0 w w') : Gr W w' := by
 obtain ⟨n, rfl⟩ := k.out
 exact h.drewN n
theorem Gr.grow {W w : World} (h : Gr W w) (os' : Array Obj) : Gr W (grow w os') := by
 obtain ⟨q, os, rfl⟩ := h.out
 exact ⟨q, os ++ os', by rw [grow_grow]⟩
theorem Gr.alloc {W w : World} (h : Gr W w) (o : Obj) : Gr W (w.alloc o) := by rw [alloc_eq_grow]; exact h.grow _
theorem grow_cell {w : World} {a : Addr} {v : Value} (h : w.cell? a = some v) (os : Array Obj) : (Go.Sort.grow w os).cell? a = some v := (cell?_grow w os a (World.block_lt_of_cell? w a h)).trans h
theorem Gr.cell {W w : World} (h : Gr W w) {a : Addr} {v : Value} (k : W.cell? a = some v) : w.cell? a = some v := by
 obtain ⟨q, os, rfl⟩ := h.out
 have k1 : (W.drewN q).cell? a = some v := k
 exact grow_cell k1 os
theorem compare_x (x y : Int) (w : World) : Calls Try.prog 46 #[.int .i64 x, .int .i64 y] w fun e w' => e = .returned (.int .i64 (cmpI x y)) ∧ Drawn0 w w' := by
 refine cmp_Compare_int.calls x y _ w ?_
 have e : ∀ z : Int, cmp_isNaN_int.f z = some false := fun z => by simp [cmp_isNaN_int.f]
 unfold cmp_Compare_int.f cmpI
 rw [e, e]
 by_cases h : x < y <;> by_cases h2 : y < x <;> simp [h, h2]
theorem or_x (b : Nat) (p q : Int) (w : World) (h0 : w.cell? ⟨b, 0, none⟩ = some (.int .i64 p)) (h1 : w.cell? ⟨b, 1, none⟩ = some (.int .i64 q)) : Calls Try.prog 45 #[.slice (some ⟨b, 0, none⟩) 2 2] w fun e w' => e = .returned (.int .i64 (orI p q)) ∧ Drawn0 w w' := by
 refine cmp_Or_int.calls 3 (some ⟨b, 0, none⟩) 2 [p, q] _ w ?_ (Nat.le_refl _) ?_
 ·refine ⟨rfl, show (2 : Nat) ≤ _ by decide, fun _ => ⟨_, rfl, fun j x hj => ?_⟩⟩
  rcases j with _ | _ | j
  ·obtain rfl : p = x := by simpa using hj
   refine ⟨[.int .i64 p], rfl, rfl, fun i u hu => ?_⟩
   cases i with
   | zero =>
    obtain rfl : Value.int .i64 p = u := by simpa using hu
    rw [Addr.add_lit]; exact h0
   | succ i => simp at hu
  ·obtain rfl : q = x := by simpa using hj
   refine ⟨[.int .i64 q], rfl, rfl, fun i u hu => ?_⟩
   cases i with
   | zero =>
    obtain rfl : Value.int .i64 q = u := by simpa using hu
    rw [Addr.add_lit]; exact h1
   | succ i => simp at hu
  ·simp at hj
 ·unfold orI
  by_cases hp : p = 0 <;> by_cases hq : q = 0 <;> simp [cmp_Or_int.f, cmp_Or_int.l0, rd, hp, hq, wrap64]
set_option maxHeartbeats 4000000 in
set_option maxRecDepth 100000 in
theorem loadOf_x (i : Int) (u : Bool) (A : Option Addr) (n c : Nat) (w : World) : Calls Try.prog 10 #[.agg #[.int .i64 i, .bool u, .slice A n c]] w fun e w' => e = .returned (.int .i64 n) ∧ ∃ os', w' = Go.Sort.grow w os' := by
 have hu33 := Try.underlying33
 go_enter Try.func10, Try.ntmps10
 go_wp2
 go_ret
 exact ⟨rfl, _, alloc_eq_grow _ _⟩
end Go.Proofs.Ythamiihdoicjkaa.Pr
namespace Go.Proofs.Ythamiihdoicjkaa.Pu
open Go.Sort
variable {α : Type} [Inhabited α]
def swpRange (a b : Nat) : Nat → Array α → Array α
 | 0, d => d
 | n + 1, d => swp (swpRange a b n d) (a + n) (b + n)
theorem size_swpRange (a b n : Nat) (d : Array α) : (swpRange a b n d).size = d.size := by
 induction n with
 | zero => rfl
 | succ n ih => rw [swpRange, size_swp, ih]
theorem swpRange_get (a b : Nat) (d : Array α) (n : Nat) (hab : a + n ≤ b) (hb : b + n ≤ d.size) (k : Nat) :
  (swpRange a b n d)[k]! = if a ≤ k ∧ k < a + n then d[k + (b - a)]! else if b ≤ k ∧ k < b + n then d[k - (b - a)]! else d[k]! := by
 induction n generalizing k with
 | zero => rw [swpRange, if_neg (by omega), if_neg (by omega)]
 | succ n ih =>
  have ih := ih (by omega) (by omega)
  have hs := size_swpRange a b n d
  rw [swpRange, swp_get _ (by omega) (by omega)]
  by_cases h1 : k = b + n
  ·rw [if_pos h1, ih, if_neg (by omega), if_neg (by omega), if_neg (by omega), if_pos (by omega)]
   congr 1
   omega
  ·rw [if_neg h1]
   by_cases h2 : k = a + n
   ·rw [if_pos h2, ih, if_neg (by omega), if_neg (by omega), if_pos (by omega)]
    congr 1
    omega
   ·rw [if_neg h2, ih]
    by_cases h3 : a ≤ k ∧ k < a + n
    ·rw [if_pos h3, if_pos (by omega)]
    ·rw [if_neg h3, if_neg (show ¬ (a ≤ k ∧ k < a + (n + 1)) by omega)]
     by_cases h4 : b ≤ k ∧ k < b + n
     ·rw [if_pos h4, if_pos (by omega)]
     ·rw [if_neg h4, if_neg (by omega)]
theorem swpRange_perm (lo hi a b : Nat) (d : Array α) (n : Nat) (hlo : lo ≤ a) (hab : a + n ≤ b) (hb : b + n ≤ hi) (hh : hi ≤ d.size) : PermIn lo hi d (swpRange a b n d) := by
 induction n with
 | zero => exact permIn_refl _ _ _
 | succ n ih =>
  have hs := size_swpRange a b n d
  exact permIn_trans _ _ _ _ _ (ih (by omega) (by omega)) (swp_permIn _ lo hi (a + n) (b + n) (by omega) (by omega) (by omega) (by omega) (by omega))
def rotGet (m i j : Nat) (d : Array α) (k : Nat) : α := if m - i ≤ k ∧ k < m - i + j then d[k + i]! else if m - i + j ≤ k ∧ k < m + j then d[k - j]! else d[k]!
theorem rot_step1 (m i j : Nat) (d : Array α) (hj : 0 < j) (hi : j < i) (him : i ≤ m) (hm : m + j ≤ d.size) (k : Nat) : rotGet m (i - j) j (swpRange (m - i) m j d) k = rotGet m i j d k := by
 have g := swpRange_get (m - i) m d j (by omega) (by omega)
 unfold rotGet
 by_cases h1 : m - i ≤ k ∧ k < m - i + j
 ·rw [if_neg (by omega), if_neg (by omega), if_pos h1, g, if_pos (by omega)]
  congr 1
  omega
 ·rw [if_neg h1]
  by_cases h2 : m - i + j ≤ k ∧ k < m + j
  ·rw [if_pos h2]
   by_cases h3 : m - (i - j) ≤ k ∧ k < m - (i - j) + j
   ·rw [if_pos h3, g]
    by_cases h4 : m ≤ k + (i - j) ∧ k + (i - j) < m + j
    ·rw [if_neg (by omega), if_pos h4]
     congr 1
     omega
    ·rw [if_neg (by omega), if_neg h4]
     exfalso
     omega
   ·rw [if_neg h3, if_pos (by omega), g, if_neg (by omega), if_neg (by omega)]
  ·rw [if_neg h2, if_neg (by omega), if_neg (by omega), g, if_neg (by omega), if_neg (by omega)]
theorem rot_step2 (m i j : Nat) (d : Array α) (hi : 0 < i) (hj : i < j) (him : i ≤ m) (hm : m + j ≤ d.size) (k : Nat) : rotGet m i (j - i) (swpRange (m - i) (m + j - i) i d) k = rotGet m i j d k := by
 have g := swpRange_get (m - i) (m + j - i) d i (by omega) (by omega)
 unfold rotGet
 by_cases h1 : m - i ≤ k ∧ k < m - i + (j - i)
 ·rw [if_pos h1, if_pos (by omega), g, if_neg (by omega), if_neg (by omega)]
 ·rw [if_neg h1]
  by_cases h2 : m - i + (j - i) ≤ k ∧ k < m + (j - i)
  ·rw [if_pos h2, g, if_pos (by omega)]
   rw [if_pos (by omega)]
   congr 1
   omega
  ·rw [if_neg h2, g]
   by_cases h3 : m + j - i ≤ k ∧ k < m + j - i + i
   ·rw [if_neg (by omega), if_pos h3, if_neg (by omega), if_pos (by omega)]
    congr 1
    omega
   ·rw [if_neg (by omega), if_neg h3, if_neg (by omega), if_neg (by omega)]
theorem rot_end (m i : Nat) (d : Array α) (hi : 0 < i) (him : i ≤ m) (hm : m + i ≤ d.size) (k : Nat) : (swpRange (m - i) m i d)[k]! = rotGet m i i d k := by
 rw [swpRange_get (m - i) m d i (by omega) (by omega)]
 unfold rotGet
 by_cases h1 : m - i ≤ k ∧ k < m - i + i
 ·rw [if_pos h1, if_pos h1]
  congr 1
  omega
 ·rw [if_neg h1, if_neg h1]
  by_cases h2 : m ≤ k ∧ k < m + i
  ·rw [if_pos h2, if_pos (by omega)]
   congr 1
   omega
  ·rw [if_neg h2, if_neg (by omega)]
end Go.Proofs.Ythamiihdoicjkaa.Pu
namespace Go.Proofs.Ythamiihdoicjkaa.Pr
open Go.RowKit Go.Proofs.YthamiihdoicjkaaW.PrintWords Go.Proofs.YthamiihdoicjkaaW.PrintLast Go.Proofs.YthamiihdoicjkaaW.PrintMore
open Go.Shelf Go.Lib Go.Sort Go.Proofs.Ythamiihdoicjkaa.Pu
set_option maxHeartbeats 16000000 in
set_option maxRecDepth 1000000 in
theorem swapRange {α : Type} [Inhabited α] (enc : α → Value) (g : Nat) (cb : Array Value) (blk off cap : Nat) (d0 d : Array α) (w0 w : World) (R : Row1 enc w0 blk off d0) (hs : d0.size = d.size) (S : SW enc w0 blk off d w) (hsz : d.size < 4611686018427387904) (a b n : Nat) (hab : a + n ≤ b) (hb : b + n ≤ d.size) :
  Calls Try.prog 125 #[.slice (some ⟨blk, off, none⟩) d.size cap, .int .i64 a, .int .i64 b, .int .i64 n, .func (.func g) #[] cb] w fun e w' => e = .returned (.tuple #[]) ∧ SW enc w0 blk off (swpRange a b n d) w' := by
 have mixed : Try.prog.follows .mixedOrders = true := by kernel_rfl
 have u51 := Try.underlying27
 have hcl0 := R.hO.cells
 simp only [Value.cells] at hcl0
 have hst := R.hO.store Try.prog
 have S0 : Aside0 (SW enc w0 blk off d w) := ⟨S⟩
 clear S
 go_enter Try.func125, Try.ntmps125
 go_wp2
 go_loopg [10] n (fun kx s10 wr => ∃ i : Nat, s10 = .int .i64 i ∧ i ≤ n ∧ n - i ≤ kx ∧ Aside0 (SW enc w0 blk off (swpRange a b i d) wr))
 case atStart => exact ⟨0, rfl, Nat.zero_le _, Nat.le_refl _, S0⟩
 case round =>
  clear S0
  obtain ⟨i, rfl, hin, hkx, S1⟩ := hrel
  have hsk := size_swpRange a b i d
  by_cases hlt : i < n
  ·have hltz : (i : Int) < (n : Int) := by omega
   obtain ⟨dk, hdk⟩ : ∃ q, q = swpRange a b i d := ⟨_, rfl⟩
   rw [← hdk] at S1 hsk
   have HDK := AM hdk
   clear hdk
   go_wp2_with fail
   obtain ⟨i1, hi1⟩ : ∃ q, q = a + i := ⟨_, rfl⟩
   obtain ⟨j1, hj1⟩ : ∃ q, q = b + i := ⟨_, rfl⟩
   have ea1 : ((a : Int) + (i : Int)).toNat = i1 := by omega
   have pa1 : (0 : Int) ≤ (a : Int) + (i : Int) := by omega
   have ba1 : (a : Int) + (i : Int) < (d.size : Int) := by omega
   have ra1 : IntKind.i64.wrap ((a : Int) + (i : Int)) = (a : Int) + (i : Int) := by rw [IntKind.wrap_i64]; omega
   have ec1 : ((b : Int) + (i : Int)).toNat = j1 := by omega
   have pc1 : (0 : Int) ≤ (b : Int) + (i : Int) := by omega
   have bc1 : (b : Int) + (i : Int) < (d.size : Int) := by omega
   have rc1 : IntKind.i64.wrap ((b : Int) + (i : Int)) = (b : Int) + (i : Int) := by rw [IntKind.wrap_i64]; omega
   obtain ⟨x1, hx1⟩ : ∃ x, x = dk[a + i]! := ⟨_, rfl⟩
   obtain ⟨y1, hy1⟩ : ∃ x, x = dk[b + i]! := ⟨_, rfl⟩
   have S2 : Aside0 (SW enc w0 blk off (swp dk (a + i) (b + i)) ((wr.setCell ⟨blk, off + i1, none⟩ (enc y1)).setCell ⟨blk, off + j1, none⟩ (enc x1)).drew) := ⟨by rw [hi1, hj1, hx1, hy1]; exact S1.out.swapped R (a + i) (b + i) (by omega) (by omega)⟩
   have ca1 := S1.out.c1 R (by omega) (a + i) (by omega)
   have cb1 := S1.out.c1 R (by omega) (b + i) (by omega)
   have fa1 := S1.out.f1 R (by omega) (a + i) (by omega)
   have fb1 := S1.out.f1 R (by omega) (b + i) (by omega)
   obtain ⟨u1, cc1⟩ := S1.out.c2 R (by omega) (a + i) (b + i) (by omega) (by omega) (enc y1)
   rw [← hj1, ← hi1] at cc1
   rw [← hx1, ← hi1] at ca1
   rw [← hy1, ← hj1] at cb1
   rw [← hi1] at fa1
   rw [← hj1] at fb1
   clear S1 hx1 hy1 hi1 hj1
   go_wp2_with fail
   go_big_region_o
   clear ca1 cb1 cc1 fa1 fb1
   generalize ((wr.setCell ⟨blk, off + i1, none⟩ (enc y1)).setCell ⟨blk, off + j1, none⟩ (enc x1)).drew = w2 at S2 ⊢
   clear ea1 ec1
   go_wp2
   go_roundg (n - (i + 1))
   case measure => omega
   case rel => exact ⟨i + 1, by go_num, by omega, Nat.le_refl _, ⟨by rw [swpRange, ← HDK.out]; exact S2.out⟩⟩
  ·have hltz : ¬ (i : Int) < (n : Int) := by omega
   obtain rfl : i = n := by omega
   go_wp2
   go_end0
   exact ⟨rfl, S1.out⟩
set_option maxHeartbeats 16000000 in
set_option maxRecDepth 1000000 in
theorem rotateR {α : Type} [Inhabited α] (enc : α → Value) (g : Nat) (cb : Array Value) (blk off cap : Nat) (d0 d : Array α) (w0 w : World) (R : Row1 enc w0 blk off d0) (hs : d0.size = d.size) (S : SW enc w0 blk off d w) (hsz : d.size < 4611686018427387904) (a m b : Nat) (ham : a < m) (hmb : m < b) (hb : b ≤ d.size) :
  Calls Try.prog 117 #[.slice (some ⟨blk, off, none⟩) d.size cap, .int .i64 a, .int .i64 m, .int .i64 b, .func (.func g) #[] cb] w fun e w' => e = .returned (.tuple #[]) ∧ ∃ d', SW enc w0 blk off d' w' ∧ PermIn a b d d' ∧ ∀ k, d'[k]! = rotGet m (m - a) (b - m) d k := by
 have S0 : Aside0 (SW enc w0 blk off d w) := ⟨S⟩
 clear S
 have eg : ∀ args w, (callFunc 125 args).run Try.prog w = .ok (.enter 125 args) w := enters_of Try.func125 (by kernel_rfl) rfl
 have wm : IntKind.i64.wrap ((m : Int) - (a : Int)) = (m : Int) - (a : Int) := by rw [IntKind.wrap_i64]; omega
 have wb : IntKind.i64.wrap ((b : Int) - (m : Int)) = (b : Int) - (m : Int) := by rw [IntKind.wrap_i64]; omega
 go_enter Try.func117, Try.ntmps117
 go_wp2
 go_loopg [10, 11] (b - a) (fun kx s10 s11 wr => ∃ (i j : Nat) (dk : Array α), s10 = .int .i64 i ∧ s11 = .int .i64 j ∧ 0 < i ∧ 0 < j ∧ i ≤ m - a ∧ m + j ≤ b ∧ i + j ≤ kx ∧ Aside0 (SW enc w0 blk off dk wr) ∧ Aside0 (PermIn a b d dk ∧ ∀ k, rotGet m i j dk k = rotGet m (m - a) (b - m) d k))
 case atStart => exact ⟨m - a, b - m, d, by rw [show ((m - a : Nat) : Int) = (m : Int) - (a : Int) by omega], by rw [show ((b - m : Nat) : Int) = (b : Int) - (m : Int) by omega], by omega, by omega, Nat.le_refl _, by omega, by omega, S0, ⟨permIn_refl _ _ _, fun _ => rfl⟩⟩
 case round =>
  clear S0
  obtain ⟨i, j, dk, rfl, rfl, hi0, hj0, him, hjb, hkx, S1, HP⟩ := hrel
  have hsk := HP.out.1.1
  by_cases he : i = j
  ·subst he
   have hez : ((i : Int) != (i : Int)) = false := by simp
   have hc4 := swapRange enc g cb blk off cap d0 dk w0 wr R (by omega) S1.out (by omega) (m - i) (m) (i) (by omega) (by omega)
   rw [hsk, show ((m - i : Nat) : Int) = (m : Int) - (i : Int) by omega, show ((m : Nat) : Int) = (m : Int) by omega, show ((i : Nat) : Int) = (i : Int) by omega] at hc4
   have wA4 : IntKind.i64.wrap ((m : Int) - (i : Int)) = (m : Int) - (i : Int) := by rw [IntKind.wrap_i64]; omega
   clear S1
   go_wp2_with (first | (go_at_fn 125; refine hc4.mono ?_; rintro e w2 ⟨rfl, hs4⟩; have S2 := AM hs4; clear hs4 hc4))
   go_end0
   refine ⟨rfl, _, S2.out, permIn_trans _ _ _ _ _ HP.out.1 (swpRange_perm a b _ _ dk i (by omega) (by omega) (by omega) (by omega)), fun k => ?_⟩
   rw [rot_end m i dk hi0 (by omega) (by omega) k]
   exact HP.out.2 k
  ·have hez : ((i : Int) != (j : Int)) = true := by simp; omega
   by_cases hg : j < i
   ·have hgz : decide ((i : Int) > (j : Int)) = true := decide_eq_true (by omega)
    have hgz' : (j : Int) < (i : Int) := by omega
    have wi : IntKind.i64.wrap ((i : Int) - (j : Int)) = (i : Int) - (j : Int) := by rw [IntKind.wrap_i64]; omega
    have hc2 := swapRange enc g cb blk off cap d0 dk w0 wr R (by omega) S1.out (by omega) (m - i) (m) (j) (by omega) (by omega)
    rw [hsk, show ((m - i : Nat) : Int) = (m : Int) - (i : Int) by omega, show ((m : Nat) : Int) = (m : Int) by omega, show ((j : Nat) : Int) = (j : Int) by omega] at hc2
    have wA2 : IntKind.i64.wrap ((m : Int) - (i : Int)) = (m : Int) - (i : Int) := by rw [IntKind.wrap_i64]; omega
    clear S1
    go_wp2_with (first | (go_at_fn 125; refine hc2.mono ?_; rintro e w2 ⟨rfl, hs2⟩; have S2 := AM hs2; clear hs2 hc2))
    go_roundg (i - j + j)
    case measure => omega
    case rel => exact ⟨i - j, j, _, by rw [show ((i - j : Nat) : Int) = (i : Int) - (j : Int) by omega], rfl, by omega, hj0, by omega, hjb, Nat.le_refl _, S2, ⟨permIn_trans _ _ _ _ _ HP.out.1 (swpRange_perm a b _ _ dk j (by omega) (by omega) (by omega) (by omega)), fun k => by rw [rot_step1 m i j dk hj0 hg (by omega) (by omega) k]; exact HP.out.2 k⟩⟩
   ·have hgz : decide ((i : Int) > (j : Int)) = false := decide_eq_false (by omega)
    have hgz' : ¬ (j : Int) < (i : Int) := by omega
    have wi : IntKind.i64.wrap ((j : Int) - (i : Int)) = (j : Int) - (i : Int) := by rw [IntKind.wrap_i64]; omega
    have wj : IntKind.i64.wrap ((m : Int) + (j : Int)) = (m : Int) + (j : Int) := by rw [IntKind.wrap_i64]; omega
    have wj2 : IntKind.i64.wrap ((m : Int) + (j : Int) - (i : Int)) = (m : Int) + (j : Int) - (i : Int) := by rw [IntKind.wrap_i64]; omega
    have hc3 := swapRange enc g cb blk off cap d0 dk w0 wr R (by omega) S1.out (by omega) (m - i) (m + j - i) (i) (by omega) (by omega)
    rw [hsk, show ((m - i : Nat) : Int) = (m : Int) - (i : Int) by omega, show ((m + j - i : Nat) : Int) = (m : Int) + (j : Int) - (i : Int) by omega, show ((i : Nat) : Int) = (i : Int) by omega] at hc3
    have wA3 : IntKind.i64.wrap ((m : Int) - (i : Int)) = (m : Int) - (i : Int) := by rw [IntKind.wrap_i64]; omega
    clear S1
    go_wp2_with (first | (go_at_fn 125; refine hc3.mono ?_; rintro e w2 ⟨rfl, hs3⟩; have S2 := AM hs3; clear hs3 hc3))
    go_roundg (i + (j - i))
    case measure => omega
    case rel => exact ⟨i, j - i, _, rfl, by rw [show ((j - i : Nat) : Int) = (j : Int) - (i : Int) by omega], hi0, by omega, him, by omega, Nat.le_refl _, S2, ⟨permIn_trans _ _ _ _ _ HP.out.1 (swpRange_perm a b _ _ dk i (by omega) (by omega) (by omega) (by omega)), fun k => by rw [rot_step2 m i j dk hi0 (by omega) (by omega) (by omega) k]; exact HP.out.2 k⟩⟩
set_option maxHeartbeats 16000000 in
set_option maxRecDepth 1000000 in
theorem insertS {α : Type} [Inhabited α] (enc : α → Value) (cf : α → α → Int) (g : Nat) (cb : Array Value) (blk off cap : Nat) (d0 d : Array α) (w0 w : World) (R : Row1 enc w0 blk off d0) (hs : d0.size = d.size) (S : SW enc w0 blk off d w) (hsz : d.size < 4611686018427387904) (eg : ∀ args w, (callFunc g args).run Try.prog w = .ok (.enter g args) w) (hcmp : CmpLays1 Try.prog g cb enc cf blk off d0.size w0) (a b : Nat) (hab : a ≤ b) (hb : b ≤ d.size) :
  Calls Try.prog 99 #[.slice (some ⟨blk, off, none⟩) d.size cap, .int .i64 a, .int .i64 b, .func (.func g) #[] cb] w fun e w' => e = .returned (.tuple #[]) ∧ SW enc w0 blk off (Sort.insertionSort (ltOf cf) d a b) w' := by
 have mixed : Try.prog.follows .mixedOrders = true := by kernel_rfl
 have u51 := Try.underlying27
 have hcl0 := R.hO.cells
 simp only [Value.cells] at hcl0
 have hst := R.hO.store Try.prog
 have HC := AM hcmp
 clear hcmp
 have S0 : Aside0 (SW enc w0 blk off d w) := ⟨S⟩
 clear S
 go_enter Try.func99, Try.ntmps99
 go_wp2
 go_loopg [8] (b - a) (fun g1 vi wr => ∃ (i : Nat) (dk : Array α), vi = .int .i64 i ∧ a < i ∧ i ≤ b + 1 ∧ b + 1 - i ≤ g1 + 1 ∧ dk.size = d.size ∧ Aside0 (SW enc w0 blk off dk wr) ∧ Aside0 (insOuter (ltOf cf) a b i dk = insOuter (ltOf cf) a b (a + 1) d))
 case atStart => exact ⟨a + 1, d, by go_num, by omega, by omega, by omega, rfl, S0, ⟨rfl⟩⟩
 case round =>
  clear S0
  obtain ⟨i, dk, rfl, hai, hib, hg1, hsk, S1, HO⟩ := hrel
  by_cases hlt : i < b
  ·have hltz : (i : Int) < (b : Int) := by omega
   go_wp2
   go_loopg [9] i (fun g2 vj wr2 => ∃ (j : Nat) (dj : Array α), vj = .int .i64 j ∧ a ≤ j ∧ j ≤ i ∧ j ≤ g2 ∧ dj.size = d.size ∧ Aside0 (SW enc w0 blk off dj wr2) ∧ Aside0 (insInner (ltOf cf) a j dj = insInner (ltOf cf) a i dk))
   case atStart => exact ⟨i, dk, rfl, by omega, Nat.le_refl _, Nat.le_refl _, hsk, S1, ⟨rfl⟩⟩
   case round =>
    clear S1
    obtain ⟨j, dj, rfl, haj, hji, hg2, hsj, SJ, HI⟩ := hrel
    have OUT : Aside0 ((j ≤ a ∨ (ltOf cf) dj[j]! dj[j - 1]! = false) → insOuter (ltOf cf) a b (i + 1) dj = insOuter (ltOf cf) a b (a + 1) d) := ⟨fun hs => by
     rw [← HO.out, insOuter_go _ _ _ _ _ hlt, ← HI.out, insInner_stop _ _ _ _ hs]⟩
    by_cases hja : a < j
    ·have hjaz : (a : Int) < (j : Int) := by omega
     obtain ⟨jp, hjp⟩ : ∃ q, q + 1 = j := ⟨j - 1, by omega⟩
     have zjp : (j : Int) = (jp : Int) + 1 := by omega
     have hjad : decide ((jp : Int) + 1 > (a : Int)) = true := decide_eq_true (by omega)
     have hjaz' : (a : Int) < (jp : Int) + 1 := by omega
     cases hlv : (ltOf cf) dj[j]! dj[j - 1]! with
     | true =>
      obtain ⟨i5, hi5⟩ : ∃ q, q = j := ⟨_, rfl⟩
      obtain ⟨j5, hj5⟩ : ∃ q, q = j - 1 := ⟨_, rfl⟩
      have ea5 : ((jp : Int) + 1).toNat = i5 := by omega
      have pa5 : (0 : Int) ≤ (jp : Int) + 1 := by omega
      have ba5 : (jp : Int) + 1 < (d.size : Int) := by omega
      have ra5 : IntKind.i64.wrap ((jp : Int) + 1) = (jp : Int) + 1 := by rw [IntKind.wrap_i64]; omega
      have ec5 : ((jp : Int)).toNat = j5 := by omega
      have pc5 : (0 : Int) ≤ (jp : Int) := by omega
      have bc5 : (jp : Int) < (d.size : Int) := by omega
      have rc5 : IntKind.i64.wrap ((jp : Int)) = (jp : Int) := by rw [IntKind.wrap_i64]; omega
      obtain ⟨x5, hx5⟩ : ∃ x, x = dj[j]! := ⟨_, rfl⟩
      obtain ⟨y5, hy5⟩ : ∃ x, x = dj[j - 1]! := ⟨_, rfl⟩
      have la5 := SJ.out.cl R (by omega) (j) (by omega)
      have lb5 := SJ.out.cl R (by omega) (j - 1) (by omega)
      rw [← hx5, ← hi5] at la5
      rw [← hy5, ← hj5] at lb5
      have hc5 := SJ.out.cmp HC.out (by omega) x5 y5
      have hv5 : cf x5 y5 < 0 := by rw [hx5, hy5]; exact of_decide_eq_true hlv
      have hd5 : decide (cf x5 y5 < 0) = true := decide_eq_true hv5
      clear hx5 hy5 hi5 hj5
      go_wp2_with fail
      go_quiet_grown (first | (go_at_fn g; refine Calls.grown_of (hc5 _ _)))
      have S2 : Aside0 (SW enc w0 blk off dj (grow (wr.drewN nq) osq)) := ⟨SJ.out.grown nq osq⟩
      clear la5 lb5 hc5 SJ
      generalize grow (wr.drewN nq) osq = w2 at S2 ⊢
      clear nq osq
      clear ea5 ec5
      go_wp2_with fail
      obtain ⟨i6, hi6⟩ : ∃ q, q = j := ⟨_, rfl⟩
      obtain ⟨j6, hj6⟩ : ∃ q, q = j - 1 := ⟨_, rfl⟩
      have ea6 : ((jp : Int) + 1).toNat = i6 := by omega
      have pa6 : (0 : Int) ≤ (jp : Int) + 1 := by omega
      have ba6 : (jp : Int) + 1 < (d.size : Int) := by omega
      have ra6 : IntKind.i64.wrap ((jp : Int) + 1) = (jp : Int) + 1 := by rw [IntKind.wrap_i64]; omega
      have ec6 : ((jp : Int)).toNat = j6 := by omega
      have pc6 : (0 : Int) ≤ (jp : Int) := by omega
      have bc6 : (jp : Int) < (d.size : Int) := by omega
      have rc6 : IntKind.i64.wrap ((jp : Int)) = (jp : Int) := by rw [IntKind.wrap_i64]; omega
      obtain ⟨x6, hx6⟩ : ∃ x, x = dj[j]! := ⟨_, rfl⟩
      obtain ⟨y6, hy6⟩ : ∃ x, x = dj[j - 1]! := ⟨_, rfl⟩
      have S3 : Aside0 (SW enc w0 blk off (swp dj (j) (j - 1)) ((w2.setCell ⟨blk, off + i6, none⟩ (enc y6)).setCell ⟨blk, off + j6, none⟩ (enc x6)).drew) := ⟨by rw [hi6, hj6, hx6, hy6]; exact S2.out.swapped R (j) (j - 1) (by omega) (by omega)⟩
      have ca6 := S2.out.c1 R (by omega) (j) (by omega)
      have cb6 := S2.out.c1 R (by omega) (j - 1) (by omega)
      have fa6 := S2.out.f1 R (by omega) (j) (by omega)
      have fb6 := S2.out.f1 R (by omega) (j - 1) (by omega)
      obtain ⟨u6, cc6⟩ := S2.out.c2 R (by omega) (j) (j - 1) (by omega) (by omega) (enc y6)
      rw [← hj6, ← hi6] at cc6
      rw [← hx6, ← hi6] at ca6
      rw [← hy6, ← hj6] at cb6
      rw [← hi6] at fa6
      rw [← hj6] at fb6
      clear S2 hx6 hy6 hi6 hj6
      go_wp2_with fail
      go_big_region_o
      clear ca6 cb6 cc6 fa6 fb6
      generalize ((w2.setCell ⟨blk, off + i6, none⟩ (enc y6)).setCell ⟨blk, off + j6, none⟩ (enc x6)).drew = w3 at S3 ⊢
      clear ea6 ec6
      go_wp2
      go_roundg (j - 1)
      case measure => omega
      case rel => exact ⟨j - 1, swp dj j (j - 1), by first | rfl | go_num | (congr 1; omega), by omega, by omega, Nat.le_refl _, by rw [size_swp]; exact hsj, S3, ⟨by rw [← HI.out, insInner_go (ltOf cf) a j dj hja hlv]⟩⟩
     | false =>
      obtain ⟨i7, hi7⟩ : ∃ q, q = j := ⟨_, rfl⟩
      obtain ⟨j7, hj7⟩ : ∃ q, q = j - 1 := ⟨_, rfl⟩
      have ea7 : ((jp : Int) + 1).toNat = i7 := by omega
      have pa7 : (0 : Int) ≤ (jp : Int) + 1 := by omega
      have ba7 : (jp : Int) + 1 < (d.size : Int) := by omega
      have ra7 : IntKind.i64.wrap ((jp : Int) + 1) = (jp : Int) + 1 := by rw [IntKind.wrap_i64]; omega
      have ec7 : ((jp : Int)).toNat = j7 := by omega
      have pc7 : (0 : Int) ≤ (jp : Int) := by omega
      have bc7 : (jp : Int) < (d.size : Int) := by omega
      have rc7 : IntKind.i64.wrap ((jp : Int)) = (jp : Int) := by rw [IntKind.wrap_i64]; omega
      obtain ⟨x7, hx7⟩ : ∃ x, x = dj[j]! := ⟨_, rfl⟩
      obtain ⟨y7, hy7⟩ : ∃ x, x = dj[j - 1]! := ⟨_, rfl⟩
      have la7 := SJ.out.cl R (by omega) (j) (by omega)
      have lb7 := SJ.out.cl R (by omega) (j - 1) (by omega)
      rw [← hx7, ← hi7] at la7
      rw [← hy7, ← hj7] at lb7
      have hc7 := SJ.out.cmp HC.out (by omega) x7 y7
      have hv7 : ¬ cf x7 y7 < 0 := by rw [hx7, hy7]; exact of_decide_eq_false hlv
      have hd7 : decide (cf x7 y7 < 0) = false := decide_eq_false hv7
      clear hx7 hy7 hi7 hj7
      go_wp2_with fail
      go_quiet_grown (first | (go_at_fn g; refine Calls.grown_of (hc7 _ _)))
      have S2 : Aside0 (SW enc w0 blk off dj (grow (wr.drewN nq) osq)) := ⟨SJ.out.grown nq osq⟩
      clear la7 lb7 hc7 SJ
      generalize grow (wr.drewN nq) osq = w2 at S2 ⊢
      clear nq osq
      clear ea7 ec7
      go_wp2
      go_roundg (b - (i + 1))
      case measure => omega
      case rel => exact ⟨i + 1, dj, by go_num, by omega, by omega, by omega, hsj, S2, ⟨OUT.out (Or.inr hlv)⟩⟩
    ·have hjaz : decide ((j : Int) > (a : Int)) = false := decide_eq_false (by omega)
     have hjaz' : ¬ (a : Int) < (j : Int) := by omega
     go_wp2_with fail
     go_big_region_o
     have S2 : Aside0 (SW enc w0 blk off dj wr.drew) := ⟨SJ.out.drew⟩
     clear SJ
     generalize wr.drew = w2 at S2 ⊢
     go_wp2
     go_roundg (b - (i + 1))
     case measure => omega
     case rel => exact ⟨i + 1, dj, by go_num, by omega, by omega, by omega, hsj, S2, ⟨OUT.out (Or.inl (by omega))⟩⟩
  ·have hltz : ¬ (i : Int) < (b : Int) := by omega
   go_wp2
   go_end0
   exact ⟨rfl, by unfold Sort.insertionSort; rw [← HO.out, insOuter_stop _ _ _ _ _ hlt]; exact S1.out⟩
end Go.Proofs.Ythamiihdoicjkaa.Pr
