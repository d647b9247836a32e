/- A part of the proof of the law FnExactPlaceGroup: its texts, one behind the other. -/
import Derived.ArgAppend
import Derived.Below
import Derived.BigQuiet
import Derived.ChangeArms
import Derived.Deep.AppendLies
import Derived.Deep.CutBlock
import Derived.Deep.DeepCutAuto
import Derived.Deep.Draws
import Derived.Deep.LoopGhost
import Derived.Deep.OwnRows
import Derived.Deep.QuietTactic
import Derived.Deep.RegionHeld3
import Derived.Deep.Slices
import Derived.KernelRfl
import Derived.Laws.BitsLemmas
import Derived.Laws.BytesArg
import Derived.Laws.IdiomCopy
import Derived.Laws.MakeOwn
import Derived.Laws.OwnMore
import Derived.Laws.Rows
import Derived.Laws.Slices
import Derived.Laws.Strings
import Derived.Lib.AppendStr
import Derived.Lib.ConvBytes
import Derived.Maps.AppendAt
import Derived.OrdersHeld
import Derived.OwnWalk
import Derived.RowKit
import Derived.RowKit3
import Derived.Shelf.Abstract
import Derived.Shelf.SlSortCmp.Kit1
import Derived.Sort.Grow
import Derived.Sort.LotA
import Derived.Sort.OwnSortedInts
import Derived.Sort.WalkA
import Derived.Sort.WalkB12
import Derived.Sort.WalkB2
import Derived.Tactics
import Derived.Test.YthgmmebkjhjgcaaProg
import Derived.WalkKit
import Derived.WideLaws
import Derived.WideShapes
import Derived.Test.YthgmmebkjhjgcaaBFnExactPlaceGroup1
namespace Go.Proofs.Ythgmmebkjhjgcaa.Evs
open Go.RowKit Go.Proofs.YthgmmebkjhjgcaaW.PrintWords
theorem ev_some {α : Type} (r : α) : Ev (fun _ => some r) r := Ev.now r
theorem ev_pos {α : Type} {c : Prop} [Decidable c] {f g : Nat → Option α} {r : α} (h : c) (k : Ev f r) : Ev (fun n => if c then f n else g n) r := by
  simpa [h] using k
theorem ev_neg {α : Type} {c : Prop} [Decidable c] {f g : Nat → Option α} {r : α} (h : ¬ c) (k : Ev g r) : Ev (fun n => if c then f n else g n) r := by
  simpa [h] using k
theorem ev_bind {α β : Type} {g : Nat → Option α} {f : Nat → α → Option β} {a : α} {r : β} (h : Ev g a) (k : Ev (fun n => f n a) r) : Ev (fun n => (g n).bind (f n)) r := Ev.bind h k
theorem ev_call {α β : Type} {g : Option α} {f : Nat → α → Option β} {a : α} {r : β} (h : g = some a) (k : Ev (fun n => f n a) r) : Ev (fun n => g.bind (f n)) r := by
  subst h
  exact k
theorem ev_eq {α : Type} {g : Nat → Option α} {r s : α} (h : Ev g r) (e : r = s) : Ev g s := e ▸ h
theorem ev_step {α : Type} {g f : Nat → Option α} {r : α} (h : ∀ k, g (k + 1) = f k) (k : Ev f r) : Ev g r := Ev.step h k
theorem ev_rounds {α : Type} {g : Nat → Option α} {r : α} (h : Ev g r) : ∃ k, g k = some r := h.rounds
def SzEv (g : Nat → Option Int) (left w : Int) : Prop := ∃ r, Ev g r ∧ (r = -1 ∨ (0 ≤ r ∧ r + w = left))
theorem sz_done {left : Int} (h : 0 ≤ left) : SzEv (fun _ => some left) left 0 := ⟨left, ev_some _, .inr ⟨h, by omega⟩⟩
theorem sz_eq {g : Nat → Option Int} {left w w' : Int} (h : SzEv g left w) (e : w = w') : SzEv g left w' := e ▸ h
theorem sz_call {g : Nat → Option Int} {F : Nat → Int → Option Int} {left w1 w2 : Int} (h : SzEv g left w1) (k : ∀ l, 0 ≤ l → l + w1 = left → SzEv (fun n => F n l) l w2) :
    SzEv (fun n => (g n).bind fun t => if t < 0 then some (-1) else F n t) left (w1 + w2) := by
  obtain ⟨r, hE, hr⟩ := h
  rcases hr with rfl | ⟨h0, hr⟩
  · exact ⟨-1, ev_bind hE (ev_pos (by omega) (ev_some _)), .inl rfl⟩
  · obtain ⟨s, hS, hs⟩ := k r h0 hr
    exact ⟨s, ev_bind hE (ev_neg (by omega) hS), by omega⟩
theorem sz_str {G : Nat → Option Int} {left n w2 : Int} (k : 0 ≤ left - n → SzEv G (left - n) w2) : SzEv (fun m => if left - n < 0 then some (-1) else G m) left (n + w2) := by
  by_cases c : left - n < 0
  · exact ⟨-1, ev_pos c (ev_some _), .inl rfl⟩
  · obtain ⟨s, hS, hs⟩ := k (by omega)
    exact ⟨s, ev_neg c hS, by omega⟩
theorem sz_step {g f : Nat → Option Int} {left w : Int} (h : ∀ k, g (k + 1) = f k) (k : SzEv f left w) : SzEv g left w := by
  obtain ⟨r, hE, hr⟩ := k
  exact ⟨r, ev_step h hE, hr⟩
theorem sz_pos {c : Prop} [Decidable c] {f g : Nat → Option Int} {left w : Int} (h : c) (k : SzEv f left w) : SzEv (fun n => if c then f n else g n) left w := by
  obtain ⟨r, hE, hr⟩ := k
  exact ⟨r, ev_pos h hE, hr⟩
theorem sz_neg {c : Prop} [Decidable c] {f g : Nat → Option Int} {left w : Int} (h : ¬ c) (k : SzEv g left w) : SzEv (fun n => if c then f n else g n) left w := by
  obtain ⟨r, hE, hr⟩ := k
  exact ⟨r, ev_neg h hE, hr⟩

theorem wrap_succ {i : Int} (h0 : 0 ≤ i) (h1 : i < 9223372036854775807) : wrap64 (i + 1) = i + 1 := by unfold wrap64; omega
theorem wrap_in {i : Int} (h0 : -9223372036854775808 ≤ i) (h1 : i ≤ 9223372036854775807) : wrap64 i = i := by unfold wrap64; omega
theorem getD_mid' {α : Type} (p s : List α) (x d : α) (i : Int) (hi : i = (p.length : Int)) : (p ++ x :: s).getD i.toNat d = x := by
  subst hi
  simp [List.getD]
theorem set_mid {α : Type} (p s : List α) (x y : α) (i : Int) (hi : i = (p.length : Int)) : (p ++ x :: s).set i.toNat y = p ++ y :: s := by
  subst hi
  simp
end Go.Proofs.Ythgmmebkjhjgcaa.Evs

namespace Go.Proofs.Ythgmmebkjhjgcaa.Pr
open Go.RowKit Go.Proofs.YthgmmebkjhjgcaaW.PrintWords Go.Proofs.YthgmmebkjhjgcaaW.PrintLast Go.Proofs.YthgmmebkjhjgcaaW.PrintMore
attribute [local go_sem] max2_int min2_int max_two min_two max_three min_three max_four min_four
set_option linter.unusedVariables false
set_option linter.unusedSimpArgs false
def errW : Option Int → Value
  | none => .nilIface
  | some c => .iface 0 (.int .i64 c)
theorem errW_none : errW none = .nilIface := rfl
theorem errW_some (c : Int) : errW (some c) = .iface 0 (.int .i64 c) := rfl

theorem CC {p q : Prop} (h : q) (f : q → p := by intro h_; repeat (first | exact h_ | (with_reducible refine Kd.C_alloc ?_ _) | (with_reducible refine Kd.C_drewN ?_ _) | (with_reducible refine Kd.C_drew ?_))) : p := f h
theorem BB {p q : Prop} (h : q) (f : q → p := by intro h_; repeat (first | (with_reducible first | exact h_ | apply below_alloc | apply pw_below_drewN | apply below_drew1) | exact h_)) : p := f h
theorem BB1 {p q q1 : Prop} (h : q) (h1 : q1) (f : q → q1 → p := by intro h_ g1_; repeat (first | (with_reducible first | exact h_ | apply below_alloc | apply pw_below_drewN | apply below_drew1 | refine below_set ?_ g1_) | exact h_)) : p := f h h1
theorem BB2 {p q q1 q2 : Prop} (h : q) (h1 : q1) (h2 : q2) (f : q → q1 → q2 → p := by intro h_ g1_ g2_; repeat (first | (with_reducible first | exact h_ | apply below_alloc | apply pw_below_drewN | apply below_drew1 | refine below_set ?_ g1_ | refine below_set ?_ g2_) | exact h_)) : p := f h h1 h2
theorem BB3 {p q q1 q2 q3 : Prop} (h : q) (h1 : q1) (h2 : q2) (h3 : q3) (f : q → q1 → q2 → q3 → p := by intro h_ g1_ g2_ g3_; repeat (first | (with_reducible first | exact h_ | apply below_alloc | apply pw_below_drewN | apply below_drew1 | refine below_set ?_ g1_ | refine below_set ?_ g2_ | refine below_set ?_ g3_) | exact h_)) : p := f h h1 h2 h3
theorem RR {p q : Prop} (h : q) (f : q → p := by intro h_; (with_reducible repeat (first | apply Kd.R_alloc | apply Kd.R_drewN | apply Kd.R_drew)); exact h_) : p := f h
theorem SS {p q : Prop} (h : q) (f : q → p := by intro h_; (with_reducible repeat (first | apply Kd.S_alloc | apply Kd.S_drewN | apply Kd.S_drew)); exact h_) : p := f h
theorem FR {p : Prop} (h : p := by first | rfl | (simp; done) | (simp [*]; done)) : p := h
theorem ER {p : Prop} (h : p := by first | rfl | (simp [errW_none, errW_some] <;> rfl) | (simp [*, errW_none, errW_some] <;> rfl)) : p := h
theorem DT {p : Prop} [Decidable p] (h : decide p = true := by first | (with_reducible assumption) | assumption) : p := of_decide_eq_true h
theorem KB {w W w1 : World} {g : Nat} {o : Obj} (h : w.heap[g]? = some o) (hb : Below W.heap.size W w1) (f : w.heap[g]? = some o → W.heap[g]? = some o := by intro h_; (with_reducible repeat (first | refine blk_drewN ?_ _ | refine blk_drew ?_ | refine blk_alloc ?_ _)); exact h_) : w1.heap[g]? = some o := blk_below (f h) hb
theorem NL {w W : World} {g g' : Nat} {o : Obj} (h : w.heap[g]? = some o) (hg : g' = W.heap.size) (f : w.heap[g]? = some o → W.heap[g]? = some o := by intro h_; (with_reducible repeat (first | refine blk_drewN ?_ _ | refine blk_drew ?_ | refine blk_alloc ?_ _)); exact h_) : Aside0 (g ≠ g') := ⟨by rw [hg]; exact Nat.ne_of_lt (blk_lt (f h))⟩
theorem NG {w W : World} {g g' : Nat} {o : Obj} (h : w.heap[g]? = some o) (hg : g' = W.heap.size) (f : w.heap[g]? = some o → W.heap[g]? = some o := by intro h_; (with_reducible repeat (first | refine blk_drewN ?_ _ | refine blk_drew ?_ | refine blk_alloc ?_ _)); exact h_) : Aside0 (g' ≠ g) := ⟨by rw [hg]; exact Nat.ne_of_gt (blk_lt (f h))⟩
theorem WG {w W : World} {g : Nat} (hg : g = W.heap.size) (h : Below w.heap.size w W) : Aside0 (w.heap.size ≤ g) := ⟨by rw [hg]; exact below_size h⟩
theorem BX {P : Program} {ops : Array Oper} {Q : Exit → Act → World → Prop} {rest : List Oper} {o : Oper} {a : Act} {W : World} (N : Tmp) (cs : Array Value) (t : TypeId)
    (h : ∀ g, g = W.heap.size → ∀ w1, w1.heap[g]? = some (.cells cs t (0, 0)) → Below W.heap.size W w1 → wpList P ops Q rest (a.put o.dst (.pointer (some ⟨g, 0, none⟩))) w1)
    (hd : o.dst = some N := by rfl) (hg : o.guard = none := by rfl) (hr : (execOp a.eval o).run P W = .ok (.value (.pointer (some ⟨W.heap.size, 0, none⟩))) (W.alloc (.cells cs t (0, 0))) := by first | (go_simp; done) | (go_simp; rfl)) : wpList P ops Q (o :: rest) a W := box_event hg hd hr h
theorem GL {P : Program} {ops : Array Oper} {Q : Exit → Act → World → Prop} {rest : List Oper} {oi : Oper} {a : Act} {w : World} (N : Option Tmp) (hd : oi.dst = N) (hg : oi.guard = none) {f : FuncId} {fn : Func} {os_ : Array Operand} {ts : Array TypeId} (hf : P.funcs[f]? = some fn) (args : Array Value)
    (hop : oi.op = .call { callee := .value (.func f), args := os_, argTypes := ts }) (h : Calls P f args w fun e w' => ∃ v, e = .returned v ∧ wpList P ops Q rest (a.put N v) w')
    (hname : (fn.name == "runtime.NumGoroutine") = false := by kernel_rfl) (hb : fn.body.isSome = true := by rfl) (hargs : os_.map a.eval = args := by (try simp only [List.map_toArray, List.map_cons, List.map_nil]); first | done | rfl | (simp only [List.length_drop, List.length_take]; rfl)) : wpList P ops Q (oi :: rest) a w :=
  goesL_ N hd hg hf hname hb args hop hargs h

theorem store_any {P : Program} {v : Value} {n : Nat} (h : ∃ A c, v = .slice A n c) : ∀ (a : Addr) (m : Mode) (W : World), (store a v m).run P W = stored P W a v m := by
  obtain ⟨A, c, rfl⟩ := h
  exact fun a m W => run_store_slice ..

theorem info3 : (Try.prog.info? 3).map (fun i => (i.zero, i.size, i.bytes)) = some (some (.int .i64 0), 1, 8) := by kernel_rfl
theorem info41 : (Try.prog.info? 41).map (fun i => (i.zero, i.size, i.bytes)) = some (some (.agg #[(.int .i64 0), (.bool false), (.slice none 0 0)]), 3, 40) := by kernel_rfl
theorem info55 : (Try.prog.info? 55).map (fun i => (i.zero, i.size, i.bytes)) = some (some (.agg #[(.int .i64 0), (.int .i64 0), (.string ⟨#[]⟩), (.int .i64 0)]), 4, 40) := by kernel_rfl
structure S58 where
  f0 : Int
  f1 : Int
  f2 : ByteArray
  f3 : Int
def z58 : S58 := ⟨(0 : Int), (0 : Int), (⟨#[]⟩ : ByteArray), (0 : Int)⟩
def k58 : Kd S58 := Kd.iso (Kd.pair (Kd.int .i64) (Kd.pair (Kd.int .i64) (Kd.pair Kd.string (Kd.int .i64)))) (fun x : S58 => (x.f0, x.f1, x.f2, x.f3))
theorem k58_open {w : World} {x : S58} {cs : List Value} (h : k58.K w x cs) : cs = [.int .i64 x.f0, .int .i64 x.f1, .string x.f2, .int .i64 x.f3] := by
  obtain ⟨_, _, rfl, rfl, ⟨_, _, rfl, rfl, ⟨_, _, rfl, rfl, rfl⟩⟩⟩ := h
  exact rfl
def rd_T58 (xs : List S58) (i : Int) : S58 := xs.getD i.toNat z58
theorem at_T58 {w : World} {A : Option Addr} {n : Nat} {xs : List S58} (h : Kd.C k58 w A n xs) (i : Int) (h0 : 0 ≤ i) (h1 : i < n) : ∃ ad , A = some ad ∧ w.cell? (ad.add (i.toNat * 4)) = some (.int .i64 (rd_T58 xs i).f0) ∧ w.cell? ⟨(ad.add (i.toNat * 4)).block, (ad.add (i.toNat * 4)).off + 1, none⟩ = some (.int .i64 (rd_T58 xs i).f1) ∧ w.cell? ⟨(ad.add (i.toNat * 4)).block, (ad.add (i.toNat * 4)).off + 2, none⟩ = some (.string (rd_T58 xs i).f2) ∧ w.cell? ⟨(ad.add (i.toNat * 4)).block, (ad.add (i.toNat * 4)).off + 3, none⟩ = some (.int .i64 (rd_T58 xs i).f3) := by
  obtain ⟨ad, c, e, _, hK, hc0⟩ := Kd.C_get h z58 i h0 h1
  have hc : ∀ j u, c[j]? = some u → w.cell? (ad.add (i.toNat * 4 + j)) = some u := hc0
  obtain rfl := k58_open hK
  exact ⟨ad, e, hc 0 _ rfl, by rw [← add_field _ _ 1 (by omega)]; exact hc 1 _ rfl, by rw [← add_field _ _ 2 (by omega)]; exact hc 2 _ rfl, by rw [← add_field _ _ 3 (by omega)]; exact hc 3 _ rfl⟩

structure S37 where
  f0 : Int
  f1 : Bool
  f2 : (List S58)
def z37 : S37 := ⟨(0 : Int), false, ([] : List S58)⟩
def k37 : Kd S37 := Kd.iso (Kd.pair (Kd.int .i64) (Kd.pair Kd.bool (Kd.slice 58 k58))) (fun x : S37 => (x.f0, x.f1, x.f2))
theorem k37_open {w : World} {x : S37} {cs : List Value} (h : k37.K w x cs) : ∃ A2 c2, cs = [.int .i64 x.f0, .bool x.f1, .slice A2 x.f2.length c2] ∧ x.f2.length ≤ c2 ∧ k58.C w A2 x.f2.length x.f2 := by
  obtain ⟨_, _, rfl, rfl, ⟨_, _, rfl, rfl, ⟨A2, c2, rfl, l2, g2⟩⟩⟩ := h
  exact ⟨A2, c2, rfl, l2, g2⟩
def rd_T37 (xs : List S37) (i : Int) : S37 := xs.getD i.toNat z37
theorem at_T37 {w : World} {A : Option Addr} {n : Nat} {xs : List S37} (h : Kd.C k37 w A n xs) (i : Int) (h0 : 0 ≤ i) (h1 : i < n) : ∃ ad A2 c2, A = some ad ∧ w.cell? (ad.add (i.toNat * 3)) = some (.int .i64 (rd_T37 xs i).f0) ∧ w.cell? ⟨(ad.add (i.toNat * 3)).block, (ad.add (i.toNat * 3)).off + 1, none⟩ = some (.bool (rd_T37 xs i).f1) ∧ w.cell? ⟨(ad.add (i.toNat * 3)).block, (ad.add (i.toNat * 3)).off + 2, none⟩ = some (.slice A2 (rd_T37 xs i).f2.length c2) ∧ (rd_T37 xs i).f2.length ≤ c2 ∧ k58.C w A2 (rd_T37 xs i).f2.length (rd_T37 xs i).f2 := by
  obtain ⟨ad, c, e, _, hK, hc0⟩ := Kd.C_get h z37 i h0 h1
  have hc : ∀ j u, c[j]? = some u → w.cell? (ad.add (i.toNat * 3 + j)) = some u := hc0
  obtain ⟨A2, c2, rfl, l2, g2⟩ := k37_open hK
  exact ⟨ad, A2, c2, e, hc 0 _ rfl, by rw [← add_field _ _ 1 (by omega)]; exact hc 1 _ rfl, by rw [← add_field _ _ 2 (by omega)]; exact hc 2 _ rfl, l2, g2⟩

structure S55 where
  f0 : Int
  f1 : Int
  f2 : ByteArray
  f3 : Int
def z55 : S55 := ⟨(0 : Int), (0 : Int), (⟨#[]⟩ : ByteArray), (0 : Int)⟩
def k55 : Kd S55 := Kd.iso (Kd.pair (Kd.int .i64) (Kd.pair (Kd.int .i64) (Kd.pair Kd.string (Kd.int .i64)))) (fun x : S55 => (x.f0, x.f1, x.f2, x.f3))
theorem k55_open {w : World} {x : S55} {cs : List Value} (h : k55.K w x cs) : cs = [.int .i64 x.f0, .int .i64 x.f1, .string x.f2, .int .i64 x.f3] := by
  obtain ⟨_, _, rfl, rfl, ⟨_, _, rfl, rfl, ⟨_, _, rfl, rfl, rfl⟩⟩⟩ := h
  exact rfl
theorem k55_openM {w : World} {base : Nat} {ok : Nat → Prop} {x : S55} {cs : List Value} (h : k55.M w base ok x cs) : cs = [.int .i64 x.f0, .int .i64 x.f1, .string x.f2, .int .i64 x.f3] := by
  obtain ⟨_, _, rfl, rfl, ⟨_, _, rfl, rfl, ⟨_, _, rfl, rfl, rfl⟩⟩⟩ := h
  exact rfl
theorem k55_mkM (w : World) (base : Nat) (ok : Nat → Prop) (x : S55)  : k55.M w base ok x [.int .i64 x.f0, .int .i64 x.f1, .string x.f2, .int .i64 x.f3] := ⟨[.int .i64 x.f0], [.int .i64 x.f1, .string x.f2, .int .i64 x.f3], rfl, rfl, ⟨[.int .i64 x.f1], [.string x.f2, .int .i64 x.f3], rfl, rfl, ⟨[.string x.f2], [.int .i64 x.f3], rfl, rfl, rfl⟩⟩⟩
def rd_T55 (xs : List S55) (i : Int) : S55 := xs.getD i.toNat z55
theorem at_T55 {w : World} {A : Option Addr} {n : Nat} {xs : List S55} (h : Kd.C k55 w A n xs) (i : Int) (h0 : 0 ≤ i) (h1 : i < n) : ∃ ad , A = some ad ∧ w.cell? (ad.add (i.toNat * 4)) = some (.int .i64 (rd_T55 xs i).f0) ∧ w.cell? ⟨(ad.add (i.toNat * 4)).block, (ad.add (i.toNat * 4)).off + 1, none⟩ = some (.int .i64 (rd_T55 xs i).f1) ∧ w.cell? ⟨(ad.add (i.toNat * 4)).block, (ad.add (i.toNat * 4)).off + 2, none⟩ = some (.string (rd_T55 xs i).f2) ∧ w.cell? ⟨(ad.add (i.toNat * 4)).block, (ad.add (i.toNat * 4)).off + 3, none⟩ = some (.int .i64 (rd_T55 xs i).f3) := by
  obtain ⟨ad, c, e, _, hK, hc0⟩ := Kd.C_get h z55 i h0 h1
  have hc : ∀ j u, c[j]? = some u → w.cell? (ad.add (i.toNat * 4 + j)) = some u := hc0
  obtain rfl := k55_open hK
  exact ⟨ad, e, hc 0 _ rfl, by rw [← add_field _ _ 1 (by omega)]; exact hc 1 _ rfl, by rw [← add_field _ _ 2 (by omega)]; exact hc 2 _ rfl, by rw [← add_field _ _ 3 (by omega)]; exact hc 3 _ rfl⟩

structure S41 where
  f0 : Int
  f1 : Bool
  f2 : (List S55)
def z41 : S41 := ⟨(0 : Int), false, ([] : List S55)⟩
def k41 : Kd S41 := Kd.iso (Kd.pair (Kd.int .i64) (Kd.pair Kd.bool (Kd.slice 55 k55))) (fun x : S41 => (x.f0, x.f1, x.f2))
theorem k41_open {w : World} {x : S41} {cs : List Value} (h : k41.K w x cs) : ∃ A2 c2, cs = [.int .i64 x.f0, .bool x.f1, .slice A2 x.f2.length c2] ∧ x.f2.length ≤ c2 ∧ k55.C w A2 x.f2.length x.f2 := by
  obtain ⟨_, _, rfl, rfl, ⟨_, _, rfl, rfl, ⟨A2, c2, rfl, l2, g2⟩⟩⟩ := h
  exact ⟨A2, c2, rfl, l2, g2⟩
theorem k41_openM {w : World} {base : Nat} {ok : Nat → Prop} {x : S41} {cs : List Value} (h : k41.M w base ok x cs) : ∃ v2, cs = [.int .i64 x.f0, .bool x.f1, v2] ∧ k55.R 55 w base ok v2 x.f2 := by
  obtain ⟨_, _, rfl, rfl, ⟨_, _, rfl, rfl, ⟨v2, rfl, g2⟩⟩⟩ := h
  exact ⟨v2, rfl, g2⟩
theorem k41_mkM (w : World) (base : Nat) (ok : Nat → Prop) (x : S41) {v2 : Value} (g2 : k55.R 55 w base ok v2 x.f2) : k41.M w base ok x [.int .i64 x.f0, .bool x.f1, v2] := ⟨[.int .i64 x.f0], [.bool x.f1, v2], rfl, rfl, ⟨[.bool x.f1], [v2], rfl, rfl, ⟨v2, rfl, g2⟩⟩⟩
def rd_T41 (xs : List S41) (i : Int) : S41 := xs.getD i.toNat z41
theorem at_T41 {w : World} {A : Option Addr} {n : Nat} {xs : List S41} (h : Kd.C k41 w A n xs) (i : Int) (h0 : 0 ≤ i) (h1 : i < n) : ∃ ad A2 c2, A = some ad ∧ w.cell? (ad.add (i.toNat * 3)) = some (.int .i64 (rd_T41 xs i).f0) ∧ w.cell? ⟨(ad.add (i.toNat * 3)).block, (ad.add (i.toNat * 3)).off + 1, none⟩ = some (.bool (rd_T41 xs i).f1) ∧ w.cell? ⟨(ad.add (i.toNat * 3)).block, (ad.add (i.toNat * 3)).off + 2, none⟩ = some (.slice A2 (rd_T41 xs i).f2.length c2) ∧ (rd_T41 xs i).f2.length ≤ c2 ∧ k55.C w A2 (rd_T41 xs i).f2.length (rd_T41 xs i).f2 := by
  obtain ⟨ad, c, e, _, hK, hc0⟩ := Kd.C_get h z41 i h0 h1
  have hc : ∀ j u, c[j]? = some u → w.cell? (ad.add (i.toNat * 3 + j)) = some u := hc0
  obtain ⟨A2, c2, rfl, l2, g2⟩ := k41_open hK
  exact ⟨ad, A2, c2, e, hc 0 _ rfl, by rw [← add_field _ _ 1 (by omega)]; exact hc 1 _ rfl, by rw [← add_field _ _ 2 (by omega)]; exact hc 2 _ rfl, l2, g2⟩

end Go.Proofs.Ythgmmebkjhjgcaa.Pr

namespace Go.Proofs.Ythgmmebkjhjgcaa.Pr
open Go.RowKit Go.Proofs.YthgmmebkjhjgcaaW.PrintWords Go.Proofs.YthgmmebkjhjgcaaW.PrintLast Go.Proofs.YthgmmebkjhjgcaaW.PrintMore
attribute [local go_sem] max2_int min2_int max_two min_two max_three min_three max_four min_four
set_option linter.unusedVariables false
set_option linter.unusedSimpArgs false
def laws_szUnit.f (a0_0 : Int) (a0_1 : Int) (a0_2 : ByteArray) (a0_3 : Int) (a1 : Int) : Option (Int) := if (wrap64 (a1 - (a0_2.size : Int))) < 0 then (some (-1)) else (some (wrap64 (a1 - (a0_2.size : Int))))
set_option maxHeartbeats 8000000 in
set_option maxRecDepth 100000 in
theorem laws_szUnit.calls (a0_0 : Int) (a0_1 : Int) (a0_2 : ByteArray) (a0_3 : Int) (a1 : Int) (r : Int) (w : World) (h : laws_szUnit.f a0_0 a0_1 a0_2 a0_3 a1 = some r) :
    Calls Try.prog 30 #[.agg #[.int .i64 a0_0, .int .i64 a0_1, .string a0_2, .int .i64 a0_3], .int .i64 a1] w fun e w' => e = .returned (.int .i64 r) ∧ Below w.heap.size w w' := by
  have hu58 := Try.underlying58
  have HB := Aside0.mk (Below.refl w.heap.size w)
  have H : (if (wrap64 (a1 - (a0_2.size : Int))) < 0 then (some (-1)) else (some (wrap64 (a1 - (a0_2.size : Int))))) = some r := h
  clear h
  by_cases c3 : (wrap64 (a1 - (a0_2.size : Int))) < 0
  · rw [if_pos c3] at H
    have c3b0 : decide ((wrap64 (a1 - (a0_2.size : Int))) < 0) = true := decide_eq_true c3
    clear c3
    obtain rfl := Option.some.inj H
    go_enter Try.func30, Try.ntmps30
    go_wp2_with (first | ((with_reducible refine gate_dst (N := 2) rfl ?_); refine BX 2 #[.int .i64 a0_0, .int .i64 a0_1, .string a0_2, .int .i64 a0_3] 58 ?_; intro gb101 hg w4 hbox hb; have BK101 := Aside0.mk (hbox); have GW101 : Aside0 (w.heap.size ≤ gb101) := WG hg (BB HB.out); have GE101 := GW101; replace HB := Aside0.mk (below_step (BB HB.out) hb); clear hb hbox hg; have hcz5 := blk_cell BK101.out; have hfz5 := blk_frozen BK101.out))
    go_ret
    exact ⟨ER, (BB1 HB.out GE101.out)⟩
  · rw [if_neg c3] at H
    have c3b0 : decide ((wrap64 (a1 - (a0_2.size : Int))) < 0) = false := decide_eq_false c3
    clear c3
    obtain rfl := Option.some.inj H
    go_enter Try.func30, Try.ntmps30
    go_wp2_with (first | ((with_reducible refine gate_dst (N := 2) rfl ?_); refine BX 2 #[.int .i64 a0_0, .int .i64 a0_1, .string a0_2, .int .i64 a0_3] 58 ?_; intro gb101 hg w6 hbox hb; have BK101 := Aside0.mk (hbox); have GW101 : Aside0 (w.heap.size ≤ gb101) := WG hg (BB HB.out); have GE101 := GW101; replace HB := Aside0.mk (below_step (BB HB.out) hb); clear hb hbox hg; have hcz7 := blk_cell BK101.out; have hfz7 := blk_frozen BK101.out))
    go_ret
    exact ⟨ER, (BB1 HB.out GE101.out)⟩

end Go.Proofs.Ythgmmebkjhjgcaa.Pr

namespace Go.Proofs.Ythgmmebkjhjgcaa.Pr
open Go.RowKit Go.Proofs.YthgmmebkjhjgcaaW.PrintWords Go.Proofs.YthgmmebkjhjgcaaW.PrintLast Go.Proofs.YthgmmebkjhjgcaaW.PrintMore
attribute [local go_sem] max2_int min2_int max_two min_two max_three min_three max_four min_four
set_option linter.unusedVariables false
set_option linter.unusedSimpArgs false
def laws_szUnitS.l0 : Nat → List (S58) → Int → Int → Option (Int)
  | 0, _, _, _ => none
  | k + 1, x0, x1, x5 => if x5 < (x0.length : Int) then (if 0 ≤ x5 then ((laws_szUnit.f ((rd_T58 x0 x5).f0) ((rd_T58 x0 x5).f1) ((rd_T58 x0 x5).f2) ((rd_T58 x0 x5).f3) x1).bind fun t103 => (if t103 < 0 then (some (-1)) else (laws_szUnitS.l0 k x0 t103 (wrap64 (x5 + 1))))) else (none)) else (some x1)
def laws_szUnitS.f (k : Nat) (l0 : List (S58)) (a1 : Int) : Option (Int) := if (wrap64 (a1 - (l0.length : Int))) < 0 then (some (-1)) else (laws_szUnitS.l0 k l0 (wrap64 (a1 - (l0.length : Int))) 0)
set_option maxHeartbeats 8000000 in
set_option maxRecDepth 100000 in
theorem laws_szUnitS.calls (k : Nat) (A0 : Option Addr) (c0 : Nat) (l0 : List (S58)) (a1 : Int) (r : Int) (w : World) (hr0 : Kd.C k58 w A0 l0.length l0) (hc0 : l0.length ≤ c0) (h : laws_szUnitS.f k l0 a1 = some r) :
    Calls Try.prog 20 #[.slice A0 l0.length c0, .int .i64 a1] w fun e w' => e = .returned (.int .i64 r) ∧ Below w.heap.size w w' := by
  have hu58 := Try.underlying58
  have HR0 := Aside0.mk hr0
  have HC0 := Aside0.mk hc0
  clear hr0 hc0
  have HB := Aside0.mk (Below.refl w.heap.size w)
  have H : (if (wrap64 (a1 - (l0.length : Int))) < 0 then (some (-1)) else (laws_szUnitS.l0 k l0 (wrap64 (a1 - (l0.length : Int))) 0)) = some r := h
  clear h
  by_cases c3 : (wrap64 (a1 - (l0.length : Int))) < 0
  · rw [if_pos c3] at H
    have c3b0 : decide ((wrap64 (a1 - (l0.length : Int))) < 0) = true := decide_eq_true c3
    clear c3
    obtain rfl := Option.some.inj H
    go_enter Try.func20, Try.ntmps20
    go_wp2
    go_ret
    exact ⟨ER, (BB HB.out)⟩
  · rw [if_neg c3] at H
    have c3b0 : decide ((wrap64 (a1 - (l0.length : Int))) < 0) = false := decide_eq_false c3
    clear c3
    have H' := Aside0.mk H
    clear H
    go_enter Try.func20, Try.ntmps20
    go_wp2
    go_loopg [1, 5] k (fun kq v1 v5 w' => ∃ (x1_1 : Int) (x5_1 : Int), v1 = .int .i64 x1_1 ∧ v5 = .int .i64 x5_1 ∧ Aside0 (laws_szUnitS.l0 kq l0 x1_1 x5_1 = some r) ∧ Aside0 (kq ≤ k) ∧ Aside0 (Below w.heap.size w w'))
    case atStart => exact ⟨(wrap64 (a1 - (l0.length : Int))), (0), FR, FR, H', ⟨Nat.le_refl _⟩, ⟨(BB HB.out)⟩⟩
    case round =>
      clear H'
      try clear c2
      try clear p2
      try clear c3
      try clear c3b0
      obtain ⟨x1_1, x5_1, rfl, rfl, HA, HK1, HB⟩ := hrel
      cases gk with
      | zero => exact absurd HA.out (by simp [laws_szUnitS.l0])
      | succ k1 =>
        have H := HA.out
        clear HA
        simp only [laws_szUnitS.l0] at H
        by_cases c4 : x5_1 < (l0.length : Int)
        · rw [if_pos c4] at H
          have c4b0 : decide (x5_1 < (l0.length : Int)) = true := decide_eq_true c4
          clear c4
          by_cases c5 : 0 ≤ x5_1
          · rw [if_pos c5] at H
            have c5b0 : decide (0 ≤ x5_1) = true := decide_eq_true c5
            clear c5
            replace H := Option.bind_eq_some_iff.mp H
            obtain ⟨t103, A60, H⟩ := H
            replace H : (if t103 < 0 then (some (-1)) else (laws_szUnitS.l0 k1 l0 t103 (wrap64 (x5_1 + 1)))) = some r := H
            have A6 := Aside0.mk A60
            clear A60
            by_cases c7 : t103 < 0
            · rw [if_pos c7] at H
              have c7b0 : decide (t103 < 0) = true := decide_eq_true c7
              clear c7
              obtain rfl := Option.some.inj H
              have p102 : 0 ≤ (x5_1 : Int) := DT
              have q102 : x5_1 < (l0.length : Int) := DT
              obtain ⟨ad102, e102, hx102_0, hx102_1, hx102_2, hx102_3⟩ := at_T58 HR0.out x5_1 p102 q102
              cases e102
              replace hx102_0 := (HB.out.cell (World.block_lt_of_cell? w _ hx102_0)).trans hx102_0
              replace hx102_1 := (HB.out.cell (World.block_lt_of_cell? w _ hx102_1)).trans hx102_1
              replace hx102_2 := (HB.out.cell (World.block_lt_of_cell? w _ hx102_2)).trans hx102_2
              replace hx102_3 := (HB.out.cell (World.block_lt_of_cell? w _ hx102_3)).trans hx102_3
              replace p102 := eq_true p102
              replace q102 := eq_true q102
              go_wp2_with (first | ((with_reducible refine gate_callee (f := 30) rfl ?_); refine GL (some 23) rfl rfl Try.func30 #[.agg #[.int .i64 ((rd_T58 l0 x5_1).f0), .int .i64 ((rd_T58 l0 x5_1).f1), .string ((rd_T58 l0 x5_1).f2), .int .i64 ((rd_T58 l0 x5_1).f3)], .int .i64 x1_1] rfl ?_; (with_reducible refine (laws_szUnit.calls ((rd_T58 l0 x5_1).f0) ((rd_T58 l0 x5_1).f1) ((rd_T58 l0 x5_1).f2) ((rd_T58 l0 x5_1).f3) x1_1 t103 _ A6.out).mono ?_); rintro e w8 ⟨rfl, hb⟩; refine ⟨_, rfl, ?_⟩; replace HB := Aside0.mk (below_step (BB HB.out) hb); (try clear hb)))
              go_ret
              exact ⟨ER, (BB HB.out)⟩
            · rw [if_neg c7] at H
              have c7b0 : decide (t103 < 0) = false := decide_eq_false c7
              clear c7
              have H' := Aside0.mk H
              clear H
              have p102 : 0 ≤ (x5_1 : Int) := DT
              have q102 : x5_1 < (l0.length : Int) := DT
              obtain ⟨ad102, e102, hx102_0, hx102_1, hx102_2, hx102_3⟩ := at_T58 HR0.out x5_1 p102 q102
              cases e102
              replace hx102_0 := (HB.out.cell (World.block_lt_of_cell? w _ hx102_0)).trans hx102_0
              replace hx102_1 := (HB.out.cell (World.block_lt_of_cell? w _ hx102_1)).trans hx102_1
              replace hx102_2 := (HB.out.cell (World.block_lt_of_cell? w _ hx102_2)).trans hx102_2
              replace hx102_3 := (HB.out.cell (World.block_lt_of_cell? w _ hx102_3)).trans hx102_3
              replace p102 := eq_true p102
              replace q102 := eq_true q102
              go_wp2_with (first | ((with_reducible refine gate_callee (f := 30) rfl ?_); refine GL (some 23) rfl rfl Try.func30 #[.agg #[.int .i64 ((rd_T58 l0 x5_1).f0), .int .i64 ((rd_T58 l0 x5_1).f1), .string ((rd_T58 l0 x5_1).f2), .int .i64 ((rd_T58 l0 x5_1).f3)], .int .i64 x1_1] rfl ?_; (with_reducible refine (laws_szUnit.calls ((rd_T58 l0 x5_1).f0) ((rd_T58 l0 x5_1).f1) ((rd_T58 l0 x5_1).f2) ((rd_T58 l0 x5_1).f3) x1_1 t103 _ A6.out).mono ?_); rintro e w9 ⟨rfl, hb⟩; refine ⟨_, rfl, ?_⟩; replace HB := Aside0.mk (below_step (BB HB.out) hb); (try clear hb)))
              go_roundg k1
              case measure => have := HK1.out; omega
              case rel => exact ⟨(t103), (wrap64 (x5_1 + 1)), FR, FR, H', ⟨by have := HK1.out; omega⟩, ⟨(BB HB.out)⟩⟩
          · rw [if_neg c5] at H
            exact absurd H (by simp)
        · rw [if_neg c4] at H
          have c4b0 : decide (x5_1 < (l0.length : Int)) = false := decide_eq_false c4
          clear c4
          obtain rfl := Option.some.inj H
          go_wp2
          go_ret
          exact ⟨ER, (BB HB.out)⟩

end Go.Proofs.Ythgmmebkjhjgcaa.Pr

namespace Go.Proofs.Ythgmmebkjhjgcaa.Pr
open Go.RowKit Go.Proofs.YthgmmebkjhjgcaaW.PrintWords Go.Proofs.YthgmmebkjhjgcaaW.PrintLast Go.Proofs.YthgmmebkjhjgcaaW.PrintMore
attribute [local go_sem] max2_int min2_int max_two min_two max_three min_three max_four min_four
set_option linter.unusedVariables false
set_option linter.unusedSimpArgs false
def laws_toUnit.f (a0_0 : Int) (a0_1 : Int) (a0_2 : ByteArray) (a0_3 : Int) : Option (Int × Int × ByteArray × Int) := some (a0_0, a0_1, a0_2, a0_3)
set_option maxHeartbeats 8000000 in
set_option maxRecDepth 100000 in
theorem laws_toUnit.calls (a0_0 : Int) (a0_1 : Int) (a0_2 : ByteArray) (a0_3 : Int) (r1 : Int) (r2 : Int) (r3 : ByteArray) (r4 : Int) (w : World) (h : laws_toUnit.f a0_0 a0_1 a0_2 a0_3 = some (r1, r2, r3, r4)) :
    Calls Try.prog 31 #[.agg #[.int .i64 a0_0, .int .i64 a0_1, .string a0_2, .int .i64 a0_3]] w fun e w' => e = .returned (.agg #[.int .i64 r1, .int .i64 r2, .string r3, .int .i64 r4]) ∧ Below w.heap.size w w' := by
  have hu58 := Try.underlying58
  have hu55 := Try.underlying55
  have HB := Aside0.mk (Below.refl w.heap.size w)
  have H : (some (a0_0, a0_1, a0_2, a0_3)) = some (r1, r2, r3, r4) := h
  clear h
  simp only [Option.some.injEq, Prod.mk.injEq] at H
  obtain ⟨rfl, rfl, rfl, rfl⟩ := H
  go_enter Try.func31, Try.ntmps31
  go_wp2_with (first | ((with_reducible refine gate_dst (N := 1) rfl ?_); refine BX 1 #[.int .i64 a0_0, .int .i64 a0_1, .string a0_2, .int .i64 a0_3] 58 ?_; intro gb145 hg w2 hbox hb; have BK145 := Aside0.mk (hbox); have GW145 : Aside0 (w.heap.size ≤ gb145) := WG hg (BB HB.out); have GE145 := GW145; replace HB := Aside0.mk (below_step (BB HB.out) hb); clear hb hbox hg) | ((with_reducible refine gate_dst (N := 2) rfl ?_); refine BX 2 #[.int .i64 0, .int .i64 0, .string (⟨#[]⟩ : ByteArray), .int .i64 0] 55 ?_; intro gb146 hg w3 hbox hb; have BK146 := Aside0.mk (hbox); have GW146 : Aside0 (w.heap.size ≤ gb146) := WG hg (BB1 HB.out GE145.out); have GE146 := GW146; have NB145_146 := NL BK145.out hg; have NB146_145 := NG BK145.out hg; replace BK145 := Aside0.mk (KB BK145.out hb); replace HB := Aside0.mk (below_step (BB1 HB.out GE145.out) hb); clear hb hbox hg) | ((with_reducible refine gate_dst (N := 3) rfl ?_); refine BX 3 #[.int .i64 0, .int .i64 0, .string (⟨#[]⟩ : ByteArray), .int .i64 0] 55 ?_; intro gb147 hg w4 hbox hb; have BK147 := Aside0.mk (hbox); have GW147 : Aside0 (w.heap.size ≤ gb147) := WG hg (BB2 HB.out GE145.out GE146.out); have GE147 := GW147; have NB145_147 := NL BK145.out hg; have NB147_145 := NG BK145.out hg; have NB146_147 := NL BK146.out hg; have NB147_146 := NG BK146.out hg; replace BK145 := Aside0.mk (KB BK145.out hb); replace BK146 := Aside0.mk (KB BK146.out hb); replace HB := Aside0.mk (below_step (BB2 HB.out GE145.out GE146.out) hb); clear hb hbox hg; have hnb5 := NB145_146.out; have hnc5 := NB146_145.out; have hnb6 := NB145_147.out; have hnc6 := NB147_145.out; have hcz7 := blk_cell BK145.out; have hfz7 := blk_frozen BK145.out; have hnb8 := NB147_146.out; have hnc8 := NB146_147.out; have hcz9 := blk_cell BK147.out; have hfz9 := blk_frozen BK147.out; have hcz10 := blk_cell BK146.out; have hfz10 := blk_frozen BK146.out))
  refine bodyPost_ret (results_cell_row rfl _ _ gb146 55 #[.int .i64 a0_0, .int .i64 a0_1, .string a0_2, .int .i64 a0_3] (0, 0) _ rfl (by (with_reducible repeat (first | refine blk_drewN ?_ _ | refine blk_drew ?_ | refine blk_alloc ?_ _)); refine blk_put (cs := #[.int .i64 a0_0, .int .i64 a0_1, .string a0_2, .int .i64 0]) ?_ 3 _ rfl; (with_reducible repeat (first | refine blk_drewN ?_ _ | refine blk_drew ?_ | refine blk_alloc ?_ _)); refine blk_put (cs := #[.int .i64 a0_0, .int .i64 a0_1, .string (⟨#[]⟩ : ByteArray), .int .i64 0]) ?_ 2 _ rfl; (with_reducible repeat (first | refine blk_drewN ?_ _ | refine blk_drew ?_ | refine blk_alloc ?_ _)); refine blk_put (cs := #[.int .i64 a0_0, .int .i64 0, .string (⟨#[]⟩ : ByteArray), .int .i64 0]) ?_ 1 _ rfl; (with_reducible repeat (first | refine blk_drewN ?_ _ | refine blk_drew ?_ | refine blk_alloc ?_ _)); refine blk_put (cs := #[.int .i64 0, .int .i64 0, .string (⟨#[]⟩ : ByteArray), .int .i64 0]) ?_ 0 _ rfl; (with_reducible repeat (first | refine blk_drewN ?_ _ | refine blk_drew ?_ | refine blk_alloc ?_ _)); refine blk_far ?_ NB146_147.out _; (with_reducible repeat (first | refine blk_drewN ?_ _ | refine blk_drew ?_ | refine blk_alloc ?_ _)); refine blk_far ?_ NB146_147.out _; (with_reducible repeat (first | refine blk_drewN ?_ _ | refine blk_drew ?_ | refine blk_alloc ?_ _)); refine blk_far ?_ NB146_147.out _; (with_reducible repeat (first | refine blk_drewN ?_ _ | refine blk_drew ?_ | refine blk_alloc ?_ _)); refine blk_far ?_ NB146_147.out _; (with_reducible repeat (first | refine blk_drewN ?_ _ | refine blk_drew ?_ | refine blk_alloc ?_ _)); exact BK146.out) Try.underlying55 rfl (by kernel_rfl)) rfl ?_
  exact ⟨ER, (BB3 HB.out GE145.out GE146.out GE147.out)⟩

end Go.Proofs.Ythgmmebkjhjgcaa.Pr

namespace Go.Proofs.Ythgmmebkjhjgcaa.Pr
open Go.RowKit Go.Proofs.YthgmmebkjhjgcaaW.PrintWords Go.Proofs.YthgmmebkjhjgcaaW.PrintLast Go.Proofs.YthgmmebkjhjgcaaW.PrintMore
attribute [local go_sem] max2_int min2_int max_two min_two max_three min_three max_four min_four
set_option linter.unusedVariables false
set_option linter.unusedSimpArgs false
def laws_toUnitS.l0 : Nat → List (S58) → List (S55) → Int → Option ((List (S55)))
  | 0, _, _, _ => none
  | k + 1, x0, x3, x4 => if x4 < (x0.length : Int) then (if 0 ≤ x4 then ((laws_toUnit.f ((rd_T58 x0 x4).f0) ((rd_T58 x0 x4).f1) ((rd_T58 x0 x4).f2) ((rd_T58 x0 x4).f3)).bind fun bt152 => (if x4 < (x3.length : Int) then (laws_toUnitS.l0 k x0 (x3.set (x4 : Int).toNat (⟨bt152.1, bt152.2.1, bt152.2.2.1, bt152.2.2.2⟩ : S55)) (wrap64 (x4 + 1))) else (none))) else (none)) else (some x3)
def laws_toUnitS.f (k : Nat) (l0 : List (S58)) : Option ((List (S55))) := if 0 ≤ (l0.length : Int) then (if ((l0.length : Int) : Int).toNat ≤ 7036874417766 then (laws_toUnitS.l0 k l0 (List.replicate ((l0.length : Int) : Int).toNat z55) 0) else (none)) else (none)
set_option maxHeartbeats 8000000 in
set_option maxRecDepth 100000 in
theorem laws_toUnitS.calls (k : Nat) (A0 : Option Addr) (c0 : Nat) (l0 : List (S58)) (r : List (S55)) (w : World) (hr0 : Kd.C k58 w A0 l0.length l0) (hc0 : l0.length ≤ c0) (h : laws_toUnitS.f k l0 = some r) :
    Calls Try.prog 22 #[.slice A0 l0.length c0] w fun e w' => ∃ v0_ : Value, e = .returned (v0_) ∧ Kd.R k55 55 w' w.heap.size (fun _ => True) v0_ r ∧ Below w.heap.size w w' := by
  have hu58 := Try.underlying58
  have hu55 := Try.underlying55
  have HR0 := Aside0.mk hr0
  have HC0 := Aside0.mk hc0
  clear hr0 hc0
  have HB := Aside0.mk (Below.refl w.heap.size w)
  have H : (if 0 ≤ (l0.length : Int) then (if ((l0.length : Int) : Int).toNat ≤ 7036874417766 then (laws_toUnitS.l0 k l0 (List.replicate ((l0.length : Int) : Int).toNat z55) 0) else (none)) else (none)) = some r := h
  clear h
  by_cases c2 : 0 ≤ (l0.length : Int)
  · rw [if_pos c2] at H
    have c2b0 := eq_true c2
    have c2b1 : decide (0 ≤ (l0.length : Int)) = true := decide_eq_true c2
    clear c2
    by_cases c3 : ((l0.length : Int) : Int).toNat ≤ 7036874417766
    · rw [if_pos c3] at H
      have c3b0 := eq_true c3
      have c3b1 : decide (((l0.length : Int) : Int).toNat ≤ 7036874417766) = true := decide_eq_true c3
      clear c3
      obtain ⟨y148, hy148⟩ : ∃ y_ : List (S55), y_ = (List.replicate ((l0.length : Int) : Int).toNat z55) := ⟨_, rfl⟩
      replace H : (laws_toUnitS.l0 k l0 y148 0) = some r := by first | (rw [hy148]; with_reducible exact H) | (have H2_ := (Option.bind_some _ _).symm.trans H; rw [hy148]; with_reducible exact H2_) | (have H2_ := (Option.bind_some _ _).symm.trans H; with_reducible exact H2_) | with_reducible exact H | (rw [hy148]; exact H) | exact H
      have Ny148 := Aside0.mk hy148
      clear hy148
      have H' := Aside0.mk H
      clear H
      go_enter Try.func22, Try.ntmps22
      go_wp2_with (first | ((with_reducible refine gate_dst (N := 7) rfl ?_); refine Kd.R_make k55 _ 55 rfl (N := 7) rfl 39 _ _ rfl (l0.length : Int) rfl rfl Try.underlying39 (.agg #[(.int .i64 0), (.int .i64 0), (.string ⟨#[]⟩), (.int .i64 0)]) 40 info55 rfl (by decide) (by omega) z55 (ok := fun _ => True) (okp := fun _ => True) (k55_mkM _ _ _ z55 ) (fun _ hk => hk) trivial DT (Nat.le_trans (Nat.mul_le_mul_right _ (DT : (l0.length : Int).toNat ≤ 7036874417766)) (by omega)) (Below.refl _ _) (Nat.le_refl _) ?_; intro v149 w4 ho5 hb hg_ hnew_; clear hg_ hnew_; (first | rw [← Ny148.out] at ho5 | (simp only [Int.reduceToNat] at ho5; rw [← Ny148.out] at ho5)); have HO150 := Aside0.mk (Kd.R_lower ho5 (below_size (BB HB.out))); replace HB := Aside0.mk (below_step (BB HB.out) hb); clear hb ho5))
      go_loopg [4] k (fun kq v4 w' => ∃ (x3_1 : List (S55)) (x4_1 : Int), v4 = .int .i64 x4_1 ∧ Aside0 (laws_toUnitS.l0 kq l0 x3_1 x4_1 = some r) ∧ Aside0 (kq ≤ k) ∧ Aside0 (Kd.R k55 55 w' w.heap.size (fun _ => True) v149 x3_1) ∧ Aside0 (Below w.heap.size w w'))
      case atStart => exact ⟨(y148), (0), FR, H', ⟨Nat.le_refl _⟩, ⟨(RR HO150.out)⟩, ⟨(BB HB.out)⟩⟩
      case round =>
        clear H'
        try clear c2
        try clear c2b0
        try clear c2b1
        try clear p2
        try clear c3
        try clear c3b0
        try clear c3b1
        obtain ⟨x3_1, x4_1, rfl, HA, HK1, HO_3, HB⟩ := hrel
        cases gk with
        | zero => exact absurd HA.out (by simp [laws_toUnitS.l0])
        | succ k1 =>
          have H := HA.out
          clear HA
          simp only [laws_toUnitS.l0] at H
          by_cases c6 : x4_1 < (l0.length : Int)
          · rw [if_pos c6] at H
            have c6b0 : decide (x4_1 < (l0.length : Int)) = true := decide_eq_true c6
            clear c6
            by_cases c7 : 0 ≤ x4_1
            · rw [if_pos c7] at H
              have c7b0 : decide (0 ≤ x4_1) = true := decide_eq_true c7
              clear c7
              replace H := Option.bind_eq_some_iff.mp H
              obtain ⟨⟨t152, t153, t154, t155⟩, A80, H⟩ := H
              replace H : (if x4_1 < (x3_1.length : Int) then (laws_toUnitS.l0 k1 l0 (x3_1.set (x4_1 : Int).toNat (⟨t152, t153, t154, t155⟩ : S55)) (wrap64 (x4_1 + 1))) else (none)) = some r := H
              have A8 := Aside0.mk A80
              clear A80
              by_cases c9 : x4_1 < (x3_1.length : Int)
              · rw [if_pos c9] at H
                have c9b0 : decide (x4_1 < (x3_1.length : Int)) = true := decide_eq_true c9
                clear c9
                obtain ⟨y156, hy156⟩ : ∃ y_ : List (S55), y_ = (x3_1.set (x4_1 : Int).toNat (⟨t152, t153, t154, t155⟩ : S55)) := ⟨_, rfl⟩
                replace H : (laws_toUnitS.l0 k1 l0 y156 (wrap64 (x4_1 + 1))) = some r := by first | (rw [hy156]; with_reducible exact H) | (have H2_ := (Option.bind_some _ _).symm.trans H; rw [hy156]; with_reducible exact H2_) | (have H2_ := (Option.bind_some _ _).symm.trans H; with_reducible exact H2_) | with_reducible exact H | (rw [hy156]; exact H) | exact H
                have Ny156 := Aside0.mk hy156
                clear hy156
                have H' := Aside0.mk H
                clear H
                have p151 : 0 ≤ (x4_1 : Int) := DT
                have q151 : x4_1 < (l0.length : Int) := DT
                obtain ⟨ad151, e151, hx151_0, hx151_1, hx151_2, hx151_3⟩ := at_T58 HR0.out x4_1 p151 q151
                cases e151
                replace hx151_0 := (HB.out.cell (World.block_lt_of_cell? w _ hx151_0)).trans hx151_0
                replace hx151_1 := (HB.out.cell (World.block_lt_of_cell? w _ hx151_1)).trans hx151_1
                replace hx151_2 := (HB.out.cell (World.block_lt_of_cell? w _ hx151_2)).trans hx151_2
                replace hx151_3 := (HB.out.cell (World.block_lt_of_cell? w _ hx151_3)).trans hx151_3
                replace p151 := eq_true p151
                replace q151 := eq_true q151
                go_wp2_with (first | ((with_reducible refine gate_callee (f := 31) rfl ?_); refine GL (some 20) rfl rfl Try.func31 #[.agg #[.int .i64 ((rd_T58 l0 x4_1).f0), .int .i64 ((rd_T58 l0 x4_1).f1), .string ((rd_T58 l0 x4_1).f2), .int .i64 ((rd_T58 l0 x4_1).f3)]] rfl ?_; (with_reducible refine (laws_toUnit.calls ((rd_T58 l0 x4_1).f0) ((rd_T58 l0 x4_1).f1) ((rd_T58 l0 x4_1).f2) ((rd_T58 l0 x4_1).f3) t152 t153 t154 t155 _ A8.out).mono ?_); rintro e w11 ⟨rfl, hb⟩; refine ⟨_, rfl, ?_⟩; replace HO_3 := Aside0.mk (Kd.R_below (RR HO_3.out) hb); replace HB := Aside0.mk (below_step (BB HB.out) hb); (try clear hb); have p10 : 0 ≤ (x4_1 : Int) := DT; have q10 : (x4_1 : Int) < ((x3_1.length : Int) : Int) := DT; obtain ⟨go10, co10, eo10, gb10, gl10, cl10, HG10⟩ := Kd.R_form HO_3.out (by omega); (first | cases eo10 | (injection eo10 with ea_ en_ ec_; (first | subst ea_ | (injection ea_ with ea_; subst ea_)); subst ec_; clear en_)); have GB10 := Aside0.mk gb10; have GG10 := Aside0.mk HG10; clear gb10 gl10 HG10; obtain ⟨ce10, hcl10, hM10, hcc10, hfr10⟩ := Kd.R_elem HO_3.out z55 (x4_1 : Int) p10 q10; obtain rfl := k55_openM hM10; have hx10_0 : w11.cell? ⟨go10, (x4_1 : Int).toNat * 4, none⟩ = some (.int .i64 ((rd_T55 x3_1 x4_1).f0)) := hcc10 0 _ rfl; have hx10_1 : w11.cell? ⟨go10, (x4_1 : Int).toNat * 4 + 1, none⟩ = some (.int .i64 ((rd_T55 x3_1 x4_1).f1)) := hcc10 1 _ rfl; have hx10_2 : w11.cell? ⟨go10, (x4_1 : Int).toNat * 4 + 2, none⟩ = some (.string ((rd_T55 x3_1 x4_1).f2)) := hcc10 2 _ rfl; have hx10_3 : w11.cell? ⟨go10, (x4_1 : Int).toNat * 4 + 3, none⟩ = some (.int .i64 ((rd_T55 x3_1 x4_1).f3)) := hcc10 3 _ rfl; have hf10_0 : w11.frozen? ⟨go10, (x4_1 : Int).toNat * 4, none⟩ = false := hfr10 0; have hf10_1 : w11.frozen? ⟨go10, (x4_1 : Int).toNat * 4 + 1, none⟩ = false := hfr10 1; have hf10_2 : w11.frozen? ⟨go10, (x4_1 : Int).toNat * 4 + 2, none⟩ = false := hfr10 2; have hf10_3 : w11.frozen? ⟨go10, (x4_1 : Int).toNat * 4 + 3, none⟩ = false := hfr10 3; clear hcl10 hcc10 hfr10 hM10; replace p10 := eq_true p10; replace q10 := eq_true q10; have HX12 := Aside0.mk (show Kd.R k55 55 w11 w.heap.size (fun _ => True) (.slice (some ⟨go10, 0, none⟩) x3_1.length co10) x3_1 from (RR HO_3.out)); obtain ⟨ce12, hcl12, hM12, hcc12, hfr12⟩ := Kd.R_elem HX12.out z55 (x4_1 : Int) DT (by have h_ : (x4_1 : Int) < ((x3_1.length : Int) : Int) := DT; first | exact h_ | (have e_ := (Kd.R_reads' HO_3.out).1; omega) | simpa using h_); obtain rfl := k55_openM hM12; have HP12 := Kd.R_seg HX12.out (x4_1 : Int) DT (by have h_ : (x4_1 : Int) < ((x3_1.length : Int) : Int) := DT; first | exact h_ | (have e_ := (Kd.R_reads' HO_3.out).1; omega) | simpa using h_) (seg := [.int .i64 t152, .int .i64 t153, .string t154, .int .i64 t155]) (j := 0) hcl12 hcc12 (show 4 ≤ 4 from by decide) (x' := (⟨t152, t153, t154, t155⟩ : S55)) (k55_mkM _ _ _ (⟨t152, t153, t154, t155⟩ : S55) ) (fun _ hk => hk); have hx12_0 := hcc12 0 _ rfl; (try simp only [show (k55).sz = 4 from rfl, Nat.mul_one, Nat.add_zero] at hx12_0); have hf12_0 := hfr12 0; (try simp only [show (k55).sz = 4 from rfl, Nat.mul_one, Nat.add_zero] at hf12_0); have hx12_1 := hcc12 1 _ rfl; (try simp only [show (k55).sz = 4 from rfl, Nat.mul_one, Nat.add_zero] at hx12_1); have hf12_1 := hfr12 1; (try simp only [show (k55).sz = 4 from rfl, Nat.mul_one, Nat.add_zero] at hf12_1); have hx12_2 := hcc12 2 _ rfl; (try simp only [show (k55).sz = 4 from rfl, Nat.mul_one, Nat.add_zero] at hx12_2); have hf12_2 := hfr12 2; (try simp only [show (k55).sz = 4 from rfl, Nat.mul_one, Nat.add_zero] at hf12_2); have hx12_3 := hcc12 3 _ rfl; (try simp only [show (k55).sz = 4 from rfl, Nat.mul_one, Nat.add_zero] at hx12_3); have hf12_3 := hfr12 3; (try simp only [show (k55).sz = 4 from rfl, Nat.mul_one, Nat.add_zero] at hf12_3); clear hcl12 hcc12 hfr12 hM12) | ((with_reducible refine gate_store (t := 55) (p := 21) rfl ?_); refine store_event (t := 55) (p := 21) (v := ?vo_w13) (w1 := ((((w11.setCell ⟨go10, (x4_1 : Int).toNat * 4, none⟩ (.int .i64 t152)).setCell ⟨go10, (x4_1 : Int).toNat * 4 + 1, none⟩ (.int .i64 t153)).setCell ⟨go10, (x4_1 : Int).toNat * 4 + 2, none⟩ (.string t154)).setCell ⟨go10, (x4_1 : Int).toNat * 4 + 3, none⟩ (.int .i64 t155))) ?hg ?ho ?hn ?hr ?_; (case ho => rfl); (case hg => rfl); (case hn => rfl); (case hr => first | (go_simp; done) | (go_simp; rfl)); intro w13 hw; have hg : w11.grownBy w13 (some go10) := (by rw [hw]; exact HP12.2); have hp_ : Kd.R k55 55 w13 w.heap.size (fun _ => True) (.slice (some ⟨go10, 0, none⟩) x3_1.length co10) y156 := (by rw [hw, Ny156.out]; exact HP12.1); clear HP12; have n0_ := Aside0.mk (hp_); have n1_ := Aside0.mk ((by rw [hw]; exact below_set (below_set (below_set (below_set (HB.out) GB10.out) GB10.out) GB10.out) GB10.out : Below w.heap.size w w13)); clear HO_3; clear HB; have HO_3 := n0_; have HB := n1_; clear n0_ n1_; clear hg hw hp_))
                go_roundg k1
                case measure => have := HK1.out; omega
                case rel => exact ⟨(y156), (wrap64 (x4_1 + 1)), FR, H', ⟨by have := HK1.out; omega⟩, ⟨(RR HO_3.out)⟩, ⟨(BB HB.out)⟩⟩
              · rw [if_neg c9] at H
                exact absurd H (by simp)
            · rw [if_neg c7] at H
              exact absurd H (by simp)
          · rw [if_neg c6] at H
            have c6b0 : decide (x4_1 < (l0.length : Int)) = false := decide_eq_false c6
            clear c6
            obtain rfl := Option.some.inj H
            go_wp2
            go_ret
            exact ⟨_, ER, by (with_reducible repeat (first | apply Kd.R_alloc | apply Kd.R_drewN | apply Kd.R_drew)); exact HO_3.out, (BB HB.out)⟩
    · rw [if_neg c3] at H
      exact absurd H (by simp)
  · rw [if_neg c2] at H
    exact absurd H (by simp)

end Go.Proofs.Ythgmmebkjhjgcaa.Pr

namespace Go.Proofs.Ythgmmebkjhjgcaa.Pr
open Go.RowKit Go.Proofs.YthgmmebkjhjgcaaW.PrintWords Go.Proofs.YthgmmebkjhjgcaaW.PrintLast Go.Proofs.YthgmmebkjhjgcaaW.PrintMore
attribute [local go_sem] max2_int min2_int max_two min_two max_three min_three max_four min_four
set_option linter.unusedVariables false
set_option linter.unusedSimpArgs false
def laws_eqUnit.f (a0_0 : Int) (a0_1 : Int) (a0_2 : ByteArray) (a0_3 : Int) (a1_0 : Int) (a1_1 : Int) (a1_2 : ByteArray) (a1_3 : Int) : Option (Bool) := if a0_0 = a1_0 then (if a0_1 = a1_1 then (if a0_2.toList = a1_2.toList then (if a0_3 = a1_3 then (some true) else (some false)) else (some false)) else (some false)) else (some false)
set_option maxHeartbeats 8000000 in
set_option maxRecDepth 100000 in
theorem laws_eqUnit.calls (a0_0 : Int) (a0_1 : Int) (a0_2 : ByteArray) (a0_3 : Int) (a1_0 : Int) (a1_1 : Int) (a1_2 : ByteArray) (a1_3 : Int) (r : Bool) (w : World) (h : laws_eqUnit.f a0_0 a0_1 a0_2 a0_3 a1_0 a1_1 a1_2 a1_3 = some r) (hr_ : Aside0 (r = true) := by exact ⟨rfl⟩) :
    Calls Try.prog 34 #[.agg #[.int .i64 a0_0, .int .i64 a0_1, .string a0_2, .int .i64 a0_3], .agg #[.int .i64 a1_0, .int .i64 a1_1, .string a1_2, .int .i64 a1_3]] w fun e w' => e = .returned (.bool r) ∧ Below w.heap.size w w' := by
  have hu55 := Try.underlying55
  have HB := Aside0.mk (Below.refl w.heap.size w)
  have H : (if a0_0 = a1_0 then (if a0_1 = a1_1 then (if a0_2.toList = a1_2.toList then (if a0_3 = a1_3 then (some true) else (some false)) else (some false)) else (some false)) else (some false)) = some r := h
  clear h
  by_cases c3 : a0_0 = a1_0
  · rw [if_pos c3] at H
    have c3b0 : (a0_0 == a1_0) = true := beq_iff_eq.mpr c3
    have c3b1 : (a0_0 != a1_0) = false := bne_eq_false_iff_eq.mpr c3
    clear c3
    by_cases c4 : a0_1 = a1_1
    · rw [if_pos c4] at H
      have c4b0 : (a0_1 == a1_1) = true := beq_iff_eq.mpr c4
      have c4b1 : (a0_1 != a1_1) = false := bne_eq_false_iff_eq.mpr c4
      clear c4
      by_cases c5 : a0_2.toList = a1_2.toList
      · rw [if_pos c5] at H
        have c5b0 : (a0_2.toList == a1_2.toList) = true := beq_iff_eq.mpr c5
        have c5b1 : (a0_2.toList != a1_2.toList) = false := bne_eq_false_iff_eq.mpr c5
        clear c5
        by_cases c6 : a0_3 = a1_3
        · rw [if_pos c6] at H
          have c6b0 : (a0_3 == a1_3) = true := beq_iff_eq.mpr c6
          have c6b1 : (a0_3 != a1_3) = false := bne_eq_false_iff_eq.mpr c6
          clear c6
          obtain rfl := Option.some.inj H
          go_enter Try.func34, Try.ntmps34
          go_wp2_with (first | ((with_reducible refine gate_dst (N := 2) rfl ?_); refine BX 2 #[.int .i64 a0_0, .int .i64 a0_1, .string a0_2, .int .i64 a0_3] 55 ?_; intro gb175 hg w7 hbox hb; have BK175 := Aside0.mk (hbox); have GW175 : Aside0 (w.heap.size ≤ gb175) := WG hg (BB HB.out); have GE175 := GW175; replace HB := Aside0.mk (below_step (BB HB.out) hb); clear hb hbox hg) | ((with_reducible refine gate_dst (N := 3) rfl ?_); refine BX 3 #[.int .i64 a1_0, .int .i64 a1_1, .string a1_2, .int .i64 a1_3] 55 ?_; intro gb176 hg w8 hbox hb; have BK176 := Aside0.mk (hbox); have GW176 : Aside0 (w.heap.size ≤ gb176) := WG hg (BB1 HB.out GE175.out); have GE176 := GW176; have NB175_176 := NL BK175.out hg; have NB176_175 := NG BK175.out hg; replace BK175 := Aside0.mk (KB BK175.out hb); replace HB := Aside0.mk (below_step (BB1 HB.out GE175.out) hb); clear hb hbox hg; have hnb9 := NB175_176.out; have hnc9 := NB176_175.out; have hcz10 := blk_cell BK175.out; have hfz10 := blk_frozen BK175.out; have hcz11 := blk_cell BK176.out; have hfz11 := blk_frozen BK176.out))
          go_ret
          exact ⟨ER, (BB2 HB.out GE175.out GE176.out)⟩
        · rw [if_neg c6] at H
          have c6b0 : (a0_3 == a1_3) = false := beq_eq_false_iff_ne.mpr c6
          have c6b1 : (a0_3 != a1_3) = true := bne_iff_ne.mpr c6
          exact absurd ((Option.some.inj H).trans hr_.out) (by decide)
      · rw [if_neg c5] at H
        have c5b0 : (a0_2.toList == a1_2.toList) = false := beq_eq_false_iff_ne.mpr c5
        have c5b1 : (a0_2.toList != a1_2.toList) = true := bne_iff_ne.mpr c5
        exact absurd ((Option.some.inj H).trans hr_.out) (by decide)
    · rw [if_neg c4] at H
      have c4b0 : (a0_1 == a1_1) = false := beq_eq_false_iff_ne.mpr c4
      have c4b1 : (a0_1 != a1_1) = true := bne_iff_ne.mpr c4
      exact absurd ((Option.some.inj H).trans hr_.out) (by decide)
  · rw [if_neg c3] at H
    have c3b0 : (a0_0 == a1_0) = false := beq_eq_false_iff_ne.mpr c3
    have c3b1 : (a0_0 != a1_0) = true := bne_iff_ne.mpr c3
    exact absurd ((Option.some.inj H).trans hr_.out) (by decide)

end Go.Proofs.Ythgmmebkjhjgcaa.Pr

namespace Go.Proofs.Ythgmmebkjhjgcaa.Pr
open Go.RowKit Go.Proofs.YthgmmebkjhjgcaaW.PrintWords Go.Proofs.YthgmmebkjhjgcaaW.PrintLast Go.Proofs.YthgmmebkjhjgcaaW.PrintMore
attribute [local go_sem] max2_int min2_int max_two min_two max_three min_three max_four min_four
set_option linter.unusedVariables false
set_option linter.unusedSimpArgs false
def laws_eqUnitS.l0 : Nat → List (S55) → List (S55) → Int → Option (Bool)
  | 0, _, _, _ => none
  | k + 1, x0, x1, x5 => if x5 < (x0.length : Int) then (if 0 ≤ x5 then (if x5 < (x1.length : Int) then ((laws_eqUnit.f ((rd_T55 x0 x5).f0) ((rd_T55 x0 x5).f1) ((rd_T55 x0 x5).f2) ((rd_T55 x0 x5).f3) ((rd_T55 x1 x5).f0) ((rd_T55 x1 x5).f1) ((rd_T55 x1 x5).f2) ((rd_T55 x1 x5).f3)).bind fun t179 => (if t179 = true then (laws_eqUnitS.l0 k x0 x1 (wrap64 (x5 + 1))) else (some false))) else (none)) else (none)) else (some true)
def laws_eqUnitS.f (k : Nat) (l0 : List (S55)) (l1 : List (S55)) : Option (Bool) := if (l0.length : Int) = (l1.length : Int) then (laws_eqUnitS.l0 k l0 l1 0) else (some false)
def laws_eqUnitS.T6 : Bool × List (List Nat × List Nat) := (true, [([], []), ([], []), ([0, 1], [0, 1]), ([2], [2]), ([], []), ([], []), ([4, 5], [4, 5]), ([6], [6]), ([3, 7], [3, 7]), ([8], [8])])
def laws_eqUnitS.B6 : List Nat := [0, 0, 3, 7, 0, 0, 48, 112, 255, 511]
theorem laws_eqUnitS.tab6 : rtab .any (opsOf Try.f28 6) = laws_eqUnitS.T6 := by kernel_rfl
theorem laws_eqUnitS.bits6 : waitsOk laws_eqUnitS.T6.2 laws_eqUnitS.B6 = true := by kernel_rfl
set_option maxHeartbeats 8000000 in
set_option maxRecDepth 100000 in
theorem laws_eqUnitS.calls (k : Nat) (A0 : Option Addr) (c0 : Nat) (l0 : List (S55)) (A1 : Option Addr) (c1 : Nat) (l1 : List (S55)) (r : Bool) (w : World) (hr0 : Kd.C k55 w A0 l0.length l0) (hc0 : l0.length ≤ c0) (hr1 : Kd.C k55 w A1 l1.length l1) (hc1 : l1.length ≤ c1) (h : laws_eqUnitS.f k l0 l1 = some r) (hr_ : Aside0 (r = true) := by exact ⟨rfl⟩) :
    Calls Try.prog 28 #[.slice A0 l0.length c0, .slice A1 l1.length c1] w fun e w' => e = .returned (.bool r) ∧ Below w.heap.size w w' := by
  have hu55 := Try.underlying55
  have HR0 := Aside0.mk hr0
  have HC0 := Aside0.mk hc0
  clear hr0 hc0
  have HR1 := Aside0.mk hr1
  have HC1 := Aside0.mk hc1
  clear hr1 hc1
  have HB := Aside0.mk (Below.refl w.heap.size w)
  have H : (if (l0.length : Int) = (l1.length : Int) then (laws_eqUnitS.l0 k l0 l1 0) else (some false)) = some r := h
  clear h
  by_cases c3 : (l0.length : Int) = (l1.length : Int)
  · rw [if_pos c3] at H
    have c3b0 : ((l0.length : Int) == (l1.length : Int)) = true := beq_iff_eq.mpr c3
    have c3b1 : ((l0.length : Int) != (l1.length : Int)) = false := bne_eq_false_iff_eq.mpr c3
    have c3b2 : (l0.length == l1.length) = true := by first | simpa using c3 | (simp at c3 ⊢; omega)
    clear c3
    have H' := Aside0.mk H
    clear H
    go_enter Try.func28, Try.ntmps28
    go_wp2
    go_loopg [5] k (fun kq v5 w' => ∃ (x5_1 : Int), v5 = .int .i64 x5_1 ∧ Aside0 (laws_eqUnitS.l0 kq l0 l1 x5_1 = some r) ∧ Aside0 (kq ≤ k) ∧ Aside0 (Below w.heap.size w w'))
    case atStart => exact ⟨(0), FR, H', ⟨Nat.le_refl _⟩, ⟨(BB HB.out)⟩⟩
    case round =>
      clear H'
      try clear c1
      try clear c2
      try clear p2
      try clear c3
      try clear c3b0
      try clear c3b1
      try clear c3b2
      obtain ⟨x5_1, rfl, HA, HK1, HB⟩ := hrel
      cases gk with
      | zero => exact absurd HA.out (by simp [laws_eqUnitS.l0])
      | succ k1 =>
        have H := HA.out
        clear HA
        simp only [laws_eqUnitS.l0] at H
        by_cases c4 : x5_1 < (l0.length : Int)
        · rw [if_pos c4] at H
          have c4b0 : decide (x5_1 < (l0.length : Int)) = true := decide_eq_true c4
          clear c4
          by_cases c5 : 0 ≤ x5_1
          · rw [if_pos c5] at H
            have c5b0 : decide (0 ≤ x5_1) = true := decide_eq_true c5
            clear c5
            by_cases c6 : x5_1 < (l1.length : Int)
            · rw [if_pos c6] at H
              have c6b0 : decide (x5_1 < (l1.length : Int)) = true := decide_eq_true c6
              clear c6
              replace H := Option.bind_eq_some_iff.mp H
              obtain ⟨t179, A70, H⟩ := H
              replace H : (if t179 = true then (laws_eqUnitS.l0 k1 l0 l1 (wrap64 (x5_1 + 1))) else (some false)) = some r := H
              have A7 := Aside0.mk A70
              clear A70
              by_cases c8 : t179 = true
              · subst c8
                have H1 : (laws_eqUnitS.l0 k1 l0 l1 (wrap64 (x5_1 + 1))) = some r := by rw [if_pos rfl] at H; exact H
                clear H
                have H := H1
                clear H1
                have H' := Aside0.mk H
                clear H
                try go_wp2
                have n0_ := Aside0.mk (below_drew1 HB.out)
                clear HB
                have HB := n0_
                clear n0_
                have p177 : 0 ≤ (x5_1 : Int) := DT
                have q177 : x5_1 < (l0.length : Int) := DT
                obtain ⟨ad177, e177, hx177_0, hx177_1, hx177_2, hx177_3⟩ := at_T55 HR0.out x5_1 p177 q177
                have hw177_3 := hx177_3
                have hw177_2 := hx177_2
                have hw177_1 := hx177_1
                have hw177_0 := hx177_0
                cases e177
                replace hx177_0 := (HB.out.cell (World.block_lt_of_cell? w _ hx177_0)).trans hx177_0
                replace hx177_1 := (HB.out.cell (World.block_lt_of_cell? w _ hx177_1)).trans hx177_1
                replace hx177_2 := (HB.out.cell (World.block_lt_of_cell? w _ hx177_2)).trans hx177_2
                replace hx177_3 := (HB.out.cell (World.block_lt_of_cell? w _ hx177_3)).trans hx177_3
                replace p177 := eq_true p177
                replace q177 := eq_true q177
                have p178 : 0 ≤ (x5_1 : Int) := DT
                have q178 : x5_1 < (l1.length : Int) := DT
                obtain ⟨ad178, e178, hx178_0, hx178_1, hx178_2, hx178_3⟩ := at_T55 HR1.out x5_1 p178 q178
                have hw178_3 := hx178_3
                have hw178_2 := hx178_2
                have hw178_1 := hx178_1
                have hw178_0 := hx178_0
                cases e178
                replace hx178_0 := (HB.out.cell (World.block_lt_of_cell? w _ hx178_0)).trans hx178_0
                replace hx178_1 := (HB.out.cell (World.block_lt_of_cell? w _ hx178_1)).trans hx178_1
                replace hx178_2 := (HB.out.cell (World.block_lt_of_cell? w _ hx178_2)).trans hx178_2
                replace hx178_3 := (HB.out.cell (World.block_lt_of_cell? w _ hx178_3)).trans hx178_3
                replace p178 := eq_true p178
                replace q178 := eq_true q178
                refine start_ (n := 10) (S := fun w' => w'.cell? (ad177.add ((x5_1).toNat * 4)) = some (.int .i64 ((rd_T55 l0 x5_1).f0)) ∧ w'.cell? ⟨(ad177.add ((x5_1).toNat * 4)).block, (ad177.add ((x5_1).toNat * 4)).off + 1, none⟩ = some (.int .i64 ((rd_T55 l0 x5_1).f1)) ∧ w'.cell? ⟨(ad177.add ((x5_1).toNat * 4)).block, (ad177.add ((x5_1).toNat * 4)).off + 2, none⟩ = some (.string ((rd_T55 l0 x5_1).f2)) ∧ w'.cell? ⟨(ad177.add ((x5_1).toNat * 4)).block, (ad177.add ((x5_1).toNat * 4)).off + 3, none⟩ = some (.int .i64 ((rd_T55 l0 x5_1).f3)) ∧ w'.cell? (ad178.add ((x5_1).toNat * 4)) = some (.int .i64 ((rd_T55 l1 x5_1).f0)) ∧ w'.cell? ⟨(ad178.add ((x5_1).toNat * 4)).block, (ad178.add ((x5_1).toNat * 4)).off + 1, none⟩ = some (.int .i64 ((rd_T55 l1 x5_1).f1)) ∧ w'.cell? ⟨(ad178.add ((x5_1).toNat * 4)).block, (ad178.add ((x5_1).toNat * 4)).off + 2, none⟩ = some (.string ((rd_T55 l1 x5_1).f2)) ∧ w'.cell? ⟨(ad178.add ((x5_1).toNat * 4)).block, (ad178.add ((x5_1).toNat * 4)).off + 3, none⟩ = some (.int .i64 ((rd_T55 l1 x5_1).f3))) (ds := []) #[false, false, false, false, false, false, false, false, false, false] (by kernel_rfl) rfl rfl ⟨((HB.out.cell (World.block_lt_of_cell? w _ hw177_0)).trans hw177_0), ((HB.out.cell (World.block_lt_of_cell? w _ hw177_1)).trans hw177_1), ((HB.out.cell (World.block_lt_of_cell? w _ hw177_2)).trans hw177_2), ((HB.out.cell (World.block_lt_of_cell? w _ hw177_3)).trans hw177_3), ((HB.out.cell (World.block_lt_of_cell? w _ hw178_0)).trans hw178_0), ((HB.out.cell (World.block_lt_of_cell? w _ hw178_1)).trans hw178_1), ((HB.out.cell (World.block_lt_of_cell? w _ hw178_2)).trans hw178_2), ((HB.out.cell (World.block_lt_of_cell? w _ hw178_3)).trans hw178_3)⟩ (fun hHeld => ?_); refine with_tabW laws_eqUnitS.tab6 laws_eqUnitS.bits6 (fun HT_ HW_ => ?_)
                generalize wr.drew = w9 at HB hx177_0 hx177_1 hx177_2 hx177_3 hx178_0 hx178_1 hx178_2 hx178_3 hHeld ⊢
                refine pure_ (i := 0) (N := some 17) (v := ?_) (a' := ?_) #[true, false, false, false, false, false, false, false, false, false] rfl rfl (any_of HT_.out (by kernel_rfl)) (fun _ _ _ h => h) (Or.inl ⟨by rfl, ?_⟩) ?_ ?_
                rotate_left
                · intro w'
                  go_simp
                  with_reducible rfl
                rotate_left
                · simp only [Act.put, List.setIfInBounds_toArray, List.set_cons_zero, List.set_cons_succ, i64_w, i32_w]
                  rfl
                refine pure_ (i := 1) (N := some 18) (v := ?_) (a' := ?_) #[true, true, false, false, false, false, false, false, false, false] rfl rfl (any_of HT_.out (by kernel_rfl)) (fun _ _ _ h => h) (Or.inl ⟨by rfl, ?_⟩) ?_ ?_
                rotate_left
                · intro w'
                  go_simp
                  with_reducible rfl
                rotate_left
                · simp only [Act.put, List.setIfInBounds_toArray, List.set_cons_zero, List.set_cons_succ, i64_w, i32_w]
                  rfl
                refine pure_ (i := 2) (N := some 19) (v := ?_) (a' := ?_) #[true, true, true, false, false, false, false, false, false, false] rfl rfl (any_of HT_.out (by kernel_rfl)) (fun _ _ _ h => h) (Or.inl ⟨by rfl, ?_⟩) ?_ ?_
                rotate_left
                · intro w'
                  go_simp
                  with_reducible rfl
                rotate_left
                · simp only [Act.put, List.setIfInBounds_toArray, List.set_cons_zero, List.set_cons_succ, i64_w, i32_w]
                  rfl
                refine pure_ (i := 4) (N := some 21) (v := ?_) (a' := ?_) #[true, true, true, false, true, false, false, false, false, false] rfl rfl (any_of HT_.out (by kernel_rfl)) (fun _ _ _ h => h) (Or.inl ⟨by rfl, ?_⟩) ?_ ?_
                rotate_left
                · intro w'
                  go_simp
                  with_reducible rfl
                rotate_left
                · simp only [Act.put, List.setIfInBounds_toArray, List.set_cons_zero, List.set_cons_succ, i64_w, i32_w]
                  rfl
                refine pure_ (i := 5) (N := some 22) (v := ?_) (a' := ?_) #[true, true, true, false, true, true, false, false, false, false] rfl rfl (any_of HT_.out (by kernel_rfl)) (fun _ _ _ h => h) (Or.inl ⟨by rfl, ?_⟩) ?_ ?_
                rotate_left
                · intro w'
                  go_simp
                  with_reducible rfl
                rotate_left
                · simp only [Act.put, List.setIfInBounds_toArray, List.set_cons_zero, List.set_cons_succ, i64_w, i32_w]
                  rfl
                refine pure_ (i := 6) (N := some 23) (v := ?_) (a' := ?_) #[true, true, true, false, true, true, true, false, false, false] rfl rfl (any_of HT_.out (by kernel_rfl)) (fun _ _ _ h => h) (Or.inl ⟨by rfl, ?_⟩) ?_ ?_
                rotate_left
                · intro w'
                  go_simp
                  with_reducible rfl
                rotate_left
                · simp only [Act.put, List.setIfInBounds_toArray, List.set_cons_zero, List.set_cons_succ, i64_w, i32_w]
                  rfl
                refine take_ (i := 3) (N := some 20) (v := ?_) (a' := ?_) #[true, true, true, true, true, true, true, false, false, false] rfl rfl (take_ofW HT_.out HW_.out (by kernel_rfl)) (fun _ _ _ h => h) (Or.inl ⟨by rfl, ?_⟩) hHeld ?_ ?_
                rotate_left
                · rintro w' ⟨s0, s1, s2, s3, s4, s5, s6, s7⟩
                  go_simp
                  with_reducible rfl
                rotate_left
                · simp only [Act.put, List.setIfInBounds_toArray, List.set_cons_zero, List.set_cons_succ, i64_w, i32_w]
                  rfl
                refine take_ (i := 7) (N := some 24) (v := ?_) (a' := ?_) #[true, true, true, true, true, true, true, true, false, false] rfl rfl (take_ofW HT_.out HW_.out (by kernel_rfl)) (fun _ _ _ h => h) (Or.inl ⟨by rfl, ?_⟩) hHeld ?_ ?_
                rotate_left
                · rintro w' ⟨s0, s1, s2, s3, s4, s5, s6, s7⟩
                  go_simp
                  with_reducible rfl
                rotate_left
                · simp only [Act.put, List.setIfInBounds_toArray, List.set_cons_zero, List.set_cons_succ, i64_w, i32_w]
                  rfl
                refine one_ (i := 8) (N := some 25) #[true, true, true, true, true, true, true, true, true, false] rfl rfl (one_of HT_.out (by kernel_rfl)) (by decide) (fun K hK => ?_)
                refine goes_ Try.func34 (by kernel_rfl) rfl #[.agg #[.int .i64 ((rd_T55 l0 x5_1).f0), .int .i64 ((rd_T55 l0 x5_1).f1), .string ((rd_T55 l0 x5_1).f2), .int .i64 ((rd_T55 l0 x5_1).f3)], .agg #[.int .i64 ((rd_T55 l1 x5_1).f0), .int .i64 ((rd_T55 l1 x5_1).f1), .string ((rd_T55 l1 x5_1).f2), .int .i64 ((rd_T55 l1 x5_1).f3)]] (by rfl) rfl rfl (by (try simp only [List.map_toArray, List.map_cons, List.map_nil]); first | done | rfl | (simp only [List.length_drop, List.length_take]; rfl)) ?_
                with_reducible refine (laws_eqUnit.calls ((rd_T55 l0 x5_1).f0) ((rd_T55 l0 x5_1).f1) ((rd_T55 l0 x5_1).f2) ((rd_T55 l0 x5_1).f3) ((rd_T55 l1 x5_1).f0) ((rd_T55 l1 x5_1).f1) ((rd_T55 l1 x5_1).f2) ((rd_T55 l1 x5_1).f3) true _ A7.out).mono ?_
                rintro e w10 ⟨rfl, hb⟩
                refine ⟨_, rfl, ?_⟩
                have n0_ := Aside0.mk (below_step (BB HB.out) hb)
                clear HB
                have HB := n0_
                clear n0_
                (try clear hb)
                (try clear hb2)
                (try clear hk)
                (try clear hi)
                refine hK.out _ _ ⟨((HB.out.cell (World.block_lt_of_cell? w _ hw177_0)).trans hw177_0), ((HB.out.cell (World.block_lt_of_cell? w _ hw177_1)).trans hw177_1), ((HB.out.cell (World.block_lt_of_cell? w _ hw177_2)).trans hw177_2), ((HB.out.cell (World.block_lt_of_cell? w _ hw177_3)).trans hw177_3), ((HB.out.cell (World.block_lt_of_cell? w _ hw178_0)).trans hw178_0), ((HB.out.cell (World.block_lt_of_cell? w _ hw178_1)).trans hw178_1), ((HB.out.cell (World.block_lt_of_cell? w _ hw178_2)).trans hw178_2), ((HB.out.cell (World.block_lt_of_cell? w _ hw178_3)).trans hw178_3)⟩ (fun hHeld => ?_)
                clear hK K
                refine norm_ (a' := ?_) ?_ ?_
                rotate_left
                · show Act.put _ (some 25) _ = _
                  simp only [Act.put, List.setIfInBounds_toArray, List.set_cons_zero, List.set_cons_succ, i64_w, i32_w]
                  rfl
                refine pure_ (i := 9) (N := some 26) (v := ?_) (a' := ?_) #[true, true, true, true, true, true, true, true, true, true] rfl rfl (any_of HT_.out (by kernel_rfl)) (fun _ _ _ h => h) (Or.inl ⟨by rfl, ?_⟩) ?_ ?_
                rotate_left
                · intro w'
                  go_simp
                  with_reducible rfl
                rotate_left
                · simp only [Act.put, List.setIfInBounds_toArray, List.set_cons_zero, List.set_cons_succ, i64_w, i32_w]
                  rfl
                refine done_ (done_of HT_.out (by kernel_rfl)) ?_
                try go_wp2
                go_roundg k1
                case measure => have := HK1.out; omega
                case rel => exact ⟨(wrap64 (x5_1 + 1)), FR, H', ⟨by have := HK1.out; omega⟩, ⟨(BB HB.out)⟩⟩
              · replace c8 := Bool.eq_false_iff.mpr c8
                subst c8
                have H1 : (some false) = some r := by rw [if_neg (show ¬ (false = true) by decide)] at H; exact H
                clear H
                have H := H1
                clear H1
                exact absurd ((Option.some.inj H).trans hr_.out) (by decide)
            · rw [if_neg c6] at H
              exact absurd H (by simp)
          · rw [if_neg c5] at H
            exact absurd H (by simp)
        · rw [if_neg c4] at H
          have c4b0 : decide (x5_1 < (l0.length : Int)) = false := decide_eq_false c4
          clear c4
          obtain rfl := Option.some.inj H
          go_wp2
          go_ret
          exact ⟨ER, (BB HB.out)⟩
  · rw [if_neg c3] at H
    have c3b0 : ((l0.length : Int) == (l1.length : Int)) = false := beq_eq_false_iff_ne.mpr c3
    have c3b1 : ((l0.length : Int) != (l1.length : Int)) = true := bne_iff_ne.mpr c3
    have c3b2 : (l0.length == l1.length) = false := by first | simpa using c3 | (simp at c3 ⊢; omega)
    exact absurd ((Option.some.inj H).trans hr_.out) (by decide)

end Go.Proofs.Ythgmmebkjhjgcaa.Pr

namespace Go.Proofs.Ythgmmebkjhjgcaa.Lw
open Go.RowKit Go.Proofs.YthgmmebkjhjgcaaW.PrintWords Go.Proofs.Ythgmmebkjhjgcaa.Pr Go.Proofs.Ythgmmebkjhjgcaa.Evs
set_option linter.unusedVariables false
abbrev LUnit := S58
abbrev ImUnit := S55
def lnUnit (x : ImUnit) : Prop := True
def wtUnit (x : LUnit) : Nat := x.f2.size
def wtUnitS : List LUnit → Nat
  | [] => 0
  | x :: s => 1 + wtUnit x + wtUnitS s
def okUnit (x : LUnit) : Prop := x.f2.size ≤ maxLen
theorem wtUnitS_len (l : List LUnit) : l.length ≤ wtUnitS l := by
  induction l with
  | nil => simp
  | cons x s ih => simp [wtUnitS]; omega
def toUnit (x : LUnit) : ImUnit := ⟨x.f0, x.f1, x.f2, x.f3⟩
theorem rd58 (p s : List S58) (x : S58) : rd_T58 (p ++ x :: s) (p.length : Int) = x := by unfold rd_T58; exact getD_mid' p s x _ _ rfl
theorem rd55 (p s : List S55) (x : S55) : rd_T55 (p ++ x :: s) (p.length : Int) = x := by unfold rd_T55; exact getD_mid' p s x _ _ rfl
theorem szUnit_ev (x : LUnit) (left : Int) (h0 : 0 ≤ left) (h1 : left ≤ 1048576) (hx : okUnit x) : ∃ r, laws_szUnit.f (x.f0) (x.f1) (x.f2) (x.f3) left = some r ∧ (r = -1 ∨ (0 ≤ r ∧ r + wtUnit x = left)) := by
  unfold okUnit maxLen at hx
  unfold laws_szUnit.f wtUnit
  have e0 : wrap64 (left - (x.f2.size : Int)) = left - (x.f2.size : Int) := wrap_in (by omega) (by omega)
  simp only [e0]
  by_cases c0 : left - (x.f2.size : Int) < 0
  · exact ⟨-1, by simp only [if_pos c0], .inl rfl⟩
  exact ⟨left - (x.f2.size : Int), by simp only [if_neg c0], .inr ⟨by omega, by omega⟩⟩
theorem szUnitS_loop (s : List LUnit) : ∀ (p : List LUnit) (left : Int), 0 ≤ left → left + s.length ≤ 1048576 → p.length + s.length ≤ maxLen → (∀ x ∈ s, okUnit x) →
    ∃ r, Ev (fun k => laws_szUnitS.l0 k (p ++ s) left (p.length : Int)) r ∧ (r = -1 ∨ (0 ≤ r ∧ r + wtUnitS s = left + s.length)) := by
  induction s with
  | nil =>
    intro p left h0 h1 hl ho
    refine ⟨left, ev_step (fun k => laws_szUnitS.l0.eq_2 _ _ _ k) (ev_neg (by simp) (ev_some _)), .inr ⟨h0, by simp [wtUnitS]⟩⟩
  | cons x s ih =>
    intro p left h0 h1 hl ho
    unfold maxLen at hl
    simp at h1 hl
    obtain ⟨t, ht, hr⟩ := szUnit_ev x left h0 (by omega) (ho x (by simp))
    by_cases c : t < 0
    · refine ⟨-1, ev_step (fun k => laws_szUnitS.l0.eq_2 _ _ _ k) (ev_pos (by simp; omega) (ev_pos (by omega) (ev_call (a := t) (by rw [rd58]; exact ht) (ev_pos c (ev_some _))))), .inl rfl⟩
    · obtain ⟨r, hE, hR⟩ := ih (p ++ [x]) t (by omega) (by omega) (by simp; unfold maxLen; omega) (fun y hy => ho y (by simp [hy]))
      refine ⟨r, ev_step (fun k => laws_szUnitS.l0.eq_2 _ _ _ k) (ev_pos (by simp; omega) (ev_pos (by omega) (ev_call (a := t) (by rw [rd58]; exact ht) (ev_neg c ?_)))), ?_⟩
      · rw [wrap_succ (by omega) (by omega)]
        simpa using hE
      · rcases hR with hR | hR
        · exact .inl hR
        · rcases hr with hr | hr
          · omega
          · refine .inr ⟨hR.1, ?_⟩
            simp [wtUnitS]
            omega
theorem szUnitS_ev (l : List LUnit) (hl : l.length ≤ maxLen) (ho : ∀ x ∈ l, okUnit x) (left : Int) (h0 : 0 ≤ left) (h1 : left ≤ 1048576) :
    ∃ r, Ev (fun k => laws_szUnitS.f k l left) r ∧ (r = -1 ∨ (0 ≤ r ∧ r + wtUnitS l = left)) := by
  unfold laws_szUnitS.f
  unfold maxLen at hl
  have e : wrap64 (left - (l.length : Int)) = left - l.length := wrap_in (by omega) (by omega)
  rw [e]
  by_cases c : left - (l.length : Int) < 0
  · exact ⟨-1, ev_pos c (ev_some _), .inl rfl⟩
  · obtain ⟨r, hE, hR⟩ := szUnitS_loop l [] (left - l.length) (by omega) (by omega) (by simp; unfold maxLen; omega) ho
    refine ⟨r, ev_neg c (by simpa using hE), ?_⟩
    omega
theorem toUnitS_loop (s : List LUnit) : ∀ (p : List LUnit), p.length + s.length < 9223372036854775807 →
    Ev (fun k => laws_toUnitS.l0 k (p ++ s) (p.map toUnit ++ List.replicate s.length z55) (p.length : Int)) ((p ++ s).map toUnit) := by
  induction s with
  | nil => intro p hl; exact ev_step (fun k => laws_toUnitS.l0.eq_2 _ _ _ k) (ev_neg (by simp) (ev_eq (ev_some _) (by simp)))
  | cons x s ih =>
    intro p hl
    simp at hl
    refine ev_step (fun k => laws_toUnitS.l0.eq_2 _ _ _ k) (ev_pos (by simp; omega) (ev_pos (by omega) (ev_call (by rw [rd58]; rfl) (ev_pos (by simp; omega) ?_))))
    rw [wrap_succ (by omega) (by omega)]
    have h := ih (p ++ [x]) (by simp; omega)
    have e : (p.map toUnit ++ List.replicate (x :: s).length z55).set ((p.length : Int)).toNat (toUnit x) = (p ++ [x]).map toUnit ++ List.replicate s.length z55 := by
      rw [List.length_cons, List.replicate_succ, set_mid _ _ _ _ _ (by simp)]
      simp
    refine ev_eq (g := fun k => laws_toUnitS.l0 k (p ++ x :: s) ((p.map toUnit ++ List.replicate (x :: s).length z55).set ((p.length : Int)).toNat (toUnit x)) ((p.length : Int) + 1)) ?_ rfl
    rw [e]
    simpa using h
theorem toUnitS_ev (l : List LUnit) (hl : l.length ≤ 1048576) : Ev (fun k => laws_toUnitS.f k l) (l.map toUnit) := by
  unfold laws_toUnitS.f
  refine ev_pos (by omega) (ev_pos (by omega) ?_)
  have h := toUnitS_loop l [] (by simp; omega)
  simpa using h
theorem toUnitS_evw (l : List LUnit) (hl : wtUnitS l ≤ 1048576) : Ev (fun k => laws_toUnitS.f k l) (l.map toUnit) := toUnitS_ev l (by have := wtUnitS_len l; omega)
theorem eqUnit_refl (x : ImUnit) : laws_eqUnit.f (x.f0) (x.f1) (x.f2) (x.f3) (x.f0) (x.f1) (x.f2) (x.f3) = some true := by unfold laws_eqUnit.f; simp
theorem eqUnitS_loop (s : List ImUnit) : ∀ (p : List ImUnit), p.length + s.length < 9223372036854775807 → Ev (fun k => laws_eqUnitS.l0 k (p ++ s) (p ++ s) (p.length : Int)) true := by
  induction s with
  | nil => intro p hl; exact ev_step (fun k => laws_eqUnitS.l0.eq_2 _ _ _ k) (ev_neg (by simp) (ev_some _))
  | cons x s ih =>
    intro p hl
    simp at hl
    refine ev_step (fun k => laws_eqUnitS.l0.eq_2 _ _ _ k) (ev_pos (by simp; omega) (ev_pos (by omega) (ev_pos (by simp; omega) (ev_call (by rw [rd55]; exact eqUnit_refl x) (ev_pos rfl ?_)))))
    rw [wrap_succ (by omega) (by omega)]
    simpa using ih (p ++ [x]) (by simp; omega)
theorem eqUnitS_ev (l : List ImUnit) (hl : l.length < 9223372036854775807) : Ev (fun k => laws_eqUnitS.f k l l) true := by
  unfold laws_eqUnitS.f
  refine ev_pos rfl ?_
  simpa using eqUnitS_loop l [] (by simp; omega)
def bdUnit (x : ImUnit) : Prop := (x.f2.size ≤ 1048576)
theorem wtUnitS_at {l : List LUnit} {x : LUnit} (h : x ∈ l) : 1 + wtUnit x ≤ wtUnitS l := by
  induction l with
  | nil => cases h
  | cons y l ih =>
    rcases List.mem_cons.1 h with rfl | h
    · simp [wtUnitS]
    · have := ih h
      simp [wtUnitS]
      omega
theorem bd_toUnit (x : LUnit) (h : wtUnit x ≤ 1048576) : bdUnit (toUnit x) := by
  unfold wtUnit at h
  exact (show x.f2.size ≤ 1048576 by omega)
theorem bd_toUnitS (l : List LUnit) (h : wtUnitS l ≤ 1048576) : (l.map toUnit).length ≤ 1048576 ∧ ∀ y ∈ l.map toUnit, bdUnit y := by
  have hl := wtUnitS_len l
  refine ⟨by simp; omega, fun y hy => ?_⟩
  obtain ⟨z, hz, rfl⟩ := List.mem_map.1 hy
  have := wtUnitS_at hz
  exact bd_toUnit z (by omega)
theorem ln_bdUnit {x : ImUnit} (h : bdUnit x) : lnUnit x := trivial
end Go.Proofs.Ythgmmebkjhjgcaa.Lw

namespace Go.Proofs.Ythgmmebkjhjgcaa.Pr
open Go.RowKit Go.Proofs.YthgmmebkjhjgcaaW.PrintWords Go.Proofs.YthgmmebkjhjgcaaW.PrintLast Go.Proofs.YthgmmebkjhjgcaaW.PrintMore
attribute [local go_sem] max2_int min2_int max_two min_two max_three min_three max_four min_four
set_option linter.unusedVariables false
set_option linter.unusedSimpArgs false
def laws_szHost.f (k : Nat) (a0_0 : Int) (a0_1 : Bool) (l0_2 : List (S58)) (a1 : Int) : Option (Int) := (laws_szUnitS.f k l0_2 a1).bind fun t105 => (if t105 < 0 then (some (-1)) else (some t105))
set_option maxHeartbeats 8000000 in
set_option maxRecDepth 100000 in
theorem laws_szHost.calls (k : Nat) (a0_0 : Int) (a0_1 : Bool) (A0_2 : Option Addr) (c0_2 : Nat) (l0_2 : List (S58)) (a1 : Int) (r : Int) (w : World) (hr0_2 : Kd.C k58 w A0_2 l0_2.length l0_2) (hc0_2 : l0_2.length ≤ c0_2) (h : laws_szHost.f k a0_0 a0_1 l0_2 a1 = some r) :
    Calls Try.prog 13 #[.agg #[.int .i64 a0_0, .bool a0_1, .slice A0_2 l0_2.length c0_2], .int .i64 a1] w fun e w' => e = .returned (.int .i64 r) ∧ Below w.heap.size w w' := by
  have hu37 := Try.underlying37
  have HR0_2 := Aside0.mk hr0_2
  have HC0_2 := Aside0.mk hc0_2
  clear hr0_2 hc0_2
  have HB := Aside0.mk (Below.refl w.heap.size w)
  have H : ((laws_szUnitS.f k l0_2 a1).bind fun t105 => (if t105 < 0 then (some (-1)) else (some t105))) = some r := h
  clear h
  replace H := Option.bind_eq_some_iff.mp H
  obtain ⟨t105, A30, H⟩ := H
  replace H : (if t105 < 0 then (some (-1)) else (some t105)) = some r := H
  have A3 := Aside0.mk A30
  clear A30
  by_cases c4 : t105 < 0
  · rw [if_pos c4] at H
    have c4b0 : decide (t105 < 0) = true := decide_eq_true c4
    clear c4
    obtain rfl := Option.some.inj H
    go_enter Try.func13, Try.ntmps13
    go_wp2_with (first | ((with_reducible refine gate_dst (N := 2) rfl ?_); refine BX 2 #[.int .i64 a0_0, .bool a0_1, .slice A0_2 l0_2.length c0_2] 37 ?_; intro gb104 hg w5 hbox hb; have BK104 := Aside0.mk (hbox); have GW104 : Aside0 (w.heap.size ≤ gb104) := WG hg (BB HB.out); have GE104 := GW104; replace HB := Aside0.mk (below_step (BB HB.out) hb); clear hb hbox hg; have hcz6 := blk_cell BK104.out; have hfz6 := blk_frozen BK104.out) | ((with_reducible refine gate_callee (f := 20) rfl ?_); refine GL (some 8) rfl rfl Try.func20 #[.slice A0_2 l0_2.length c0_2, .int .i64 a1] rfl ?_; (with_reducible refine (laws_szUnitS.calls k _ _ l0_2 a1 t105 _ ?side1 ?side2 A3.out).mono ?_); (case side1 => exact CC (Kd.C_below HR0_2.out HB.out)); (case side2 => exact HC0_2.out); rintro e w7 ⟨rfl, hb⟩; refine ⟨_, rfl, ?_⟩; replace BK104 := Aside0.mk (KB BK104.out hb); replace HB := Aside0.mk (below_step (BB1 HB.out GE104.out) hb); (try clear hb)))
    go_ret
    exact ⟨ER, (BB1 HB.out GE104.out)⟩
  · rw [if_neg c4] at H
    have c4b0 : decide (t105 < 0) = false := decide_eq_false c4
    clear c4
    obtain rfl := Option.some.inj H
    go_enter Try.func13, Try.ntmps13
    go_wp2_with (first | ((with_reducible refine gate_dst (N := 2) rfl ?_); refine BX 2 #[.int .i64 a0_0, .bool a0_1, .slice A0_2 l0_2.length c0_2] 37 ?_; intro gb104 hg w8 hbox hb; have BK104 := Aside0.mk (hbox); have GW104 : Aside0 (w.heap.size ≤ gb104) := WG hg (BB HB.out); have GE104 := GW104; replace HB := Aside0.mk (below_step (BB HB.out) hb); clear hb hbox hg; have hcz9 := blk_cell BK104.out; have hfz9 := blk_frozen BK104.out) | ((with_reducible refine gate_callee (f := 20) rfl ?_); refine GL (some 8) rfl rfl Try.func20 #[.slice A0_2 l0_2.length c0_2, .int .i64 a1] rfl ?_; (with_reducible refine (laws_szUnitS.calls k _ _ l0_2 a1 t105 _ ?side1 ?side2 A3.out).mono ?_); (case side1 => exact CC (Kd.C_below HR0_2.out HB.out)); (case side2 => exact HC0_2.out); rintro e w10 ⟨rfl, hb⟩; refine ⟨_, rfl, ?_⟩; replace BK104 := Aside0.mk (KB BK104.out hb); replace HB := Aside0.mk (below_step (BB1 HB.out GE104.out) hb); (try clear hb)))
    go_ret
    exact ⟨ER, (BB1 HB.out GE104.out)⟩

end Go.Proofs.Ythgmmebkjhjgcaa.Pr

namespace Go.Proofs.Ythgmmebkjhjgcaa.Pr
open Go.RowKit Go.Proofs.YthgmmebkjhjgcaaW.PrintWords Go.Proofs.YthgmmebkjhjgcaaW.PrintLast Go.Proofs.YthgmmebkjhjgcaaW.PrintMore
attribute [local go_sem] max2_int min2_int max_two min_two max_three min_three max_four min_four
set_option linter.unusedVariables false
set_option linter.unusedSimpArgs false
def laws_toHost.f (k : Nat) (a0_0 : Int) (a0_1 : Bool) (l0_2 : List (S58)) : Option (Int × Bool × (List (S55))) := (laws_toUnitS.f k l0_2).bind fun t160 => (some (a0_0, a0_1, t160))
set_option maxHeartbeats 8000000 in
set_option maxRecDepth 100000 in
theorem laws_toHost.calls (k : Nat) (a0_0 : Int) (a0_1 : Bool) (A0_2 : Option Addr) (c0_2 : Nat) (l0_2 : List (S58)) (r1 : Int) (r2 : Bool) (r3 : List (S55)) (w : World) (hr0_2 : Kd.C k58 w A0_2 l0_2.length l0_2) (hc0_2 : l0_2.length ≤ c0_2) (h : laws_toHost.f k a0_0 a0_1 l0_2 = some (r1, r2, r3)) :
    Calls Try.prog 15 #[.agg #[.int .i64 a0_0, .bool a0_1, .slice A0_2 l0_2.length c0_2]] w fun e w' => ∃ v2_ : Value, e = .returned (.agg #[.int .i64 r1, .bool r2, v2_]) ∧ Kd.R k55 55 w' w.heap.size (fun _ => True) v2_ r3 ∧ Below w.heap.size w w' := by
  have hu37 := Try.underlying37
  have hu41 := Try.underlying41
  have HR0_2 := Aside0.mk hr0_2
  have HC0_2 := Aside0.mk hc0_2
  clear hr0_2 hc0_2
  have HB := Aside0.mk (Below.refl w.heap.size w)
  have H : ((laws_toUnitS.f k l0_2).bind fun t160 => (some (a0_0, a0_1, t160))) = some (r1, r2, r3) := h
  clear h
  replace H := Option.bind_eq_some_iff.mp H
  obtain ⟨t160, A20, H⟩ := H
  replace H : (some (a0_0, a0_1, t160)) = some (r1, r2, r3) := H
  have A2 := Aside0.mk A20
  clear A20
  simp only [Option.some.injEq, Prod.mk.injEq] at H
  obtain ⟨rfl, rfl, rfl⟩ := H
  go_enter Try.func15, Try.ntmps15
  go_wp2_with (first | ((with_reducible refine gate_dst (N := 1) rfl ?_); refine BX 1 #[.int .i64 a0_0, .bool a0_1, .slice A0_2 l0_2.length c0_2] 37 ?_; intro gb157 hg w3 hbox hb; have BK157 := Aside0.mk (hbox); have GW157 : Aside0 (w.heap.size ≤ gb157) := WG hg (BB HB.out); have GE157 := GW157; replace HB := Aside0.mk (below_step (BB HB.out) hb); clear hb hbox hg) | ((with_reducible refine gate_dst (N := 2) rfl ?_); refine BX 2 #[.int .i64 0, .bool false, .slice none 0 0] 41 ?_; intro gb158 hg w4 hbox hb; have BK158 := Aside0.mk (hbox); have GW158 : Aside0 (w.heap.size ≤ gb158) := WG hg (BB1 HB.out GE157.out); have GE158 := GW158; have NB157_158 := NL BK157.out hg; have NB158_157 := NG BK157.out hg; replace BK157 := Aside0.mk (KB BK157.out hb); replace HB := Aside0.mk (below_step (BB1 HB.out GE157.out) hb); clear hb hbox hg) | ((with_reducible refine gate_dst (N := 3) rfl ?_); refine BX 3 #[.int .i64 0, .bool false, .slice none 0 0] 41 ?_; intro gb159 hg w5 hbox hb; have BK159 := Aside0.mk (hbox); have GW159 : Aside0 (w.heap.size ≤ gb159) := WG hg (BB2 HB.out GE157.out GE158.out); have GE159 := GW159; have NB157_159 := NL BK157.out hg; have NB159_157 := NG BK157.out hg; have NB158_159 := NL BK158.out hg; have NB159_158 := NG BK158.out hg; replace BK157 := Aside0.mk (KB BK157.out hb); replace BK158 := Aside0.mk (KB BK158.out hb); replace HB := Aside0.mk (below_step (BB2 HB.out GE157.out GE158.out) hb); clear hb hbox hg; have hnb6 := NB157_158.out; have hnc6 := NB158_157.out; have hnb7 := NB157_159.out; have hnc7 := NB159_157.out; have hcz8 := blk_cell BK157.out; have hfz8 := blk_frozen BK157.out; have hnb9 := NB159_158.out; have hnc9 := NB158_159.out; have hcz10 := blk_cell BK159.out; have hfz10 := blk_frozen BK159.out) | ((with_reducible refine gate_callee (f := 22) rfl ?_); refine GL (some 12) rfl rfl Try.func22 #[.slice A0_2 l0_2.length c0_2] rfl ?_; (with_reducible refine (laws_toUnitS.calls k _ _ l0_2 t160 _ ?side1 ?side2 A2.out).mono ?_); (case side1 => exact Kd.C_below HR0_2.out (BB3 HB.out GE157.out GE158.out GE159.out)); (case side2 => exact HC0_2.out); rintro e w11 ⟨v161, rfl, ho0, hb⟩; refine ⟨_, rfl, ?_⟩; have n0_ := Aside0.mk (Kd.R_lower ho0 (below_size (BB3 HB.out GE157.out GE158.out GE159.out))); have n1_ := Aside0.mk (blk_below (g := gb157) (o := .cells #[.int .i64 a0_0, .bool a0_1, .slice A0_2 l0_2.length c0_2] 37 (0, 0)) (by (with_reducible repeat (first | refine blk_drewN ?_ _ | refine blk_drew ?_ | refine blk_alloc ?_ _)); refine blk_far ?_ NB157_159.out _; (with_reducible repeat (first | refine blk_drewN ?_ _ | refine blk_drew ?_ | refine blk_alloc ?_ _)); refine blk_far ?_ NB157_159.out _; (with_reducible repeat (first | refine blk_drewN ?_ _ | refine blk_drew ?_ | refine blk_alloc ?_ _)); exact BK157.out) hb); have n2_ := Aside0.mk (blk_below (g := gb158) (o := .cells #[.int .i64 0, .bool false, .slice none 0 0] 41 (0, 0)) (by (with_reducible repeat (first | refine blk_drewN ?_ _ | refine blk_drew ?_ | refine blk_alloc ?_ _)); refine blk_far ?_ NB158_159.out _; (with_reducible repeat (first | refine blk_drewN ?_ _ | refine blk_drew ?_ | refine blk_alloc ?_ _)); refine blk_far ?_ NB158_159.out _; (with_reducible repeat (first | refine blk_drewN ?_ _ | refine blk_drew ?_ | refine blk_alloc ?_ _)); exact BK158.out) hb); have n3_ := Aside0.mk (blk_below (g := gb159) (o := .cells #[.int .i64 a0_0, .bool a0_1, .slice none 0 0] 41 (0, 0)) (by (with_reducible repeat (first | refine blk_drewN ?_ _ | refine blk_drew ?_ | refine blk_alloc ?_ _)); refine blk_put (cs := #[.int .i64 a0_0, .bool false, .slice none 0 0]) ?_ 1 _ rfl; (with_reducible repeat (first | refine blk_drewN ?_ _ | refine blk_drew ?_ | refine blk_alloc ?_ _)); refine blk_put (cs := #[.int .i64 0, .bool false, .slice none 0 0]) ?_ 0 _ rfl; (with_reducible repeat (first | refine blk_drewN ?_ _ | refine blk_drew ?_ | refine blk_alloc ?_ _)); exact BK159.out) hb); have n4_ := Aside0.mk (below_step (BB3 HB.out GE157.out GE158.out GE159.out) hb); clear BK157; clear BK158; clear BK159; clear HB; have HO162 := n0_; have BK157 := n1_; have BK158 := n2_; have BK159 := n3_; have HB := n4_; clear n0_ n1_ n2_ n3_ n4_; (try clear hb); (try clear ho0); obtain ⟨Ao12, co12, eo12⟩ := Kd.R_slice HO162.out; subst eo12; have hcz13 := blk_cell BK159.out; have hfz13 := blk_frozen BK159.out; have hcz14 := blk_cell BK158.out; have hfz14 := blk_frozen BK158.out))
  refine bodyPost_ret (results_cell_row rfl _ _ gb158 41 #[.int .i64 a0_0, .bool a0_1, .slice Ao12 t160.length co12] (0, 0) _ rfl (by (with_reducible repeat (first | refine blk_drewN ?_ _ | refine blk_drew ?_ | refine blk_alloc ?_ _)); refine blk_put (cs := #[.int .i64 a0_0, .bool a0_1, .slice none 0 0]) ?_ 2 _ rfl; (with_reducible repeat (first | refine blk_drewN ?_ _ | refine blk_drew ?_ | refine blk_alloc ?_ _)); refine blk_put (cs := #[.int .i64 a0_0, .bool false, .slice none 0 0]) ?_ 1 _ rfl; (with_reducible repeat (first | refine blk_drewN ?_ _ | refine blk_drew ?_ | refine blk_alloc ?_ _)); refine blk_put (cs := #[.int .i64 0, .bool false, .slice none 0 0]) ?_ 0 _ rfl; (with_reducible repeat (first | refine blk_drewN ?_ _ | refine blk_drew ?_ | refine blk_alloc ?_ _)); refine blk_far ?_ NB158_159.out _; (with_reducible repeat (first | refine blk_drewN ?_ _ | refine blk_drew ?_ | refine blk_alloc ?_ _)); exact BK158.out) Try.underlying41 rfl (by kernel_rfl)) rfl ?_
  exact ⟨_, ER, by (with_reducible repeat (first | apply Kd.R_alloc | apply Kd.R_drewN | apply Kd.R_drew)); exact Kd.R_mono (Kd.R_far (p := ⟨gb158, 2, none⟩) (Kd.R_far (p := ⟨gb158, 1, none⟩) (Kd.R_far (p := ⟨gb158, 0, none⟩) (Kd.R_far (p := ⟨gb159, 2, none⟩) (Kd.R_types (Kd.R_types HO162.out BK159.out (by decide)) BK158.out (by decide)) (fun _ hk => hk.1.2) (.slice Ao12 t160.length co12)) (fun _ hk => hk.2) (.int .i64 a0_0)) (fun _ hk => hk.2) (.bool a0_1)) (fun _ hk => hk.2) (.slice Ao12 t160.length co12)) (fun _ hk => trivial), (BB3 HB.out GE157.out GE158.out GE159.out)⟩

end Go.Proofs.Ythgmmebkjhjgcaa.Pr

namespace Go.Proofs.Ythgmmebkjhjgcaa.Pr
open Go.RowKit Go.Proofs.YthgmmebkjhjgcaaW.PrintWords Go.Proofs.YthgmmebkjhjgcaaW.PrintLast Go.Proofs.YthgmmebkjhjgcaaW.PrintMore
attribute [local go_sem] max2_int min2_int max_two min_two max_three min_three max_four min_four
set_option linter.unusedVariables false
set_option linter.unusedSimpArgs false
def laws_eqHost.f (k : Nat) (a0_0 : Int) (a0_1 : Bool) (l0_2 : List (S55)) (a1_0 : Int) (a1_1 : Bool) (l1_2 : List (S55)) : Option (Bool) := if a0_0 = a1_0 then (if (a0_1 != a1_1) = true then (some false) else ((laws_eqUnitS.f k l0_2 l1_2).bind fun t182 => (if t182 = true then (some true) else (some false)))) else (some false)
set_option maxHeartbeats 8000000 in
set_option maxRecDepth 100000 in
theorem laws_eqHost.calls (k : Nat) (a0_0 : Int) (a0_1 : Bool) (A0_2 : Option Addr) (c0_2 : Nat) (l0_2 : List (S55)) (a1_0 : Int) (a1_1 : Bool) (A1_2 : Option Addr) (c1_2 : Nat) (l1_2 : List (S55)) (r : Bool) (w : World) (hr0_2 : Kd.C k55 w A0_2 l0_2.length l0_2) (hc0_2 : l0_2.length ≤ c0_2) (hr1_2 : Kd.C k55 w A1_2 l1_2.length l1_2) (hc1_2 : l1_2.length ≤ c1_2) (h : laws_eqHost.f k a0_0 a0_1 l0_2 a1_0 a1_1 l1_2 = some r) (hr_ : Aside0 (r = true) := by exact ⟨rfl⟩) :
    Calls Try.prog 18 #[.agg #[.int .i64 a0_0, .bool a0_1, .slice A0_2 l0_2.length c0_2], .agg #[.int .i64 a1_0, .bool a1_1, .slice A1_2 l1_2.length c1_2]] w fun e w' => e = .returned (.bool r) ∧ Below w.heap.size w w' := by
  have hu41 := Try.underlying41
  have HR0_2 := Aside0.mk hr0_2
  have HC0_2 := Aside0.mk hc0_2
  clear hr0_2 hc0_2
  have HR1_2 := Aside0.mk hr1_2
  have HC1_2 := Aside0.mk hc1_2
  clear hr1_2 hc1_2
  have HB := Aside0.mk (Below.refl w.heap.size w)
  have H : (if a0_0 = a1_0 then (if (a0_1 != a1_1) = true then (some false) else ((laws_eqUnitS.f k l0_2 l1_2).bind fun t182 => (if t182 = true then (some true) else (some false)))) else (some false)) = some r := h
  clear h
  by_cases c3 : a0_0 = a1_0
  · rw [if_pos c3] at H
    have c3b0 : (a0_0 == a1_0) = true := beq_iff_eq.mpr c3
    have c3b1 : (a0_0 != a1_0) = false := bne_eq_false_iff_eq.mpr c3
    clear c3
    by_cases c4 : (a0_1 != a1_1) = true
    · rw [if_pos c4] at H
      have c4b0 : (a0_1 != a1_1) = true := c4
      (try (have c4b1 : decide (a0_1 = a1_1) = false := by simpa using c4))
      (try (have c4b2 : (a0_1 == a1_1) = false := by simpa using c4))
      (try (have c4b3 : ¬ (a0_1 = a1_1) := by simpa using c4))
      clear c4
      exact absurd ((Option.some.inj H).trans hr_.out) (by decide)
    · rw [if_neg c4] at H
      have c4b0 : (a0_1 != a1_1) = false := by simpa using c4
      (try (have c4b1 : decide (a0_1 = a1_1) = true := by simpa using c4))
      (try (have c4b2 : (a0_1 == a1_1) = true := by simpa using c4))
      clear c4
      replace H := Option.bind_eq_some_iff.mp H
      obtain ⟨t182, A50, H⟩ := H
      replace H : (if t182 = true then (some true) else (some false)) = some r := H
      have A5 := Aside0.mk A50
      clear A50
      by_cases c6 : t182 = true
      · subst c6
        have H1 : (some true) = some r := by rw [if_pos rfl] at H; exact H
        clear H
        have H := H1
        clear H1
        obtain rfl := Option.some.inj H
        go_enter Try.func18, Try.ntmps18
        go_wp2_with (first | ((with_reducible refine gate_dst (N := 2) rfl ?_); refine BX 2 #[.int .i64 a0_0, .bool a0_1, .slice A0_2 l0_2.length c0_2] 41 ?_; intro gb180 hg w7 hbox hb; have BK180 := Aside0.mk (hbox); have GW180 : Aside0 (w.heap.size ≤ gb180) := WG hg (BB HB.out); have GE180 := GW180; replace HB := Aside0.mk (below_step (BB HB.out) hb); clear hb hbox hg) | ((with_reducible refine gate_dst (N := 3) rfl ?_); refine BX 3 #[.int .i64 a1_0, .bool a1_1, .slice A1_2 l1_2.length c1_2] 41 ?_; intro gb181 hg w8 hbox hb; have BK181 := Aside0.mk (hbox); have GW181 : Aside0 (w.heap.size ≤ gb181) := WG hg (BB1 HB.out GE180.out); have GE181 := GW181; have NB180_181 := NL BK180.out hg; have NB181_180 := NG BK180.out hg; replace BK180 := Aside0.mk (KB BK180.out hb); replace HB := Aside0.mk (below_step (BB1 HB.out GE180.out) hb); clear hb hbox hg; have hnb9 := NB180_181.out; have hnc9 := NB181_180.out; have hcz10 := blk_cell BK180.out; have hfz10 := blk_frozen BK180.out; have hcz11 := blk_cell BK181.out; have hfz11 := blk_frozen BK181.out) | ((with_reducible refine gate_callee (f := 28) rfl ?_); refine GL (some 19) rfl rfl Try.func28 #[.slice A0_2 l0_2.length c0_2, .slice A1_2 l1_2.length c1_2] rfl ?_; (with_reducible refine (laws_eqUnitS.calls k _ _ l0_2 _ _ l1_2 true _ ?side1 ?side2 ?side3 ?side4 A5.out).mono ?_); (case side1 => exact CC (Kd.C_below HR0_2.out HB.out)); (case side2 => exact HC0_2.out); (case side3 => exact CC (Kd.C_below HR1_2.out HB.out)); (case side4 => exact HC1_2.out); rintro e w12 ⟨rfl, hb⟩; refine ⟨_, rfl, ?_⟩; replace BK180 := Aside0.mk (KB BK180.out hb); replace BK181 := Aside0.mk (KB BK181.out hb); replace HB := Aside0.mk (below_step (BB2 HB.out GE180.out GE181.out) hb); (try clear hb)))
        go_ret
        exact ⟨ER, (BB2 HB.out GE180.out GE181.out)⟩
      · replace c6 := Bool.eq_false_iff.mpr c6
        subst c6
        have H1 : (some false) = some r := by rw [if_neg (show ¬ (false = true) by decide)] at H; exact H
        clear H
        have H := H1
        clear H1
        exact absurd ((Option.some.inj H).trans hr_.out) (by decide)
  · rw [if_neg c3] at H
    have c3b0 : (a0_0 == a1_0) = false := beq_eq_false_iff_ne.mpr c3
    have c3b1 : (a0_0 != a1_0) = true := bne_iff_ne.mpr c3
    exact absurd ((Option.some.inj H).trans hr_.out) (by decide)

end Go.Proofs.Ythgmmebkjhjgcaa.Pr

namespace Go.Proofs.Ythgmmebkjhjgcaa.Pr
open Go.RowKit Go.Proofs.YthgmmebkjhjgcaaW.PrintWords Go.Proofs.YthgmmebkjhjgcaaW.PrintLast Go.Proofs.YthgmmebkjhjgcaaW.PrintMore
attribute [local go_sem] max2_int min2_int max_two min_two max_three min_three max_four min_four
set_option linter.unusedVariables false
set_option linter.unusedSimpArgs false
def laws_szHostS.l0 : Nat → List (S37) → Int → Int → Option (Int)
  | 0, _, _, _ => none
  | k + 1, x0, x1, x5 => if x5 < (x0.length : Int) then (if 0 ≤ x5 then ((laws_szHost.f k ((rd_T37 x0 x5).f0) ((rd_T37 x0 x5).f1) ((rd_T37 x0 x5).f2) x1).bind fun t107 => (if t107 < 0 then (some (-1)) else (laws_szHostS.l0 k x0 t107 (wrap64 (x5 + 1))))) else (none)) else (some x1)
def laws_szHostS.f (k : Nat) (l0 : List (S37)) (a1 : Int) : Option (Int) := if (wrap64 (a1 - (l0.length : Int))) < 0 then (some (-1)) else (laws_szHostS.l0 k l0 (wrap64 (a1 - (l0.length : Int))) 0)
set_option maxHeartbeats 8000000 in
set_option maxRecDepth 100000 in
theorem laws_szHostS.calls (k : Nat) (A0 : Option Addr) (c0 : Nat) (l0 : List (S37)) (a1 : Int) (r : Int) (w : World) (hr0 : Kd.C k37 w A0 l0.length l0) (hc0 : l0.length ≤ c0) (h : laws_szHostS.f k l0 a1 = some r) :
    Calls Try.prog 4 #[.slice A0 l0.length c0, .int .i64 a1] w fun e w' => e = .returned (.int .i64 r) ∧ Below w.heap.size w w' := by
  have hu37 := Try.underlying37
  have HR0 := Aside0.mk hr0
  have HC0 := Aside0.mk hc0
  clear hr0 hc0
  have HB := Aside0.mk (Below.refl w.heap.size w)
  have H : (if (wrap64 (a1 - (l0.length : Int))) < 0 then (some (-1)) else (laws_szHostS.l0 k l0 (wrap64 (a1 - (l0.length : Int))) 0)) = some r := h
  clear h
  by_cases c3 : (wrap64 (a1 - (l0.length : Int))) < 0
  · rw [if_pos c3] at H
    have c3b0 : decide ((wrap64 (a1 - (l0.length : Int))) < 0) = true := decide_eq_true c3
    clear c3
    obtain rfl := Option.some.inj H
    go_enter Try.func4, Try.ntmps4
    go_wp2
    go_ret
    exact ⟨ER, (BB HB.out)⟩
  · rw [if_neg c3] at H
    have c3b0 : decide ((wrap64 (a1 - (l0.length : Int))) < 0) = false := decide_eq_false c3
    clear c3
    have H' := Aside0.mk H
    clear H
    go_enter Try.func4, Try.ntmps4
    go_wp2
    go_loopg [1, 5] k (fun kq v1 v5 w' => ∃ (x1_1 : Int) (x5_1 : Int), v1 = .int .i64 x1_1 ∧ v5 = .int .i64 x5_1 ∧ Aside0 (laws_szHostS.l0 kq l0 x1_1 x5_1 = some r) ∧ Aside0 (kq ≤ k) ∧ Aside0 (Below w.heap.size w w'))
    case atStart => exact ⟨(wrap64 (a1 - (l0.length : Int))), (0), FR, FR, H', ⟨Nat.le_refl _⟩, ⟨(BB HB.out)⟩⟩
    case round =>
      clear H'
      try clear p2
      try clear c3
      try clear c3b0
      obtain ⟨x1_1, x5_1, rfl, rfl, HA, HK1, HB⟩ := hrel
      cases gk with
      | zero => exact absurd HA.out (by simp [laws_szHostS.l0])
      | succ k1 =>
        have H := HA.out
        clear HA
        simp only [laws_szHostS.l0] at H
        by_cases c4 : x5_1 < (l0.length : Int)
        · rw [if_pos c4] at H
          have c4b0 : decide (x5_1 < (l0.length : Int)) = true := decide_eq_true c4
          clear c4
          by_cases c5 : 0 ≤ x5_1
          · rw [if_pos c5] at H
            have c5b0 : decide (0 ≤ x5_1) = true := decide_eq_true c5
            clear c5
            replace H := Option.bind_eq_some_iff.mp H
            obtain ⟨t107, A60, H⟩ := H
            replace H : (if t107 < 0 then (some (-1)) else (laws_szHostS.l0 k1 l0 t107 (wrap64 (x5_1 + 1)))) = some r := H
            have A6 := Aside0.mk A60
            clear A60
            by_cases c7 : t107 < 0
            · rw [if_pos c7] at H
              have c7b0 : decide (t107 < 0) = true := decide_eq_true c7
              clear c7
              obtain rfl := Option.some.inj H
              have p106 : 0 ≤ (x5_1 : Int) := DT
              have q106 : x5_1 < (l0.length : Int) := DT
              obtain ⟨ad106, A106_2, c106_2, e106, hx106_0, hx106_1, hx106_2, hl106_2, hi106_2⟩ := at_T37 HR0.out x5_1 p106 q106
              cases e106
              replace hx106_0 := (HB.out.cell (World.block_lt_of_cell? w _ hx106_0)).trans hx106_0
              replace hx106_1 := (HB.out.cell (World.block_lt_of_cell? w _ hx106_1)).trans hx106_1
              replace hx106_2 := (HB.out.cell (World.block_lt_of_cell? w _ hx106_2)).trans hx106_2
              have HR106_2 := Aside0.mk hi106_2
              have HC106_2 := Aside0.mk hl106_2
              clear hi106_2 hl106_2
              replace p106 := eq_true p106
              replace q106 := eq_true q106
              go_wp2_with (first | ((with_reducible refine gate_callee (f := 13) rfl ?_); refine GL (some 23) rfl rfl Try.func13 #[.agg #[.int .i64 ((rd_T37 l0 x5_1).f0), .bool ((rd_T37 l0 x5_1).f1), .slice A106_2 ((rd_T37 l0 x5_1).f2).length c106_2], .int .i64 x1_1] rfl ?_; (with_reducible refine (laws_szHost.calls k1 ((rd_T37 l0 x5_1).f0) ((rd_T37 l0 x5_1).f1) _ _ ((rd_T37 l0 x5_1).f2) x1_1 t107 _ ?side1 ?side2 A6.out).mono ?_); (case side1 => exact CC (Kd.C_below HR106_2.out HB.out)); (case side2 => exact HC106_2.out); rintro e w8 ⟨rfl, hb⟩; refine ⟨_, rfl, ?_⟩; replace HB := Aside0.mk (below_step (BB HB.out) hb); (try clear hb)))
              go_ret
              exact ⟨ER, (BB HB.out)⟩
            · rw [if_neg c7] at H
              have c7b0 : decide (t107 < 0) = false := decide_eq_false c7
              clear c7
              have H' := Aside0.mk H
              clear H
              have p106 : 0 ≤ (x5_1 : Int) := DT
              have q106 : x5_1 < (l0.length : Int) := DT
              obtain ⟨ad106, A106_2, c106_2, e106, hx106_0, hx106_1, hx106_2, hl106_2, hi106_2⟩ := at_T37 HR0.out x5_1 p106 q106
              cases e106
              replace hx106_0 := (HB.out.cell (World.block_lt_of_cell? w _ hx106_0)).trans hx106_0
              replace hx106_1 := (HB.out.cell (World.block_lt_of_cell? w _ hx106_1)).trans hx106_1
              replace hx106_2 := (HB.out.cell (World.block_lt_of_cell? w _ hx106_2)).trans hx106_2
              have HR106_2 := Aside0.mk hi106_2
              have HC106_2 := Aside0.mk hl106_2
              clear hi106_2 hl106_2
              replace p106 := eq_true p106
              replace q106 := eq_true q106
              go_wp2_with (first | ((with_reducible refine gate_callee (f := 13) rfl ?_); refine GL (some 23) rfl rfl Try.func13 #[.agg #[.int .i64 ((rd_T37 l0 x5_1).f0), .bool ((rd_T37 l0 x5_1).f1), .slice A106_2 ((rd_T37 l0 x5_1).f2).length c106_2], .int .i64 x1_1] rfl ?_; (with_reducible refine (laws_szHost.calls k1 ((rd_T37 l0 x5_1).f0) ((rd_T37 l0 x5_1).f1) _ _ ((rd_T37 l0 x5_1).f2) x1_1 t107 _ ?side1 ?side2 A6.out).mono ?_); (case side1 => exact CC (Kd.C_below HR106_2.out HB.out)); (case side2 => exact HC106_2.out); rintro e w9 ⟨rfl, hb⟩; refine ⟨_, rfl, ?_⟩; replace HB := Aside0.mk (below_step (BB HB.out) hb); (try clear hb)))
              go_roundg k1
              case measure => have := HK1.out; omega
              case rel => exact ⟨(t107), (wrap64 (x5_1 + 1)), FR, FR, H', ⟨by have := HK1.out; omega⟩, ⟨(BB HB.out)⟩⟩
          · rw [if_neg c5] at H
            exact absurd H (by simp)
        · rw [if_neg c4] at H
          have c4b0 : decide (x5_1 < (l0.length : Int)) = false := decide_eq_false c4
          clear c4
          obtain rfl := Option.some.inj H
          go_wp2
          go_ret
          exact ⟨ER, (BB HB.out)⟩

end Go.Proofs.Ythgmmebkjhjgcaa.Pr

namespace Go.Proofs.Ythgmmebkjhjgcaa.Pr
open Go.RowKit Go.Proofs.YthgmmebkjhjgcaaW.PrintWords Go.Proofs.YthgmmebkjhjgcaaW.PrintLast Go.Proofs.YthgmmebkjhjgcaaW.PrintMore
attribute [local go_sem] max2_int min2_int max_two min_two max_three min_three max_four min_four
set_option linter.unusedVariables false
set_option linter.unusedSimpArgs false
def laws_toHostS.l0 : Nat → List (S37) → List (S41) → Int → Option ((List (S41)))
  | 0, _, _, _ => none
  | k + 1, x0, x3, x4 => if x4 < (x0.length : Int) then (if 0 ≤ x4 then ((laws_toHost.f k ((rd_T37 x0 x4).f0) ((rd_T37 x0 x4).f1) ((rd_T37 x0 x4).f2)).bind fun bt167 => (if x4 < (x3.length : Int) then (laws_toHostS.l0 k x0 (x3.set (x4 : Int).toNat (⟨bt167.1, bt167.2.1, bt167.2.2⟩ : S41)) (wrap64 (x4 + 1))) else (none))) else (none)) else (some x3)
def laws_toHostS.f (k : Nat) (l0 : List (S37)) : Option ((List (S41))) := if 0 ≤ (l0.length : Int) then (if ((l0.length : Int) : Int).toNat ≤ 7036874417766 then (laws_toHostS.l0 k l0 (List.replicate ((l0.length : Int) : Int).toNat z41) 0) else (none)) else (none)
set_option maxHeartbeats 8000000 in
set_option maxRecDepth 100000 in
theorem laws_toHostS.calls (k : Nat) (A0 : Option Addr) (c0 : Nat) (l0 : List (S37)) (r : List (S41)) (w : World) (hr0 : Kd.C k37 w A0 l0.length l0) (hc0 : l0.length ≤ c0) (h : laws_toHostS.f k l0 = some r) :
    Calls Try.prog 6 #[.slice A0 l0.length c0] w fun e w' => ∃ v0_ : Value, e = .returned (v0_) ∧ Kd.S k41 41 w' w.heap.size (fun _ => True) v0_ r ∧ Below w.heap.size w w' := by
  have hu37 := Try.underlying37
  have hu41 := Try.underlying41
  have HR0 := Aside0.mk hr0
  have HC0 := Aside0.mk hc0
  clear hr0 hc0
  have HB := Aside0.mk (Below.refl w.heap.size w)
  have H : (if 0 ≤ (l0.length : Int) then (if ((l0.length : Int) : Int).toNat ≤ 7036874417766 then (laws_toHostS.l0 k l0 (List.replicate ((l0.length : Int) : Int).toNat z41) 0) else (none)) else (none)) = some r := h
  clear h
  by_cases c2 : 0 ≤ (l0.length : Int)
  · rw [if_pos c2] at H
    have c2b0 := eq_true c2
    have c2b1 : decide (0 ≤ (l0.length : Int)) = true := decide_eq_true c2
    clear c2
    by_cases c3 : ((l0.length : Int) : Int).toNat ≤ 7036874417766
    · rw [if_pos c3] at H
      have c3b0 := eq_true c3
      have c3b1 : decide (((l0.length : Int) : Int).toNat ≤ 7036874417766) = true := decide_eq_true c3
      clear c3
      obtain ⟨y163, hy163⟩ : ∃ y_ : List (S41), y_ = (List.replicate ((l0.length : Int) : Int).toNat z41) := ⟨_, rfl⟩
      replace H : (laws_toHostS.l0 k l0 y163 0) = some r := by first | (rw [hy163]; with_reducible exact H) | (have H2_ := (Option.bind_some _ _).symm.trans H; rw [hy163]; with_reducible exact H2_) | (have H2_ := (Option.bind_some _ _).symm.trans H; with_reducible exact H2_) | with_reducible exact H | (rw [hy163]; exact H) | exact H
      have Ny163 := Aside0.mk hy163
      clear hy163
      have H' := Aside0.mk H
      clear H
      go_enter Try.func6, Try.ntmps6
      go_wp2_with (first | ((with_reducible refine gate_dst (N := 7) rfl ?_); refine Kd.S_make k41 _ 41 rfl (N := 7) rfl 27 _ _ rfl (l0.length : Int) rfl rfl Try.underlying27 (.agg #[(.int .i64 0), (.bool false), (.slice none 0 0)]) 40 info41 rfl (by decide) (by omega) z41 (ok := fun _ => True) (okp := fun _ => True) (k41_mkM _ _ _ z41 (Kd.R_nil _ _ _ _ _)) (fun _ hk => hk) trivial DT (Nat.le_trans (Nat.mul_le_mul_right _ (DT : (l0.length : Int).toNat ≤ 7036874417766)) (by omega)) (Below.refl _ _) (Nat.le_refl _) ?_; intro v164 w4 ho5 hb hg_ hnew_; clear hg_ hnew_; (first | rw [← Ny163.out] at ho5 | (simp only [Int.reduceToNat] at ho5; rw [← Ny163.out] at ho5)); have HO165 := Aside0.mk (Kd.S_lower ho5 (below_size (BB HB.out))); replace HB := Aside0.mk (below_step (BB HB.out) hb); clear hb ho5))
      go_loopg [4] k (fun kq v4 w' => ∃ (x3_1 : List (S41)) (x4_1 : Int), v4 = .int .i64 x4_1 ∧ Aside0 (laws_toHostS.l0 kq l0 x3_1 x4_1 = some r) ∧ Aside0 (kq ≤ k) ∧ Aside0 (Kd.S k41 41 w' w.heap.size (fun _ => True) v164 x3_1) ∧ Aside0 (Below w.heap.size w w'))
      case atStart => exact ⟨(y163), (0), FR, H', ⟨Nat.le_refl _⟩, ⟨(SS HO165.out)⟩, ⟨(BB HB.out)⟩⟩
      case round =>
        clear H'
        try clear c2
        try clear c2b0
        try clear c2b1
        try clear p2
        try clear c3
        try clear c3b0
        try clear c3b1
        obtain ⟨x3_1, x4_1, rfl, HA, HK1, HO_3, HB⟩ := hrel
        cases gk with
        | zero => exact absurd HA.out (by simp [laws_toHostS.l0])
        | succ k1 =>
          have H := HA.out
          clear HA
          simp only [laws_toHostS.l0] at H
          by_cases c6 : x4_1 < (l0.length : Int)
          · rw [if_pos c6] at H
            have c6b0 : decide (x4_1 < (l0.length : Int)) = true := decide_eq_true c6
            clear c6
            by_cases c7 : 0 ≤ x4_1
            · rw [if_pos c7] at H
              have c7b0 : decide (0 ≤ x4_1) = true := decide_eq_true c7
              clear c7
              replace H := Option.bind_eq_some_iff.mp H
              obtain ⟨⟨t167, t168, t169⟩, A80, H⟩ := H
              replace H : (if x4_1 < (x3_1.length : Int) then (laws_toHostS.l0 k1 l0 (x3_1.set (x4_1 : Int).toNat (⟨t167, t168, t169⟩ : S41)) (wrap64 (x4_1 + 1))) else (none)) = some r := H
              have A8 := Aside0.mk A80
              clear A80
              by_cases c9 : x4_1 < (x3_1.length : Int)
              · rw [if_pos c9] at H
                have c9b0 : decide (x4_1 < (x3_1.length : Int)) = true := decide_eq_true c9
                clear c9
                obtain ⟨y172, hy172⟩ : ∃ y_ : List (S41), y_ = (x3_1.set (x4_1 : Int).toNat (⟨t167, t168, t169⟩ : S41)) := ⟨_, rfl⟩
                replace H : (laws_toHostS.l0 k1 l0 y172 (wrap64 (x4_1 + 1))) = some r := by first | (rw [hy172]; with_reducible exact H) | (have H2_ := (Option.bind_some _ _).symm.trans H; rw [hy172]; with_reducible exact H2_) | (have H2_ := (Option.bind_some _ _).symm.trans H; with_reducible exact H2_) | with_reducible exact H | (rw [hy172]; exact H) | exact H
                have Ny172 := Aside0.mk hy172
                clear hy172
                have H' := Aside0.mk H
                clear H
                have p166 : 0 ≤ (x4_1 : Int) := DT
                have q166 : x4_1 < (l0.length : Int) := DT
                obtain ⟨ad166, A166_2, c166_2, e166, hx166_0, hx166_1, hx166_2, hl166_2, hi166_2⟩ := at_T37 HR0.out x4_1 p166 q166
                cases e166
                replace hx166_0 := (HB.out.cell (World.block_lt_of_cell? w _ hx166_0)).trans hx166_0
                replace hx166_1 := (HB.out.cell (World.block_lt_of_cell? w _ hx166_1)).trans hx166_1
                replace hx166_2 := (HB.out.cell (World.block_lt_of_cell? w _ hx166_2)).trans hx166_2
                have HR166_2 := Aside0.mk hi166_2
                have HC166_2 := Aside0.mk hl166_2
                clear hi166_2 hl166_2
                replace p166 := eq_true p166
                replace q166 := eq_true q166
                go_wp2_with (first | ((with_reducible refine gate_callee (f := 15) rfl ?_); refine GL (some 20) rfl rfl Try.func15 #[.agg #[.int .i64 ((rd_T37 l0 x4_1).f0), .bool ((rd_T37 l0 x4_1).f1), .slice A166_2 ((rd_T37 l0 x4_1).f2).length c166_2]] rfl ?_; (with_reducible refine (laws_toHost.calls k1 ((rd_T37 l0 x4_1).f0) ((rd_T37 l0 x4_1).f1) _ _ ((rd_T37 l0 x4_1).f2) t167 t168 t169 _ ?side1 ?side2 A8.out).mono ?_); (case side1 => exact CC (Kd.C_below HR166_2.out HB.out)); (case side2 => exact HC166_2.out); rintro e w11 ⟨v170, rfl, ho0, hb⟩; refine ⟨_, rfl, ?_⟩; have hstv170 := store_any (P := Try.prog) (by first | exact Kd.R_slice ho0 | exact Kd.S_slice ho0); have HO171 := Aside0.mk (Kd.R_lower ho0 (below_size (BB HB.out))); replace HO_3 := Aside0.mk (Kd.S_elder' (SS HO_3.out) (Kd.R_base ho0) hb); replace HB := Aside0.mk (below_step (BB HB.out) hb); (try clear hb); (try clear ho0); have p10 : 0 ≤ (x4_1 : Int) := DT; have q10 : (x4_1 : Int) < ((x3_1.length : Int) : Int) := DT; obtain ⟨go10, co10, eo10, gb10, gl10, cl10, HG10⟩ := Kd.S_form HO_3.out (by omega); (first | cases eo10 | (injection eo10 with ea_ en_ ec_; (first | subst ea_ | (injection ea_ with ea_; subst ea_)); subst ec_; clear en_)); have GB10 := Aside0.mk gb10; have GG10 := Aside0.mk HG10; clear gb10 gl10 HG10; obtain ⟨_, ce10, hcl10, hM10, hcc10, hfr10, _, _⟩ := Kd.S_elem HO_3.out z41 (x4_1 : Int) p10 q10; obtain ⟨ve10_2, rfl, ge10_2⟩ := k41_openM hM10; have hx10_0 : w11.cell? ⟨go10, (x4_1 : Int).toNat * 3, none⟩ = some (.int .i64 ((rd_T41 x3_1 x4_1).f0)) := hcc10 0 _ rfl; have hx10_1 : w11.cell? ⟨go10, (x4_1 : Int).toNat * 3 + 1, none⟩ = some (.bool ((rd_T41 x3_1 x4_1).f1)) := hcc10 1 _ rfl; have hx10_2 : w11.cell? ⟨go10, (x4_1 : Int).toNat * 3 + 2, none⟩ = some (ve10_2) := hcc10 2 _ rfl; have hf10_0 : w11.frozen? ⟨go10, (x4_1 : Int).toNat * 3, none⟩ = false := hfr10 0; have hf10_1 : w11.frozen? ⟨go10, (x4_1 : Int).toNat * 3 + 1, none⟩ = false := hfr10 1; have hf10_2 : w11.frozen? ⟨go10, (x4_1 : Int).toNat * 3 + 2, none⟩ = false := hfr10 2; clear hcl10 hcc10 hfr10 hM10; replace p10 := eq_true p10; replace q10 := eq_true q10; have n_ := Aside0.mk (Kd.S_mono (ok' := (fun k_ => some k_ ≠ (v170 : Value).ownBlock)) HO_3.out (fun k_ hk => hk.2)); clear HO_3; have HO_3 := n_; clear n_; have HX12 := Aside0.mk (show Kd.S k41 41 w11 w.heap.size (fun k_ => ((fun _ => True)) k_ ∧ ¬ ((fun k_ => some k_ = (v170 : Value).ownBlock)) k_) (.slice (some ⟨go10, 0, none⟩) x3_1.length co10) x3_1 from (by (with_reducible repeat (first | apply Kd.S_alloc | apply Kd.S_drewN | apply Kd.S_drew)); exact Kd.S_mono HO_3.out (fun k_ hk => ⟨trivial, fun e_ => hk e_⟩))); obtain ⟨oki12, ce12, hcl12, hM12, hcc12, hfr12, hoki12, hH12⟩ := Kd.S_elem HX12.out z41 (x4_1 : Int) DT (by have h_ : (x4_1 : Int) < ((x3_1.length : Int) : Int) := DT; first | exact h_ | (have e_ := (Kd.S_reads' HO_3.out).1; omega) | simpa using h_); obtain ⟨ve12_2, rfl, ge12_2⟩ := k41_openM hM12; have HP12 := Kd.S_seg hH12 DT (by have h_ : (x4_1 : Int) < ((x3_1.length : Int) : Int) := DT; first | exact h_ | (have e_ := (Kd.S_reads' HO_3.out).1; omega) | simpa using h_) (seg := [.int .i64 t167, .bool t168, v170]) (j := 0) (show 3 ≤ 3 from by decide) (x' := (⟨t167, t168, t169⟩ : S41)) (k41_mkM _ _ _ (⟨t167, t168, t169⟩ : S41) (Kd.R_mono (Kd.R_tight rfl (Kd.R_mono (ok' := fun k_ => ((fun _ => True)) k_ ∧ k_ ≠ go10) (Kd.R_apart' (HO171.out) (Kd.S_typed HO_3.out) (by decide)) (fun k_ hk => ⟨trivial, fun e_ => (hk.2) (by rw [e_]; rfl)⟩))) (fun _ h_ => Or.inr (h_)))) (fun _ hk => hk) (fun k_ hk_ => ((Kd.R_mono (ok' := fun k_ => ((fun _ => True)) k_ ∧ k_ ≠ go10) (Kd.R_apart' (HO171.out) (Kd.S_typed HO_3.out) (by decide)) (fun k_ hk => ⟨trivial, fun e_ => (hk.2) (by rw [e_]; rfl)⟩))).1 k_ hk_.symm); have hx12_0 := hcc12 0 _ rfl; (try simp only [show (k41).sz = 3 from rfl, Nat.mul_one, Nat.add_zero] at hx12_0); have hf12_0 := hfr12 0; (try simp only [show (k41).sz = 3 from rfl, Nat.mul_one, Nat.add_zero] at hf12_0); have hx12_1 := hcc12 1 _ rfl; (try simp only [show (k41).sz = 3 from rfl, Nat.mul_one, Nat.add_zero] at hx12_1); have hf12_1 := hfr12 1; (try simp only [show (k41).sz = 3 from rfl, Nat.mul_one, Nat.add_zero] at hf12_1); have hx12_2 := hcc12 2 _ rfl; (try simp only [show (k41).sz = 3 from rfl, Nat.mul_one, Nat.add_zero] at hx12_2); have hf12_2 := hfr12 2; (try simp only [show (k41).sz = 3 from rfl, Nat.mul_one, Nat.add_zero] at hf12_2); clear hcl12 hcc12 hfr12 hM12 hoki12 hH12) | ((with_reducible refine gate_store (t := 41) (p := 21) rfl ?_); refine store_event (t := 41) (p := 21) (v := ?vo_w13) (w1 := (((w11.setCell ⟨go10, (x4_1 : Int).toNat * 3, none⟩ (.int .i64 t167)).setCell ⟨go10, (x4_1 : Int).toNat * 3 + 1, none⟩ (.bool t168)).setCell ⟨go10, (x4_1 : Int).toNat * 3 + 2, none⟩ (v170))) ?hg ?ho ?hn ?hr ?_; (case ho => rfl); (case hg => rfl); (case hn => rfl); (case hr => first | (go_simp; done) | (go_simp; rfl)); intro w13 hw; have hg : w11.grownBy w13 (some go10) := (by rw [hw]; exact HP12.2); have hp_ : Kd.S k41 41 w13 w.heap.size (fun _ => True) (.slice (some ⟨go10, 0, none⟩) x3_1.length co10) y172 := (by rw [hw, Ny172.out]; exact HP12.1); clear HP12; have n0_ := Aside0.mk (hp_); have n1_ := Aside0.mk ((by rw [hw]; exact below_set (below_set (below_set (HB.out) GB10.out) GB10.out) GB10.out : Below w.heap.size w w13)); clear HO_3; clear HB; clear HO171; have HO_3 := n0_; have HB := n1_; clear n0_ n1_; clear hg hw hp_))
                go_roundg k1
                case measure => have := HK1.out; omega
                case rel => exact ⟨(y172), (wrap64 (x4_1 + 1)), FR, H', ⟨by have := HK1.out; omega⟩, ⟨(SS HO_3.out)⟩, ⟨(BB HB.out)⟩⟩
              · rw [if_neg c9] at H
                exact absurd H (by simp)
            · rw [if_neg c7] at H
              exact absurd H (by simp)
          · rw [if_neg c6] at H
            have c6b0 : decide (x4_1 < (l0.length : Int)) = false := decide_eq_false c6
            clear c6
            obtain rfl := Option.some.inj H
            go_wp2
            go_ret
            exact ⟨_, ER, by (with_reducible repeat (first | apply Kd.S_alloc | apply Kd.S_drewN | apply Kd.S_drew)); exact HO_3.out, (BB HB.out)⟩
    · rw [if_neg c3] at H
      exact absurd H (by simp)
  · rw [if_neg c2] at H
    exact absurd H (by simp)

end Go.Proofs.Ythgmmebkjhjgcaa.Pr

namespace Go.Proofs.Ythgmmebkjhjgcaa.Pr
open Go.RowKit Go.Proofs.YthgmmebkjhjgcaaW.PrintWords Go.Proofs.YthgmmebkjhjgcaaW.PrintLast Go.Proofs.YthgmmebkjhjgcaaW.PrintMore
attribute [local go_sem] max2_int min2_int max_two min_two max_three min_three max_four min_four
set_option linter.unusedVariables false
set_option linter.unusedSimpArgs false
def laws_eqHostS.l0 : Nat → List (S41) → List (S41) → Int → Option (Bool)
  | 0, _, _, _ => none
  | k + 1, x0, x1, x5 => if x5 < (x0.length : Int) then (if 0 ≤ x5 then (if x5 < (x1.length : Int) then ((laws_eqHost.f k ((rd_T41 x0 x5).f0) ((rd_T41 x0 x5).f1) ((rd_T41 x0 x5).f2) ((rd_T41 x1 x5).f0) ((rd_T41 x1 x5).f1) ((rd_T41 x1 x5).f2)).bind fun t185 => (if t185 = true then (laws_eqHostS.l0 k x0 x1 (wrap64 (x5 + 1))) else (some false))) else (none)) else (none)) else (some true)
def laws_eqHostS.f (k : Nat) (l0 : List (S41)) (l1 : List (S41)) : Option (Bool) := if (l0.length : Int) = (l1.length : Int) then (laws_eqHostS.l0 k l0 l1 0) else (some false)
def laws_eqHostS.T6 : Bool × List (List Nat × List Nat) := (true, [([], []), ([], []), ([0, 1], [0, 1]), ([2], [2]), ([], []), ([], []), ([4, 5], [4, 5]), ([6], [6]), ([3, 7], [3, 7]), ([8], [8])])
def laws_eqHostS.B6 : List Nat := [0, 0, 3, 7, 0, 0, 48, 112, 255, 511]
theorem laws_eqHostS.tab6 : rtab .any (opsOf Try.f9 6) = laws_eqHostS.T6 := by kernel_rfl
theorem laws_eqHostS.bits6 : waitsOk laws_eqHostS.T6.2 laws_eqHostS.B6 = true := by kernel_rfl
set_option maxHeartbeats 8000000 in
set_option maxRecDepth 100000 in
theorem laws_eqHostS.calls (k : Nat) (A0 : Option Addr) (c0 : Nat) (l0 : List (S41)) (A1 : Option Addr) (c1 : Nat) (l1 : List (S41)) (r : Bool) (w : World) (hr0 : Kd.C k41 w A0 l0.length l0) (hc0 : l0.length ≤ c0) (hr1 : Kd.C k41 w A1 l1.length l1) (hc1 : l1.length ≤ c1) (h : laws_eqHostS.f k l0 l1 = some r) (hr_ : Aside0 (r = true) := by exact ⟨rfl⟩) :
    Calls Try.prog 9 #[.slice A0 l0.length c0, .slice A1 l1.length c1] w fun e w' => e = .returned (.bool r) ∧ Below w.heap.size w w' := by
  have hu41 := Try.underlying41
  have HR0 := Aside0.mk hr0
  have HC0 := Aside0.mk hc0
  clear hr0 hc0
  have HR1 := Aside0.mk hr1
  have HC1 := Aside0.mk hc1
  clear hr1 hc1
  have HB := Aside0.mk (Below.refl w.heap.size w)
  have H : (if (l0.length : Int) = (l1.length : Int) then (laws_eqHostS.l0 k l0 l1 0) else (some false)) = some r := h
  clear h
  by_cases c3 : (l0.length : Int) = (l1.length : Int)
  · rw [if_pos c3] at H
    have c3b0 : ((l0.length : Int) == (l1.length : Int)) = true := beq_iff_eq.mpr c3
    have c3b1 : ((l0.length : Int) != (l1.length : Int)) = false := bne_eq_false_iff_eq.mpr c3
    have c3b2 : (l0.length == l1.length) = true := by first | simpa using c3 | (simp at c3 ⊢; omega)
    clear c3
    have H' := Aside0.mk H
    clear H
    go_enter Try.func9, Try.ntmps9
    go_wp2
    go_loopg [5] k (fun kq v5 w' => ∃ (x5_1 : Int), v5 = .int .i64 x5_1 ∧ Aside0 (laws_eqHostS.l0 kq l0 l1 x5_1 = some r) ∧ Aside0 (kq ≤ k) ∧ Aside0 (Below w.heap.size w w'))
    case atStart => exact ⟨(0), FR, H', ⟨Nat.le_refl _⟩, ⟨(BB HB.out)⟩⟩
    case round =>
      clear H'
      try clear c1
      try clear p2
      try clear c3
      try clear c3b0
      try clear c3b1
      try clear c3b2
      obtain ⟨x5_1, rfl, HA, HK1, HB⟩ := hrel
      cases gk with
      | zero => exact absurd HA.out (by simp [laws_eqHostS.l0])
      | succ k1 =>
        have H := HA.out
        clear HA
        simp only [laws_eqHostS.l0] at H
        by_cases c4 : x5_1 < (l0.length : Int)
        · rw [if_pos c4] at H
          have c4b0 : decide (x5_1 < (l0.length : Int)) = true := decide_eq_true c4
          clear c4
          by_cases c5 : 0 ≤ x5_1
          · rw [if_pos c5] at H
            have c5b0 : decide (0 ≤ x5_1) = true := decide_eq_true c5
            clear c5
            by_cases c6 : x5_1 < (l1.length : Int)
            · rw [if_pos c6] at H
              have c6b0 : decide (x5_1 < (l1.length : Int)) = true := decide_eq_true c6
              clear c6
              replace H := Option.bind_eq_some_iff.mp H
              obtain ⟨t185, A70, H⟩ := H
              replace H : (if t185 = true then (laws_eqHostS.l0 k1 l0 l1 (wrap64 (x5_1 + 1))) else (some false)) = some r := H
              have A7 := Aside0.mk A70
              clear A70
              by_cases c8 : t185 = true
              · subst c8
                have H1 : (laws_eqHostS.l0 k1 l0 l1 (wrap64 (x5_1 + 1))) = some r := by rw [if_pos rfl] at H; exact H
                clear H
                have H := H1
                clear H1
                have H' := Aside0.mk H
                clear H
                try go_wp2
                have n0_ := Aside0.mk (below_drew1 HB.out)
                clear HB
                have HB := n0_
                clear n0_
                have p183 : 0 ≤ (x5_1 : Int) := DT
                have q183 : x5_1 < (l0.length : Int) := DT
                obtain ⟨ad183, A183_2, c183_2, e183, hx183_0, hx183_1, hx183_2, hl183_2, hi183_2⟩ := at_T41 HR0.out x5_1 p183 q183
                have hw183_2 := hx183_2
                have hw183_1 := hx183_1
                have hw183_0 := hx183_0
                cases e183
                replace hx183_0 := (HB.out.cell (World.block_lt_of_cell? w _ hx183_0)).trans hx183_0
                replace hx183_1 := (HB.out.cell (World.block_lt_of_cell? w _ hx183_1)).trans hx183_1
                replace hx183_2 := (HB.out.cell (World.block_lt_of_cell? w _ hx183_2)).trans hx183_2
                have HR183_2 := Aside0.mk hi183_2
                have HC183_2 := Aside0.mk hl183_2
                clear hi183_2 hl183_2
                replace p183 := eq_true p183
                replace q183 := eq_true q183
                have p184 : 0 ≤ (x5_1 : Int) := DT
                have q184 : x5_1 < (l1.length : Int) := DT
                obtain ⟨ad184, A184_2, c184_2, e184, hx184_0, hx184_1, hx184_2, hl184_2, hi184_2⟩ := at_T41 HR1.out x5_1 p184 q184
                have hw184_2 := hx184_2
                have hw184_1 := hx184_1
                have hw184_0 := hx184_0
                cases e184
                replace hx184_0 := (HB.out.cell (World.block_lt_of_cell? w _ hx184_0)).trans hx184_0
                replace hx184_1 := (HB.out.cell (World.block_lt_of_cell? w _ hx184_1)).trans hx184_1
                replace hx184_2 := (HB.out.cell (World.block_lt_of_cell? w _ hx184_2)).trans hx184_2
                have HR184_2 := Aside0.mk hi184_2
                have HC184_2 := Aside0.mk hl184_2
                clear hi184_2 hl184_2
                replace p184 := eq_true p184
                replace q184 := eq_true q184
                refine start_ (n := 10) (S := fun w' => w'.cell? (ad183.add ((x5_1).toNat * 3)) = some (.int .i64 ((rd_T41 l0 x5_1).f0)) ∧ w'.cell? ⟨(ad183.add ((x5_1).toNat * 3)).block, (ad183.add ((x5_1).toNat * 3)).off + 1, none⟩ = some (.bool ((rd_T41 l0 x5_1).f1)) ∧ w'.cell? ⟨(ad183.add ((x5_1).toNat * 3)).block, (ad183.add ((x5_1).toNat * 3)).off + 2, none⟩ = some (.slice A183_2 ((rd_T41 l0 x5_1).f2).length c183_2) ∧ w'.cell? (ad184.add ((x5_1).toNat * 3)) = some (.int .i64 ((rd_T41 l1 x5_1).f0)) ∧ w'.cell? ⟨(ad184.add ((x5_1).toNat * 3)).block, (ad184.add ((x5_1).toNat * 3)).off + 1, none⟩ = some (.bool ((rd_T41 l1 x5_1).f1)) ∧ w'.cell? ⟨(ad184.add ((x5_1).toNat * 3)).block, (ad184.add ((x5_1).toNat * 3)).off + 2, none⟩ = some (.slice A184_2 ((rd_T41 l1 x5_1).f2).length c184_2)) (ds := []) #[false, false, false, false, false, false, false, false, false, false] (by kernel_rfl) rfl rfl ⟨((HB.out.cell (World.block_lt_of_cell? w _ hw183_0)).trans hw183_0), ((HB.out.cell (World.block_lt_of_cell? w _ hw183_1)).trans hw183_1), ((HB.out.cell (World.block_lt_of_cell? w _ hw183_2)).trans hw183_2), ((HB.out.cell (World.block_lt_of_cell? w _ hw184_0)).trans hw184_0), ((HB.out.cell (World.block_lt_of_cell? w _ hw184_1)).trans hw184_1), ((HB.out.cell (World.block_lt_of_cell? w _ hw184_2)).trans hw184_2)⟩ (fun hHeld => ?_); refine with_tabW laws_eqHostS.tab6 laws_eqHostS.bits6 (fun HT_ HW_ => ?_)
                generalize wr.drew = w9 at HB HR183_2 HR184_2 hx183_0 hx183_1 hx183_2 hx184_0 hx184_1 hx184_2 hHeld ⊢
                refine pure_ (i := 0) (N := some 17) (v := ?_) (a' := ?_) #[true, false, false, false, false, false, false, false, false, false] rfl rfl (any_of HT_.out (by kernel_rfl)) (fun _ _ _ h => h) (Or.inl ⟨by rfl, ?_⟩) ?_ ?_
                rotate_left
                · intro w'
                  go_simp
                  with_reducible rfl
                rotate_left
                · simp only [Act.put, List.setIfInBounds_toArray, List.set_cons_zero, List.set_cons_succ, i64_w, i32_w]
                  rfl
                refine pure_ (i := 1) (N := some 18) (v := ?_) (a' := ?_) #[true, true, false, false, false, false, false, false, false, false] rfl rfl (any_of HT_.out (by kernel_rfl)) (fun _ _ _ h => h) (Or.inl ⟨by rfl, ?_⟩) ?_ ?_
                rotate_left
                · intro w'
                  go_simp
                  with_reducible rfl
                rotate_left
                · simp only [Act.put, List.setIfInBounds_toArray, List.set_cons_zero, List.set_cons_succ, i64_w, i32_w]
                  rfl
                refine pure_ (i := 2) (N := some 19) (v := ?_) (a' := ?_) #[true, true, true, false, false, false, false, false, false, false] rfl rfl (any_of HT_.out (by kernel_rfl)) (fun _ _ _ h => h) (Or.inl ⟨by rfl, ?_⟩) ?_ ?_
                rotate_left
                · intro w'
                  go_simp
                  with_reducible rfl
                rotate_left
                · simp only [Act.put, List.setIfInBounds_toArray, List.set_cons_zero, List.set_cons_succ, i64_w, i32_w]
                  rfl
                refine pure_ (i := 4) (N := some 21) (v := ?_) (a' := ?_) #[true, true, true, false, true, false, false, false, false, false] rfl rfl (any_of HT_.out (by kernel_rfl)) (fun _ _ _ h => h) (Or.inl ⟨by rfl, ?_⟩) ?_ ?_
                rotate_left
                · intro w'
                  go_simp
                  with_reducible rfl
                rotate_left
                · simp only [Act.put, List.setIfInBounds_toArray, List.set_cons_zero, List.set_cons_succ, i64_w, i32_w]
                  rfl
                refine pure_ (i := 5) (N := some 22) (v := ?_) (a' := ?_) #[true, true, true, false, true, true, false, false, false, false] rfl rfl (any_of HT_.out (by kernel_rfl)) (fun _ _ _ h => h) (Or.inl ⟨by rfl, ?_⟩) ?_ ?_
                rotate_left
                · intro w'
                  go_simp
                  with_reducible rfl
                rotate_left
                · simp only [Act.put, List.setIfInBounds_toArray, List.set_cons_zero, List.set_cons_succ, i64_w, i32_w]
                  rfl
                refine pure_ (i := 6) (N := some 23) (v := ?_) (a' := ?_) #[true, true, true, false, true, true, true, false, false, false] rfl rfl (any_of HT_.out (by kernel_rfl)) (fun _ _ _ h => h) (Or.inl ⟨by rfl, ?_⟩) ?_ ?_
                rotate_left
                · intro w'
                  go_simp
                  with_reducible rfl
                rotate_left
                · simp only [Act.put, List.setIfInBounds_toArray, List.set_cons_zero, List.set_cons_succ, i64_w, i32_w]
                  rfl
                refine take_ (i := 3) (N := some 20) (v := ?_) (a' := ?_) #[true, true, true, true, true, true, true, false, false, false] rfl rfl (take_ofW HT_.out HW_.out (by kernel_rfl)) (fun _ _ _ h => h) (Or.inl ⟨by rfl, ?_⟩) hHeld ?_ ?_
                rotate_left
                · rintro w' ⟨s0, s1, s2, s3, s4, s5⟩
                  go_simp
                  with_reducible rfl
                rotate_left
                · simp only [Act.put, List.setIfInBounds_toArray, List.set_cons_zero, List.set_cons_succ, i64_w, i32_w]
                  rfl
                refine take_ (i := 7) (N := some 24) (v := ?_) (a' := ?_) #[true, true, true, true, true, true, true, true, false, false] rfl rfl (take_ofW HT_.out HW_.out (by kernel_rfl)) (fun _ _ _ h => h) (Or.inl ⟨by rfl, ?_⟩) hHeld ?_ ?_
                rotate_left
                · rintro w' ⟨s0, s1, s2, s3, s4, s5⟩
                  go_simp
                  with_reducible rfl
                rotate_left
                · simp only [Act.put, List.setIfInBounds_toArray, List.set_cons_zero, List.set_cons_succ, i64_w, i32_w]
                  rfl
                refine one_ (i := 8) (N := some 25) #[true, true, true, true, true, true, true, true, true, false] rfl rfl (one_of HT_.out (by kernel_rfl)) (by decide) (fun K hK => ?_)
                refine goes_ Try.func18 (by kernel_rfl) rfl #[.agg #[.int .i64 ((rd_T41 l0 x5_1).f0), .bool ((rd_T41 l0 x5_1).f1), .slice A183_2 ((rd_T41 l0 x5_1).f2).length c183_2], .agg #[.int .i64 ((rd_T41 l1 x5_1).f0), .bool ((rd_T41 l1 x5_1).f1), .slice A184_2 ((rd_T41 l1 x5_1).f2).length c184_2]] (by rfl) rfl rfl (by (try simp only [List.map_toArray, List.map_cons, List.map_nil]); first | done | rfl | (simp only [List.length_drop, List.length_take]; rfl)) ?_
                with_reducible refine (laws_eqHost.calls k1 ((rd_T41 l0 x5_1).f0) ((rd_T41 l0 x5_1).f1) _ _ ((rd_T41 l0 x5_1).f2) ((rd_T41 l1 x5_1).f0) ((rd_T41 l1 x5_1).f1) _ _ ((rd_T41 l1 x5_1).f2) true _ ?side1 ?side2 ?side3 ?side4 A7.out).mono ?_
                (case side1 => exact CC (Kd.C_below HR183_2.out HB.out))
                (case side2 => exact HC183_2.out)
                (case side3 => exact CC (Kd.C_below HR184_2.out HB.out))
                (case side4 => exact HC184_2.out)
                rintro e w10 ⟨rfl, hb⟩
                refine ⟨_, rfl, ?_⟩
                have n0_ := Aside0.mk (below_step (BB HB.out) hb)
                clear HB
                have HB := n0_
                clear n0_
                (try clear hb)
                (try clear hb2)
                (try clear hk)
                (try clear hi)
                refine hK.out _ _ ⟨((HB.out.cell (World.block_lt_of_cell? w _ hw183_0)).trans hw183_0), ((HB.out.cell (World.block_lt_of_cell? w _ hw183_1)).trans hw183_1), ((HB.out.cell (World.block_lt_of_cell? w _ hw183_2)).trans hw183_2), ((HB.out.cell (World.block_lt_of_cell? w _ hw184_0)).trans hw184_0), ((HB.out.cell (World.block_lt_of_cell? w _ hw184_1)).trans hw184_1), ((HB.out.cell (World.block_lt_of_cell? w _ hw184_2)).trans hw184_2)⟩ (fun hHeld => ?_)
                clear hK K
                refine norm_ (a' := ?_) ?_ ?_
                rotate_left
                · show Act.put _ (some 25) _ = _
                  simp only [Act.put, List.setIfInBounds_toArray, List.set_cons_zero, List.set_cons_succ, i64_w, i32_w]
                  rfl
                refine pure_ (i := 9) (N := some 26) (v := ?_) (a' := ?_) #[true, true, true, true, true, true, true, true, true, true] rfl rfl (any_of HT_.out (by kernel_rfl)) (fun _ _ _ h => h) (Or.inl ⟨by rfl, ?_⟩) ?_ ?_
                rotate_left
                · intro w'
                  go_simp
                  with_reducible rfl
                rotate_left
                · simp only [Act.put, List.setIfInBounds_toArray, List.set_cons_zero, List.set_cons_succ, i64_w, i32_w]
                  rfl
                refine done_ (done_of HT_.out (by kernel_rfl)) ?_
                try go_wp2
                go_roundg k1
                case measure => have := HK1.out; omega
                case rel => exact ⟨(wrap64 (x5_1 + 1)), FR, H', ⟨by have := HK1.out; omega⟩, ⟨(BB HB.out)⟩⟩
              · replace c8 := Bool.eq_false_iff.mpr c8
                subst c8
                have H1 : (some false) = some r := by rw [if_neg (show ¬ (false = true) by decide)] at H; exact H
                clear H
                have H := H1
                clear H1
                exact absurd ((Option.some.inj H).trans hr_.out) (by decide)
            · rw [if_neg c6] at H
              exact absurd H (by simp)
          · rw [if_neg c5] at H
            exact absurd H (by simp)
        · rw [if_neg c4] at H
          have c4b0 : decide (x5_1 < (l0.length : Int)) = false := decide_eq_false c4
          clear c4
          obtain rfl := Option.some.inj H
          go_wp2
          go_ret
          exact ⟨ER, (BB HB.out)⟩
  · rw [if_neg c3] at H
    have c3b0 : ((l0.length : Int) == (l1.length : Int)) = false := beq_eq_false_iff_ne.mpr c3
    have c3b1 : ((l0.length : Int) != (l1.length : Int)) = true := bne_iff_ne.mpr c3
    have c3b2 : (l0.length == l1.length) = false := by first | simpa using c3 | (simp at c3 ⊢; omega)
    exact absurd ((Option.some.inj H).trans hr_.out) (by decide)

end Go.Proofs.Ythgmmebkjhjgcaa.Pr

namespace Go.Proofs.Ythgmmebkjhjgcaa.Lw
open Go.RowKit Go.Proofs.YthgmmebkjhjgcaaW.PrintWords Go.Proofs.Ythgmmebkjhjgcaa.Pr Go.Proofs.Ythgmmebkjhjgcaa.Evs
set_option linter.unusedVariables false
abbrev LHost := S37
abbrev ImHost := S41
def wtHost (x : LHost) : Nat := (wtUnitS x.f2)
def wtHostS : List LHost → Nat
  | [] => 0
  | x :: s => 1 + wtHost x + wtHostS s
def okHost (x : LHost) : Prop := (x.f2.length ≤ maxLen ∧ ∀ y ∈ x.f2, okUnit y)
theorem wtHostS_len (l : List LHost) : l.length ≤ wtHostS l := by
  induction l with
  | nil => simp
  | cons x s ih => simp [wtHostS]; omega
def toHost (x : LHost) : ImHost := ⟨x.f0, x.f1, (x.f2.map toUnit)⟩
theorem rd37 (p s : List S37) (x : S37) : rd_T37 (p ++ x :: s) (p.length : Int) = x := by unfold rd_T37; exact getD_mid' p s x _ _ rfl
theorem rd41 (p s : List S41) (x : S41) : rd_T41 (p ++ x :: s) (p.length : Int) = x := by unfold rd_T41; exact getD_mid' p s x _ _ rfl
theorem szHost_ev (x : LHost) (left : Int) (h0 : 0 ≤ left) (h1 : left ≤ 1048576) (hx : okHost x) : SzEv (fun k => laws_szHost.f k (x.f0) (x.f1) (x.f2) left) left (wtHost x) := by
  unfold okHost at hx
  unfold laws_szHost.f wtHost
  have hx0 := hx
  skip
  refine sz_eq (sz_call (w1 := ((wtUnitS x.f2 : Nat) : Int)) (w2 := (0 : Int)) (szUnitS_ev x.f2 hx0.1 hx0.2 (left) (by omega) (by omega)) (fun l0 g0 e0 => ?_)) (by omega)
  exact sz_done (by omega)
theorem szHostS_loop (s : List LHost) : ∀ (p : List LHost) (left : Int), 0 ≤ left → left + s.length ≤ 1048576 → p.length + s.length ≤ maxLen → (∀ x ∈ s, okHost x) →
    SzEv (fun k => laws_szHostS.l0 k (p ++ s) left (p.length : Int)) (left + s.length) (wtHostS s) := by
  induction s with
  | nil =>
    intro p left h0 h1 hl ho
    exact sz_step (fun k => laws_szHostS.l0.eq_2 _ _ _ k) (sz_neg (by simp) (by simpa [wtHostS] using sz_done h0))
  | cons x s ih =>
    intro p left h0 h1 hl ho
    unfold maxLen at hl
    simp at h1 hl
    refine sz_step (fun k => laws_szHostS.l0.eq_2 _ _ _ k) (sz_pos (by simp; omega) (sz_pos (by omega) ?_))
    simp only [rd37, wrap_succ (show (0 : Int) ≤ (p.length : Int) by omega) (by omega)]
    have h := sz_call (F := fun k l => laws_szHostS.l0 k (p ++ x :: s) l ((p.length : Int) + 1)) (w2 := ((wtHostS s : Nat) : Int) - s.length) (szHost_ev x left h0 (by omega) (ho x (by simp))) (fun l hl0 hl1 => by
      obtain ⟨r, hE, hr⟩ := ih (p ++ [x]) l (by omega) (by omega) (by simp; unfold maxLen; omega) (fun y hy => ho y (by simp [hy]))
      exact ⟨r, by simpa using hE, by omega⟩)
    obtain ⟨r, hE, hr⟩ := h
    refine ⟨r, hE, ?_⟩
    simp [wtHostS]
    omega
theorem szHostS_ev (l : List LHost) (hl : l.length ≤ maxLen) (ho : ∀ x ∈ l, okHost x) (left : Int) (h0 : 0 ≤ left) (h1 : left ≤ 1048576) : SzEv (fun k => laws_szHostS.f k l left) left (wtHostS l) := by
  unfold laws_szHostS.f
  unfold maxLen at hl
  have e : wrap64 (left - (l.length : Int)) = left - l.length := wrap_in (by omega) (by omega)
  rw [e]
  refine sz_eq (sz_str (w2 := ((wtHostS l : Nat) : Int) - l.length) (fun g => ?_)) (by omega)
  obtain ⟨r, hE, hr⟩ := szHostS_loop l [] (left - l.length) g (by omega) (by simp; unfold maxLen; omega) ho
  exact ⟨r, by simpa using hE, by omega⟩
theorem toHost_ev (x : LHost) (hx : wtHost x ≤ 1048576) : Ev (fun k => laws_toHost.f k (x.f0) (x.f1) (x.f2)) ((toHost x).f0, (toHost x).f1, (toHost x).f2) := by
  unfold wtHost at hx
  unfold laws_toHost.f
  refine ev_bind (toUnitS_evw x.f2 (by omega)) ?_
  exact ev_some _
theorem toHostS_loop (s : List LHost) : ∀ (p : List LHost), wtHostS s ≤ 1048576 → p.length + s.length < 9223372036854775807 →
    Ev (fun k => laws_toHostS.l0 k (p ++ s) (p.map toHost ++ List.replicate s.length z41) (p.length : Int)) ((p ++ s).map toHost) := by
  induction s with
  | nil => intro p hw hl; exact ev_step (fun k => laws_toHostS.l0.eq_2 _ _ _ k) (ev_neg (by simp) (ev_eq (ev_some _) (by simp)))
  | cons x s ih =>
    intro p hw hl
    simp at hl
    simp only [wtHostS] at hw
    refine ev_step (fun k => laws_toHostS.l0.eq_2 _ _ _ k) (ev_pos (by simp; omega) (ev_pos (by omega) (ev_bind (by simp only [rd37]; exact toHost_ev x (by omega)) (ev_pos (by simp; omega) ?_))))
    rw [wrap_succ (by omega) (by omega)]
    have h := ih (p ++ [x]) (by omega) (by simp; omega)
    have e : (p.map toHost ++ List.replicate (x :: s).length z41).set ((p.length : Int)).toNat (toHost x) = (p ++ [x]).map toHost ++ List.replicate s.length z41 := by
      rw [List.length_cons, List.replicate_succ, set_mid _ _ _ _ _ (by simp)]
      simp
    refine ev_eq (g := fun k => laws_toHostS.l0 k (p ++ x :: s) ((p.map toHost ++ List.replicate (x :: s).length z41).set ((p.length : Int)).toNat (toHost x)) ((p.length : Int) + 1)) ?_ rfl
    rw [e]
    simpa using h
theorem toHostS_ev (l : List LHost) (hl : wtHostS l ≤ 1048576) : Ev (fun k => laws_toHostS.f k l) (l.map toHost) := by
  have hw := wtHostS_len l
  unfold laws_toHostS.f
  refine ev_pos (by omega) (ev_pos (by omega) ?_)
  have h := toHostS_loop l [] hl (by simp; omega)
  simpa using h
def lnHost (x : ImHost) : Prop := (x.f2.length < 9223372036854775000 ∧ ∀ y ∈ x.f2, lnUnit y)
theorem eqHost_refl (x : ImHost) (hx : lnHost x) : Ev (fun k => laws_eqHost.f k (x.f0) (x.f1) (x.f2) (x.f0) (x.f1) (x.f2)) true := by
  unfold lnHost at hx
  have h0 := hx
  unfold laws_eqHost.f
  repeat (first | with_reducible exact ev_some _ | with_reducible refine ev_pos rfl ?_ | with_reducible refine ev_neg (by simp; done) ?_ | with_reducible refine ev_bind (eqUnitS_ev x.f2 (by have := h0.1; omega)) ?_)
theorem eqHostS_loop (s : List ImHost) : ∀ (p : List ImHost), p.length + s.length < 9223372036854775807 → (∀ x ∈ s, lnHost x) → Ev (fun k => laws_eqHostS.l0 k (p ++ s) (p ++ s) (p.length : Int)) true := by
  induction s with
  | nil => intro p hl hs; exact ev_step (fun k => laws_eqHostS.l0.eq_2 _ _ _ k) (ev_neg (by simp) (ev_some _))
  | cons x s ih =>
    intro p hl hs
    simp at hl
    refine ev_step (fun k => laws_eqHostS.l0.eq_2 _ _ _ k) (ev_pos (by simp; omega) (ev_pos (by omega) (ev_pos (by simp; omega) (ev_bind (by simp only [rd41]; exact eqHost_refl x (hs x (by simp))) (ev_pos rfl ?_)))))
    rw [wrap_succ (by omega) (by omega)]
    simpa using ih (p ++ [x]) (by simp; omega) (fun y hy => hs y (by simp [hy]))
theorem eqHostS_ev (l : List ImHost) (hl : l.length < 9223372036854775807) (hs : ∀ x ∈ l, lnHost x) : Ev (fun k => laws_eqHostS.f k l l) true := by
  unfold laws_eqHostS.f
  refine ev_pos rfl ?_
  simpa using eqHostS_loop l [] (by simp; omega) hs
def bdHost (x : ImHost) : Prop := (x.f2.length ≤ 1048576 ∧ ∀ y ∈ x.f2, bdUnit y)
theorem wtHostS_at {l : List LHost} {x : LHost} (h : x ∈ l) : 1 + wtHost x ≤ wtHostS l := by
  induction l with
  | nil => cases h
  | cons y l ih =>
    rcases List.mem_cons.1 h with rfl | h
    · simp [wtHostS]
    · have := ih h
      simp [wtHostS]
      omega
theorem bd_toHost (x : LHost) (h : wtHost x ≤ 1048576) : bdHost (toHost x) := by
  unfold wtHost at h
  exact bd_toUnitS x.f2 (by omega)
theorem bd_toHostS (l : List LHost) (h : wtHostS l ≤ 1048576) : (l.map toHost).length ≤ 1048576 ∧ ∀ y ∈ l.map toHost, bdHost y := by
  have hl := wtHostS_len l
  refine ⟨by simp; omega, fun y hy => ?_⟩
  obtain ⟨z, hz, rfl⟩ := List.mem_map.1 hy
  have := wtHostS_at hz
  exact bd_toHost z (by omega)
theorem ln_bdHost {x : ImHost} (h : bdHost x) : lnHost x := by
  unfold bdHost at h
  have h2 := h
  exact (⟨by have := h2.1; omega, fun y hy => ln_bdUnit (h2.2 y hy)⟩)
end Go.Proofs.Ythgmmebkjhjgcaa.Lw

namespace Go.Proofs.Ythgmmebkjhjgcaa.Opn
open Go.RowKit Go.ChangeShapes Go.WideShapes Go.Deep Go.Proofs.YthgmmebkjhjgcaaW.PrintWords
def Opens {α : Type} (P : Program) (d : Kd α) (wf : α → Prop) (t : TypeId) : Prop :=
  ∀ (H : Type) (enc : TypeId × Value → H) (w : World) (base : Nat) (spare : Nat → Bool) (held : Bool) (fuel : Nat) (cs : List Value) (x : DataW H × List MemPlace),
    DataW.trod enc P w base spare held fuel t cs = some x → ∃ v, d.K w v cs ∧ wf v

def OpensF {α : Type} (P : Program) (d : Kd α) (wf : α → Prop) (off : Nat) (fs : List Field) : Prop :=
  ∀ (H : Type) (enc : TypeId × Value → H) (w : World) (base : Nat) (spare : Nat → Bool) (held : Bool) (fuel : Nat) (cs : List Value),
    cs.length = off + d.sz → (∀ f ∈ fs, ∃ y, DataW.trod enc P w base spare held fuel f.type ((cs.drop f.offset).take (P.cellsOf f.type)) = some y) → ∃ v, d.K w v (cs.drop off) ∧ wf v

theorem opens_int {P : Program} {t : TypeId} (k : IntKind) (ht : P.underlying t = some (.int k)) : Opens P (Kd.int k) (fun n => (Lit.int k n).wf = true) t := by
  intro H enc w base spare held fuel cs x h
  obtain ⟨n, rfl, _, hw⟩ := DataW.trod_int ht h
  exact ⟨n, rfl, hw⟩
theorem opens_bool {P : Program} {t : TypeId} (ht : P.underlying t = some .bool) : Opens P Kd.bool (fun _ => True) t := by
  intro H enc w base spare held fuel cs x h
  obtain ⟨n, rfl, _⟩ := DataW.trod_bool ht h
  exact ⟨n, rfl, trivial⟩
theorem opens_string {P : Program} {t : TypeId} (ht : P.underlying t = some .string) : Opens P Kd.string (fun s => s.size ≤ maxLen) t := by
  intro H enc w base spare held fuel cs x h
  obtain ⟨s, rfl, _, hs⟩ := DataW.trod_string ht h
  exact ⟨s, rfl, hs⟩

theorem list_of_lt {α : Type} {q : Nat → α → Prop} (len : Nat) (key : ∀ i, i < len → ∃ v, q i v) : ∃ xs : List α, xs.length = len ∧ ∀ i v, xs[i]? = some v → q i v := by
  induction len with
  | zero => exact ⟨[], rfl, fun i v h => by simp at h⟩
  | succ k ih =>
    obtain ⟨xs, hxl, hx⟩ := ih (fun i hik => key i (by omega))
    obtain ⟨v, h1⟩ := key k (by omega)
    refine ⟨xs ++ [v], by simp [hxl], fun i u hu => ?_⟩
    by_cases hik : i < xs.length
    · rw [List.getElem?_append_left hik] at hu
      exact hx i u hu
    · have hil := (List.getElem?_eq_some_iff.1 hu).1
      simp at hil
      have hi' : i = k := by omega
      subst hi'
      rw [List.getElem?_append_right (by omega)] at hu
      simp [hxl] at hu
      subst hu
      exact h1

theorem opens_slice {α : Type} {P : Program} {t e : TypeId} {d : Kd α} {wf : α → Prop} (ht : P.underlying t = some (.slice e)) (hc : P.cellsOf e = d.sz) (he : Opens P d wf e) :
    Opens P (Kd.slice e d) (fun xs => xs.length ≤ maxLen ∧ ∀ x ∈ xs, wf x) t := by
  intro H enc w base spare held fuel cs x h
  rcases Go.Deep.open_slice ht h with ⟨rfl, _⟩ | ⟨a, len, cap, m, n, D, Pl, rfl, _, hl, hm, hmm, _, hi⟩
  · refine ⟨[], ⟨none, 0, rfl, Nat.le_refl _, rfl, by simp, fun h => absurd h (by simp)⟩, by simp, fun x hx => by simp at hx⟩
  · have hlm : len ≤ m := by rw [hmm]; split <;> omega
    have key : ∀ i, i < len → ∃ v c, d.K w v c ∧ wf v ∧ w.cells? base (a.add (i * P.cellsOf e)) (P.cellsOf e) = some c := by
      intro i hil
      obtain ⟨c, h1, h2⟩ := hi i (by omega)
      obtain ⟨v, hk, hw⟩ := he _ _ _ _ _ _ _ _ _ h2
      exact ⟨v, c, hk, hw, h1⟩
    have this := list_of_lt (q := fun i v => ∃ c, d.K w v c ∧ wf v ∧ w.cells? base (a.add (i * P.cellsOf e)) (P.cellsOf e) = some c) len key
    obtain ⟨xs, hxl, hx⟩ := this
    refine ⟨xs, ⟨some a, cap, by rw [hxl], by omega, ?_⟩, by rw [hxl]; omega, ?_⟩
    · refine ⟨rfl, by unfold maxLen at hm; omega, fun _ => ⟨a, rfl, fun j p hj => ?_⟩⟩
      obtain ⟨c, h1, h2, h3⟩ := hx j p hj
      obtain ⟨_, hcl, hat⟩ := World.cells?_some h3
      refine ⟨c, by rw [hcl, hc], h1, fun i u hu => ?_⟩
      have hil : i < P.cellsOf e := by rw [← hcl]; exact (List.getElem?_eq_some_iff.1 hu).1
      rw [← Go.Deep.add_add, ← hc, hat i hil, hu]
    · intro y hy
      obtain ⟨i, hi⟩ := List.mem_iff_getElem?.1 hy
      obtain ⟨c, _, h2, _⟩ := hx i y hi
      exact h2

theorem opensF_one {α : Type} {P : Program} {d : Kd α} {wf : α → Prop} {f : Field} {off : Nat} (h : Opens P d wf f.type) (ho : f.offset = off) (hc : P.cellsOf f.type = d.sz) : OpensF P d wf off [f] := by
  intro H enc w base spare held fuel cs hl hf
  obtain ⟨y, hy⟩ := hf f (by simp)
  rw [ho, hc, List.take_of_length_le (by simp; omega)] at hy
  exact h _ _ _ _ _ _ _ _ _ hy
theorem opensF_cons {α β : Type} {P : Program} {a : Kd α} {b : Kd β} {wa : α → Prop} {wb : β → Prop} {f : Field} {fs : List Field} {off : Nat} (h : Opens P a wa f.type) (ho : f.offset = off) (hc : P.cellsOf f.type = a.sz)
    (ht : OpensF P b wb (off + a.sz) fs) : OpensF P (Kd.pair a b) (fun x => wa x.1 ∧ wb x.2) off (f :: fs) := by
  intro H enc w base spare held fuel cs hl hf
  have hsz : (Kd.pair a b).sz = a.sz + b.sz := rfl
  obtain ⟨y, hy⟩ := hf f (by simp)
  rw [ho, hc] at hy
  obtain ⟨v, hv, hw⟩ := h _ _ _ _ _ _ _ _ _ hy
  obtain ⟨u, hu, hw'⟩ := ht H enc w base spare held fuel cs (by rw [hl, hsz]; omega) (fun g hg => hf g (by simp [hg]))
  refine ⟨(v, u), ⟨_, _, ?_, hv, hu⟩, hw, hw'⟩
  rw [← List.drop_drop, List.take_append_drop]
theorem opens_struct {α : Type} {P : Program} {t : TypeId} {d : Kd α} {wf : α → Prop} {fs : Array Field} (ht : P.underlying t = some (.struct fs)) (hc : P.cellsOf t = d.sz) (h : OpensF P d wf 0 fs.toList) : Opens P d wf t := by
  intro H enc w base spare held fuel cs x hx
  obtain ⟨xs, n, _, _, hlen, hxl, hf⟩ := DataW.trod_struct ht hx
  obtain ⟨v, hv, hw⟩ := h H enc w base spare held n cs (by rw [hlen, hc]; simp) (fun f hfm => by
    obtain ⟨i, hi⟩ := List.mem_iff_getElem?.1 hfm
    have hi' : fs[i]? = some f := by simpa using hi
    have hil : i < xs.length := by rw [hxl]; exact (Array.getElem?_eq_some_iff.1 hi').1
    exact ⟨xs[i], by rw [hf i f hi', List.getElem?_eq_getElem hil]⟩)
  exact ⟨v, by simpa using hv, hw⟩
theorem opens_iso {α β : Type} {P : Program} {t : TypeId} {d : Kd α} {wf : α → Prop} (h : Opens P d wf t) (f : β → α) (g : α → β) (e : ∀ x, f (g x) = x) : Opens P (Kd.iso d f) (fun y => wf (f y)) t := by
  intro H enc w base spare held fuel cs x hx
  obtain ⟨v, hv, hw⟩ := h _ _ _ _ _ _ _ _ _ hx
  refine ⟨g v, ?_, ?_⟩
  · show d.K w (f (g v)) cs
    rw [e]
    exact hv
  · show wf (f (g v))
    rw [e]
    exact hw

theorem arg_slice {α : Type} {P : Program} {t e : TypeId} {d : Kd α} {wf : List α → Prop} (h : Opens P (Kd.slice e d) wf t) {H : Type} {enc : TypeId × Value → H} {w : World} {base : Nat} {spare : Nat → Bool} {held : Bool}
    {A : Option Addr} {n c : Nat} {x : DataW H} {p : List MemPlace} (hx : DataW.Trod enc P w base spare held t (.slice A n c) x p) : ∃ l : List α, n = l.length ∧ l.length ≤ c ∧ Kd.C d w A l.length l ∧ wf l := by
  obtain ⟨fuel, hf⟩ := hx
  obtain ⟨l, ⟨A', c', he, hl, hC⟩, hw⟩ := h _ _ _ _ _ _ _ _ _ hf
  simp [Value.cells] at he
  obtain ⟨rfl, rfl, rfl⟩ := he
  exact ⟨l, rfl, hl, hC, hw⟩
end Go.Proofs.Ythgmmebkjhjgcaa.Opn

namespace Go.Proofs.Ythgmmebkjhjgcaa.SFnExactPlaceGroup
open Go.RowKit Go.Proofs.YthgmmebkjhjgcaaW.PrintWords Go.Proofs.YthgmmebkjhjgcaaW.PrintLast Go.Proofs.YthgmmebkjhjgcaaW.PrintMore Go.Proofs.Ythgmmebkjhjgcaa.Pr Go.Proofs.Ythgmmebkjhjgcaa.Opn
set_option linter.unusedVariables false
def wf58 (x : S58) : Prop := ((Lit.int .i64 x.f0).wf = true) ∧ ((Lit.int .i64 x.f1).wf = true) ∧ (x.f2.size ≤ maxLen) ∧ ((Lit.int .i64 x.f3).wf = true)
set_option maxRecDepth 100000 in
theorem op58 : Opens Try.prog k58 wf58 58 := opens_iso (opens_struct Try.underlying58 (by kernel_rfl) (opensF_cons (opens_int .i64 Try.underlying3) rfl (by kernel_rfl) (opensF_cons (opens_int .i64 Try.underlying3) rfl (by kernel_rfl) (opensF_cons (opens_string Try.underlying9) rfl (by kernel_rfl) (opensF_one (opens_int .i64 Try.underlying3) rfl (by kernel_rfl)))))) _ (fun p => (⟨p.1, p.2.1, p.2.2.1, p.2.2.2⟩ : S58)) (fun _ => rfl)
def wf37 (x : S37) : Prop := ((Lit.int .i64 x.f0).wf = true) ∧ (True) ∧ (x.f2.length ≤ maxLen ∧ ∀ y ∈ x.f2, wf58 y)
set_option maxRecDepth 100000 in
theorem op37 : Opens Try.prog k37 wf37 37 := opens_iso (opens_struct Try.underlying37 (by kernel_rfl) (opensF_cons (opens_int .i64 Try.underlying3) rfl (by kernel_rfl) (opensF_cons (opens_bool Try.underlying4) rfl (by kernel_rfl) (opensF_one (opens_slice Try.underlying35 (by kernel_rfl) (op58)) rfl (by kernel_rfl))))) _ (fun p => (⟨p.1, p.2.1, p.2.2⟩ : S37)) (fun _ => rfl)
theorem ok_wfUnit {x : S58} (h : wf58 x) : Lw.okUnit x := h.2.2.1
theorem ok_wfHost {x : S37} (h : wf37 x) : Lw.okHost x := ⟨h.2.2.1, fun y hy => ok_wfUnit (h.2.2.2 y hy)⟩
def Direct : Prop := ∀ (l0 : List (S37)) (a1 : Int) (A0 : Option Addr) (c0 : Nat) (w : World), Kd.C k37 w A0 l0.length l0 → l0.length ≤ c0 → (l0.length ≤ maxLen ∧ ∀ y ∈ l0, wf37 y) → (Lit.int .i64 a1).wf = true → Calls Try.prog 3 #[.slice A0 l0.length c0, .int .i64 a1] w fun e w' => e = .returned (.bool true) ∧ Below w.heap.size w w'
end Go.Proofs.Ythgmmebkjhjgcaa.SFnExactPlaceGroup

namespace Go.Proofs.Ythgmmebkjhjgcaa.Pr
open Go.RowKit Go.Proofs.YthgmmebkjhjgcaaW.PrintWords Go.Proofs.YthgmmebkjhjgcaaW.PrintLast Go.Proofs.YthgmmebkjhjgcaaW.PrintMore
attribute [local go_sem] max2_int min2_int max_two min_two max_three min_three max_four min_four
set_option linter.unusedVariables false
set_option linter.unusedSimpArgs false
def cmp_isNaN_int.f (a0 : Int) : Option (Bool) := some (a0 != a0)
set_option maxHeartbeats 8000000 in
set_option maxRecDepth 100000 in
theorem cmp_isNaN_int.calls (a0 : Int) (r : Bool) (w : World) (h : cmp_isNaN_int.f a0 = some r) :
    Calls Try.prog 33 #[.int .i64 a0] w fun e w' => e = .returned (.bool r) ∧ Drawn0 w w' := by
  have H : (some (a0 != a0)) = some r := h
  clear h
  obtain rfl := Option.some.inj H
  go_enter Try.func33, Try.ntmps33
  go_wp2
  go_ret
  exact ⟨FR, by repeat (first | exact Drawn0.refl _ | apply Drawn0.step)⟩

end Go.Proofs.Ythgmmebkjhjgcaa.Pr

namespace Go.Proofs.Ythgmmebkjhjgcaa.Pr
open Go.RowKit Go.Proofs.YthgmmebkjhjgcaaW.PrintWords Go.Proofs.YthgmmebkjhjgcaaW.PrintLast Go.Proofs.YthgmmebkjhjgcaaW.PrintMore
attribute [local go_sem] max2_int min2_int max_two min_two max_three min_three max_four min_four
set_option linter.unusedVariables false
set_option linter.unusedSimpArgs false
def cmp_Compare_int.f (a0 : Int) (a1 : Int) : Option (Int) := (cmp_isNaN_int.f a0).bind fun t216 => ((cmp_isNaN_int.f a1).bind fun t217 => (if t216 = true then (if t217 = true then (some 0) else (some (-1))) else (if t217 = true then (some 1) else (if a0 < a1 then (some (-1)) else (if a0 > a1 then (some 1) else (some 0))))))
set_option maxHeartbeats 8000000 in
set_option maxRecDepth 100000 in
theorem cmp_Compare_int.calls (a0 : Int) (a1 : Int) (r : Int) (w : World) (h : cmp_Compare_int.f a0 a1 = some r) :
    Calls Try.prog 26 #[.int .i64 a0, .int .i64 a1] w fun e w' => e = .returned (.int .i64 r) ∧ Drawn0 w w' := by
  have H : ((cmp_isNaN_int.f a0).bind fun t216 => ((cmp_isNaN_int.f a1).bind fun t217 => (if t216 = true then (if t217 = true then (some 0) else (some (-1))) else (if t217 = true then (some 1) else (if a0 < a1 then (some (-1)) else (if a0 > a1 then (some 1) else (some 0))))))) = some r := h
  clear h
  replace H := Option.bind_eq_some_iff.mp H
  obtain ⟨t216, A30, H⟩ := H
  replace H : ((cmp_isNaN_int.f a1).bind fun t217 => (if t216 = true then (if t217 = true then (some 0) else (some (-1))) else (if t217 = true then (some 1) else (if a0 < a1 then (some (-1)) else (if a0 > a1 then (some 1) else (some 0)))))) = some r := H
  have A3 := Aside0.mk A30
  clear A30
  replace H := Option.bind_eq_some_iff.mp H
  obtain ⟨t217, A40, H⟩ := H
  replace H : (if t216 = true then (if t217 = true then (some 0) else (some (-1))) else (if t217 = true then (some 1) else (if a0 < a1 then (some (-1)) else (if a0 > a1 then (some 1) else (some 0))))) = some r := H
  have A4 := Aside0.mk A40
  clear A40
  by_cases c5 : t216 = true
  · subst c5
    have H1 : (if t217 = true then (some 0) else (some (-1))) = some r := by rw [if_pos rfl] at H; exact H
    clear H
    have H := H1
    clear H1
    by_cases c6 : t217 = true
    · subst c6
      have H1 : (some 0) = some r := by rw [if_pos rfl] at H; exact H
      clear H
      have H := H1
      clear H1
      obtain rfl := Option.some.inj H
      go_enter Try.func26, Try.ntmps26
      go_wp2_with (first | ((with_reducible refine gate_callee (f := 33) rfl ?_); refine GL (some 8) rfl rfl Try.func33 #[.int .i64 a0] rfl ?_; (with_reducible refine (cmp_isNaN_int.calls a0 true _ A3.out).mono ?_); rintro e w' ⟨rfl, ⟨nd, rfl⟩⟩; refine ⟨_, rfl, ?_⟩) | ((with_reducible refine gate_callee (f := 33) rfl ?_); refine GL (some 10) rfl rfl Try.func33 #[.int .i64 a1] rfl ?_; (with_reducible refine (cmp_isNaN_int.calls a1 true _ A4.out).mono ?_); rintro e w' ⟨rfl, ⟨nd, rfl⟩⟩; refine ⟨_, rfl, ?_⟩))
      go_ret
      exact ⟨FR, by repeat (first | exact Drawn0.refl _ | apply Drawn0.step)⟩
    · replace c6 := Bool.eq_false_iff.mpr c6
      subst c6
      have H1 : (some (-1)) = some r := by rw [if_neg (show ¬ (false = true) by decide)] at H; exact H
      clear H
      have H := H1
      clear H1
      obtain rfl := Option.some.inj H
      go_enter Try.func26, Try.ntmps26
      go_wp2_with (first | ((with_reducible refine gate_callee (f := 33) rfl ?_); refine GL (some 8) rfl rfl Try.func33 #[.int .i64 a0] rfl ?_; (with_reducible refine (cmp_isNaN_int.calls a0 true _ A3.out).mono ?_); rintro e w' ⟨rfl, ⟨nd, rfl⟩⟩; refine ⟨_, rfl, ?_⟩) | ((with_reducible refine gate_callee (f := 33) rfl ?_); refine GL (some 10) rfl rfl Try.func33 #[.int .i64 a1] rfl ?_; (with_reducible refine (cmp_isNaN_int.calls a1 false _ A4.out).mono ?_); rintro e w' ⟨rfl, ⟨nd, rfl⟩⟩; refine ⟨_, rfl, ?_⟩))
      go_ret
      exact ⟨FR, by repeat (first | exact Drawn0.refl _ | apply Drawn0.step)⟩
  · replace c5 := Bool.eq_false_iff.mpr c5
    subst c5
    have H1 : (if t217 = true then (some 1) else (if a0 < a1 then (some (-1)) else (if a0 > a1 then (some 1) else (some 0)))) = some r := by rw [if_neg (show ¬ (false = true) by decide)] at H; exact H
    clear H
    have H := H1
    clear H1
    by_cases c7 : t217 = true
    · subst c7
      have H1 : (some 1) = some r := by rw [if_pos rfl] at H; exact H
      clear H
      have H := H1
      clear H1
      obtain rfl := Option.some.inj H
      go_enter Try.func26, Try.ntmps26
      go_wp2_with (first | ((with_reducible refine gate_callee (f := 33) rfl ?_); refine GL (some 8) rfl rfl Try.func33 #[.int .i64 a0] rfl ?_; (with_reducible refine (cmp_isNaN_int.calls a0 false _ A3.out).mono ?_); rintro e w' ⟨rfl, ⟨nd, rfl⟩⟩; refine ⟨_, rfl, ?_⟩) | ((with_reducible refine gate_callee (f := 33) rfl ?_); refine GL (some 10) rfl rfl Try.func33 #[.int .i64 a1] rfl ?_; (with_reducible refine (cmp_isNaN_int.calls a1 true _ A4.out).mono ?_); rintro e w' ⟨rfl, ⟨nd, rfl⟩⟩; refine ⟨_, rfl, ?_⟩))
      go_ret
      exact ⟨FR, by repeat (first | exact Drawn0.refl _ | apply Drawn0.step)⟩
    · replace c7 := Bool.eq_false_iff.mpr c7
      subst c7
      have H1 : (if a0 < a1 then (some (-1)) else (if a0 > a1 then (some 1) else (some 0))) = some r := by rw [if_neg (show ¬ (false = true) by decide)] at H; exact H
      clear H
      have H := H1
      clear H1
      by_cases c8 : a0 < a1
      · rw [if_pos c8] at H
        have c8b0 : decide (a0 < a1) = true := decide_eq_true c8
        clear c8
        obtain rfl := Option.some.inj H
        go_enter Try.func26, Try.ntmps26
        go_wp2_with (first | ((with_reducible refine gate_callee (f := 33) rfl ?_); refine GL (some 8) rfl rfl Try.func33 #[.int .i64 a0] rfl ?_; (with_reducible refine (cmp_isNaN_int.calls a0 false _ A3.out).mono ?_); rintro e w' ⟨rfl, ⟨nd, rfl⟩⟩; refine ⟨_, rfl, ?_⟩) | ((with_reducible refine gate_callee (f := 33) rfl ?_); refine GL (some 10) rfl rfl Try.func33 #[.int .i64 a1] rfl ?_; (with_reducible refine (cmp_isNaN_int.calls a1 false _ A4.out).mono ?_); rintro e w' ⟨rfl, ⟨nd, rfl⟩⟩; refine ⟨_, rfl, ?_⟩))
        go_ret
        exact ⟨FR, by repeat (first | exact Drawn0.refl _ | apply Drawn0.step)⟩
      · rw [if_neg c8] at H
        have c8b0 : decide (a0 < a1) = false := decide_eq_false c8
        clear c8
        by_cases c9 : a0 > a1
        · rw [if_pos c9] at H
          have c9b0 : decide (a1 < a0) = true := decide_eq_true c9
          clear c9
          obtain rfl := Option.some.inj H
          go_enter Try.func26, Try.ntmps26
          go_wp2_with (first | ((with_reducible refine gate_callee (f := 33) rfl ?_); refine GL (some 8) rfl rfl Try.func33 #[.int .i64 a0] rfl ?_; (with_reducible refine (cmp_isNaN_int.calls a0 false _ A3.out).mono ?_); rintro e w' ⟨rfl, ⟨nd, rfl⟩⟩; refine ⟨_, rfl, ?_⟩) | ((with_reducible refine gate_callee (f := 33) rfl ?_); refine GL (some 10) rfl rfl Try.func33 #[.int .i64 a1] rfl ?_; (with_reducible refine (cmp_isNaN_int.calls a1 false _ A4.out).mono ?_); rintro e w' ⟨rfl, ⟨nd, rfl⟩⟩; refine ⟨_, rfl, ?_⟩))
          go_ret
          exact ⟨FR, by repeat (first | exact Drawn0.refl _ | apply Drawn0.step)⟩
        · rw [if_neg c9] at H
          have c9b0 : decide (a1 < a0) = false := decide_eq_false c9
          clear c9
          obtain rfl := Option.some.inj H
          go_enter Try.func26, Try.ntmps26
          go_wp2_with (first | ((with_reducible refine gate_callee (f := 33) rfl ?_); refine GL (some 8) rfl rfl Try.func33 #[.int .i64 a0] rfl ?_; (with_reducible refine (cmp_isNaN_int.calls a0 false _ A3.out).mono ?_); rintro e w' ⟨rfl, ⟨nd, rfl⟩⟩; refine ⟨_, rfl, ?_⟩) | ((with_reducible refine gate_callee (f := 33) rfl ?_); refine GL (some 10) rfl rfl Try.func33 #[.int .i64 a1] rfl ?_; (with_reducible refine (cmp_isNaN_int.calls a1 false _ A4.out).mono ?_); rintro e w' ⟨rfl, ⟨nd, rfl⟩⟩; refine ⟨_, rfl, ?_⟩))
          go_ret
          exact ⟨FR, by repeat (first | exact Drawn0.refl _ | apply Drawn0.step)⟩

end Go.Proofs.Ythgmmebkjhjgcaa.Pr

namespace Go.Proofs.Ythgmmebkjhjgcaa.Pr
open Go.RowKit Go.Proofs.YthgmmebkjhjgcaaW.PrintWords Go.Proofs.YthgmmebkjhjgcaaW.PrintLast Go.Proofs.YthgmmebkjhjgcaaW.PrintMore
attribute [local go_sem] max2_int min2_int max_two min_two max_three min_three max_four min_four
set_option linter.unusedVariables false
set_option linter.unusedSimpArgs false
def cmp_Or_int.l0 : Nat → Int → List Int → Int → Int → Option (Int)
  | 0, _, _, _, _ => none
  | k + 1, x3, x6, x7, x8 => if x8 < x7 then (if 0 ≤ x8 then (if x8 < (x6.length : Int) then (if (rd x6 x8) = x3 then (cmp_Or_int.l0 k x3 x6 x7 (wrap64 (x8 + 1))) else (some (rd x6 x8))) else (none)) else (none)) else (some x3)
def cmp_Or_int.f (k : Nat) (l0 : List Int) : Option (Int) := cmp_Or_int.l0 k 0 l0 (l0.length : Int) 0
set_option maxHeartbeats 8000000 in
set_option maxRecDepth 100000 in
theorem cmp_Or_int.calls (k : Nat) (A0 : Option Addr) (c0 : Nat) (l0 : List Int) (r : Int) (w : World) (hr0 : Kd.C (Kd.int .i64) w A0 l0.length l0) (hc0 : l0.length ≤ c0) (h : cmp_Or_int.f k l0 = some r) :
    Calls Try.prog 25 #[.slice A0 l0.length c0] w fun e w' => e = .returned (.int .i64 r) ∧ Drawn0 w w' := by
  have HR0 := Aside0.mk hr0
  have HC0 := Aside0.mk hc0
  clear hr0 hc0
  have H : (cmp_Or_int.l0 k 0 l0 (l0.length : Int) 0) = some r := h
  clear h
  have H' := Aside0.mk H
  clear H
  go_enter Try.func25, Try.ntmps25
  go_wp2
  go_loopg [8] k (fun kq v8 w' => ∃ (x8_1 : Int), v8 = .int .i64 x8_1 ∧ Aside0 (cmp_Or_int.l0 kq 0 l0 (l0.length : Int) x8_1 = some r) ∧ Aside0 (kq ≤ k) ∧ Drawn0 w w')
  case atStart => exact ⟨(0), FR, H', ⟨Nat.le_refl _⟩, by repeat (first | exact Drawn0.refl _ | apply Drawn0.step)⟩
  case round =>
    clear H'
    obtain ⟨x8_1, rfl, HA, HK1, ⟨m1, rfl⟩⟩ := hrel
    cases gk with
    | zero => exact absurd HA.out (by simp [cmp_Or_int.l0])
    | succ k1 =>
      have H := HA.out
      clear HA
      simp only [cmp_Or_int.l0] at H
      by_cases c2 : x8_1 < (l0.length : Int)
      · rw [if_pos c2] at H
        have c2b0 : decide (x8_1 < (l0.length : Int)) = true := decide_eq_true c2
        clear c2
        by_cases c3 : 0 ≤ x8_1
        · rw [if_pos c3] at H
          have c3b0 : decide (0 ≤ x8_1) = true := decide_eq_true c3
          clear c3
          by_cases c4 : x8_1 < (l0.length : Int)
          · rw [if_pos c4] at H
            have c4b0 : decide (x8_1 < (l0.length : Int)) = true := decide_eq_true c4
            clear c4
            by_cases c5 : (rd l0 x8_1) = 0
            · rw [if_pos c5] at H
              have c5b0 : ((rd l0 x8_1) == 0) = true := beq_iff_eq.mpr c5
              have c5b1 : ((rd l0 x8_1) != 0) = false := bne_eq_false_iff_eq.mpr c5
              clear c5
              have H' := Aside0.mk H
              clear H
              have p218 : 0 ≤ (x8_1 : Int) := DT
              have q218 : x8_1 < (l0.length : Int) := DT
              obtain ⟨ad218, e218, hx218_0⟩ := Kd.at_int HR0.out x8_1 p218 q218
              cases e218
              replace p218 := eq_true p218
              replace q218 := eq_true q218
              go_wp2
              go_roundg k1
              case measure => have := HK1.out; omega
              case rel => exact ⟨(wrap64 (x8_1 + 1)), FR, H', ⟨by have := HK1.out; omega⟩, by repeat (first | exact Drawn0.refl _ | apply Drawn0.step)⟩
            · rw [if_neg c5] at H
              have c5b0 : ((rd l0 x8_1) == 0) = false := beq_eq_false_iff_ne.mpr c5
              have c5b1 : ((rd l0 x8_1) != 0) = true := bne_iff_ne.mpr c5
              obtain rfl := Option.some.inj H
              have p218 : 0 ≤ (x8_1 : Int) := DT
              have q218 : x8_1 < (l0.length : Int) := DT
              obtain ⟨ad218, e218, hx218_0⟩ := Kd.at_int HR0.out x8_1 p218 q218
              cases e218
              replace p218 := eq_true p218
              replace q218 := eq_true q218
              go_wp2
              go_ret
              exact ⟨FR, by repeat (first | exact Drawn0.refl _ | apply Drawn0.step)⟩
          · rw [if_neg c4] at H
            exact absurd H (by simp)
        · rw [if_neg c3] at H
          exact absurd H (by simp)
      · rw [if_neg c2] at H
        have c2b0 : decide (x8_1 < (l0.length : Int)) = false := decide_eq_false c2
        clear c2
        obtain rfl := Option.some.inj H
        go_wp2
        go_ret
        exact ⟨FR, by repeat (first | exact Drawn0.refl _ | apply Drawn0.step)⟩

end Go.Proofs.Ythgmmebkjhjgcaa.Pr

namespace Go.Proofs.Ythgmmebkjhjgcaa.Pr
open Go.RowKit Go.Proofs.YthgmmebkjhjgcaaW.PrintWords Go.Proofs.YthgmmebkjhjgcaaW.PrintLast Go.Proofs.YthgmmebkjhjgcaaW.PrintMore
set_option linter.unusedVariables false
set_option linter.unusedSimpArgs false
open Go.Shelf Go.Lib Go.Sort
def cmpI (x y : Int) : Int := if x < y then -1 else if y < x then 1 else 0
def orI (p q : Int) : Int := if p = 0 then q else p
structure Gr (W w' : World) : Prop where mk :: (out : ∃ q os', w' = grow (W.drewN q) os')
theorem Gr.refl (W : World) : Gr W W := ⟨0, #[], by simp [World.drewN_zero]⟩
theorem grow_drewN (W : World) (os : Array Obj) (q : Nat) : (Go.Sort.grow W os).drewN q = Go.Sort.grow (W.drewN q) os := rfl
theorem drewN_add (W : World) (q r : Nat) : (W.drewN q).drewN r = W.drewN (q + r) := by simp [World.drewN, Nat.add_assoc]
theorem Gr.drewN {W w : World} (h : Gr W w) (r : Nat) : Gr W (w.drewN r) := by
  obtain ⟨q, os, rfl⟩ := h.out
  exact ⟨q + r, os, by rw [grow_drewN, drewN_add]⟩
theorem Gr.drew {W w : World} (h : Gr W w) : Gr W w.drew := h.drewN 1
theorem Gr.drawn0 {W w w' : World} (h : Gr W w) (k : Drawn0 w w') : Gr W w' := by
  obtain ⟨n, rfl⟩ := k.out
  exact h.drewN n
theorem Gr.grow {W w : World} (h : Gr W w) (os' : Array Obj) : Gr W (grow w os') := by
  obtain ⟨q, os, rfl⟩ := h.out
  exact ⟨q, os ++ os', by rw [grow_grow]⟩
theorem Gr.alloc {W w : World} (h : Gr W w) (o : Obj) : Gr W (w.alloc o) := by rw [alloc_eq_grow]; exact h.grow _
theorem grow_cell {w : World} {a : Addr} {v : Value} (h : w.cell? a = some v) (os : Array Obj) : (Go.Sort.grow w os).cell? a = some v := (cell?_grow w os a (World.block_lt_of_cell? w a h)).trans h
theorem Gr.cell {W w : World} (h : Gr W w) {a : Addr} {v : Value} (k : W.cell? a = some v) : w.cell? a = some v := by
  obtain ⟨q, os, rfl⟩ := h.out
  have k1 : (W.drewN q).cell? a = some v := k
  exact grow_cell k1 os
theorem compare_x (x y : Int) (w : World) : Calls Try.prog 26 #[.int .i64 x, .int .i64 y] w fun e w' => e = .returned (.int .i64 (cmpI x y)) ∧ Drawn0 w w' := by
  refine cmp_Compare_int.calls x y _ w ?_
  have e : ∀ z : Int, cmp_isNaN_int.f z = some false := fun z => by simp [cmp_isNaN_int.f]
  unfold cmp_Compare_int.f cmpI
  rw [e, e]
  by_cases h : x < y <;> by_cases h2 : y < x <;> simp [h, h2]
theorem or_x (b : Nat) (p q : Int) (w : World) (h0 : w.cell? ⟨b, 0, none⟩ = some (.int .i64 p)) (h1 : w.cell? ⟨b, 1, none⟩ = some (.int .i64 q)) : Calls Try.prog 25 #[.slice (some ⟨b, 0, none⟩) 2 2] w fun e w' => e = .returned (.int .i64 (orI p q)) ∧ Drawn0 w w' := by
  refine cmp_Or_int.calls 3 (some ⟨b, 0, none⟩) 2 [p, q] _ w ?_ (Nat.le_refl _) ?_
  · refine ⟨rfl, show (2 : Nat) ≤ _ by decide, fun _ => ⟨_, rfl, fun j x hj => ?_⟩⟩
    rcases j with _ | _ | j
    · obtain rfl : p = x := by simpa using hj
      refine ⟨[.int .i64 p], rfl, rfl, fun i u hu => ?_⟩
      cases i with
      | zero => obtain rfl : Value.int .i64 p = u := by simpa using hu
                rw [Addr.add_lit]; exact h0
      | succ i => simp at hu
    · obtain rfl : q = x := by simpa using hj
      refine ⟨[.int .i64 q], rfl, rfl, fun i u hu => ?_⟩
      cases i with
      | zero => obtain rfl : Value.int .i64 q = u := by simpa using hu
                rw [Addr.add_lit]; exact h1
      | succ i => simp at hu
    · simp at hj
  · unfold orI
    by_cases hp : p = 0 <;> by_cases hq : q = 0 <;> simp [cmp_Or_int.f, cmp_Or_int.l0, rd, hp, hq, wrap64]
set_option maxHeartbeats 4000000 in
set_option maxRecDepth 100000 in
theorem loadOf_x (i : Int) (u : Bool) (A : Option Addr) (n c : Nat) (w : World) : Calls Try.prog 27 #[.agg #[.int .i64 i, .bool u, .slice A n c]] w fun e w' => e = .returned (.int .i64 n) ∧ ∃ os', w' = Go.Sort.grow w os' := by
  have hu41 := Try.underlying41
  go_enter Try.func27, Try.ntmps27
  go_wp2
  go_ret
  exact ⟨rfl, _, alloc_eq_grow _ _⟩
end Go.Proofs.Ythgmmebkjhjgcaa.Pr

namespace Go.Proofs.Ythgmmebkjhjgcaa.Pu
open Go.Sort
set_option linter.unusedVariables false
set_option linter.unusedSimpArgs false
variable {α : Type} [Inhabited α]
def swpRange (a b : Nat) : Nat → Array α → Array α
  | 0, d => d
  | n + 1, d => swp (swpRange a b n d) (a + n) (b + n)
theorem size_swpRange (a b n : Nat) (d : Array α) : (swpRange a b n d).size = d.size := by
  induction n with
  | zero => rfl
  | succ n ih => rw [swpRange, size_swp, ih]
theorem swpRange_get (a b : Nat) (d : Array α) (n : Nat) (hab : a + n ≤ b) (hb : b + n ≤ d.size) (k : Nat) :
    (swpRange a b n d)[k]! = if a ≤ k ∧ k < a + n then d[k + (b - a)]! else if b ≤ k ∧ k < b + n then d[k - (b - a)]! else d[k]! := by
  induction n generalizing k with
  | zero => rw [swpRange, if_neg (by omega), if_neg (by omega)]
  | succ n ih =>
    have ih := ih (by omega) (by omega)
    have hs := size_swpRange a b n d
    rw [swpRange, swp_get _ (by omega) (by omega)]
    by_cases h1 : k = b + n
    · rw [if_pos h1, ih, if_neg (by omega), if_neg (by omega), if_neg (by omega), if_pos (by omega)]
      congr 1
      omega
    · rw [if_neg h1]
      by_cases h2 : k = a + n
      · rw [if_pos h2, ih, if_neg (by omega), if_neg (by omega), if_pos (by omega)]
        congr 1
        omega
      · rw [if_neg h2, ih]
        by_cases h3 : a ≤ k ∧ k < a + n
        · rw [if_pos h3, if_pos (by omega)]
        · rw [if_neg h3, if_neg (show ¬ (a ≤ k ∧ k < a + (n + 1)) by omega)]
          by_cases h4 : b ≤ k ∧ k < b + n
          · rw [if_pos h4, if_pos (by omega)]
          · rw [if_neg h4, if_neg (by omega)]
theorem swpRange_perm (lo hi a b : Nat) (d : Array α) (n : Nat) (hlo : lo ≤ a) (hab : a + n ≤ b) (hb : b + n ≤ hi) (hh : hi ≤ d.size) : PermIn lo hi d (swpRange a b n d) := by
  induction n with
  | zero => exact permIn_refl _ _ _
  | succ n ih =>
    have hs := size_swpRange a b n d
    exact permIn_trans _ _ _ _ _ (ih (by omega) (by omega)) (swp_permIn _ lo hi (a + n) (b + n) (by omega) (by omega) (by omega) (by omega) (by omega))
def rotGet (m i j : Nat) (d : Array α) (k : Nat) : α := if m - i ≤ k ∧ k < m - i + j then d[k + i]! else if m - i + j ≤ k ∧ k < m + j then d[k - j]! else d[k]!
theorem rot_step1 (m i j : Nat) (d : Array α) (hj : 0 < j) (hi : j < i) (him : i ≤ m) (hm : m + j ≤ d.size) (k : Nat) : rotGet m (i - j) j (swpRange (m - i) m j d) k = rotGet m i j d k := by
  have g := swpRange_get (m - i) m d j (by omega) (by omega)
  unfold rotGet
  by_cases h1 : m - i ≤ k ∧ k < m - i + j
  · rw [if_neg (by omega), if_neg (by omega), if_pos h1, g, if_pos (by omega)]
    congr 1
    omega
  · rw [if_neg h1]
    by_cases h2 : m - i + j ≤ k ∧ k < m + j
    · rw [if_pos h2]
      by_cases h3 : m - (i - j) ≤ k ∧ k < m - (i - j) + j
      · rw [if_pos h3, g]
        by_cases h4 : m ≤ k + (i - j) ∧ k + (i - j) < m + j
        · rw [if_neg (by omega), if_pos h4]
          congr 1
          omega
        · rw [if_neg (by omega), if_neg h4]
          exfalso
          omega
      · rw [if_neg h3, if_pos (by omega), g, if_neg (by omega), if_neg (by omega)]
    · rw [if_neg h2, if_neg (by omega), if_neg (by omega), g, if_neg (by omega), if_neg (by omega)]
theorem rot_step2 (m i j : Nat) (d : Array α) (hi : 0 < i) (hj : i < j) (him : i ≤ m) (hm : m + j ≤ d.size) (k : Nat) : rotGet m i (j - i) (swpRange (m - i) (m + j - i) i d) k = rotGet m i j d k := by
  have g := swpRange_get (m - i) (m + j - i) d i (by omega) (by omega)
  unfold rotGet
  by_cases h1 : m - i ≤ k ∧ k < m - i + (j - i)
  · rw [if_pos h1, if_pos (by omega), g, if_neg (by omega), if_neg (by omega)]
  · rw [if_neg h1]
    by_cases h2 : m - i + (j - i) ≤ k ∧ k < m + (j - i)
    · rw [if_pos h2, g, if_pos (by omega)]
      rw [if_pos (by omega)]
      congr 1
      omega
    · rw [if_neg h2, g]
      by_cases h3 : m + j - i ≤ k ∧ k < m + j - i + i
      · rw [if_neg (by omega), if_pos h3, if_neg (by omega), if_pos (by omega)]
        congr 1
        omega
      · rw [if_neg (by omega), if_neg h3, if_neg (by omega), if_neg (by omega)]
theorem rot_end (m i : Nat) (d : Array α) (hi : 0 < i) (him : i ≤ m) (hm : m + i ≤ d.size) (k : Nat) : (swpRange (m - i) m i d)[k]! = rotGet m i i d k := by
  rw [swpRange_get (m - i) m d i (by omega) (by omega)]
  unfold rotGet
  by_cases h1 : m - i ≤ k ∧ k < m - i + i
  · rw [if_pos h1, if_pos h1]
    congr 1
    omega
  · rw [if_neg h1, if_neg h1]
    by_cases h2 : m ≤ k ∧ k < m + i
    · rw [if_pos h2, if_pos (by omega)]
      congr 1
      omega
    · rw [if_neg h2, if_neg (by omega)]
end Go.Proofs.Ythgmmebkjhjgcaa.Pu

namespace Go.Proofs.Ythgmmebkjhjgcaa.Pr
open Go.RowKit Go.Proofs.YthgmmebkjhjgcaaW.PrintWords Go.Proofs.YthgmmebkjhjgcaaW.PrintLast Go.Proofs.YthgmmebkjhjgcaaW.PrintMore
set_option linter.unusedVariables false
set_option linter.unusedSimpArgs false
open Go.Shelf Go.Lib Go.Sort Go.Proofs.Ythgmmebkjhjgcaa.Pu
set_option maxHeartbeats 16000000 in
set_option maxRecDepth 1000000 in
theorem swapRange {α : Type} [Inhabited α] (enc : α → Value) (g : Nat) (cb : Array Value) (blk off cap : Nat) (d0 d : Array α) (w0 w : World) (R : Row1 enc w0 blk off d0) (hs : d0.size = d.size) (S : SW enc w0 blk off d w) (hsz : d.size < 4611686018427387904) (a b n : Nat) (hab : a + n ≤ b) (hb : b + n ≤ d.size) :
    Calls Try.prog 38 #[.slice (some ⟨blk, off, none⟩) d.size cap, .int .i64 a, .int .i64 b, .int .i64 n, .func (.func g) #[] cb] w fun e w' => e = .returned (.tuple #[]) ∧ SW enc w0 blk off (swpRange a b n d) w' := by
  have mixed : Try.prog.follows .mixedOrders = true := by kernel_rfl
  have u51 := Try.underlying24
  have hcl0 := R.hO.cells
  simp only [Value.cells] at hcl0
  have hst := R.hO.store Try.prog
  have S0 : Aside0 (SW enc w0 blk off d w) := ⟨S⟩
  clear S
  go_enter Try.func38, Try.ntmps38
  go_wp2
  go_loopg [10] n (fun kx s10 wr => ∃ i : Nat, s10 = .int .i64 i ∧ i ≤ n ∧ n - i ≤ kx ∧ Aside0 (SW enc w0 blk off (swpRange a b i d) wr))
  case atStart => exact ⟨0, rfl, Nat.zero_le _, Nat.le_refl _, S0⟩
  case round =>
    clear S0
    obtain ⟨i, rfl, hin, hkx, S1⟩ := hrel
    have hsk := size_swpRange a b i d
    by_cases hlt : i < n
    · have hltz : (i : Int) < (n : Int) := by omega
      obtain ⟨dk, hdk⟩ : ∃ q, q = swpRange a b i d := ⟨_, rfl⟩
      rw [← hdk] at S1 hsk
      have HDK := Aside0.mk hdk
      clear hdk
      go_wp2_with fail
      obtain ⟨i1, hi1⟩ : ∃ q, q = a + i := ⟨_, rfl⟩
      obtain ⟨j1, hj1⟩ : ∃ q, q = b + i := ⟨_, rfl⟩
      have ea1 : ((a : Int) + (i : Int)).toNat = i1 := by omega
      have pa1 : (0 : Int) ≤ (a : Int) + (i : Int) := by omega
      have ba1 : (a : Int) + (i : Int) < (d.size : Int) := by omega
      have ra1 : IntKind.i64.wrap ((a : Int) + (i : Int)) = (a : Int) + (i : Int) := by rw [IntKind.wrap_i64]; omega
      have ec1 : ((b : Int) + (i : Int)).toNat = j1 := by omega
      have pc1 : (0 : Int) ≤ (b : Int) + (i : Int) := by omega
      have bc1 : (b : Int) + (i : Int) < (d.size : Int) := by omega
      have rc1 : IntKind.i64.wrap ((b : Int) + (i : Int)) = (b : Int) + (i : Int) := by rw [IntKind.wrap_i64]; omega
      obtain ⟨x1, hx1⟩ : ∃ x, x = dk[a + i]! := ⟨_, rfl⟩
      obtain ⟨y1, hy1⟩ : ∃ x, x = dk[b + i]! := ⟨_, rfl⟩
      have S2 : Aside0 (SW enc w0 blk off (swp dk (a + i) (b + i)) ((wr.setCell ⟨blk, off + i1, none⟩ (enc y1)).setCell ⟨blk, off + j1, none⟩ (enc x1)).drew) := ⟨by rw [hi1, hj1, hx1, hy1]; exact S1.out.swapped R (a + i) (b + i) (by omega) (by omega)⟩
      have ca1 := S1.out.c1 R (by omega) (a + i) (by omega)
      have cb1 := S1.out.c1 R (by omega) (b + i) (by omega)
      have fa1 := S1.out.f1 R (by omega) (a + i) (by omega)
      have fb1 := S1.out.f1 R (by omega) (b + i) (by omega)
      obtain ⟨u1, cc1⟩ := S1.out.c2 R (by omega) (a + i) (b + i) (by omega) (by omega) (enc y1)
      rw [← hj1, ← hi1] at cc1
      rw [← hx1, ← hi1] at ca1
      rw [← hy1, ← hj1] at cb1
      rw [← hi1] at fa1
      rw [← hj1] at fb1
      clear S1 hx1 hy1 hi1 hj1
      go_wp2_with fail
      go_big_region_o
      clear ca1 cb1 cc1 fa1 fb1
      generalize ((wr.setCell ⟨blk, off + i1, none⟩ (enc y1)).setCell ⟨blk, off + j1, none⟩ (enc x1)).drew = w2 at S2 ⊢
      clear ea1 ec1
      go_wp2
      go_roundg (n - (i + 1))
      case measure => omega
      case rel => exact ⟨i + 1, by go_num, by omega, Nat.le_refl _, ⟨by rw [swpRange, ← HDK.out]; exact S2.out⟩⟩
    · have hltz : ¬ (i : Int) < (n : Int) := by omega
      obtain rfl : i = n := by omega
      go_wp2
      go_end0
      exact ⟨rfl, S1.out⟩
set_option maxHeartbeats 16000000 in
set_option maxRecDepth 1000000 in
theorem rotateR {α : Type} [Inhabited α] (enc : α → Value) (g : Nat) (cb : Array Value) (blk off cap : Nat) (d0 d : Array α) (w0 w : World) (R : Row1 enc w0 blk off d0) (hs : d0.size = d.size) (S : SW enc w0 blk off d w) (hsz : d.size < 4611686018427387904) (a m b : Nat) (ham : a < m) (hmb : m < b) (hb : b ≤ d.size) :
    Calls Try.prog 37 #[.slice (some ⟨blk, off, none⟩) d.size cap, .int .i64 a, .int .i64 m, .int .i64 b, .func (.func g) #[] cb] w fun e w' => e = .returned (.tuple #[]) ∧ ∃ d', SW enc w0 blk off d' w' ∧ PermIn a b d d' ∧ ∀ k, d'[k]! = rotGet m (m - a) (b - m) d k := by
  have S0 : Aside0 (SW enc w0 blk off d w) := ⟨S⟩
  clear S
  have eg : ∀ args w, (callFunc 38 args).run Try.prog w = .ok (.enter 38 args) w := enters_of Try.func38 (by kernel_rfl) rfl
  have wm : IntKind.i64.wrap ((m : Int) - (a : Int)) = (m : Int) - (a : Int) := by rw [IntKind.wrap_i64]; omega
  have wb : IntKind.i64.wrap ((b : Int) - (m : Int)) = (b : Int) - (m : Int) := by rw [IntKind.wrap_i64]; omega
  go_enter Try.func37, Try.ntmps37
  go_wp2
  go_loopg [10, 11] (b - a) (fun kx s10 s11 wr => ∃ (i j : Nat) (dk : Array α), s10 = .int .i64 i ∧ s11 = .int .i64 j ∧ 0 < i ∧ 0 < j ∧ i ≤ m - a ∧ m + j ≤ b ∧ i + j ≤ kx ∧ Aside0 (SW enc w0 blk off dk wr) ∧ Aside0 (PermIn a b d dk ∧ ∀ k, rotGet m i j dk k = rotGet m (m - a) (b - m) d k))
  case atStart => exact ⟨m - a, b - m, d, by rw [show ((m - a : Nat) : Int) = (m : Int) - (a : Int) by omega], by rw [show ((b - m : Nat) : Int) = (b : Int) - (m : Int) by omega], by omega, by omega, Nat.le_refl _, by omega, by omega, S0, ⟨permIn_refl _ _ _, fun _ => rfl⟩⟩
  case round =>
    clear S0
    obtain ⟨i, j, dk, rfl, rfl, hi0, hj0, him, hjb, hkx, S1, HP⟩ := hrel
    have hsk := HP.out.1.1
    by_cases he : i = j
    · subst he
      have hez : ((i : Int) != (i : Int)) = false := by simp
      have hc4 := swapRange enc g cb blk off cap d0 dk w0 wr R (by omega) S1.out (by omega) (m - i) (m) (i) (by omega) (by omega)
      rw [hsk, show ((m - i : Nat) : Int) = (m : Int) - (i : Int) by omega, show ((m : Nat) : Int) = (m : Int) by omega, show ((i : Nat) : Int) = (i : Int) by omega] at hc4
      have wA4 : IntKind.i64.wrap ((m : Int) - (i : Int)) = (m : Int) - (i : Int) := by rw [IntKind.wrap_i64]; omega
      clear S1
      go_wp2_with (first | (go_at_fn 38; refine hc4.mono ?_; rintro e w2 ⟨rfl, hs4⟩; have S2 := Aside0.mk hs4; clear hs4 hc4))
      go_end0
      refine ⟨rfl, _, S2.out, permIn_trans _ _ _ _ _ HP.out.1 (swpRange_perm a b _ _ dk i (by omega) (by omega) (by omega) (by omega)), fun k => ?_⟩
      rw [rot_end m i dk hi0 (by omega) (by omega) k]
      exact HP.out.2 k
    · have hez : ((i : Int) != (j : Int)) = true := by simp; omega
      by_cases hg : j < i
      · have hgz : decide ((i : Int) > (j : Int)) = true := decide_eq_true (by omega)
        have hgz' : (j : Int) < (i : Int) := by omega
        have wi : IntKind.i64.wrap ((i : Int) - (j : Int)) = (i : Int) - (j : Int) := by rw [IntKind.wrap_i64]; omega
        have hc2 := swapRange enc g cb blk off cap d0 dk w0 wr R (by omega) S1.out (by omega) (m - i) (m) (j) (by omega) (by omega)
        rw [hsk, show ((m - i : Nat) : Int) = (m : Int) - (i : Int) by omega, show ((m : Nat) : Int) = (m : Int) by omega, show ((j : Nat) : Int) = (j : Int) by omega] at hc2
        have wA2 : IntKind.i64.wrap ((m : Int) - (i : Int)) = (m : Int) - (i : Int) := by rw [IntKind.wrap_i64]; omega
        clear S1
        go_wp2_with (first | (go_at_fn 38; refine hc2.mono ?_; rintro e w2 ⟨rfl, hs2⟩; have S2 := Aside0.mk hs2; clear hs2 hc2))
        go_roundg (i - j + j)
        case measure => omega
        case rel => exact ⟨i - j, j, _, by rw [show ((i - j : Nat) : Int) = (i : Int) - (j : Int) by omega], rfl, by omega, hj0, by omega, hjb, Nat.le_refl _, S2, ⟨permIn_trans _ _ _ _ _ HP.out.1 (swpRange_perm a b _ _ dk j (by omega) (by omega) (by omega) (by omega)), fun k => by rw [rot_step1 m i j dk hj0 hg (by omega) (by omega) k]; exact HP.out.2 k⟩⟩
      · have hgz : decide ((i : Int) > (j : Int)) = false := decide_eq_false (by omega)
        have hgz' : ¬ (j : Int) < (i : Int) := by omega
        have wi : IntKind.i64.wrap ((j : Int) - (i : Int)) = (j : Int) - (i : Int) := by rw [IntKind.wrap_i64]; omega
        have wj : IntKind.i64.wrap ((m : Int) + (j : Int)) = (m : Int) + (j : Int) := by rw [IntKind.wrap_i64]; omega
        have wj2 : IntKind.i64.wrap ((m : Int) + (j : Int) - (i : Int)) = (m : Int) + (j : Int) - (i : Int) := by rw [IntKind.wrap_i64]; omega
        have hc3 := swapRange enc g cb blk off cap d0 dk w0 wr R (by omega) S1.out (by omega) (m - i) (m + j - i) (i) (by omega) (by omega)
        rw [hsk, show ((m - i : Nat) : Int) = (m : Int) - (i : Int) by omega, show ((m + j - i : Nat) : Int) = (m : Int) + (j : Int) - (i : Int) by omega, show ((i : Nat) : Int) = (i : Int) by omega] at hc3
        have wA3 : IntKind.i64.wrap ((m : Int) - (i : Int)) = (m : Int) - (i : Int) := by rw [IntKind.wrap_i64]; omega
        clear S1
        go_wp2_with (first | (go_at_fn 38; refine hc3.mono ?_; rintro e w2 ⟨rfl, hs3⟩; have S2 := Aside0.mk hs3; clear hs3 hc3))
        go_roundg (i + (j - i))
        case measure => omega
        case rel => exact ⟨i, j - i, _, rfl, by rw [show ((j - i : Nat) : Int) = (j : Int) - (i : Int) by omega], hi0, by omega, him, by omega, Nat.le_refl _, S2, ⟨permIn_trans _ _ _ _ _ HP.out.1 (swpRange_perm a b _ _ dk i (by omega) (by omega) (by omega) (by omega)), fun k => by rw [rot_step2 m i j dk hi0 (by omega) (by omega) (by omega) k]; exact HP.out.2 k⟩⟩
set_option maxHeartbeats 16000000 in
set_option maxRecDepth 1000000 in
theorem insertS {α : Type} [Inhabited α] (enc : α → Value) (cf : α → α → Int) (g : Nat) (cb : Array Value) (blk off cap : Nat) (d0 d : Array α) (w0 w : World) (R : Row1 enc w0 blk off d0) (hs : d0.size = d.size) (S : SW enc w0 blk off d w) (hsz : d.size < 4611686018427387904) (eg : ∀ args w, (callFunc g args).run Try.prog w = .ok (.enter g args) w) (hcmp : CmpLays1 Try.prog g cb enc cf blk off d0.size w0) (a b : Nat) (hab : a ≤ b) (hb : b ≤ d.size) :
    Calls Try.prog 35 #[.slice (some ⟨blk, off, none⟩) d.size cap, .int .i64 a, .int .i64 b, .func (.func g) #[] cb] w fun e w' => e = .returned (.tuple #[]) ∧ SW enc w0 blk off (Sort.insertionSort (ltOf cf) d a b) w' := by
  have mixed : Try.prog.follows .mixedOrders = true := by kernel_rfl
  have u51 := Try.underlying24
  have hcl0 := R.hO.cells
  simp only [Value.cells] at hcl0
  have hst := R.hO.store Try.prog
  have HC := Aside0.mk hcmp
  clear hcmp
  have S0 : Aside0 (SW enc w0 blk off d w) := ⟨S⟩
  clear S
  go_enter Try.func35, Try.ntmps35
  go_wp2
  go_loopg [8] (b - a) (fun g1 vi wr => ∃ (i : Nat) (dk : Array α), vi = .int .i64 i ∧ a < i ∧ i ≤ b + 1 ∧ b + 1 - i ≤ g1 + 1 ∧ dk.size = d.size ∧ Aside0 (SW enc w0 blk off dk wr) ∧ Aside0 (insOuter (ltOf cf) a b i dk = insOuter (ltOf cf) a b (a + 1) d))
  case atStart => exact ⟨a + 1, d, by go_num, by omega, by omega, by omega, rfl, S0, ⟨rfl⟩⟩
  case round =>
    clear S0
    obtain ⟨i, dk, rfl, hai, hib, hg1, hsk, S1, HO⟩ := hrel
    by_cases hlt : i < b
    · have hltz : (i : Int) < (b : Int) := by omega
      go_wp2
      go_loopg [9] i (fun g2 vj wr2 => ∃ (j : Nat) (dj : Array α), vj = .int .i64 j ∧ a ≤ j ∧ j ≤ i ∧ j ≤ g2 ∧ dj.size = d.size ∧ Aside0 (SW enc w0 blk off dj wr2) ∧ Aside0 (insInner (ltOf cf) a j dj = insInner (ltOf cf) a i dk))
      case atStart => exact ⟨i, dk, rfl, by omega, Nat.le_refl _, Nat.le_refl _, hsk, S1, ⟨rfl⟩⟩
      case round =>
        clear S1
        obtain ⟨j, dj, rfl, haj, hji, hg2, hsj, SJ, HI⟩ := hrel
        have OUT : Aside0 ((j ≤ a ∨ (ltOf cf) dj[j]! dj[j - 1]! = false) → insOuter (ltOf cf) a b (i + 1) dj = insOuter (ltOf cf) a b (a + 1) d) := ⟨fun hs => by
          rw [← HO.out, insOuter_go _ _ _ _ _ hlt, ← HI.out, insInner_stop _ _ _ _ hs]⟩
        by_cases hja : a < j
        · have hjaz : (a : Int) < (j : Int) := by omega
          obtain ⟨jp, hjp⟩ : ∃ q, q + 1 = j := ⟨j - 1, by omega⟩
          have zjp : (j : Int) = (jp : Int) + 1 := by omega
          have hjad : decide ((jp : Int) + 1 > (a : Int)) = true := decide_eq_true (by omega)
          have hjaz' : (a : Int) < (jp : Int) + 1 := by omega
          cases hlv : (ltOf cf) dj[j]! dj[j - 1]! with
          | true =>
            obtain ⟨i5, hi5⟩ : ∃ q, q = j := ⟨_, rfl⟩
            obtain ⟨j5, hj5⟩ : ∃ q, q = j - 1 := ⟨_, rfl⟩
            have ea5 : ((jp : Int) + 1).toNat = i5 := by omega
            have pa5 : (0 : Int) ≤ (jp : Int) + 1 := by omega
            have ba5 : (jp : Int) + 1 < (d.size : Int) := by omega
            have ra5 : IntKind.i64.wrap ((jp : Int) + 1) = (jp : Int) + 1 := by rw [IntKind.wrap_i64]; omega
            have ec5 : ((jp : Int)).toNat = j5 := by omega
            have pc5 : (0 : Int) ≤ (jp : Int) := by omega
            have bc5 : (jp : Int) < (d.size : Int) := by omega
            have rc5 : IntKind.i64.wrap ((jp : Int)) = (jp : Int) := by rw [IntKind.wrap_i64]; omega
            obtain ⟨x5, hx5⟩ : ∃ x, x = dj[j]! := ⟨_, rfl⟩
            obtain ⟨y5, hy5⟩ : ∃ x, x = dj[j - 1]! := ⟨_, rfl⟩
            have la5 := SJ.out.cl R (by omega) (j) (by omega)
            have lb5 := SJ.out.cl R (by omega) (j - 1) (by omega)
            rw [← hx5, ← hi5] at la5
            rw [← hy5, ← hj5] at lb5
            have hc5 := SJ.out.cmp HC.out (by omega) x5 y5
            have hv5 : cf x5 y5 < 0 := by rw [hx5, hy5]; exact of_decide_eq_true hlv
            have hd5 : decide (cf x5 y5 < 0) = true := decide_eq_true hv5
            clear hx5 hy5 hi5 hj5
            go_wp2_with fail
            go_quiet_grown (first | (go_at_fn g; refine Calls.grown_of (hc5 _ _)))
            have S2 : Aside0 (SW enc w0 blk off dj (grow (wr.drewN nq) osq)) := ⟨SJ.out.grown nq osq⟩
            clear la5 lb5 hc5 SJ
            generalize grow (wr.drewN nq) osq = w2 at S2 ⊢
            clear nq osq
            clear ea5 ec5
            go_wp2_with fail
            obtain ⟨i6, hi6⟩ : ∃ q, q = j := ⟨_, rfl⟩
            obtain ⟨j6, hj6⟩ : ∃ q, q = j - 1 := ⟨_, rfl⟩
            have ea6 : ((jp : Int) + 1).toNat = i6 := by omega
            have pa6 : (0 : Int) ≤ (jp : Int) + 1 := by omega
            have ba6 : (jp : Int) + 1 < (d.size : Int) := by omega
            have ra6 : IntKind.i64.wrap ((jp : Int) + 1) = (jp : Int) + 1 := by rw [IntKind.wrap_i64]; omega
            have ec6 : ((jp : Int)).toNat = j6 := by omega
            have pc6 : (0 : Int) ≤ (jp : Int) := by omega
            have bc6 : (jp : Int) < (d.size : Int) := by omega
            have rc6 : IntKind.i64.wrap ((jp : Int)) = (jp : Int) := by rw [IntKind.wrap_i64]; omega
            obtain ⟨x6, hx6⟩ : ∃ x, x = dj[j]! := ⟨_, rfl⟩
            obtain ⟨y6, hy6⟩ : ∃ x, x = dj[j - 1]! := ⟨_, rfl⟩
            have S3 : Aside0 (SW enc w0 blk off (swp dj (j) (j - 1)) ((w2.setCell ⟨blk, off + i6, none⟩ (enc y6)).setCell ⟨blk, off + j6, none⟩ (enc x6)).drew) := ⟨by rw [hi6, hj6, hx6, hy6]; exact S2.out.swapped R (j) (j - 1) (by omega) (by omega)⟩
            have ca6 := S2.out.c1 R (by omega) (j) (by omega)
            have cb6 := S2.out.c1 R (by omega) (j - 1) (by omega)
            have fa6 := S2.out.f1 R (by omega) (j) (by omega)
            have fb6 := S2.out.f1 R (by omega) (j - 1) (by omega)
            obtain ⟨u6, cc6⟩ := S2.out.c2 R (by omega) (j) (j - 1) (by omega) (by omega) (enc y6)
            rw [← hj6, ← hi6] at cc6
            rw [← hx6, ← hi6] at ca6
            rw [← hy6, ← hj6] at cb6
            rw [← hi6] at fa6
            rw [← hj6] at fb6
            clear S2 hx6 hy6 hi6 hj6
            go_wp2_with fail
            go_big_region_o
            clear ca6 cb6 cc6 fa6 fb6
            generalize ((w2.setCell ⟨blk, off + i6, none⟩ (enc y6)).setCell ⟨blk, off + j6, none⟩ (enc x6)).drew = w3 at S3 ⊢
            clear ea6 ec6
            go_wp2
            go_roundg (j - 1)
            case measure => omega
            case rel => exact ⟨j - 1, swp dj j (j - 1), by first | rfl | go_num | (congr 1; omega), by omega, by omega, Nat.le_refl _, by rw [size_swp]; exact hsj, S3, ⟨by rw [← HI.out, insInner_go (ltOf cf) a j dj hja hlv]⟩⟩
          | false =>
            obtain ⟨i7, hi7⟩ : ∃ q, q = j := ⟨_, rfl⟩
            obtain ⟨j7, hj7⟩ : ∃ q, q = j - 1 := ⟨_, rfl⟩
            have ea7 : ((jp : Int) + 1).toNat = i7 := by omega
            have pa7 : (0 : Int) ≤ (jp : Int) + 1 := by omega
            have ba7 : (jp : Int) + 1 < (d.size : Int) := by omega
            have ra7 : IntKind.i64.wrap ((jp : Int) + 1) = (jp : Int) + 1 := by rw [IntKind.wrap_i64]; omega
            have ec7 : ((jp : Int)).toNat = j7 := by omega
            have pc7 : (0 : Int) ≤ (jp : Int) := by omega
            have bc7 : (jp : Int) < (d.size : Int) := by omega
            have rc7 : IntKind.i64.wrap ((jp : Int)) = (jp : Int) := by rw [IntKind.wrap_i64]; omega
            obtain ⟨x7, hx7⟩ : ∃ x, x = dj[j]! := ⟨_, rfl⟩
            obtain ⟨y7, hy7⟩ : ∃ x, x = dj[j - 1]! := ⟨_, rfl⟩
            have la7 := SJ.out.cl R (by omega) (j) (by omega)
            have lb7 := SJ.out.cl R (by omega) (j - 1) (by omega)
            rw [← hx7, ← hi7] at la7
            rw [← hy7, ← hj7] at lb7
            have hc7 := SJ.out.cmp HC.out (by omega) x7 y7
            have hv7 : ¬ cf x7 y7 < 0 := by rw [hx7, hy7]; exact of_decide_eq_false hlv
            have hd7 : decide (cf x7 y7 < 0) = false := decide_eq_false hv7
            clear hx7 hy7 hi7 hj7
            go_wp2_with fail
            go_quiet_grown (first | (go_at_fn g; refine Calls.grown_of (hc7 _ _)))
            have S2 : Aside0 (SW enc w0 blk off dj (grow (wr.drewN nq) osq)) := ⟨SJ.out.grown nq osq⟩
            clear la7 lb7 hc7 SJ
            generalize grow (wr.drewN nq) osq = w2 at S2 ⊢
            clear nq osq
            clear ea7 ec7
            go_wp2
            go_roundg (b - (i + 1))
            case measure => omega
            case rel => exact ⟨i + 1, dj, by go_num, by omega, by omega, by omega, hsj, S2, ⟨OUT.out (Or.inr hlv)⟩⟩
        · have hjaz : decide ((j : Int) > (a : Int)) = false := decide_eq_false (by omega)
          have hjaz' : ¬ (a : Int) < (j : Int) := by omega
          go_wp2_with fail
          go_big_region_o
          have S2 : Aside0 (SW enc w0 blk off dj wr.drew) := ⟨SJ.out.drew⟩
          clear SJ
          generalize wr.drew = w2 at S2 ⊢
          go_wp2
          go_roundg (b - (i + 1))
          case measure => omega
          case rel => exact ⟨i + 1, dj, by go_num, by omega, by omega, by omega, hsj, S2, ⟨OUT.out (Or.inl (by omega))⟩⟩
    · have hltz : ¬ (i : Int) < (b : Int) := by omega
      go_wp2
      go_end0
      exact ⟨rfl, by unfold Sort.insertionSort; rw [← HO.out, insOuter_stop _ _ _ _ _ hlt]; exact S1.out⟩
end Go.Proofs.Ythgmmebkjhjgcaa.Pr

namespace Go.Proofs.Ythgmmebkjhjgcaa.Pu
open Go.Sort
set_option linter.unusedVariables false
set_option linter.unusedSimpArgs false
variable {α : Type} [Inhabited α] {lt : α → α → Bool}
omit [Inhabited α] in
theorem le_lt (hO : SWO lt) {x y z : α} (h : lt y x = false) (k : lt y z = true) : lt x z = true := by
  cases c : lt x z with
  | true => rfl
  | false =>
    have := hO.ntrans y x z h c
    rw [k] at this
    cases this
omit [Inhabited α] in
theorem lt_le (hO : SWO lt) {x y z : α} (h : lt x y = true) (k : lt z y = false) : lt x z = true := by
  cases c : lt x z with
  | true => rfl
  | false =>
    have := hO.ntrans x z y c k
    rw [h] at this
    cases this
def frontGet (a k : Nat) (d : Array α) (x : Nat) : α := if a ≤ x ∧ x < k then d[x + 1]! else if x = k then d[a]! else d[x]!
theorem front_start (a : Nat) (d : Array α) (x : Nat) : d[x]! = frontGet a a d x := by
  unfold frontGet
  rw [if_neg (by omega)]
  by_cases h : x = a
  · rw [if_pos h, h]
  · rw [if_neg h]
theorem front_step (a k : Nat) (d dk : Array α) (hak : a ≤ k) (hk : k + 1 < dk.size) (h : ∀ x, dk[x]! = frontGet a k d x) (x : Nat) : (swp dk k (k + 1))[x]! = frontGet a (k + 1) d x := by
  rw [swp_get dk (by omega) hk]
  unfold frontGet
  by_cases h1 : x = k + 1
  · subst h1
    rw [if_pos rfl, if_neg (by omega), if_pos rfl, h, frontGet, if_neg (by omega), if_pos rfl]
  · rw [if_neg h1]
    by_cases h2 : x = k
    · subst h2
      rw [if_pos rfl, if_pos (by omega), h, frontGet, if_neg (by omega), if_neg (by omega)]
    · rw [if_neg h2, h, frontGet]
      by_cases h3 : a ≤ x ∧ x < k
      · rw [if_pos h3, if_pos (by omega)]
      · rw [if_neg h3, if_neg (by omega), if_neg (by omega), if_neg (by omega)]
theorem front_sorted (hO : SWO lt) (a b i : Nat) (d dk : Array α) (hi : a + 1 ≤ i) (hib : i ≤ b) (hs : SortedIn lt (a + 1) b d) (h1 : ∀ q, a + 1 ≤ q → q < i → lt d[q]! d[a]! = true) (h2 : ∀ q, i ≤ q → q < b → lt d[q]! d[a]! = false) (hg : ∀ x, dk[x]! = frontGet a (i - 1) d x) : SortedIn lt a b dk := by
  intro p q hap hpq hqb
  rw [hg, hg]
  unfold frontGet
  by_cases c1 : a ≤ q ∧ q < i - 1
  · rw [if_pos c1, if_pos (by omega)]
    exact hs _ _ (by omega) (by omega) (by omega)
  · rw [if_neg c1]
    by_cases c2 : q = i - 1
    · rw [if_pos c2, if_pos (by omega)]
      exact hO.asymmA (h1 _ (by omega) (by omega))
    · rw [if_neg c2]
      by_cases c3 : a ≤ p ∧ p < i - 1
      · rw [if_pos c3]
        exact hs _ _ (by omega) (by omega) hqb
      · rw [if_neg c3]
        by_cases c4 : p = i - 1
        · rw [if_pos c4]
          exact h2 _ (by omega) hqb
        · rw [if_neg c4]
          exact hs _ _ (by omega) hpq hqb
def backGet (m k : Nat) (d : Array α) (x : Nat) : α := if k < x ∧ x ≤ m then d[x - 1]! else if x = k then d[m]! else d[x]!
theorem back_start (m : Nat) (d : Array α) (x : Nat) : d[x]! = backGet m m d x := by
  unfold backGet
  rw [if_neg (by omega)]
  by_cases h : x = m
  · rw [if_pos h, h]
  · rw [if_neg h]
theorem back_step (m k : Nat) (d dk : Array α) (hk0 : 0 < k) (hkm : k ≤ m) (hk : m < dk.size) (h : ∀ x, dk[x]! = backGet m k d x) (x : Nat) : (swp dk k (k - 1))[x]! = backGet m (k - 1) d x := by
  rw [swp_get dk (by omega) (by omega)]
  unfold backGet
  by_cases h1 : x = k - 1
  · subst h1
    rw [if_pos rfl, if_neg (by omega), if_pos rfl, h, backGet, if_neg (by omega), if_pos rfl]
  · rw [if_neg h1]
    by_cases h2 : x = k
    · subst h2
      rw [if_pos rfl, if_pos (by omega), h, backGet, if_neg (by omega), if_neg (by omega)]
    · rw [if_neg h2, h, backGet]
      by_cases h3 : k < x ∧ x ≤ m
      · rw [if_pos h3, if_pos (by omega)]
      · rw [if_neg h3, if_neg (by omega), if_neg (by omega), if_neg (by omega)]
theorem back_sorted (hO : SWO lt) (a m i : Nat) (d dk : Array α) (hi : a ≤ i) (him : i ≤ m) (hs : SortedIn lt a m d) (h1 : ∀ q, a ≤ q → q < i → lt d[m]! d[q]! = false) (h2 : ∀ q, i ≤ q → q < m → lt d[m]! d[q]! = true) (hg : ∀ x, dk[x]! = backGet m i d x) : SortedIn lt a (m + 1) dk := by
  intro p q hap hpq hqb
  rw [hg, hg]
  unfold backGet
  by_cases c1 : i < q ∧ q ≤ m
  · rw [if_pos c1]
    by_cases c2 : i < p ∧ p ≤ m
    · rw [if_pos c2]
      exact hs _ _ (by omega) (by omega) (by omega)
    · rw [if_neg c2]
      by_cases c3 : p = i
      · rw [if_pos c3]
        exact hO.asymmA (h2 _ (by omega) (by omega))
      · rw [if_neg c3]
        by_cases c4 : p = q - 1
        · exact absurd c4 (by omega)
        · exact hs _ _ hap (by omega) (by omega)
  · rw [if_neg c1, if_neg (show ¬ (i < p ∧ p ≤ m) by omega), if_neg (show ¬ p = i by omega)]
    by_cases c3 : q = i
    · rw [if_pos c3]
      exact h1 _ hap (by omega)
    · rw [if_neg c3]
      exact hs _ _ hap hpq (by omega)
structure Cut (lt : α → α → Bool) (a m b mid lo hi st en : Nat) (d : Array α) : Prop where
  ham : a < m
  hmb : m < b
  hmid : mid = (a + b) / 2
  hlh : (mid < m ∧ lo = mid + m - b ∧ hi = mid) ∨ (m ≤ mid ∧ lo = a ∧ hi = m)
  h1 : lo ≤ st
  h2 : st ≤ hi
  hen : en = mid + m - st
  low : ∀ c, lo ≤ c → c < st → lt d[mid + m - 1 - c]! d[c]! = false
  high : ∀ c, st ≤ c → c < hi → lt d[mid + m - 1 - c]! d[c]! = true
theorem Cut.mono (hO : SWO lt) {a m b mid lo hi : Nat} {d : Array α} (ham : a < m) (hmb : m < b) (hmid : mid = (a + b) / 2) (hlh : (mid < m ∧ lo = mid + m - b ∧ hi = mid) ∨ (m ≤ mid ∧ lo = a ∧ hi = m))
    (s1 : SortedIn lt a m d) (s2 : SortedIn lt m b d) (c c' : Nat) (h1 : lo ≤ c) (h2 : c ≤ c') (h3 : c' < hi) (h : lt d[mid + m - 1 - c]! d[c]! = true) : lt d[mid + m - 1 - c']! d[c']! = true := by
  rcases Nat.lt_or_eq_of_le h2 with h2 | rfl
  · have e1 : lt d[mid + m - 1 - c]! d[mid + m - 1 - c']! = false := s2 _ _ (by omega) (by omega) (by omega)
    have e2 : lt d[c']! d[c]! = false := s1 _ _ (by omega) h2 (by omega)
    exact lt_le hO (le_lt hO e1 h) e2
  · exact h
theorem Cut.bounds {a m b mid lo hi st en : Nat} {d : Array α} (C : Cut lt a m b mid lo hi st en d) : a ≤ st ∧ st ≤ m ∧ st ≤ mid ∧ m ≤ en ∧ en ≤ b ∧ mid ≤ en ∧ en - m = mid - st := by
  have := C.hlh
  have := C.h1
  have := C.h2
  have := C.hen
  have := C.hmid
  have := C.ham
  have := C.hmb
  omega
theorem Cut.cross (hO : SWO lt) {a m b mid lo hi st en : Nat} {d d1 : Array α} (C : Cut lt a m b mid lo hi st en d) (s1 : SortedIn lt a m d) (s2 : SortedIn lt m b d) (hg : ∀ k, d1[k]! = rotGet m (m - st) (en - m) d k) :
    SortedIn lt a st d1 ∧ SortedIn lt st mid d1 ∧ SortedIn lt mid en d1 ∧ SortedIn lt en b d1 ∧ ∀ x y, a ≤ x → x < mid → mid ≤ y → y < b → lt d1[y]! d1[x]! = false := by
  obtain ⟨b1, b2, b3, b4, b5, b6, b7⟩ := C.bounds
  have hlh := C.hlh
  have g1 : ∀ x, x < st → d1[x]! = d[x]! := fun x hx => by rw [hg, rotGet, if_neg (by omega), if_neg (by omega)]
  have g2 : ∀ x, st ≤ x → x < mid → d1[x]! = d[x + (m - st)]! := fun x h1 h2 => by rw [hg, rotGet, if_pos (by omega)]
  have g3 : ∀ x, mid ≤ x → x < en → d1[x]! = d[x - (en - m)]! := fun x h1 h2 => by rw [hg, rotGet, if_neg (by omega), if_pos (by omega)]
  have g4 : ∀ x, en ≤ x → d1[x]! = d[x]! := fun x hx => by rw [hg, rotGet, if_neg (by omega), if_neg (by omega)]
  refine ⟨fun p q h1 h2 h3 => ?_, fun p q h1 h2 h3 => ?_, fun p q h1 h2 h3 => ?_, fun p q h1 h2 h3 => ?_, fun x y h1 h2 h3 h4 => ?_⟩
  · rw [g1 q h3, g1 p (by omega)]
    exact s1 _ _ h1 h2 (by omega)
  · rw [g2 q (by omega) h3, g2 p h1 (by omega)]
    exact s2 _ _ (by omega) (by omega) (by omega)
  · rw [g3 q (by omega) h3, g3 p h1 (by omega)]
    exact s1 _ _ (by omega) (by omega) (by omega)
  · rw [g4 q (by omega), g4 p h1]
    exact s2 _ _ (by omega) h2 h3
  · by_cases hx : x < st
    · rw [g1 x hx]
      by_cases hy : y < en
      · rw [g3 y h3 hy]
        exact s1 _ _ h1 (by omega) (by omega)
      · rw [g4 y (by omega)]
        have hlo : lo < st := by
          have := C.h1
          have := C.hen
          rcases Nat.lt_or_eq_of_le C.h1 with h | h
          · exact h
          · exfalso
            omega
        have e := C.low (st - 1) (by omega) (by omega)
        rw [show mid + m - 1 - (st - 1) = en by have := C.hen; omega] at e
        have e1 : lt d[y]! d[st - 1]! = false := by
          rcases Nat.lt_or_eq_of_le (show en ≤ y by omega) with h | h
          · exact hO.ntrans _ _ _ (s2 _ _ (by omega) h h4) e
          · rw [← h]
            exact e
        rcases Nat.lt_or_eq_of_le (show x ≤ st - 1 by omega) with h | h
        · exact hO.ntrans _ _ _ e1 (s1 _ _ h1 h (by omega))
        · rw [h]
          exact e1
    · rw [g2 x (by omega) h2]
      by_cases hy : y < en
      · rw [g3 y h3 hy]
        have hhi : st < hi := by
          rcases Nat.lt_or_eq_of_le C.h2 with h | h
          · exact h
          · exfalso
            have := C.hen
            omega
        have e := hO.asymmA (C.high st (Nat.le_refl _) hhi)
        rw [show mid + m - 1 - st = en - 1 by have := C.hen; omega] at e
        have e1 : lt d[st]! d[x + (m - st)]! = false := by
          rcases Nat.lt_or_eq_of_le (show x + (m - st) ≤ en - 1 by omega) with h | h
          · exact hO.ntrans _ _ _ e (s2 _ _ (by omega) h (by omega))
          · rw [h]
            exact e
        rcases Nat.lt_or_eq_of_le (show st ≤ y - (en - m) by omega) with h | h
        · exact hO.ntrans _ _ _ (s1 _ _ (by omega) h (by omega)) e1
        · rw [← h]
          exact e1
      · rw [g4 y (by omega)]
        exact s2 _ _ (by omega) (by omega) h4
theorem halves_sorted {a mid b : Nat} {d1 d2 d3 : Array α} (ham : a ≤ mid) (hmb : mid ≤ b) (hb : b ≤ d1.size) (hc : ∀ x y, a ≤ x → x < mid → mid ≤ y → y < b → lt d1[y]! d1[x]! = false)
    (p1 : PermIn a mid d1 d2) (t1 : SortedIn lt a mid d2) (p2 : PermIn mid b d2 d3) (t2 : SortedIn lt mid b d3) : PermIn a b d1 d3 ∧ SortedIn lt a b d3 := by
  have hs2 := p1.1
  have c1 : ∀ y, mid ≤ y → y < b → ∀ x, a ≤ x → x < mid → lt d2[y]! d2[x]! = false := by
    intro y h3 h4
    have := permIn_all d1 d2 a mid (fun v => lt d2[y]! v = false) (by omega) p1 (fun x h1 h2 => by
      show lt d2[y]! d1[x]! = false
      rw [p1.2.1 y (.inr h3)]
      exact hc x y h1 h2 h3 h4)
    exact this
  have c2 : ∀ y, mid ≤ y → y < b → ∀ x, a ≤ x → x < mid → lt d3[y]! d2[x]! = false := by
    intro y h3 h4 x h1 h2
    exact permIn_all d2 d3 mid b (fun v => lt v d2[x]! = false) (by omega) p2 (fun y h3 h4 => c1 y h3 h4 x h1 h2) y h3 h4
  refine ⟨permIn_trans _ _ _ _ _ (permIn_mono _ _ _ _ a b (Nat.le_refl _) hmb hb p1) (permIn_mono _ _ _ _ a b ham (Nat.le_refl _) (by omega) p2), fun p q h1 h2 h3 => ?_⟩
  by_cases hq : q < mid
  · rw [p2.2.1 q (.inl hq), p2.2.1 p (.inl (by omega))]
    exact t1 _ _ h1 h2 hq
  · by_cases hp : p < mid
    · rw [p2.2.1 p (.inl hp)]
      exact c2 q (by omega) h3 p h1 hp
    · exact t2 _ _ (by omega) h2 h3
end Go.Proofs.Ythgmmebkjhjgcaa.Pu

namespace Go.Proofs.Ythgmmebkjhjgcaa.Pr
open Go.RowKit Go.Proofs.YthgmmebkjhjgcaaW.PrintWords Go.Proofs.YthgmmebkjhjgcaaW.PrintLast Go.Proofs.YthgmmebkjhjgcaaW.PrintMore
set_option linter.unusedVariables false
set_option linter.unusedSimpArgs false
open Go.Shelf Go.Lib Go.Sort Go.Proofs.Ythgmmebkjhjgcaa.Pu
set_option maxHeartbeats 16000000 in
set_option maxRecDepth 1000000 in
theorem symMa {α : Type} [Inhabited α] (enc : α → Value) (cf : α → α → Int) (hO : SWO (ltOf cf)) (g : Nat) (cb : Array Value) (blk off cap : Nat) (d0 : Array α) (w0 : World) (R : Row1 enc w0 blk off d0) (eg : ∀ args w, (callFunc g args).run Try.prog w = .ok (.enter g args) w) (hcmp : CmpLays1 Try.prog g cb enc cf blk off d0.size w0) (hsz0 : d0.size < 4611686018427387904) (a m b : Nat) (d : Array α) (w : World) (hs : d0.size = d.size) (S : SW enc w0 blk off d w) (ham : a < m) (hmb : m < b) (hb : b ≤ d.size) (s1 : SortedIn (ltOf cf) a m d) (s2 : SortedIn (ltOf cf) m b d) (c1 : m ≤ a + 1) :
    Calls Try.prog 36 #[.slice (some ⟨blk, off, none⟩) d.size cap, .int .i64 a, .int .i64 m, .int .i64 b, .func (.func g) #[] cb] w fun e w' => e = .returned (.tuple #[]) ∧ ∃ d', SW enc w0 blk off d' w' ∧ PermIn a b d d' ∧ SortedIn (ltOf cf) a b d' := by
  have mixed : Try.prog.follows .mixedOrders = true := by kernel_rfl
  have u51 := Try.underlying24
  have hcl0 := R.hO.cells
  simp only [Value.cells] at hcl0
  have hst := R.hO.store Try.prog
  have hsz : d.size < 4611686018427387904 := by omega
  have egs : ∀ args w, (callFunc 36 args).run Try.prog w = .ok (.enter 36 args) w := enters_of Try.func36 (by kernel_rfl) rfl
  have egr : ∀ args w, (callFunc 37 args).run Try.prog w = .ok (.enter 37 args) w := enters_of Try.func37 (by kernel_rfl) rfl
  have HC := Aside0.mk hcmp
  have HS := Aside0.mk S
  have T1 := Aside0.mk s1
  have T2 := Aside0.mk s2
  clear hcmp S s1 s2
  have wma : IntKind.i64.wrap ((m : Int) - (a : Int)) = (m : Int) - (a : Int) := by rw [IntKind.wrap_i64]; omega
  have wbm : IntKind.i64.wrap ((b : Int) - (m : Int)) = (b : Int) - (m : Int) := by rw [IntKind.wrap_i64]; omega
  go_enter Try.func36, Try.ntmps36
  have hez : ((m : Int) - (a : Int) == 1) = true := by simp; omega
  go_wp2
  go_loopg [10, 11, 12] (b - m) (fun gg s10 s11 _ wr => ∃ i j : Nat, s10 = .int .i64 i ∧ s11 = .int .i64 j ∧ m ≤ i ∧ i ≤ j ∧ j ≤ b ∧ j - i ≤ gg ∧ Aside0 (SW enc w0 blk off d wr) ∧ Aside0 ((∀ q, m ≤ q → q < i → ltOf cf d[q]! d[a]! = true) ∧ (∀ q, j ≤ q → q < b → ltOf cf d[q]! d[a]! = false)))
  case atStart => exact ⟨m, b, rfl, rfl, Nat.le_refl _, by omega, Nat.le_refl _, Nat.le_refl _, HS, ⟨fun q h1 h2 => absurd h2 (by omega), fun q h1 h2 => absurd h2 (by omega)⟩⟩
  case round =>
    obtain ⟨i, j, rfl, rfl, him, hij, hjb, hgg, S1, HI⟩ := hrel
    by_cases hlt : i < j
    · have hltz : (i : Int) < (j : Int) := by omega
      obtain ⟨h, hh⟩ : ∃ h : Nat, ((i : Int) + (j : Int)) / 2 = (h : Int) := ⟨(i + j) / 2, by omega⟩
      have h1 : i ≤ h := by omega
      have h2 : h < j := by omega
      have wh1 : IntKind.i64.wrap ((h : Int) + 1) = (h : Int) + 1 := by rw [IntKind.wrap_i64]; omega
      cases hl : ltOf cf d[h]! d[a]! with
      | true =>
        have HI' : Aside0 ((∀ q, m ≤ q → q < h + 1 → ltOf cf d[q]! d[a]! = true) ∧ (∀ q, j ≤ q → q < b → ltOf cf d[q]! d[a]! = false)) := ⟨⟨fun q h3 h4 => by
          rcases Nat.lt_or_eq_of_le (show q ≤ h by omega) with h5 | rfl
          · exact le_lt hO (T2.out q h h3 h5 (by omega)) hl
          · exact hl, HI.out.2⟩⟩
        go_wp2_with fail
        obtain ⟨i1, hi1⟩ : ∃ q, q = h := ⟨_, rfl⟩
        obtain ⟨j1, hj1⟩ : ∃ q, q = a := ⟨_, rfl⟩
        have ea1 : ((h : Int)).toNat = i1 := by omega
        have pa1 : (0 : Int) ≤ (h : Int) := by omega
        have ba1 : (h : Int) < (d.size : Int) := by omega
        have ra1 : IntKind.i64.wrap ((h : Int)) = (h : Int) := by rw [IntKind.wrap_i64]; omega
        have ec1 : ((a : Int)).toNat = j1 := by omega
        have pc1 : (0 : Int) ≤ (a : Int) := by omega
        have bc1 : (a : Int) < (d.size : Int) := by omega
        have rc1 : IntKind.i64.wrap ((a : Int)) = (a : Int) := by rw [IntKind.wrap_i64]; omega
        obtain ⟨x1, hx1⟩ : ∃ x, x = d[h]! := ⟨_, rfl⟩
        obtain ⟨y1, hy1⟩ : ∃ x, x = d[a]! := ⟨_, rfl⟩
        have la1 := S1.out.cl R (by omega) (h) (by omega)
        have lb1 := S1.out.cl R (by omega) (a) (by omega)
        rw [← hx1, ← hi1] at la1
        rw [← hy1, ← hj1] at lb1
        have hc1 := S1.out.cmp HC.out (by omega) x1 y1
        have hv1 : cf x1 y1 < 0 := by rw [hx1, hy1]; exact of_decide_eq_true hl
        have hd1 : decide (cf x1 y1 < 0) = true := decide_eq_true hv1
        clear hx1 hy1 hi1 hj1
        go_wp2_with fail
        go_quiet_grown (first | (go_at_fn g; refine Calls.grown_of (hc1 _ _)))
        have S2 : Aside0 (SW enc w0 blk off d (grow (wr.drewN nq) osq)) := ⟨S1.out.grown nq osq⟩
        clear la1 lb1 hc1 S1
        generalize grow (wr.drewN nq) osq = w2 at S2 ⊢
        clear nq osq
        clear ea1 ec1
        go_wp2
        go_roundg (j - (h + 1))
        case measure => omega
        case rel => exact ⟨h + 1, j, by go_num, rfl, by omega, by omega, hjb, Nat.le_refl _, S2, HI'⟩
      | false =>
        have HI' : Aside0 ((∀ q, m ≤ q → q < i → ltOf cf d[q]! d[a]! = true) ∧ (∀ q, h ≤ q → q < b → ltOf cf d[q]! d[a]! = false)) := ⟨⟨HI.out.1, fun q h3 h4 => by
          rcases Nat.lt_or_eq_of_le h3 with h5 | rfl
          · exact hO.ntrans _ _ _ (T2.out h q (by omega) h5 h4) hl
          · exact hl⟩⟩
        go_wp2_with fail
        obtain ⟨i2, hi2⟩ : ∃ q, q = h := ⟨_, rfl⟩
        obtain ⟨j2, hj2⟩ : ∃ q, q = a := ⟨_, rfl⟩
        have ea2 : ((h : Int)).toNat = i2 := by omega
        have pa2 : (0 : Int) ≤ (h : Int) := by omega
        have ba2 : (h : Int) < (d.size : Int) := by omega
        have ra2 : IntKind.i64.wrap ((h : Int)) = (h : Int) := by rw [IntKind.wrap_i64]; omega
        have ec2 : ((a : Int)).toNat = j2 := by omega
        have pc2 : (0 : Int) ≤ (a : Int) := by omega
        have bc2 : (a : Int) < (d.size : Int) := by omega
        have rc2 : IntKind.i64.wrap ((a : Int)) = (a : Int) := by rw [IntKind.wrap_i64]; omega
        obtain ⟨x2, hx2⟩ : ∃ x, x = d[h]! := ⟨_, rfl⟩
        obtain ⟨y2, hy2⟩ : ∃ x, x = d[a]! := ⟨_, rfl⟩
        have la2 := S1.out.cl R (by omega) (h) (by omega)
        have lb2 := S1.out.cl R (by omega) (a) (by omega)
        rw [← hx2, ← hi2] at la2
        rw [← hy2, ← hj2] at lb2
        have hc2 := S1.out.cmp HC.out (by omega) x2 y2
        have hv2 : ¬ cf x2 y2 < 0 := by rw [hx2, hy2]; exact of_decide_eq_false hl
        have hd2 : decide (cf x2 y2 < 0) = false := decide_eq_false hv2
        clear hx2 hy2 hi2 hj2
        go_wp2_with fail
        go_quiet_grown (first | (go_at_fn g; refine Calls.grown_of (hc2 _ _)))
        have S2 : Aside0 (SW enc w0 blk off d (grow (wr.drewN nq) osq)) := ⟨S1.out.grown nq osq⟩
        clear la2 lb2 hc2 S1
        generalize grow (wr.drewN nq) osq = w2 at S2 ⊢
        clear nq osq
        clear ea2 ec2
        go_wp2
        go_roundg (h - i)
        case measure => omega
        case rel => exact ⟨i, h, rfl, rfl, him, h1, by omega, Nat.le_refl _, S2, HI'⟩
    · have hltz : ¬ (i : Int) < (j : Int) := by omega
      obtain rfl : i = j := by omega
      obtain ⟨ip, hip⟩ : ∃ q, q + 1 = i := ⟨i - 1, by omega⟩
      have zip : (i : Int) = (ip : Int) + 1 := by omega
      go_wp2
      go_loopg [13] (b - a) (fun gg s13 wr2 => ∃ (k : Nat) (dk : Array α), s13 = .int .i64 k ∧ a ≤ k ∧ k ≤ ip ∧ ip - k ≤ gg ∧ dk.size = d.size ∧ Aside0 (SW enc w0 blk off dk wr2) ∧ Aside0 (PermIn a b d dk ∧ ∀ x, dk[x]! = frontGet a k d x))
      case atStart => exact ⟨a, d, rfl, Nat.le_refl _, by omega, by omega, rfl, S1, ⟨permIn_refl _ _ _, front_start a d⟩⟩
      case round =>
        clear S1
        obtain ⟨k, dk, rfl, hak, hki, hgg2, hsk, S1, HK⟩ := hrel
        by_cases hkl : k < ip
        · have hklz : (k : Int) < (ip : Int) := by omega
          go_wp2_with fail
          obtain ⟨i3, hi3⟩ : ∃ q, q = k := ⟨_, rfl⟩
          obtain ⟨j3, hj3⟩ : ∃ q, q = k + 1 := ⟨_, rfl⟩
          have ea3 : ((k : Int)).toNat = i3 := by omega
          have pa3 : (0 : Int) ≤ (k : Int) := by omega
          have ba3 : (k : Int) < (d.size : Int) := by omega
          have ra3 : IntKind.i64.wrap ((k : Int)) = (k : Int) := by rw [IntKind.wrap_i64]; omega
          have ec3 : ((k : Int) + 1).toNat = j3 := by omega
          have pc3 : (0 : Int) ≤ (k : Int) + 1 := by omega
          have bc3 : (k : Int) + 1 < (d.size : Int) := by omega
          have rc3 : IntKind.i64.wrap ((k : Int) + 1) = (k : Int) + 1 := by rw [IntKind.wrap_i64]; omega
          obtain ⟨x3, hx3⟩ : ∃ x, x = dk[k]! := ⟨_, rfl⟩
          obtain ⟨y3, hy3⟩ : ∃ x, x = dk[k + 1]! := ⟨_, rfl⟩
          have S2 : Aside0 (SW enc w0 blk off (swp dk (k) (k + 1)) ((wr.setCell ⟨blk, off + i3, none⟩ (enc y3)).setCell ⟨blk, off + j3, none⟩ (enc x3)).drew) := ⟨by rw [hi3, hj3, hx3, hy3]; exact S1.out.swapped R (k) (k + 1) (by omega) (by omega)⟩
          have ca3 := S1.out.c1 R (by omega) (k) (by omega)
          have cb3 := S1.out.c1 R (by omega) (k + 1) (by omega)
          have fa3 := S1.out.f1 R (by omega) (k) (by omega)
          have fb3 := S1.out.f1 R (by omega) (k + 1) (by omega)
          obtain ⟨u3, cc3⟩ := S1.out.c2 R (by omega) (k) (k + 1) (by omega) (by omega) (enc y3)
          rw [← hj3, ← hi3] at cc3
          rw [← hx3, ← hi3] at ca3
          rw [← hy3, ← hj3] at cb3
          rw [← hi3] at fa3
          rw [← hj3] at fb3
          clear S1 hx3 hy3 hi3 hj3
          go_wp2_with fail
          go_big_region_o
          clear ca3 cb3 cc3 fa3 fb3
          generalize ((wr.setCell ⟨blk, off + i3, none⟩ (enc y3)).setCell ⟨blk, off + j3, none⟩ (enc x3)).drew = w2 at S2 ⊢
          clear ea3 ec3
          go_wp2
          go_roundg (ip - (k + 1))
          case measure => omega
          case rel => exact ⟨k + 1, swp dk k (k + 1), by go_num, by omega, by omega, Nat.le_refl _, by rw [size_swp]; exact hsk, S2, ⟨permIn_trans _ _ _ _ _ HK.out.1 (swp_permIn dk a b k (k + 1) hak (by omega) (by omega) (by omega) (by omega)), front_step a k d dk hak (by omega) HK.out.2⟩⟩
        · have hklz : ¬ (k : Int) < (ip : Int) := by omega
          obtain rfl : k = ip := by omega
          go_wp2
          ((try simp only [Exit.inBlock, Exit.then]); refine bodyPost_ret (results_none rfl _ _ _) rfl ?_)
          have T2' : SortedIn (ltOf cf) (a + 1) b d := by rw [show a + 1 = m by omega]; exact T2.out
          exact ⟨rfl, dk, S1.out, HK.out.1, front_sorted hO a b i d dk (by omega) hjb T2' (fun q h3 h4 => HI.out.1 q (by omega) h4) HI.out.2 (by rw [show i - 1 = k by omega]; exact HK.out.2)⟩
end Go.Proofs.Ythgmmebkjhjgcaa.Pr

namespace Go.Proofs.Ythgmmebkjhjgcaa.Pr
open Go.RowKit Go.Proofs.YthgmmebkjhjgcaaW.PrintWords Go.Proofs.YthgmmebkjhjgcaaW.PrintLast Go.Proofs.YthgmmebkjhjgcaaW.PrintMore
set_option linter.unusedVariables false
set_option linter.unusedSimpArgs false
open Go.Shelf Go.Lib Go.Sort Go.Proofs.Ythgmmebkjhjgcaa.Pu
set_option maxHeartbeats 16000000 in
set_option maxRecDepth 1000000 in
theorem symMb {α : Type} [Inhabited α] (enc : α → Value) (cf : α → α → Int) (hO : SWO (ltOf cf)) (g : Nat) (cb : Array Value) (blk off cap : Nat) (d0 : Array α) (w0 : World) (R : Row1 enc w0 blk off d0) (eg : ∀ args w, (callFunc g args).run Try.prog w = .ok (.enter g args) w) (hcmp : CmpLays1 Try.prog g cb enc cf blk off d0.size w0) (hsz0 : d0.size < 4611686018427387904) (a m b : Nat) (d : Array α) (w : World) (hs : d0.size = d.size) (S : SW enc w0 blk off d w) (ham : a < m) (hmb : m < b) (hb : b ≤ d.size) (s1 : SortedIn (ltOf cf) a m d) (s2 : SortedIn (ltOf cf) m b d) (c1 : ¬ m ≤ a + 1) (c2 : b ≤ m + 1) :
    Calls Try.prog 36 #[.slice (some ⟨blk, off, none⟩) d.size cap, .int .i64 a, .int .i64 m, .int .i64 b, .func (.func g) #[] cb] w fun e w' => e = .returned (.tuple #[]) ∧ ∃ d', SW enc w0 blk off d' w' ∧ PermIn a b d d' ∧ SortedIn (ltOf cf) a b d' := by
  have mixed : Try.prog.follows .mixedOrders = true := by kernel_rfl
  have u51 := Try.underlying24
  have hcl0 := R.hO.cells
  simp only [Value.cells] at hcl0
  have hst := R.hO.store Try.prog
  have hsz : d.size < 4611686018427387904 := by omega
  have egs : ∀ args w, (callFunc 36 args).run Try.prog w = .ok (.enter 36 args) w := enters_of Try.func36 (by kernel_rfl) rfl
  have egr : ∀ args w, (callFunc 37 args).run Try.prog w = .ok (.enter 37 args) w := enters_of Try.func37 (by kernel_rfl) rfl
  have HC := Aside0.mk hcmp
  have HS := Aside0.mk S
  have T1 := Aside0.mk s1
  have T2 := Aside0.mk s2
  clear hcmp S s1 s2
  have wma : IntKind.i64.wrap ((m : Int) - (a : Int)) = (m : Int) - (a : Int) := by rw [IntKind.wrap_i64]; omega
  have wbm : IntKind.i64.wrap ((b : Int) - (m : Int)) = (b : Int) - (m : Int) := by rw [IntKind.wrap_i64]; omega
  go_enter Try.func36, Try.ntmps36
  have hez : ((m : Int) - (a : Int) == 1) = false := by simp; omega
  have hez2 : ((b : Int) - (m : Int) == 1) = true := by simp; omega
  go_wp2
  go_loopg [14, 15, 16] (m - a) (fun gg s14 s15 _ wr => ∃ i j : Nat, s14 = .int .i64 i ∧ s15 = .int .i64 j ∧ a ≤ i ∧ i ≤ j ∧ j ≤ m ∧ j - i ≤ gg ∧ Aside0 (SW enc w0 blk off d wr) ∧ Aside0 ((∀ q, a ≤ q → q < i → ltOf cf d[m]! d[q]! = false) ∧ (∀ q, j ≤ q → q < m → ltOf cf d[m]! d[q]! = true)))
  case atStart => exact ⟨a, m, rfl, rfl, Nat.le_refl _, by omega, Nat.le_refl _, Nat.le_refl _, HS, ⟨fun q h1 h2 => absurd h2 (by omega), fun q h1 h2 => absurd h2 (by omega)⟩⟩
  case round =>
    obtain ⟨i, j, rfl, rfl, hia, hij, hjm, hgg, S1, HI⟩ := hrel
    by_cases hlt : i < j
    · have hltz : (i : Int) < (j : Int) := by omega
      obtain ⟨h, hh⟩ : ∃ h : Nat, ((i : Int) + (j : Int)) / 2 = (h : Int) := ⟨(i + j) / 2, by omega⟩
      have h1 : i ≤ h := by omega
      have h2 : h < j := by omega
      have wh1 : IntKind.i64.wrap ((h : Int) + 1) = (h : Int) + 1 := by rw [IntKind.wrap_i64]; omega
      cases hl : ltOf cf d[m]! d[h]! with
      | true =>
        have HI' : Aside0 ((∀ q, a ≤ q → q < i → ltOf cf d[m]! d[q]! = false) ∧ (∀ q, h ≤ q → q < m → ltOf cf d[m]! d[q]! = true)) := ⟨⟨HI.out.1, fun q h3 h4 => by
          rcases Nat.lt_or_eq_of_le h3 with h5 | rfl
          · exact lt_le hO hl (T1.out h q (by omega) h5 h4)
          · exact hl⟩⟩
        go_wp2_with fail
        obtain ⟨i4, hi4⟩ : ∃ q, q = m := ⟨_, rfl⟩
        obtain ⟨j4, hj4⟩ : ∃ q, q = h := ⟨_, rfl⟩
        have ea4 : ((m : Int)).toNat = i4 := by omega
        have pa4 : (0 : Int) ≤ (m : Int) := by omega
        have ba4 : (m : Int) < (d.size : Int) := by omega
        have ra4 : IntKind.i64.wrap ((m : Int)) = (m : Int) := by rw [IntKind.wrap_i64]; omega
        have ec4 : ((h : Int)).toNat = j4 := by omega
        have pc4 : (0 : Int) ≤ (h : Int) := by omega
        have bc4 : (h : Int) < (d.size : Int) := by omega
        have rc4 : IntKind.i64.wrap ((h : Int)) = (h : Int) := by rw [IntKind.wrap_i64]; omega
        obtain ⟨x4, hx4⟩ : ∃ x, x = d[m]! := ⟨_, rfl⟩
        obtain ⟨y4, hy4⟩ : ∃ x, x = d[h]! := ⟨_, rfl⟩
        have la4 := S1.out.cl R (by omega) (m) (by omega)
        have lb4 := S1.out.cl R (by omega) (h) (by omega)
        rw [← hx4, ← hi4] at la4
        rw [← hy4, ← hj4] at lb4
        have hc4 := S1.out.cmp HC.out (by omega) x4 y4
        have hv4 : cf x4 y4 < 0 := by rw [hx4, hy4]; exact of_decide_eq_true hl
        have hd4 : decide (cf x4 y4 < 0) = true := decide_eq_true hv4
        clear hx4 hy4 hi4 hj4
        go_wp2_with fail
        go_quiet_grown (first | (go_at_fn g; refine Calls.grown_of (hc4 _ _)))
        have S2 : Aside0 (SW enc w0 blk off d (grow (wr.drewN nq) osq)) := ⟨S1.out.grown nq osq⟩
        clear la4 lb4 hc4 S1
        generalize grow (wr.drewN nq) osq = w2 at S2 ⊢
        clear nq osq
        clear ea4 ec4
        go_wp2
        go_roundg (h - i)
        case measure => omega
        case rel => exact ⟨i, h, rfl, rfl, hia, h1, by omega, Nat.le_refl _, S2, HI'⟩
      | false =>
        have HI' : Aside0 ((∀ q, a ≤ q → q < h + 1 → ltOf cf d[m]! d[q]! = false) ∧ (∀ q, j ≤ q → q < m → ltOf cf d[m]! d[q]! = true)) := ⟨⟨fun q h3 h4 => by
          rcases Nat.lt_or_eq_of_le (show q ≤ h by omega) with h5 | rfl
          · exact hO.ntrans _ _ _ hl (T1.out q h h3 h5 (by omega))
          · exact hl, HI.out.2⟩⟩
        go_wp2_with fail
        obtain ⟨i5, hi5⟩ : ∃ q, q = m := ⟨_, rfl⟩
        obtain ⟨j5, hj5⟩ : ∃ q, q = h := ⟨_, rfl⟩
        have ea5 : ((m : Int)).toNat = i5 := by omega
        have pa5 : (0 : Int) ≤ (m : Int) := by omega
        have ba5 : (m : Int) < (d.size : Int) := by omega
        have ra5 : IntKind.i64.wrap ((m : Int)) = (m : Int) := by rw [IntKind.wrap_i64]; omega
        have ec5 : ((h : Int)).toNat = j5 := by omega
        have pc5 : (0 : Int) ≤ (h : Int) := by omega
        have bc5 : (h : Int) < (d.size : Int) := by omega
        have rc5 : IntKind.i64.wrap ((h : Int)) = (h : Int) := by rw [IntKind.wrap_i64]; omega
        obtain ⟨x5, hx5⟩ : ∃ x, x = d[m]! := ⟨_, rfl⟩
        obtain ⟨y5, hy5⟩ : ∃ x, x = d[h]! := ⟨_, rfl⟩
        have la5 := S1.out.cl R (by omega) (m) (by omega)
        have lb5 := S1.out.cl R (by omega) (h) (by omega)
        rw [← hx5, ← hi5] at la5
        rw [← hy5, ← hj5] at lb5
        have hc5 := S1.out.cmp HC.out (by omega) x5 y5
        have hv5 : ¬ cf x5 y5 < 0 := by rw [hx5, hy5]; exact of_decide_eq_false hl
        have hd5 : decide (cf x5 y5 < 0) = false := decide_eq_false hv5
        clear hx5 hy5 hi5 hj5
        go_wp2_with fail
        go_quiet_grown (first | (go_at_fn g; refine Calls.grown_of (hc5 _ _)))
        have S2 : Aside0 (SW enc w0 blk off d (grow (wr.drewN nq) osq)) := ⟨S1.out.grown nq osq⟩
        clear la5 lb5 hc5 S1
        generalize grow (wr.drewN nq) osq = w2 at S2 ⊢
        clear nq osq
        clear ea5 ec5
        go_wp2
        go_roundg (j - (h + 1))
        case measure => omega
        case rel => exact ⟨h + 1, j, by go_num, rfl, by omega, by omega, hjm, Nat.le_refl _, S2, HI'⟩
    · have hltz : ¬ (i : Int) < (j : Int) := by omega
      obtain rfl : i = j := by omega
      go_wp2
      go_loopg [17] (m - a) (fun gg s17 wr2 => ∃ (k : Nat) (dk : Array α), s17 = .int .i64 k ∧ i ≤ k ∧ k ≤ m ∧ k - i ≤ gg ∧ dk.size = d.size ∧ Aside0 (SW enc w0 blk off dk wr2) ∧ Aside0 (PermIn a b d dk ∧ ∀ x, dk[x]! = backGet m k d x))
      case atStart => exact ⟨m, d, rfl, hjm, Nat.le_refl _, by omega, rfl, S1, ⟨permIn_refl _ _ _, back_start m d⟩⟩
      case round =>
        clear S1
        obtain ⟨k, dk, rfl, hik, hkm, hgg2, hsk, S1, HK⟩ := hrel
        by_cases hkl : i < k
        · obtain ⟨kp, hkp⟩ : ∃ q, q + 1 = k := ⟨k - 1, by omega⟩
          have zkp : (k : Int) = (kp : Int) + 1 := by omega
          have hklz : (i : Int) < (kp : Int) + 1 := by omega
          have hklb : decide ((kp : Int) + 1 > (i : Int)) = true := decide_eq_true (by omega)
          go_wp2_with fail
          obtain ⟨i6, hi6⟩ : ∃ q, q = k := ⟨_, rfl⟩
          obtain ⟨j6, hj6⟩ : ∃ q, q = k - 1 := ⟨_, rfl⟩
          have ea6 : ((kp : Int) + 1).toNat = i6 := by omega
          have pa6 : (0 : Int) ≤ (kp : Int) + 1 := by omega
          have ba6 : (kp : Int) + 1 < (d.size : Int) := by omega
          have ra6 : IntKind.i64.wrap ((kp : Int) + 1) = (kp : Int) + 1 := by rw [IntKind.wrap_i64]; omega
          have ec6 : ((kp : Int)).toNat = j6 := by omega
          have pc6 : (0 : Int) ≤ (kp : Int) := by omega
          have bc6 : (kp : Int) < (d.size : Int) := by omega
          have rc6 : IntKind.i64.wrap ((kp : Int)) = (kp : Int) := by rw [IntKind.wrap_i64]; omega
          obtain ⟨x6, hx6⟩ : ∃ x, x = dk[k]! := ⟨_, rfl⟩
          obtain ⟨y6, hy6⟩ : ∃ x, x = dk[k - 1]! := ⟨_, rfl⟩
          have S2 : Aside0 (SW enc w0 blk off (swp dk (k) (k - 1)) ((wr.setCell ⟨blk, off + i6, none⟩ (enc y6)).setCell ⟨blk, off + j6, none⟩ (enc x6)).drew) := ⟨by rw [hi6, hj6, hx6, hy6]; exact S1.out.swapped R (k) (k - 1) (by omega) (by omega)⟩
          have ca6 := S1.out.c1 R (by omega) (k) (by omega)
          have cb6 := S1.out.c1 R (by omega) (k - 1) (by omega)
          have fa6 := S1.out.f1 R (by omega) (k) (by omega)
          have fb6 := S1.out.f1 R (by omega) (k - 1) (by omega)
          obtain ⟨u6, cc6⟩ := S1.out.c2 R (by omega) (k) (k - 1) (by omega) (by omega) (enc y6)
          rw [← hj6, ← hi6] at cc6
          rw [← hx6, ← hi6] at ca6
          rw [← hy6, ← hj6] at cb6
          rw [← hi6] at fa6
          rw [← hj6] at fb6
          clear S1 hx6 hy6 hi6 hj6
          go_wp2_with fail
          go_big_region_o
          clear ca6 cb6 cc6 fa6 fb6
          generalize ((wr.setCell ⟨blk, off + i6, none⟩ (enc y6)).setCell ⟨blk, off + j6, none⟩ (enc x6)).drew = w2 at S2 ⊢
          clear ea6 ec6
          go_wp2
          go_roundg (k - 1 - i)
          case measure => omega
          case rel => exact ⟨k - 1, swp dk k (k - 1), by first | rfl | go_num | (congr 1; omega), by omega, by omega, Nat.le_refl _, by rw [size_swp]; exact hsk, S2, ⟨permIn_trans _ _ _ _ _ HK.out.1 (swp_permIn dk a b k (k - 1) (by omega) (by omega) (by omega) (by omega) (by omega)), back_step m k d dk (by omega) hkm (by omega) HK.out.2⟩⟩
        · have hklz : ¬ (i : Int) < (k : Int) := by omega
          have hklb : decide ((k : Int) > (i : Int)) = false := decide_eq_false (by omega)
          obtain rfl : i = k := by omega
          go_wp2
          ((try simp only [Exit.inBlock, Exit.then]); refine bodyPost_ret (results_none rfl _ _ _) rfl ?_)
          exact ⟨rfl, dk, S1.out, HK.out.1, by rw [show b = m + 1 by omega]; exact back_sorted hO a m i d dk hia hjm T1.out HI.out.1 HI.out.2 HK.out.2⟩
end Go.Proofs.Ythgmmebkjhjgcaa.Pr

namespace Go.Proofs.Ythgmmebkjhjgcaa.Pr
open Go.RowKit Go.Proofs.YthgmmebkjhjgcaaW.PrintWords Go.Proofs.YthgmmebkjhjgcaaW.PrintLast Go.Proofs.YthgmmebkjhjgcaaW.PrintMore
set_option linter.unusedVariables false
set_option linter.unusedSimpArgs false
open Go.Shelf Go.Lib Go.Sort Go.Proofs.Ythgmmebkjhjgcaa.Pu
set_option maxHeartbeats 16000000 in
set_option maxRecDepth 1000000 in
theorem symMc {α : Type} [Inhabited α] (enc : α → Value) (cf : α → α → Int) (hO : SWO (ltOf cf)) (g : Nat) (cb : Array Value) (blk off cap : Nat) (d0 : Array α) (w0 : World) (R : Row1 enc w0 blk off d0) (eg : ∀ args w, (callFunc g args).run Try.prog w = .ok (.enter g args) w) (hcmp : CmpLays1 Try.prog g cb enc cf blk off d0.size w0) (hsz0 : d0.size < 4611686018427387904) (a m b : Nat) (d : Array α) (w : World) (hs : d0.size = d.size) (S : SW enc w0 blk off d w) (ham : a < m) (hmb : m < b) (hb : b ≤ d.size) (s1 : SortedIn (ltOf cf) a m d) (s2 : SortedIn (ltOf cf) m b d) (c1 : ¬ m ≤ a + 1) (c2 : ¬ b ≤ m + 1) (M : Nat) (IH : Aside0 (∀ (a m b : Nat) (d : Array α) (w : World), b - a ≤ M → d0.size = d.size → SW enc w0 blk off d w → a < m → m < b → b ≤ d.size → SortedIn (ltOf cf) a m d → SortedIn (ltOf cf) m b d →
    Calls Try.prog 36 #[.slice (some ⟨blk, off, none⟩) d.size cap, .int .i64 a, .int .i64 m, .int .i64 b, .func (.func g) #[] cb] w fun e w' => e = .returned (.tuple #[]) ∧ ∃ d', SW enc w0 blk off d' w' ∧ PermIn a b d d' ∧ SortedIn (ltOf cf) a b d')) (hM : b - a ≤ M + 1) :
    Calls Try.prog 36 #[.slice (some ⟨blk, off, none⟩) d.size cap, .int .i64 a, .int .i64 m, .int .i64 b, .func (.func g) #[] cb] w fun e w' => e = .returned (.tuple #[]) ∧ ∃ d', SW enc w0 blk off d' w' ∧ PermIn a b d d' ∧ SortedIn (ltOf cf) a b d' := by
  have mixed : Try.prog.follows .mixedOrders = true := by kernel_rfl
  have u51 := Try.underlying24
  have hcl0 := R.hO.cells
  simp only [Value.cells] at hcl0
  have hst := R.hO.store Try.prog
  have hsz : d.size < 4611686018427387904 := by omega
  have egs : ∀ args w, (callFunc 36 args).run Try.prog w = .ok (.enter 36 args) w := enters_of Try.func36 (by kernel_rfl) rfl
  have egr : ∀ args w, (callFunc 37 args).run Try.prog w = .ok (.enter 37 args) w := enters_of Try.func37 (by kernel_rfl) rfl
  have HC := Aside0.mk hcmp
  have HS := Aside0.mk S
  have T1 := Aside0.mk s1
  have T2 := Aside0.mk s2
  clear hcmp S s1 s2
  have wma : IntKind.i64.wrap ((m : Int) - (a : Int)) = (m : Int) - (a : Int) := by rw [IntKind.wrap_i64]; omega
  have wbm : IntKind.i64.wrap ((b : Int) - (m : Int)) = (b : Int) - (m : Int) := by rw [IntKind.wrap_i64]; omega
  go_enter Try.func36, Try.ntmps36
  have hez : ((m : Int) - (a : Int) == 1) = false := by simp; omega
  have hez2 : ((b : Int) - (m : Int) == 1) = false := by simp; omega
  obtain ⟨mid, hmid⟩ : ∃ q : Nat, ((a : Int) + (b : Int)) / 2 = (q : Int) := ⟨(a + b) / 2, by omega⟩
  have HMID : Aside0 (mid = (a + b) / 2) := ⟨by omega⟩
  have hm1 : a < mid := by omega
  have hm2 : mid < b := by omega
  have wn : IntKind.i64.wrap ((mid : Int) + (m : Int)) = (mid : Int) + (m : Int) := by rw [IntKind.wrap_i64]; omega
  have wn1 : IntKind.i64.wrap ((mid : Int) + (m : Int) - 1) = (mid : Int) + (m : Int) - 1 := by rw [IntKind.wrap_i64]; omega
  have wn2 : IntKind.i64.wrap ((mid : Int) + (m : Int) - (b : Int)) = (mid : Int) + (m : Int) - (b : Int) := by rw [IntKind.wrap_i64]; omega
  go_upto_if 140 with fail
  go_cut [20, 21] (fun s20 s21 wc => ∃ lo hi : Nat, s20 = .int .i64 lo ∧ s21 = .int .i64 hi ∧ Aside0 ((mid < m ∧ lo = mid + m - b ∧ hi = mid) ∨ (m ≤ mid ∧ lo = a ∧ hi = m)) ∧ Aside0 (SW enc w0 blk off d wc))
  case first =>
    by_cases hgt : mid < m
    · have hgz : decide ((m : Int) > (mid : Int)) = true := decide_eq_true (by omega)
      have hgz' : (mid : Int) < (m : Int) := by omega
      go_wp2
      go_meet
      case rel => exact ⟨mid + m - b, mid, by rw [show ((mid + m - b : Nat) : Int) = (mid : Int) + (m : Int) - (b : Int) by have := HMID.out; omega], rfl, ⟨.inl ⟨hgt, rfl, rfl⟩⟩, HS⟩
    · have hgz : decide ((m : Int) > (mid : Int)) = false := decide_eq_false (by omega)
      have hgz' : ¬ (mid : Int) < (m : Int) := by omega
      go_wp2
      go_meet
      case rel => exact ⟨a, m, rfl, rfl, ⟨.inr ⟨by omega, rfl, rfl⟩⟩, HS⟩
  case rest =>
    clear HS
    obtain ⟨lo, hi, rfl, rfl, HLH, S0⟩ := hcut
    have hb1 : a ≤ lo := by have := HLH.out; have := HMID.out; omega
    have hb2 : lo ≤ hi := by have := HLH.out; have := HMID.out; omega
    have hb3 : hi ≤ m := by have := HLH.out; omega
    have hb4 : hi ≤ mid := by have := HLH.out; omega
    have hb5 : mid + m ≤ lo + b := by have := HLH.out; have := HMID.out; omega
    have hb6 : hi + m ≤ mid + m := by omega
    have hb7 : lo < hi := by have := HLH.out; have := HMID.out; omega
    have MONO := Aside0.mk (Cut.mono hO ham hmb HMID.out HLH.out T1.out T2.out)
    go_wp2
    go_loopg [20, 21, 23] (hi - lo) (fun gg s20 s21 _ wr => ∃ i j : Nat, s20 = .int .i64 i ∧ s21 = .int .i64 j ∧ lo ≤ i ∧ i ≤ j ∧ j ≤ hi ∧ j - i ≤ gg ∧ Aside0 (SW enc w0 blk off d wr) ∧ Aside0 ((∀ c, lo ≤ c → c < i → ltOf cf d[mid + m - 1 - c]! d[c]! = false) ∧ (∀ c, j ≤ c → c < hi → ltOf cf d[mid + m - 1 - c]! d[c]! = true)))
    case atStart => exact ⟨lo, hi, rfl, rfl, Nat.le_refl _, hb2, Nat.le_refl _, Nat.le_refl _, S0, ⟨fun q h1 h2 => absurd h2 (by omega), fun q h1 h2 => absurd h2 (by omega)⟩⟩
    case round =>
      clear S0
      obtain ⟨i, j, rfl, rfl, hil, hij, hjh, hgg, S1, HI⟩ := hrel
      by_cases hlt : i < j
      · have hltz : (i : Int) < (j : Int) := by omega
        obtain ⟨h, hh⟩ : ∃ h : Nat, ((i : Int) + (j : Int)) / 2 = (h : Int) := ⟨(i + j) / 2, by omega⟩
        have h1 : i ≤ h := by omega
        have h2 : h < j := by omega
        have wh1 : IntKind.i64.wrap ((h : Int) + 1) = (h : Int) + 1 := by rw [IntKind.wrap_i64]; omega
        obtain ⟨pc, zpc⟩ : ∃ q : Nat, (mid : Int) + (m : Int) - 1 - (h : Int) = (q : Int) := ⟨mid + m - 1 - h, by omega⟩
        have hpcb : pc < b := by omega
        have epc : Aside0 (mid + m - 1 - h = pc) := ⟨by omega⟩
        cases hl : ltOf cf d[mid + m - 1 - h]! d[h]! with
        | true =>
          have HI' : Aside0 ((∀ c, lo ≤ c → c < i → ltOf cf d[mid + m - 1 - c]! d[c]! = false) ∧ (∀ c, h ≤ c → c < hi → ltOf cf d[mid + m - 1 - c]! d[c]! = true)) := ⟨⟨HI.out.1, fun c h3 h4 => MONO.out h c (by omega) h3 h4 hl⟩⟩
          rw [epc.out] at hl
          go_wp2_with fail
          obtain ⟨i7, hi7⟩ : ∃ q, q = pc := ⟨_, rfl⟩
          obtain ⟨j7, hj7⟩ : ∃ q, q = h := ⟨_, rfl⟩
          have ea7 : ((pc : Int)).toNat = i7 := by omega
          have pa7 : (0 : Int) ≤ (pc : Int) := by omega
          have ba7 : (pc : Int) < (d.size : Int) := by omega
          have ra7 : IntKind.i64.wrap ((pc : Int)) = (pc : Int) := by rw [IntKind.wrap_i64]; omega
          have ec7 : ((h : Int)).toNat = j7 := by omega
          have pc7 : (0 : Int) ≤ (h : Int) := by omega
          have bc7 : (h : Int) < (d.size : Int) := by omega
          have rc7 : IntKind.i64.wrap ((h : Int)) = (h : Int) := by rw [IntKind.wrap_i64]; omega
          obtain ⟨x7, hx7⟩ : ∃ x, x = d[pc]! := ⟨_, rfl⟩
          obtain ⟨y7, hy7⟩ : ∃ x, x = d[h]! := ⟨_, rfl⟩
          have la7 := S1.out.cl R (by omega) (pc) (by omega)
          have lb7 := S1.out.cl R (by omega) (h) (by omega)
          rw [← hx7, ← hi7] at la7
          rw [← hy7, ← hj7] at lb7
          have hc7 := S1.out.cmp HC.out (by omega) x7 y7
          have hv7 : cf x7 y7 < 0 := by rw [hx7, hy7]; exact of_decide_eq_true hl
          have hd7 : decide (cf x7 y7 < 0) = true := decide_eq_true hv7
          clear hx7 hy7 hi7 hj7
          go_wp2_with fail
          go_quiet_grown (first | (go_at_fn g; refine Calls.grown_of (hc7 _ _)))
          have S2 : Aside0 (SW enc w0 blk off d (grow (wr.drewN nq) osq)) := ⟨S1.out.grown nq osq⟩
          clear la7 lb7 hc7 S1
          generalize grow (wr.drewN nq) osq = w2 at S2 ⊢
          clear nq osq
          clear ea7 ec7
          go_wp2
          go_roundg (h - i)
          case measure => omega
          case rel => exact ⟨i, h, rfl, rfl, hil, h1, by omega, Nat.le_refl _, S2, HI'⟩
        | false =>
          have HL : Aside0 (∀ c, lo ≤ c → c < h + 1 → ltOf cf d[mid + m - 1 - c]! d[c]! = false) := ⟨fun c h3 h4 => by
            cases e : ltOf cf d[mid + m - 1 - c]! d[c]! with
            | false => rfl
            | true =>
              have := MONO.out c h h3 (by omega) (by omega) e
              rw [hl] at this
              cases this⟩
          have HI' : Aside0 ((∀ c, lo ≤ c → c < h + 1 → ltOf cf d[mid + m - 1 - c]! d[c]! = false) ∧ (∀ c, j ≤ c → c < hi → ltOf cf d[mid + m - 1 - c]! d[c]! = true)) := ⟨⟨HL.out, HI.out.2⟩⟩
          clear HL
          rw [epc.out] at hl
          go_wp2_with fail
          obtain ⟨i8, hi8⟩ : ∃ q, q = pc := ⟨_, rfl⟩
          obtain ⟨j8, hj8⟩ : ∃ q, q = h := ⟨_, rfl⟩
          have ea8 : ((pc : Int)).toNat = i8 := by omega
          have pa8 : (0 : Int) ≤ (pc : Int) := by omega
          have ba8 : (pc : Int) < (d.size : Int) := by omega
          have ra8 : IntKind.i64.wrap ((pc : Int)) = (pc : Int) := by rw [IntKind.wrap_i64]; omega
          have ec8 : ((h : Int)).toNat = j8 := by omega
          have pc8 : (0 : Int) ≤ (h : Int) := by omega
          have bc8 : (h : Int) < (d.size : Int) := by omega
          have rc8 : IntKind.i64.wrap ((h : Int)) = (h : Int) := by rw [IntKind.wrap_i64]; omega
          obtain ⟨x8, hx8⟩ : ∃ x, x = d[pc]! := ⟨_, rfl⟩
          obtain ⟨y8, hy8⟩ : ∃ x, x = d[h]! := ⟨_, rfl⟩
          have la8 := S1.out.cl R (by omega) (pc) (by omega)
          have lb8 := S1.out.cl R (by omega) (h) (by omega)
          rw [← hx8, ← hi8] at la8
          rw [← hy8, ← hj8] at lb8
          have hc8 := S1.out.cmp HC.out (by omega) x8 y8
          have hv8 : ¬ cf x8 y8 < 0 := by rw [hx8, hy8]; exact of_decide_eq_false hl
          have hd8 : decide (cf x8 y8 < 0) = false := decide_eq_false hv8
          clear hx8 hy8 hi8 hj8
          go_wp2_with fail
          go_quiet_grown (first | (go_at_fn g; refine Calls.grown_of (hc8 _ _)))
          have S2 : Aside0 (SW enc w0 blk off d (grow (wr.drewN nq) osq)) := ⟨S1.out.grown nq osq⟩
          clear la8 lb8 hc8 S1
          generalize grow (wr.drewN nq) osq = w2 at S2 ⊢
          clear nq osq
          clear ea8 ec8
          go_wp2
          go_roundg (j - (h + 1))
          case measure => omega
          case rel => exact ⟨h + 1, j, by go_num, rfl, by omega, by omega, hjh, Nat.le_refl _, S2, HI'⟩
      · have hltz : ¬ (i : Int) < (j : Int) := by omega
        obtain rfl : i = j := by omega
        obtain ⟨en, hen⟩ : ∃ q : Nat, (mid : Int) + (m : Int) - (i : Int) = (q : Int) := ⟨mid + m - i, by omega⟩
        have wen : IntKind.i64.wrap (en : Int) = (en : Int) := by rw [IntKind.wrap_i64]; omega
        have CUT := Aside0.mk (⟨ham, hmb, HMID.out, HLH.out, hil, hjh, by omega, HI.out.1, HI.out.2⟩ : Cut (ltOf cf) a m b mid lo hi i en d)
        obtain ⟨b1, b2, b3, b4, b5, b6, b7⟩ := CUT.out.bounds
        have B7 := Aside0.mk b7
        clear b7 HI
        as_aux_lemma =>
          go_upto_region 39 with fail
          go_cut [185] (fun s185 wc => s185 = .bool (decide (i < m ∧ m < en)) ∧ Aside0 (SW enc w0 blk off d wc))
          case first =>
            by_cases e1 : i < m
            · have e1z : (i : Int) < (m : Int) := by omega
              by_cases e2 : m < en
              · have e2z : (m : Int) < (en : Int) := by omega
                go_wp2
                go_meet
                case rel => exact ⟨by rw [decide_eq_true ⟨e1, e2⟩], S1⟩
              · have e2z : ¬ (m : Int) < (en : Int) := by omega
                go_wp2
                go_meet
                case rel => exact ⟨by rw [decide_eq_false (fun h => e2 h.2)], S1⟩
            · have e1z : ¬ (i : Int) < (m : Int) := by omega
              go_wp2
              go_meet
              case rel => exact ⟨by rw [decide_eq_false (fun h => e1 h.1)], S1⟩
          case rest =>
            as_aux_lemma =>
              clear S1
              obtain ⟨rfl, S1⟩ := hcut
              go_upto_if 185 with fail
              go_cut [] (fun wc => ∃ d1, Aside0 (SW enc w0 blk off d1 wc ∧ PermIn a b d d1 ∧ ∀ k, d1[k]! = rotGet m (m - i) (en - m) d k))
              case first =>
                by_cases e : i < m ∧ m < en
                · have ez : decide (i < m ∧ m < en) = true := decide_eq_true e
                  obtain ⟨e1, e2⟩ := e
                  have hc := rotateR enc g cb blk off cap d0 d w0 _ R (by omega) S1.out hsz i m en e1 e2 (by omega)
                  clear S1
                  go_wp2_with (go_at_fn 37; refine hc.mono ?_; rintro e w1 ⟨rfl, hc1⟩; have HC1 := Aside0.mk hc1; clear hc1 hc)
                  go_meet
                  case rel =>
                    obtain ⟨d1, t1, t2, t3⟩ := HC1.out
                    exact ⟨d1, ⟨t1, permIn_mono _ _ _ _ a b (by omega) (by omega) hb t2, t3⟩⟩
                · have ez : decide (i < m ∧ m < en) = false := decide_eq_false e
                  have EZ := Aside0.mk e
                  go_wp2
                  go_meet
                  case rel => exact ⟨d, ⟨S1.out, permIn_refl _ _ _, fun k => by
                    have := EZ.out
                    have := B7.out
                    unfold rotGet
                    by_cases q1 : m - (m - i) ≤ k ∧ k < m - (m - i) + (en - m)
                    · rw [if_pos q1]
                      exact congrArg (fun z => d[z]!) (by omega)
                    · rw [if_neg q1]
                      by_cases q2 : m - (m - i) + (en - m) ≤ k ∧ k < m + (en - m)
                      · rw [if_pos q2]
                        exact congrArg (fun z => d[z]!) (by omega)
                      · rw [if_neg q2]⟩⟩
              case rest =>
                as_aux_lemma =>
                  clear S1
                  obtain ⟨d1, HD⟩ := hcut
                  have hs1 := HD.out.2.1.1
                  have X := Aside0.mk (CUT.out.cross hO T1.out T2.out HD.out.2.2)
                  go_upto_region 41 with fail
                  go_cut [199] (fun s199 wc => s199 = .bool (decide (a < i ∧ i < mid)) ∧ Aside0 (SW enc w0 blk off d1 wc))
                  case first =>
                    by_cases e1 : a < i
                    · have e1z : (a : Int) < (i : Int) := by omega
                      by_cases e2 : i < mid
                      · have e2z : (i : Int) < (mid : Int) := by omega
                        go_wp2
                        go_meet
                        case rel => exact ⟨by rw [decide_eq_true ⟨e1, e2⟩], ⟨HD.out.1⟩⟩
                      · have e2z : ¬ (i : Int) < (mid : Int) := by omega
                        go_wp2
                        go_meet
                        case rel => exact ⟨by rw [decide_eq_false (fun h => e2 h.2)], ⟨HD.out.1⟩⟩
                    · have e1z : ¬ (a : Int) < (i : Int) := by omega
                      go_wp2
                      go_meet
                      case rel => exact ⟨by rw [decide_eq_false (fun h => e1 h.1)], ⟨HD.out.1⟩⟩
                  case rest =>
                    as_aux_lemma =>
                      obtain ⟨rfl, S1⟩ := hcut
                      go_upto_if 199 with fail
                      go_cut [] (fun wc => ∃ d2, Aside0 (SW enc w0 blk off d2 wc ∧ PermIn a mid d1 d2 ∧ SortedIn (ltOf cf) a mid d2))
                      case first =>
                        by_cases e : a < i ∧ i < mid
                        · have ez : decide (a < i ∧ i < mid) = true := decide_eq_true e
                          obtain ⟨e1, e2⟩ := e
                          have hc := IH.out a i mid d1 _ (by omega) (by omega) S1.out e1 e2 (by omega) X.out.1 X.out.2.1
                          rw [hs1] at hc
                          clear S1
                          go_wp2_with (go_at_fn 36; refine hc.mono ?_; rintro e w1 ⟨rfl, hc1⟩; have HC1 := Aside0.mk hc1; clear hc1 hc)
                          go_meet
                          case rel =>
                            obtain ⟨d2, t1, t2, t3⟩ := HC1.out
                            exact ⟨d2, ⟨t1, t2, t3⟩⟩
                        · have ez : decide (a < i ∧ i < mid) = false := decide_eq_false e
                          have EZ := Aside0.mk e
                          go_wp2
                          go_meet
                          case rel => exact ⟨d1, ⟨S1.out, permIn_refl _ _ _, by
                            have := EZ.out
                            rcases Nat.lt_or_eq_of_le b1 with q | q
                            · rw [show mid = i by omega]
                              exact X.out.1
                            · rw [q]
                              exact X.out.2.1⟩⟩
                      case rest =>
                        as_aux_lemma =>
                          clear S1
                          obtain ⟨d2, HE⟩ := hcut
                          have hs2 := HE.out.2.1.1
                          go_upto_region 43 with fail
                          go_cut [213] (fun s213 wc => s213 = .bool (decide (mid < en ∧ en < b)) ∧ Aside0 (SW enc w0 blk off d2 wc))
                          case first =>
                            by_cases e1 : mid < en
                            · have e1z : (mid : Int) < (en : Int) := by omega
                              by_cases e2 : en < b
                              · have e2z : (en : Int) < (b : Int) := by omega
                                go_wp2
                                go_meet
                                case rel => exact ⟨by rw [decide_eq_true ⟨e1, e2⟩], ⟨HE.out.1⟩⟩
                              · have e2z : ¬ (en : Int) < (b : Int) := by omega
                                go_wp2
                                go_meet
                                case rel => exact ⟨by rw [decide_eq_false (fun h => e2 h.2)], ⟨HE.out.1⟩⟩
                            · have e1z : ¬ (mid : Int) < (en : Int) := by omega
                              go_wp2
                              go_meet
                              case rel => exact ⟨by rw [decide_eq_false (fun h => e1 h.1)], ⟨HE.out.1⟩⟩
                          case rest =>
                            as_aux_lemma =>
                              obtain ⟨rfl, S1⟩ := hcut
                              have hout : Aside0 (∀ x y, mid ≤ x → SortedIn (ltOf cf) x y d1 → SortedIn (ltOf cf) x y d2) := ⟨fun x y hx h p q h1 h2 h3 => by
                                rw [HE.out.2.1.2.1 q (.inr (by omega)), HE.out.2.1.2.1 p (.inr (by omega))]
                                exact h p q h1 h2 h3⟩
                              by_cases e : mid < en ∧ en < b
                              · have ez : decide (mid < en ∧ en < b) = true := decide_eq_true e
                                obtain ⟨e1, e2⟩ := e
                                have hc := IH.out mid en b d2 _ (by omega) (by omega) S1.out e1 e2 (by omega) (hout.out _ _ (Nat.le_refl _) X.out.2.2.1) (hout.out _ _ (by omega) X.out.2.2.2.1)
                                rw [show d2.size = d.size by omega] at hc
                                clear S1
                                go_wp2_with (go_at_fn 36; refine hc.mono ?_; rintro e w1 ⟨rfl, hc1⟩; have HC1 := Aside0.mk hc1; clear hc1 hc)
                                go_end0
                                obtain ⟨d3, t1, t2, t3⟩ := HC1.out
                                have H := halves_sorted (by omega) (by omega) (by omega) X.out.2.2.2.2 HE.out.2.1 HE.out.2.2 t2 t3
                                exact ⟨rfl, d3, t1, permIn_trans _ _ _ _ _ HD.out.2.1 H.1, H.2⟩
                              · have ez : decide (mid < en ∧ en < b) = false := decide_eq_false e
                                have EZ := Aside0.mk e
                                go_wp2
                                go_end0
                                have t3 : SortedIn (ltOf cf) mid b d2 := by
                                  have := EZ.out
                                  rcases Nat.lt_or_eq_of_le b6 with q | q
                                  · rw [show b = en by omega]
                                    exact hout.out _ _ (Nat.le_refl _) X.out.2.2.1
                                  · rw [q]
                                    exact hout.out _ _ (by omega) X.out.2.2.2.1
                                have H := halves_sorted (by omega) (by omega) (by omega) X.out.2.2.2.2 HE.out.2.1 HE.out.2.2 (permIn_refl _ _ _) t3
                                exact ⟨rfl, d2, S1.out, permIn_trans _ _ _ _ _ HD.out.2.1 H.1, H.2⟩
end Go.Proofs.Ythgmmebkjhjgcaa.Pr

namespace Go.Proofs.Ythgmmebkjhjgcaa.Pr
open Go.RowKit Go.Proofs.YthgmmebkjhjgcaaW.PrintWords Go.Proofs.YthgmmebkjhjgcaaW.PrintLast Go.Proofs.YthgmmebkjhjgcaaW.PrintMore
set_option linter.unusedVariables false
set_option linter.unusedSimpArgs false
open Go.Shelf Go.Lib Go.Sort Go.Proofs.Ythgmmebkjhjgcaa.Pu
theorem symM {α : Type} [Inhabited α] (enc : α → Value) (cf : α → α → Int) (hO : SWO (ltOf cf)) (g : Nat) (cb : Array Value) (blk off cap : Nat) (d0 : Array α) (w0 : World) (R : Row1 enc w0 blk off d0) (eg : ∀ args w, (callFunc g args).run Try.prog w = .ok (.enter g args) w) (hcmp : CmpLays1 Try.prog g cb enc cf blk off d0.size w0) (hsz0 : d0.size < 4611686018427387904) (M : Nat) : ∀ (a m b : Nat) (d : Array α) (w : World), b - a ≤ M → d0.size = d.size → SW enc w0 blk off d w → a < m → m < b → b ≤ d.size → SortedIn (ltOf cf) a m d → SortedIn (ltOf cf) m b d →
    Calls Try.prog 36 #[.slice (some ⟨blk, off, none⟩) d.size cap, .int .i64 a, .int .i64 m, .int .i64 b, .func (.func g) #[] cb] w fun e w' => e = .returned (.tuple #[]) ∧ ∃ d', SW enc w0 blk off d' w' ∧ PermIn a b d d' ∧ SortedIn (ltOf cf) a b d' := by
  induction M with
  | zero => intro a m b d w hM hs S ham hmb; exact absurd hM (by omega)
  | succ M ih =>
  intro a m b d w hM hs S ham hmb hb s1 s2
  by_cases c1 : m ≤ a + 1
  · exact symMa enc cf hO g cb blk off cap d0 w0 R eg hcmp hsz0 a m b d w hs S ham hmb hb s1 s2 c1
  · by_cases c2 : b ≤ m + 1
    · exact symMb enc cf hO g cb blk off cap d0 w0 R eg hcmp hsz0 a m b d w hs S ham hmb hb s1 s2 c1 c2
    · exact symMc enc cf hO g cb blk off cap d0 w0 R eg hcmp hsz0 a m b d w hs S ham hmb hb s1 s2 c1 c2 M ⟨ih⟩ hM
end Go.Proofs.Ythgmmebkjhjgcaa.Pr

namespace Go.Proofs.Ythgmmebkjhjgcaa.Pu
open Go.Sort
set_option linter.unusedVariables false
set_option linter.unusedSimpArgs false
variable {α : Type} [Inhabited α] {lt : α → α → Bool}
inductive Blk (lt : α → α → Bool) (bs n : Nat) (d : Array α) : Nat → Prop
  | last (a : Nat) : a ≤ n → n ≤ a + bs → SortedIn lt a n d → Blk lt bs n d a
  | step (a : Nat) : a + bs ≤ n → SortedIn lt a (a + bs) d → Blk lt bs n d (a + bs) → Blk lt bs n d a
inductive Fwd (lt : α → α → Bool) (bs : Nat) (d : Array α) : Nat → Prop
  | zero : Fwd lt bs d 0
  | step (a : Nat) : Fwd lt bs d a → SortedIn lt a (a + bs) d → Fwd lt bs d (a + bs)
theorem sortedIn_same {a b : Nat} {d d' : Array α} (h : SortedIn lt a b d) (e : ∀ q, a ≤ q → q < b → d'[q]! = d[q]!) : SortedIn lt a b d' := fun p q h1 h2 h3 => by
  rw [e q (by omega) h3, e p h1 (by omega)]
  exact h p q h1 h2 h3
theorem Fwd.same {bs a : Nat} {d d' : Array α} (h : Fwd lt bs d a) (e : ∀ q, q < a → d'[q]! = d[q]!) : Fwd lt bs d' a := by
  induction h with
  | zero => exact .zero
  | step a h s ih => exact .step a (ih fun q hq => e q (by omega)) (sortedIn_same s fun q h1 h2 => e q h2)
theorem Fwd.to {bs a b : Nat} {d : Array α} (e : b = a + bs) (h : Fwd lt bs d a) (s : SortedIn lt a b d) : Fwd lt bs d b := by
  subst e
  exact .step a h s
theorem Blk.same {bs n a : Nat} {d d' : Array α} (h : Blk lt bs n d a) (e : ∀ q, a ≤ q → d'[q]! = d[q]!) : Blk lt bs n d' a := by
  induction h with
  | last a h1 h2 s => exact .last a h1 h2 (sortedIn_same s fun q h1 h2 => e q h1)
  | step a h s t ih => exact .step a h (sortedIn_same s fun q h1 h2 => e q h1) (ih fun q hq => e q (by omega))
theorem Fwd.blk {bs n a : Nat} {d : Array α} (h : Fwd lt bs d a) (t : Blk lt bs n d a) (hn : a ≤ n) : Blk lt bs n d 0 := by
  induction h with
  | zero => exact t
  | step a h s ih => exact ih (.step a hn s t) (by omega)
theorem Blk.two {bs n a : Nat} {d : Array α} (h : Blk lt bs n d a) (hb : 0 < bs) (hn : a + 2 * bs ≤ n) : SortedIn lt a (a + bs) d ∧ SortedIn lt (a + bs) (a + 2 * bs) d ∧ Blk lt bs n d (a + 2 * bs) := by
  cases h with
  | last _ h1 h2 s => omega
  | step _ h s t =>
    refine ⟨s, ?_⟩
    cases t with
    | last _ h1 h2 s2 =>
      obtain rfl : n = a + 2 * bs := by omega
      exact ⟨s2, .last _ (Nat.le_refl _) (by omega) (fun p q h1 h2 h3 => absurd h3 (by omega))⟩
    | step _ h2 s2 t2 =>
      rw [show a + bs + bs = a + 2 * bs by omega] at s2 t2
      exact ⟨s2, t2⟩
theorem Blk.one {bs n a : Nat} {d : Array α} (h : Blk lt bs n d a) (hn : n < a + 2 * bs) (hm : a + bs < n) : SortedIn lt a (a + bs) d ∧ SortedIn lt (a + bs) n d := by
  cases h with
  | last _ h1 h2 s => omega
  | step _ h s t =>
    refine ⟨s, ?_⟩
    cases t with
    | last _ h1 h2 s2 => exact s2
    | step _ h2 s2 t2 => omega
theorem Blk.none {bs n a : Nat} {d : Array α} (h : Blk lt bs n d a) (hm : ¬ a + bs < n) : SortedIn lt a n d := by
  cases h with
  | last _ h1 h2 s => exact s
  | step _ h s t =>
    obtain rfl : n = a + bs := by omega
    exact s
end Go.Proofs.Ythgmmebkjhjgcaa.Pu

namespace Go.Proofs.Ythgmmebkjhjgcaa.Pr
open Go.RowKit Go.Proofs.YthgmmebkjhjgcaaW.PrintWords Go.Proofs.YthgmmebkjhjgcaaW.PrintLast Go.Proofs.YthgmmebkjhjgcaaW.PrintMore
set_option linter.unusedVariables false
set_option linter.unusedSimpArgs false
open Go.Shelf Go.Lib Go.Sort Go.Proofs.Ythgmmebkjhjgcaa.Pu
set_option maxHeartbeats 16000000 in
set_option maxRecDepth 1000000 in
theorem stableW {α : Type} [Inhabited α] (enc : α → Value) (cf : α → α → Int) (hO : SWO (ltOf cf)) (g : Nat) (cb : Array Value) (blk off cap : Nat) (d0 : Array α) (w0 : World) (R : Row1 enc w0 blk off d0) (eg : ∀ args w, (callFunc g args).run Try.prog w = .ok (.enter g args) w) (hcmp : CmpLays1 Try.prog g cb enc cf blk off d0.size w0) (hsz0 : d0.size < 1152921504606846976) (d : Array α) (w : World) (hs : d0.size = d.size) (S : SW enc w0 blk off d w) :
    Calls Try.prog 32 #[.slice (some ⟨blk, off, none⟩) d.size cap, .int .i64 (d.size : Int), .func (.func g) #[] cb] w fun e w' => e = .returned (.tuple #[]) ∧ ∃ d', SW enc w0 blk off d' w' ∧ PermIn 0 d.size d d' ∧ SortedIn (ltOf cf) 0 d.size d' := by
  have egi : ∀ args w, (callFunc 35 args).run Try.prog w = .ok (.enter 35 args) w := enters_of Try.func35 (by kernel_rfl) rfl
  have egy : ∀ args w, (callFunc 36 args).run Try.prog w = .ok (.enter 36 args) w := enters_of Try.func36 (by kernel_rfl) rfl
  have HC := Aside0.mk hcmp
  have S0 : Aside0 (SW enc w0 blk off d w) := ⟨S⟩
  clear hcmp S
  have hin : d.size < 1152921504606846976 := by omega
  go_enter Try.func32, Try.ntmps32
  go_wp2
  go_loopg [7, 8] d.size (fun gg s7 s8 wr => ∃ (a b : Nat) (dk : Array α), s7 = .int .i64 a ∧ s8 = .int .i64 b ∧ Aside0 (b = a + 20) ∧ a ≤ d.size ∧ d.size - a ≤ gg ∧ dk.size = d.size ∧ Aside0 (SW enc w0 blk off dk wr) ∧ Aside0 (PermIn 0 d.size d dk ∧ Fwd (ltOf cf) 20 dk a))
  case atStart => exact ⟨0, 20, d, rfl, rfl, ⟨rfl⟩, Nat.zero_le _, Nat.sub_le _ _, rfl, S0, ⟨permIn_refl _ _ _, .zero⟩⟩
  case round =>
    clear S0
    obtain ⟨a, b, dk, rfl, rfl, HAB, han, hgg, hsk, S1, HK⟩ := hrel
    have hab1 : b ≤ a + 20 := Nat.le_of_eq HAB.out
    have hab2 : a + 20 ≤ b := Nat.le_of_eq HAB.out.symm
    by_cases hlt : b ≤ d.size
    · have hltz : (b : Int) ≤ (d.size : Int) := by omega
      have hc := insertS enc cf g cb blk off cap d0 dk w0 _ R (by omega) S1.out (by omega) eg HC.out a b (by omega) (by omega)
      rw [hsk] at hc
      clear S1
      go_wp2_with (first | (go_at_fn 35; refine hc.mono ?_; rintro e w2 ⟨rfl, hq_⟩; have S2 := Aside0.mk hq_; clear hq_ hc))
      have HI := Aside0.mk (insertionSort_holds (lt := ltOf cf) hO dk a b (by omega) (by omega))
      go_roundg (d.size - b)
      case measure => omega
      case rel => exact ⟨b, b + 20, _, rfl, by rw [show ((b + 20 : Nat) : Int) = (b : Int) + 20 by omega], ⟨rfl⟩, hlt, Nat.le_refl _, by rw [HI.out.1.1]; exact hsk, S2, ⟨permIn_trans _ _ _ _ _ HK.out.1 (permIn_mono _ _ _ _ 0 d.size (Nat.zero_le _) hlt (by omega) HI.out.1), .to HAB.out (HK.out.2.same fun q hq => HI.out.1.2.1 q (.inl hq)) HI.out.2⟩⟩
    · have hltz : ¬ (b : Int) ≤ (d.size : Int) := by omega
      have hc := insertS enc cf g cb blk off cap d0 dk w0 _ R (by omega) S1.out (by omega) eg HC.out a d.size (by omega) (by omega)
      rw [hsk] at hc
      clear S1
      go_wp2_with (first | (go_at_fn 35; refine hc.mono ?_; rintro e w2 ⟨rfl, hq_⟩; have S2 := Aside0.mk hq_; clear hq_ hc))
      have HI := Aside0.mk (insertionSort_holds (lt := ltOf cf) hO dk a d.size (by omega) (by omega))
      have HB : Aside0 (PermIn 0 d.size d (Sort.insertionSort (ltOf cf) dk a d.size) ∧ Blk (ltOf cf) 20 d.size (Sort.insertionSort (ltOf cf) dk a d.size) 0) := ⟨permIn_trans _ _ _ _ _ HK.out.1 (permIn_mono _ _ _ _ 0 d.size (Nat.zero_le _) (Nat.le_refl _) (by omega) HI.out.1), Fwd.blk (HK.out.2.same fun q hq => HI.out.1.2.1 q (.inl hq)) (.last a han (by omega) HI.out.2) han⟩
      have hsq : (Sort.insertionSort (ltOf cf) dk a d.size).size = d.size := by rw [HI.out.1.1]; exact hsk
      clear HI HK
      generalize Sort.insertionSort (ltOf cf) dk a d.size = d1 at HB hsq S2
      clear hgg hsk han hab1 hab2 HAB hlt hltz
      go_loopg [6] d.size (fun gg s6 wr => ∃ (bs : Nat) (dk : Array α), s6 = .int .i64 bs ∧ 0 < bs ∧ bs < 2305843009213693952 ∧ d.size - bs ≤ gg ∧ dk.size = d.size ∧ Aside0 (SW enc w0 blk off dk wr) ∧ Aside0 (PermIn 0 d.size d dk ∧ Blk (ltOf cf) bs d.size dk 0))
      case atStart => exact ⟨20, d1, rfl, by omega, by omega, by omega, hsq, S2, HB⟩
      case round =>
        clear S2 HB hsq
        obtain ⟨bs, dk, rfl, hbs0, hbs1, hgg, hsk, S1, HK⟩ := hrel
        by_cases hlt : bs < d.size
        · have hltz : (bs : Int) < (d.size : Int) := by omega
          go_wp2
          go_loopg [7, 8] d.size (fun gg s7 s8 wr2 => ∃ (a b : Nat) (dj : Array α), s7 = .int .i64 a ∧ s8 = .int .i64 b ∧ Aside0 (b = a + 2 * bs) ∧ a ≤ d.size ∧ d.size - a ≤ gg ∧ dj.size = d.size ∧ Aside0 (SW enc w0 blk off dj wr2) ∧ Aside0 (PermIn 0 d.size d dj ∧ Fwd (ltOf cf) (2 * bs) dj a ∧ Blk (ltOf cf) bs d.size dj a))
          case atStart => exact ⟨0, 2 * bs, dk, rfl, by go_num, ⟨by omega⟩, Nat.zero_le _, Nat.sub_le _ _, hsk, S1, ⟨HK.out.1, .zero, HK.out.2⟩⟩
          case round =>
            clear S1 HK hsk
            obtain ⟨a, b, dj, rfl, rfl, HAB, han, hgg2, hsj, S1, HJ⟩ := hrel
            have hab1 : b ≤ a + 2 * bs := Nat.le_of_eq HAB.out
            have hab2 : a + 2 * bs ≤ b := Nat.le_of_eq HAB.out.symm
            obtain ⟨mm, zmm⟩ : ∃ q : Nat, (a : Int) + (bs : Int) = (q : Int) := ⟨a + bs, by omega⟩
            have emm : Aside0 (mm = a + bs) := ⟨by omega⟩
            have wmm : IntKind.i64.wrap (mm : Int) = (mm : Int) := by rw [IntKind.wrap_i64]; omega
            by_cases hl2 : b ≤ d.size
            · have hl2z : (b : Int) ≤ (d.size : Int) := by omega
              have TW := Aside0.mk (HJ.out.2.2.two hbs0 (by omega))
              have hc := symM enc cf hO g cb blk off cap d0 w0 R eg HC.out (by omega) (2 * bs) a mm b dj _ (by omega) (by omega) S1.out (by omega) (by omega) (by omega) (by rw [emm.out]; exact TW.out.1) (by rw [emm.out, HAB.out]; exact TW.out.2.1)
              rw [hsj] at hc
              clear S1
              go_wp2_with (first | (go_at_fn 36; refine hc.mono ?_; rintro e w2 ⟨rfl, hq_⟩; have S2 := Aside0.mk hq_; clear hq_ hc))
              obtain ⟨d2, hd2⟩ := S2.out
              have HD := Aside0.mk hd2
              clear hd2 S2
              go_roundg (d.size - b)
              case measure => omega
              case rel => exact ⟨b, b + 2 * bs, d2, rfl, by go_num, ⟨rfl⟩, hl2, Nat.le_refl _, by rw [HD.out.2.1.1]; exact hsj, ⟨HD.out.1⟩, ⟨permIn_trans _ _ _ _ _ HJ.out.1 (permIn_mono _ _ _ _ 0 d.size (Nat.zero_le _) hl2 (by omega) HD.out.2.1), by
                have t1 := HD.out.2.2
                have t2 := HD.out.2.1.2.1
                have hab := HAB.out
                rw [hab] at t1 t2 ⊢
                exact ⟨.step a (HJ.out.2.1.same fun q hq => t2 q (.inl hq)) t1, TW.out.2.2.same fun q hq => t2 q (.inr hq)⟩⟩⟩
            · have hl2z : ¬ (b : Int) ≤ (d.size : Int) := by omega
              by_cases hm : mm < d.size
              · have hmz : (mm : Int) < (d.size : Int) := by omega
                have TW := Aside0.mk (HJ.out.2.2.one (by omega) (by omega))
                have hc := symM enc cf hO g cb blk off cap d0 w0 R eg HC.out (by omega) (2 * bs) a mm d.size dj _ (by omega) (by omega) S1.out (by omega) (by omega) (by omega) (by rw [emm.out]; exact TW.out.1) (by rw [emm.out]; exact TW.out.2)
                rw [hsj] at hc
                clear S1
                go_wp2_with (first | (go_at_fn 36; refine hc.mono ?_; rintro e w2 ⟨rfl, hq_⟩; have S2 := Aside0.mk hq_; clear hq_ hc))
                obtain ⟨d2, hd2⟩ := S2.out
                have HD := Aside0.mk hd2
                clear hd2 S2
                go_roundg (d.size - 2 * bs)
                case measure => omega
                case rel => exact ⟨2 * bs, d2, by rw [show ((2 * bs : Nat) : Int) = (bs : Int) * 2 by omega], by omega, by omega, Nat.le_refl _, by rw [HD.out.2.1.1]; exact hsj, ⟨HD.out.1⟩, ⟨permIn_trans _ _ _ _ _ HJ.out.1 (permIn_mono _ _ _ _ 0 d.size (Nat.zero_le _) (Nat.le_refl _) (by omega) HD.out.2.1), Fwd.blk (HJ.out.2.1.same fun q hq => HD.out.2.1.2.1 q (.inl hq)) (.last a han (by omega) HD.out.2.2) han⟩⟩
              · have hmz : ¬ (mm : Int) < (d.size : Int) := by omega
                go_wp2
                go_roundg (d.size - 2 * bs)
                case measure => omega
                case rel => exact ⟨2 * bs, dj, by rw [show ((2 * bs : Nat) : Int) = (bs : Int) * 2 by omega], by omega, by omega, Nat.le_refl _, hsj, S1, ⟨HJ.out.1, Fwd.blk HJ.out.2.1 (.last a han (by omega) (HJ.out.2.2.none (by omega))) han⟩⟩
        · have hltz : ¬ (bs : Int) < (d.size : Int) := by omega
          go_wp2
          go_end0
          exact ⟨rfl, dk, S1.out, HK.out.1, HK.out.2.none (by omega)⟩
set_option maxHeartbeats 16000000 in
set_option maxRecDepth 1000000 in
theorem sortStableW {α : Type} [Inhabited α] (enc : α → Value) (cf : α → α → Int) (hO : SWO (ltOf cf)) (g : Nat) (cb : Array Value) (blk off cap : Nat) (d0 : Array α) (w0 : World) (R : Row1 enc w0 blk off d0) (eg : ∀ args w, (callFunc g args).run Try.prog w = .ok (.enter g args) w) (hcmp : CmpLays1 Try.prog g cb enc cf blk off d0.size w0) (hsz0 : d0.size < 1152921504606846976) (d : Array α) (w : World) (hs : d0.size = d.size) (S : SW enc w0 blk off d w) :
    Calls Try.prog 23 #[.slice (some ⟨blk, off, none⟩) d.size cap, .func (.func g) #[] cb] w fun e w' => e = .returned (.tuple #[]) ∧ ∃ d', SW enc w0 blk off d' w' ∧ PermIn 0 d.size d d' ∧ SortedIn (ltOf cf) 0 d.size d' := by
  have egs : ∀ args w, (callFunc 32 args).run Try.prog w = .ok (.enter 32 args) w := enters_of Try.func32 (by kernel_rfl) rfl
  have hc := stableW enc cf hO g cb blk off cap d0 w0 R eg hcmp hsz0 d w hs S
  clear hcmp S
  go_enter Try.func23, Try.ntmps23
  go_wp2_with (first | (go_at_fn 32; refine hc.mono ?_; rintro e w2 ⟨rfl, hq_⟩; have S2 := Aside0.mk hq_; clear hq_ hc))
  go_end0
  exact ⟨rfl, S2.out⟩
set_option maxHeartbeats 16000000 in
set_option maxRecDepth 1000000 in
theorem insertNil (g : Nat) (cb : Array Value) (w : World) :
    Calls Try.prog 35 #[.slice none 0 0, .int .i64 0, .int .i64 0, .func (.func g) #[] cb] w fun e w' => e = .returned (.tuple #[]) ∧ w' = w := by
  go_enter Try.func35, Try.ntmps35
  go_wp2
  go_loopg [8] 0 (fun gg s8 wr => s8 = .int .i64 1 ∧ wr = w)
  case atStart => exact ⟨rfl, rfl⟩
  case round =>
    obtain ⟨rfl, rfl⟩ := hrel
    go_wp2
    go_end0
    exact ⟨rfl, rfl⟩
set_option maxHeartbeats 16000000 in
set_option maxRecDepth 1000000 in
theorem stableNil (g : Nat) (cb : Array Value) (w : World) :
    Calls Try.prog 32 #[.slice none 0 0, .int .i64 0, .func (.func g) #[] cb] w fun e w' => e = .returned (.tuple #[]) ∧ w' = w := by
  have egi : ∀ args w, (callFunc 35 args).run Try.prog w = .ok (.enter 35 args) w := enters_of Try.func35 (by kernel_rfl) rfl
  have egy : ∀ args w, (callFunc 36 args).run Try.prog w = .ok (.enter 36 args) w := enters_of Try.func36 (by kernel_rfl) rfl
  have hc := insertNil g cb
  go_enter Try.func32, Try.ntmps32
  go_wp2
  go_loopg [7, 8] 0 (fun gg s7 s8 wr => s7 = .int .i64 0 ∧ s8 = .int .i64 20 ∧ wr = w)
  case atStart => exact ⟨rfl, rfl, rfl⟩
  case round =>
    obtain ⟨rfl, rfl, hwr⟩ := hrel
    go_wp2_with (first | (go_at_fn 35; refine (hc _).mono ?_; rintro e w2 ⟨rfl, hw2⟩))
    go_loopg [6] 0 (fun gg s6 wr2 => s6 = .int .i64 20 ∧ wr2 = w)
    case atStart => exact ⟨rfl, by first | exact hw2 | exact hw2.trans hwr | rfl⟩
    case round =>
      obtain ⟨rfl, hw3⟩ := hrel
      go_wp2
      go_end0
      exact ⟨rfl, by first | exact hw3 | rfl⟩
set_option maxHeartbeats 16000000 in
set_option maxRecDepth 1000000 in
theorem sortStableNil (g : Nat) (cb : Array Value) (w : World) :
    Calls Try.prog 23 #[.slice none 0 0, .func (.func g) #[] cb] w fun e w' => e = .returned (.tuple #[]) ∧ w' = w := by
  have egs : ∀ args w, (callFunc 32 args).run Try.prog w = .ok (.enter 32 args) w := enters_of Try.func32 (by kernel_rfl) rfl
  have hc := stableNil g cb w
  go_enter Try.func23, Try.ntmps23
  go_wp2_with (first | (go_at_fn 32; refine hc.mono ?_; rintro e w2 ⟨rfl, rfl⟩))
  go_end0
  exact ⟨rfl, rfl⟩
end Go.Proofs.Ythgmmebkjhjgcaa.Pr

namespace Go.Proofs.Ythgmmebkjhjgcaa.Pr
open Go.RowKit Go.Proofs.YthgmmebkjhjgcaaW.PrintWords Go.Proofs.YthgmmebkjhjgcaaW.PrintLast Go.Proofs.YthgmmebkjhjgcaaW.PrintMore
set_option linter.unusedVariables false
set_option linter.unusedSimpArgs false
open Go.Shelf Go.Lib Go.Sort
def upsTo (l0 : List S41) (i : Nat) : List Nat := (List.range i).filter fun k => (l0.getD k z41).f1
theorem upsTo_yes (l0 : List S41) (i : Nat) (h : (l0.getD i z41).f1 = true) : upsTo l0 (i + 1) = upsTo l0 i ++ [i] := by
  unfold upsTo
  rw [List.range_succ, List.filter_append, List.filter_cons_of_pos (by exact h)]
  rfl
theorem upsTo_no (l0 : List S41) (i : Nat) (h : (l0.getD i z41).f1 = false) : upsTo l0 (i + 1) = upsTo l0 i := by
  unfold upsTo
  rw [List.range_succ, List.filter_append, List.filter_cons_of_neg (by show ¬ _ = true; rw [h]; decide)]
  exact List.append_nil _
theorem upsTo_len (l0 : List S41) (i : Nat) : (upsTo l0 i).length ≤ i := by
  have := List.length_filter_le (fun k => (l0.getD k z41).f1) (List.range i)
  rwa [List.length_range] at this
theorem upsTo_lt (l0 : List S41) (i : Nat) : ∀ k ∈ upsTo l0 i, k < i := fun k hk => List.mem_range.1 (List.mem_filter.1 hk).1
def hostLt (x y : S41) : Bool := decide (x.f2.length < y.f2.length ∨ (x.f2.length = y.f2.length ∧ x.f0 < y.f0))
def ltK (l0 : List S41) (a b : Nat) : Bool := hostLt (l0.getD a z41) (l0.getD b z41)
structure IsRank (l0 : List S41) (us : List Nat) : Prop where
  perm : us.Perm (upsTo l0 l0.length)
  sorted : us.Pairwise fun a b => ltK l0 b a = false
def cfH (x y : S41) : Int := orI (cmpI (x.f2.length : Int) (y.f2.length : Int)) (cmpI x.f0 y.f0)
theorem cfH_lt (x y : S41) : decide (cfH x y < 0) = hostLt x y := by
  unfold cfH orI cmpI hostLt
  congr 1
  apply propext
  constructor
  · intro h
    repeat' split at h
    all_goals omega
  · intro h
    repeat' split
    all_goals omega
theorem hostLt_swo {α : Type} (f : α → S41) : SWO (ltOf fun x y : α => cfH (f x) (f y)) := by
  have e : ∀ x y : α, ltOf (fun x y : α => cfH (f x) (f y)) x y = hostLt (f x) (f y) := fun x y => cfH_lt _ _
  refine ⟨fun x => ?_, fun x y z h1 h2 => ?_, fun x y z h1 h2 => ?_⟩
  · rw [e]
    exact decide_eq_false (by omega)
  · rw [e] at h1 h2 ⊢
    have h1 := of_decide_eq_true h1
    have h2 := of_decide_eq_true h2
    exact decide_eq_true (by omega)
  · rw [e] at h1 h2 ⊢
    have h1 := of_decide_eq_false h1
    have h2 := of_decide_eq_false h2
    exact decide_eq_false (by omega)
theorem reps_ints {w : World} {base : Nat} {ok : Nat → Prop} : ∀ (xs : List Int) (cs : List Value), Reps ((Kd.int .i64).M w base ok) 1 xs cs → cs = xs.map (Value.int .i64)
  | [], cs, h => List.eq_nil_of_length_eq_zero (by rw [h.1]; rfl)
  | x :: s, cs, h => by
    have h0 : (cs.drop (0 * 1)).take 1 = [.int .i64 x] := h.2 0 x rfl
    rw [Nat.zero_mul, List.drop_zero] at h0
    have ht : Reps ((Kd.int .i64).M w base ok) 1 s (cs.drop 1) := ⟨by rw [List.length_drop, h.1, List.length_cons]; omega, fun j p hj => by
      have := h.2 (j + 1) p (by simpa using hj)
      rw [List.drop_drop, show 1 + j * 1 = (j + 1) * 1 by omega]
      exact this⟩
    have := reps_ints s _ ht
    rw [List.map_cons, ← this]
    have e : cs = cs.take 1 ++ cs.drop 1 := (List.take_append_drop 1 cs).symm
    rw [h0] at e
    exact e
theorem ints_reps {w : World} {base : Nat} {ok : Nat → Prop} : ∀ xs : List Int, Reps ((Kd.int .i64).M w base ok) 1 xs (xs.map (Value.int .i64))
  | [] => Reps.none _ _
  | x :: s => by
    have h : Reps ((Kd.int .i64).M w base ok) 1 ([] ++ [x]) ([] ++ [.int .i64 x]) := Reps.snoc (Reps.none _ _) rfl rfl
    exact Kd.reps_append h (ints_reps s)
theorem ints_open {W : World} {base : Nat} {ok : Nat → Prop} {v : Value} {xs : List Int} (h : Kd.R (Kd.int .i64) 3 W base ok v xs) : (v = .slice none 0 0 ∧ xs = []) ∨ ∃ g cap cur, v = .slice (some ⟨g, 0, none⟩) xs.length cap ∧ base ≤ g ∧ ok g ∧ W.heap[g]? = some (.cells cur 3 (0, 0)) ∧ xs.length ≤ cap ∧ cap ≤ maxLen ∧ cur.size = cap * 1 ∧ cur.toList.take xs.length = xs.map (Value.int .i64) := by
  obtain ⟨h0, inner, ho, hr⟩ := h
  rcases ho.2 with ⟨rfl, hn⟩ | ⟨g, cap, cur, rfl, hb, hg, hn, hm, hs, ht⟩
  · exact .inl ⟨rfl, List.eq_nil_of_length_eq_zero hn⟩
  · exact .inr ⟨g, cap, cur, rfl, hb, h0 g rfl, hg, hn, hm, hs, by rw [← reps_ints _ _ hr, ← ht, show xs.length * (Kd.int .i64).sz = xs.length from Nat.mul_one _]⟩
theorem ints_close {W : World} {base : Nat} {ok : Nat → Prop} {v : Value} {xs : List Int} (h0 : ∀ k, v.ownBlock = some k → ok k) (h : W.ownsRow base 3 1 v xs.length (xs.map (Value.int .i64))) : Kd.R (Kd.int .i64) 3 W base ok v xs := ⟨h0, _, h, ints_reps xs⟩
theorem putRow_map {α : Type} [Inhabited α] (f : α → Int) (w : World) (blk off : Nat) (d : Array α) : putRow (fun x => Value.int .i64 (f x)) w blk off d = putRow (Value.int .i64) w blk off (d.map f) := by
  have e : putCells (fun x => Value.int .i64 (f x)) off d = putCells (Value.int .i64) off (d.map f) := by
    funext c
    unfold putCells
    congr 1
    funext k x
    rw [Array.size_map]
    by_cases h : off ≤ k ∧ k < off + d.size
    · rw [if_pos h, if_pos h]
      have hk : k - off < d.size := by omega
      rw [getElem!_pos d _ hk, getElem!_pos (d.map f) _ (by rw [Array.size_map]; exact hk), Array.getElem_map]
    · rw [if_neg h, if_neg h]
  unfold putRow
  rw [e]
theorem holds_map {α : Type} [Inhabited α] (f : α → Int) {w : World} {blk off : Nat} {d : Array α} (h : Holds (Value.int .i64) w blk off (d.map f)) : Holds (fun x => Value.int .i64 (f x)) w blk off d := fun j hj => by
  have := h j (by rw [Array.size_map]; exact hj)
  rw [getElem!_pos (d.map f) _ (by rw [Array.size_map]; exact hj), Array.getElem_map] at this
  rw [getElem!_pos d _ hj]
  exact this
theorem sortWorld_below {α : Type} [Inhabited α] (enc : α → Value) (W : World) (g m B : Nat) (dk : Array α) (os : Array Obj) (hB : B ≤ g) (hBs : B ≤ W.heap.size) : Below B W (sortWorld enc W g 0 m dk os) := by
  unfold sortWorld
  refine ⟨rfl, rfl, rfl, by rw [size_grow, Sort.size_putRow]; show W.heap.size ≤ W.heap.size + _; omega, fun k hk => ?_⟩
  rw [heap_grow_old _ _ (by rw [Sort.size_putRow]; exact Nat.lt_of_lt_of_le hk hBs)]
  have : g ≠ k := by omega
  simp [putRow, mapBlock, Sort.ahead, Array.getElem?_modify, this]
set_option maxHeartbeats 4000000 in
theorem sort_own (cl : ∀ (bx n ch a b : Nat) (ad : Addr) (A1 A2 : Option Addr) (c1 c2 : Nat) (x y : S41) (W : World), a < n → b < n → W.cell? ⟨bx, 0, none⟩ = some (.slice (some ad) n ch) → W.cell? (ad.add (a * 3)) = some (.int .i64 x.f0) → W.cell? ⟨(ad.add (a * 3)).block, (ad.add (a * 3)).off + 1, none⟩ = some (.bool x.f1) → W.cell? ⟨(ad.add (a * 3)).block, (ad.add (a * 3)).off + 2, none⟩ = some (.slice A1 x.f2.length c1) → W.cell? (ad.add (b * 3)) = some (.int .i64 y.f0) → W.cell? ⟨(ad.add (b * 3)).block, (ad.add (b * 3)).off + 1, none⟩ = some (.bool y.f1) → W.cell? ⟨(ad.add (b * 3)).block, (ad.add (b * 3)).off + 2, none⟩ = some (.slice A2 y.f2.length c2) → Calls Try.prog 24 #[.int .i64 a, .int .i64 b, .pointer (some ⟨bx, 0, none⟩)] W fun e w' => e = .returned (.int .i64 (cfH x y)) ∧ Gr W w')
    (l0 : List S41) (us : List Nat) (v : Value) (A0 : Option Addr) (c0 bx : Nat) (w1 W : World) (HB : Below w1.heap.size w1 W) (hbox : w1.cell? ⟨bx, 0, none⟩ = some (.slice A0 l0.length c0)) (hh : Kd.C k41 w1 A0 l0.length l0) (HO : Kd.R (Kd.int .i64) 3 W w1.heap.size (fun _ => True) v (us.map Int.ofNat)) (hnil : us = [] → v = .slice none 0 0) (hus : ∀ k ∈ us, k < l0.length) (hl : us.length < 1152921504606846976) :
    Calls Try.prog 23 #[v, .func (.func 24) #[] #[.pointer (some ⟨bx, 0, none⟩)]] W fun e w' => e = .returned (.tuple #[]) ∧ ∃ ts : List Nat, ts.Perm us ∧ (ts.Pairwise fun a b => ltK l0 b a = false) ∧ Kd.R (Kd.int .i64) 3 w' w1.heap.size (fun _ => True) v (ts.map Int.ofNat) ∧ Below w1.heap.size w1 w' := by
  by_cases hu : us = []
  · rw [hnil hu]
    refine (sortStableNil _ _ W).mono ?_
    rintro e w' ⟨he, rfl⟩
    refine ⟨he, [], by rw [hu], .nil, Kd.R_nil _ _ _ _ _, HB⟩
  rcases ints_open HO with ⟨_, h2⟩ | ⟨g, cap, cur, rfl, hbg, _, hg, hn, hm, hs, ht⟩
  · exact absurd (List.map_eq_nil_iff.1 h2) hu
  obtain ⟨x0, hx0⟩ : ∃ x, x ∈ us := List.exists_mem_of_ne_nil us hu
  have hgl : g < W.heap.size := (Array.getElem?_eq_some_iff.1 hg).1
  let α := { k : Nat // k < l0.length }
  haveI : Inhabited α := ⟨⟨x0, hus x0 hx0⟩⟩
  let f : α → Int := fun x => (x.1 : Int)
  let us' : List α := us.attachWith (fun k => k < l0.length) hus
  have e1 : us'.map f = us.map Int.ofNat := by
    exact List.attachWith_map_val (f := Int.ofNat) hus
  have e1' : us'.length = us.length := by simpa using congrArg List.length e1
  have hH : Holds (fun x : α => Value.int .i64 (f x)) W g 0 us'.toArray := by
    refine holds_map f ?_
    rw [List.map_toArray, e1]
    exact holds_of_blockI hg ht
  have R : Row1 (fun x : α => Value.int .i64 (f x)) W g 0 us'.toArray := ⟨fun x => rfl, hH, hgl⟩
  let cf : α → α → Int := fun x y => cfH (l0.getD x.1 z41) (l0.getD y.1 z41)
  have hC : CmpLays1 Try.prog 24 #[.pointer (some ⟨bx, 0, none⟩)] (fun x : α => Value.int .i64 (f x)) cf g 0 us'.toArray.size W := by
    intro m os dk hds x y
    have hb2 := HB.trans (sortWorld_below (fun x : α => Value.int .i64 (f x)) W g m w1.heap.size dk os hbg HB.size)
    obtain ⟨ad, A1, c1, rfl, p0, p1, p2, _, _⟩ := at_T41 hh (x.1 : Int) (Int.natCast_nonneg _) (by have := x.2; omega)
    obtain ⟨ad', A2, c2, e2, q0, q1, q2, _, _⟩ := at_T41 hh (y.1 : Int) (Int.natCast_nonneg _) (by have := y.2; omega)
    obtain rfl : ad = ad' := by injection e2
    simp only [Int.toNat_natCast] at p0 p1 p2 q0 q1 q2
    have up := fun {a : Addr} {v : Value} (h : w1.cell? a = some v) => (hb2.cell (World.block_lt_of_cell? w1 _ h)).trans h
    have := cl bx l0.length c0 x.1 y.1 ad A1 A2 c1 c2 (l0.getD x.1 z41) (l0.getD y.1 z41) (sortWorld (fun x : α => Value.int .i64 (f x)) W g 0 m dk os) x.2 y.2 (up hbox) (up p0) (up p1) (up p2) (up q0) (up q1) (up q2)
    exact this.mono fun e w' ⟨h1, h2⟩ => ⟨h1, h2.out⟩
  have eg : ∀ args w, (callFunc 24 args).run Try.prog w = .ok (.enter 24 args) w := enters_of Try.func24 (by kernel_rfl) rfl
  have hz : us'.toArray.size = us.length := by rw [List.size_toArray, e1']
  have hc := sortStableW (fun x : α => Value.int .i64 (f x)) cf (hostLt_swo fun x : α => l0.getD x.1 z41) 24 #[.pointer (some ⟨bx, 0, none⟩)] g 0 cap us'.toArray W R eg hC (by rw [hz]; exact hl) us'.toArray W rfl (SW.start hH)
  rw [hz] at hc
  rw [List.length_map]
  refine hc.mono ?_
  rintro e w' ⟨he, d', ⟨m, os, rfl⟩, hp, hso⟩
  have hdz : d'.size = us.length := by rw [hp.1, hz]
  refine ⟨he, d'.toList.map (fun x => x.1), ?_, ?_, ?_, ?_⟩
  · have h3 := hp.2.2
    rw [show d'.extract 0 us.length = d' by rw [← hdz]; exact Array.extract_size .., show us'.toArray.extract 0 us.length = us'.toArray by rw [← hz]; exact Array.extract_size ..] at h3
    have h4 := h3.map (fun x => x.1)
    have h5 : us'.map (fun x => x.1) = us := (List.attachWith_map_val (f := id) hus).trans (List.map_id us)
    rwa [List.toList_toArray, h5] at h4
  · rw [List.pairwise_map]
    rw [List.pairwise_iff_getElem]
    intro i j hi hj hij
    have hi' : i < d'.size := by simpa using hi
    have hj' : j < d'.size := by simpa using hj
    have := hso i j (Nat.zero_le _) hij (by omega)
    rw [getElem!_pos d' i hi', getElem!_pos d' j hj'] at this
    have e : ltOf cf d'[j] d'[i] = hostLt (l0.getD (d'[j]).1 z41) (l0.getD (d'[i]).1 z41) := cfH_lt _ _
    rw [e] at this
    simpa [ltK] using this
  · refine ints_close (fun _ _ => trivial) ?_
    have e3 : (d'.toList.map fun x => x.1).map Int.ofNat = (d'.map f).toList := by simp [f]
    rw [e3]
    have e4 : (d'.map f).toList.length = (us.map Int.ofNat).length := by simp [hdz]
    have e5 : sortWorld (fun x : α => Value.int .i64 (f x)) W g 0 m d' os = grow (putRow (Value.int .i64) (Sort.ahead W m) g 0 (d'.map f).toList.toArray) os := by
      unfold sortWorld
      rw [putRow_map]
    rw [e5, e4, show us.length = (us.map Int.ofNat).length by simp]
    exact ownsRow_sortedI e4 hbg hg hn hm hs
  · exact HB.trans (sortWorld_below _ W g m _ d' os hbg HB.size)
end Go.Proofs.Ythgmmebkjhjgcaa.Pr

namespace Go.Proofs.Ythgmmebkjhjgcaa.Pr
open Go.RowKit Go.Proofs.YthgmmebkjhjgcaaW.PrintWords Go.Proofs.YthgmmebkjhjgcaaW.PrintLast Go.Proofs.YthgmmebkjhjgcaaW.PrintMore
set_option linter.unusedVariables false
set_option linter.unusedSimpArgs false
theorem sorted_unique {α : Type} (R : α → α → Prop) (anti : ∀ a b, R a b → R b a → a = b) : ∀ (us ts : List α), us.Perm ts → us.Pairwise R → ts.Pairwise R → us = ts
  | [], ts, h, _, _ => by rw [List.nil_perm.1 h]
  | a :: s, [], h, _, _ => absurd h.length_eq (by simp)
  | a :: s, b :: t, h, h1, h2 => by
    have ha : a ∈ b :: t := h.mem_iff.1 (List.mem_cons_self ..)
    have hb : b ∈ a :: s := h.mem_iff.2 (List.mem_cons_self ..)
    have e : a = b := by
      rcases List.mem_cons.1 ha with e | ha
      · exact e
      · rcases List.mem_cons.1 hb with e | hb
        · exact e.symm
        · exact anti a b ((List.pairwise_cons.1 h1).1 b hb) ((List.pairwise_cons.1 h2).1 a ha)
    subst e
    rw [sorted_unique R anti s t (List.perm_cons _ |>.1 h) (List.pairwise_cons.1 h1).2 (List.pairwise_cons.1 h2).2]
def keyOf (l0 : List S41) (k : Nat) : Nat × Int := ((l0.getD k z41).f2.length, (l0.getD k z41).f0)
def idOf (l0 : List S41) (k : Nat) : Int := (l0.getD k z41).f0
def keyLt (p q : Nat × Int) : Bool := decide (p.1 < q.1 ∨ (p.1 = q.1 ∧ p.2 < q.2))
theorem ltK_key (l0 : List S41) (a b : Nat) : ltK l0 a b = keyLt (keyOf l0 a) (keyOf l0 b) := rfl
theorem keyLt_false (p q : Nat × Int) : keyLt p q = false ↔ ¬ (p.1 < q.1 ∨ (p.1 = q.1 ∧ p.2 < q.2)) := by
  unfold keyLt
  exact decide_eq_false_iff_not
theorem rank_ids {l0 : List S41} {us ts : List Nat} (h1 : IsRank l0 us) (h2 : IsRank l0 ts) : us.map (idOf l0) = ts.map (idOf l0) := by
  have e : us.map (keyOf l0) = ts.map (keyOf l0) := by
    refine sorted_unique (fun p q => keyLt q p = false) (fun p q h k => ?_) _ _ ((h1.perm.trans h2.perm.symm).map _) ?_ ?_
    · rw [keyLt_false] at h k
      exact Prod.ext (by omega) (by omega)
    · rw [List.pairwise_map]
      exact h1.sorted
    · rw [List.pairwise_map]
      exact h2.sorted
  have e2 := congrArg (List.map Prod.snd) e
  rw [List.map_map, List.map_map] at e2
  exact e2
def sortK (l0 : List S41) : List Nat := (upsTo l0 l0.length).mergeSort (fun a b => !ltK l0 b a)
theorem sortK_rank (l0 : List S41) : IsRank l0 (sortK l0) := by
  refine ⟨List.mergeSort_perm _ _, ?_⟩
  refine (List.pairwise_mergeSort (le := fun a b => !ltK l0 b a) (fun a b c h k => ?_) (fun a b => ?_) (upsTo l0 l0.length)).imp (fun {a b} h => by simpa using h)
  · simp only [Bool.not_eq_true', ltK_key, keyLt_false] at h k ⊢
    omega
  · simp only [Bool.or_eq_true, Bool.not_eq_true', ltK_key, keyLt_false]
    omega
def idsR (l0 : List S41) : List Int := (sortK l0).map (idOf l0)
theorem rank_idsR {l0 : List S41} {us : List Nat} (h : IsRank l0 us) : us.map (idOf l0) = idsR l0 := rank_ids h (sortK_rank l0)
theorem idsR_len (l0 : List S41) : (idsR l0).length = (upsTo l0 l0.length).length := by
  unfold idsR
  rw [List.length_map, (sortK_rank l0).perm.length_eq]
theorem IsRank.len {l0 : List S41} {us : List Nat} (h : IsRank l0 us) : us.length = (idsR l0).length := by rw [idsR_len, h.perm.length_eq]
theorem IsRank.lt {l0 : List S41} {us : List Nat} (h : IsRank l0 us) : ∀ k ∈ us, k < l0.length := fun k hk => upsTo_lt l0 _ k (h.perm.mem_iff.1 hk)
def placeH (l0 : List S41) (n : Int) : List Int × Bool := if n < 0 ∨ n > ((idsR l0).length : Int) then ([], false) else ((idsR l0).take n.toNat, true)
end Go.Proofs.Ythgmmebkjhjgcaa.Pr
