/- A part of the proof of the law FnExactWorldNew: its texts, one behind the other. -/
import Derived.ArgAppend
import Derived.Below
import Derived.BigQuiet
import Derived.ChangeArms
import Derived.Deep.AppendLies
import Derived.Deep.CutBlock
import Derived.Deep.DeepCutAuto
import Derived.Deep.Draws
import Derived.Deep.LoopGhost
import Derived.Deep.OwnRows
import Derived.Deep.QuietTactic
import Derived.Deep.RegionHeld3
import Derived.Deep.Slices
import Derived.KernelRfl
import Derived.Laws.BitsLemmas
import Derived.Laws.BytesArg
import Derived.Laws.IdiomCopy
import Derived.Laws.MakeOwn
import Derived.Laws.OwnMore
import Derived.Laws.Rows
import Derived.Laws.Slices
import Derived.Laws.Strings
import Derived.Lib.AppendStr
import Derived.Lib.ConvBytes
import Derived.Maps.AppendAt
import Derived.OrdersHeld
import Derived.OwnWalk
import Derived.RowKit
import Derived.RowKit3
import Derived.Shelf.Abstract
import Derived.Tactics
import Derived.Test.YtfgnaneajonapaaProg
import Derived.WalkKit
import Derived.WideLaws
import Derived.WideShapes
import Derived.Test.YtfgnaneajonapaaBFnExactWorldNew1
namespace Go.Proofs.Ytfgnaneajonapaa.Pr
open Go.RowKit Go.Proofs.YtfgnaneajonapaaW.PrintWords Go.Proofs.YtfgnaneajonapaaW.PrintLast Go.Proofs.YtfgnaneajonapaaW.PrintMore
attribute [local go_sem] max2_int min2_int max_two min_two max_three min_three max_four min_four
set_option linter.unusedVariables false
set_option linter.unusedSimpArgs false
def errW : Option Int → Value
  | none => .nilIface
  | some c => .iface 0 (.int .i64 c)
theorem errW_none : errW none = .nilIface := rfl
theorem errW_some (c : Int) : errW (some c) = .iface 0 (.int .i64 c) := rfl

theorem CC {p q : Prop} (h : q) (f : q → p := by intro h_; repeat (first | exact h_ | (with_reducible refine Kd.C_alloc ?_ _) | (with_reducible refine Kd.C_drewN ?_ _) | (with_reducible refine Kd.C_drew ?_))) : p := f h
theorem BB {p q : Prop} (h : q) (f : q → p := by intro h_; repeat (first | (with_reducible first | exact h_ | apply below_alloc | apply pw_below_drewN | apply below_drew1) | exact h_)) : p := f h
theorem BB1 {p q q1 : Prop} (h : q) (h1 : q1) (f : q → q1 → p := by intro h_ g1_; repeat (first | (with_reducible first | exact h_ | apply below_alloc | apply pw_below_drewN | apply below_drew1 | refine below_set ?_ g1_) | exact h_)) : p := f h h1
theorem BB2 {p q q1 q2 : Prop} (h : q) (h1 : q1) (h2 : q2) (f : q → q1 → q2 → p := by intro h_ g1_ g2_; repeat (first | (with_reducible first | exact h_ | apply below_alloc | apply pw_below_drewN | apply below_drew1 | refine below_set ?_ g1_ | refine below_set ?_ g2_) | exact h_)) : p := f h h1 h2
theorem RR {p q : Prop} (h : q) (f : q → p := by intro h_; (with_reducible repeat (first | apply Kd.R_alloc | apply Kd.R_drewN | apply Kd.R_drew)); exact h_) : p := f h
theorem SS {p q : Prop} (h : q) (f : q → p := by intro h_; (with_reducible repeat (first | apply Kd.S_alloc | apply Kd.S_drewN | apply Kd.S_drew)); exact h_) : p := f h
theorem FR {p : Prop} (h : p := by first | rfl | (simp; done) | (simp [*]; done)) : p := h
theorem ER {p : Prop} (h : p := by first | rfl | (simp [errW_none, errW_some] <;> rfl) | (simp [*, errW_none, errW_some] <;> rfl)) : p := h
theorem DT {p : Prop} [Decidable p] (h : decide p = true := by first | (with_reducible assumption) | assumption) : p := of_decide_eq_true h
theorem KB {w W w1 : World} {g : Nat} {o : Obj} (h : w.heap[g]? = some o) (hb : Below W.heap.size W w1) (f : w.heap[g]? = some o → W.heap[g]? = some o := by intro h_; (with_reducible repeat (first | refine blk_drewN ?_ _ | refine blk_drew ?_ | refine blk_alloc ?_ _)); exact h_) : w1.heap[g]? = some o := blk_below (f h) hb
theorem NL {w W : World} {g g' : Nat} {o : Obj} (h : w.heap[g]? = some o) (hg : g' = W.heap.size) (f : w.heap[g]? = some o → W.heap[g]? = some o := by intro h_; (with_reducible repeat (first | refine blk_drewN ?_ _ | refine blk_drew ?_ | refine blk_alloc ?_ _)); exact h_) : Aside0 (g ≠ g') := ⟨by rw [hg]; exact Nat.ne_of_lt (blk_lt (f h))⟩
theorem NG {w W : World} {g g' : Nat} {o : Obj} (h : w.heap[g]? = some o) (hg : g' = W.heap.size) (f : w.heap[g]? = some o → W.heap[g]? = some o := by intro h_; (with_reducible repeat (first | refine blk_drewN ?_ _ | refine blk_drew ?_ | refine blk_alloc ?_ _)); exact h_) : Aside0 (g' ≠ g) := ⟨by rw [hg]; exact Nat.ne_of_gt (blk_lt (f h))⟩
theorem WG {w W : World} {g : Nat} (hg : g = W.heap.size) (h : Below w.heap.size w W) : Aside0 (w.heap.size ≤ g) := ⟨by rw [hg]; exact below_size h⟩
theorem BX {P : Program} {ops : Array Oper} {Q : Exit → Act → World → Prop} {rest : List Oper} {o : Oper} {a : Act} {W : World} (N : Tmp) (cs : Array Value) (t : TypeId)
    (h : ∀ g, g = W.heap.size → ∀ w1, w1.heap[g]? = some (.cells cs t (0, 0)) → Below W.heap.size W w1 → wpList P ops Q rest (a.put o.dst (.pointer (some ⟨g, 0, none⟩))) w1)
    (hd : o.dst = some N := by rfl) (hg : o.guard = none := by rfl) (hr : (execOp a.eval o).run P W = .ok (.value (.pointer (some ⟨W.heap.size, 0, none⟩))) (W.alloc (.cells cs t (0, 0))) := by first | (go_simp; done) | (go_simp; rfl)) : wpList P ops Q (o :: rest) a W := box_event hg hd hr h
theorem GL {P : Program} {ops : Array Oper} {Q : Exit → Act → World → Prop} {rest : List Oper} {oi : Oper} {a : Act} {w : World} (N : Option Tmp) (hd : oi.dst = N) (hg : oi.guard = none) {f : FuncId} {fn : Func} {os_ : Array Operand} {ts : Array TypeId} (hf : P.funcs[f]? = some fn) (args : Array Value)
    (hop : oi.op = .call { callee := .value (.func f), args := os_, argTypes := ts }) (h : Calls P f args w fun e w' => ∃ v, e = .returned v ∧ wpList P ops Q rest (a.put N v) w')
    (hname : (fn.name == "runtime.NumGoroutine") = false := by kernel_rfl) (hb : fn.body.isSome = true := by rfl) (hargs : os_.map a.eval = args := by (try simp only [List.map_toArray, List.map_cons, List.map_nil]); first | done | rfl | (simp only [List.length_drop, List.length_take]; rfl)) : wpList P ops Q (oi :: rest) a w :=
  goesL_ N hd hg hf hname hb args hop hargs h

theorem info97 : (Try.prog.info? 97).map (fun i => (i.zero, i.size, i.bytes)) = some (some (.agg #[(.int .i64 0), (.bool false), (.slice none 0 0)]), 3, 40) := by kernel_rfl
structure S146 where
  f0 : Int
  f1 : Int
  f2 : ByteArray
  f3 : Int
def z146 : S146 := ⟨(0 : Int), (0 : Int), (⟨#[]⟩ : ByteArray), (0 : Int)⟩
def k146 : Kd S146 := Kd.iso (Kd.pair (Kd.int .i64) (Kd.pair (Kd.int .i64) (Kd.pair Kd.string (Kd.int .i64)))) (fun x : S146 => (x.f0, x.f1, x.f2, x.f3))
theorem k146_open {w : World} {x : S146} {cs : List Value} (h : k146.K w x cs) : cs = [.int .i64 x.f0, .int .i64 x.f1, .string x.f2, .int .i64 x.f3] := by
  obtain ⟨_, _, rfl, rfl, ⟨_, _, rfl, rfl, ⟨_, _, rfl, rfl, rfl⟩⟩⟩ := h
  exact rfl
theorem k146_openM {w : World} {base : Nat} {ok : Nat → Prop} {x : S146} {cs : List Value} (h : k146.M w base ok x cs) : cs = [.int .i64 x.f0, .int .i64 x.f1, .string x.f2, .int .i64 x.f3] := by
  obtain ⟨_, _, rfl, rfl, ⟨_, _, rfl, rfl, ⟨_, _, rfl, rfl, rfl⟩⟩⟩ := h
  exact rfl
theorem k146_mkM (w : World) (base : Nat) (ok : Nat → Prop) (x : S146)  : k146.M w base ok x [.int .i64 x.f0, .int .i64 x.f1, .string x.f2, .int .i64 x.f3] := ⟨[.int .i64 x.f0], [.int .i64 x.f1, .string x.f2, .int .i64 x.f3], rfl, rfl, ⟨[.int .i64 x.f1], [.string x.f2, .int .i64 x.f3], rfl, rfl, ⟨[.string x.f2], [.int .i64 x.f3], rfl, rfl, rfl⟩⟩⟩
def rd_T146 (xs : List S146) (i : Int) : S146 := xs.getD i.toNat z146
theorem at_T146 {w : World} {A : Option Addr} {n : Nat} {xs : List S146} (h : Kd.C k146 w A n xs) (i : Int) (h0 : 0 ≤ i) (h1 : i < n) : ∃ ad , A = some ad ∧ w.cell? (ad.add (i.toNat * 4)) = some (.int .i64 (rd_T146 xs i).f0) ∧ w.cell? ⟨(ad.add (i.toNat * 4)).block, (ad.add (i.toNat * 4)).off + 1, none⟩ = some (.int .i64 (rd_T146 xs i).f1) ∧ w.cell? ⟨(ad.add (i.toNat * 4)).block, (ad.add (i.toNat * 4)).off + 2, none⟩ = some (.string (rd_T146 xs i).f2) ∧ w.cell? ⟨(ad.add (i.toNat * 4)).block, (ad.add (i.toNat * 4)).off + 3, none⟩ = some (.int .i64 (rd_T146 xs i).f3) := by
  obtain ⟨ad, c, e, _, hK, hc0⟩ := Kd.C_get h z146 i h0 h1
  have hc : ∀ j u, c[j]? = some u → w.cell? (ad.add (i.toNat * 4 + j)) = some u := hc0
  obtain rfl := k146_open hK
  exact ⟨ad, e, hc 0 _ rfl, by rw [← add_field _ _ 1 (by omega)]; exact hc 1 _ rfl, by rw [← add_field _ _ 2 (by omega)]; exact hc 2 _ rfl, by rw [← add_field _ _ 3 (by omega)]; exact hc 3 _ rfl⟩

structure S97 where
  f0 : Int
  f1 : Bool
  f2 : (List S146)
def z97 : S97 := ⟨(0 : Int), false, ([] : List S146)⟩
def k97 : Kd S97 := Kd.iso (Kd.pair (Kd.int .i64) (Kd.pair Kd.bool (Kd.slice 146 k146))) (fun x : S97 => (x.f0, x.f1, x.f2))
theorem k97_open {w : World} {x : S97} {cs : List Value} (h : k97.K w x cs) : ∃ A2 c2, cs = [.int .i64 x.f0, .bool x.f1, .slice A2 x.f2.length c2] ∧ x.f2.length ≤ c2 ∧ k146.C w A2 x.f2.length x.f2 := by
  obtain ⟨_, _, rfl, rfl, ⟨_, _, rfl, rfl, ⟨A2, c2, rfl, l2, g2⟩⟩⟩ := h
  exact ⟨A2, c2, rfl, l2, g2⟩
theorem k97_openM {w : World} {base : Nat} {ok : Nat → Prop} {x : S97} {cs : List Value} (h : k97.M w base ok x cs) : ∃ v2, cs = [.int .i64 x.f0, .bool x.f1, v2] ∧ k146.R 146 w base ok v2 x.f2 := by
  obtain ⟨_, _, rfl, rfl, ⟨_, _, rfl, rfl, ⟨v2, rfl, g2⟩⟩⟩ := h
  exact ⟨v2, rfl, g2⟩
theorem k97_mkM (w : World) (base : Nat) (ok : Nat → Prop) (x : S97) {v2 : Value} (g2 : k146.R 146 w base ok v2 x.f2) : k97.M w base ok x [.int .i64 x.f0, .bool x.f1, v2] := ⟨[.int .i64 x.f0], [.bool x.f1, v2], rfl, rfl, ⟨[.bool x.f1], [v2], rfl, rfl, ⟨v2, rfl, g2⟩⟩⟩
def rd_T97 (xs : List S97) (i : Int) : S97 := xs.getD i.toNat z97
theorem at_T97 {w : World} {A : Option Addr} {n : Nat} {xs : List S97} (h : Kd.C k97 w A n xs) (i : Int) (h0 : 0 ≤ i) (h1 : i < n) : ∃ ad A2 c2, A = some ad ∧ w.cell? (ad.add (i.toNat * 3)) = some (.int .i64 (rd_T97 xs i).f0) ∧ w.cell? ⟨(ad.add (i.toNat * 3)).block, (ad.add (i.toNat * 3)).off + 1, none⟩ = some (.bool (rd_T97 xs i).f1) ∧ w.cell? ⟨(ad.add (i.toNat * 3)).block, (ad.add (i.toNat * 3)).off + 2, none⟩ = some (.slice A2 (rd_T97 xs i).f2.length c2) ∧ (rd_T97 xs i).f2.length ≤ c2 ∧ k146.C w A2 (rd_T97 xs i).f2.length (rd_T97 xs i).f2 := by
  obtain ⟨ad, c, e, _, hK, hc0⟩ := Kd.C_get h z97 i h0 h1
  have hc : ∀ j u, c[j]? = some u → w.cell? (ad.add (i.toNat * 3 + j)) = some u := hc0
  obtain ⟨A2, c2, rfl, l2, g2⟩ := k97_open hK
  exact ⟨ad, A2, c2, e, hc 0 _ rfl, by rw [← add_field _ _ 1 (by omega)]; exact hc 1 _ rfl, by rw [← add_field _ _ 2 (by omega)]; exact hc 2 _ rfl, l2, g2⟩

structure S137 where
  f0 : Int
  f1 : Int
def z137 : S137 := ⟨(0 : Int), (0 : Int)⟩
def k137 : Kd S137 := Kd.iso (Kd.pair (Kd.int .i64) (Kd.int .i64)) (fun x : S137 => (x.f0, x.f1))
theorem k137_open {w : World} {x : S137} {cs : List Value} (h : k137.K w x cs) : cs = [.int .i64 x.f0, .int .i64 x.f1] := by
  obtain ⟨_, _, rfl, rfl, rfl⟩ := h
  exact rfl
theorem k137_openM {w : World} {base : Nat} {ok : Nat → Prop} {x : S137} {cs : List Value} (h : k137.M w base ok x cs) : cs = [.int .i64 x.f0, .int .i64 x.f1] := by
  obtain ⟨_, _, rfl, rfl, rfl⟩ := h
  exact rfl
theorem k137_mkM (w : World) (base : Nat) (ok : Nat → Prop) (x : S137)  : k137.M w base ok x [.int .i64 x.f0, .int .i64 x.f1] := ⟨[.int .i64 x.f0], [.int .i64 x.f1], rfl, rfl, rfl⟩
def rd_T137 (xs : List S137) (i : Int) : S137 := xs.getD i.toNat z137
theorem at_T137 {w : World} {A : Option Addr} {n : Nat} {xs : List S137} (h : Kd.C k137 w A n xs) (i : Int) (h0 : 0 ≤ i) (h1 : i < n) : ∃ ad , A = some ad ∧ w.cell? (ad.add (i.toNat * 2)) = some (.int .i64 (rd_T137 xs i).f0) ∧ w.cell? ⟨(ad.add (i.toNat * 2)).block, (ad.add (i.toNat * 2)).off + 1, none⟩ = some (.int .i64 (rd_T137 xs i).f1) := by
  obtain ⟨ad, c, e, _, hK, hc0⟩ := Kd.C_get h z137 i h0 h1
  have hc : ∀ j u, c[j]? = some u → w.cell? (ad.add (i.toNat * 2 + j)) = some u := hc0
  obtain rfl := k137_open hK
  exact ⟨ad, e, hc 0 _ rfl, by rw [← add_field _ _ 1 (by omega)]; exact hc 1 _ rfl⟩

structure S135 where
  f0 : Int
  f1 : Int
  f2 : ByteArray
  f3 : Bool
  f4 : Int
  f5 : Int
  f6 : Int
  f7 : (List S137)
  f8 : Int
def z135 : S135 := ⟨(0 : Int), (0 : Int), (⟨#[]⟩ : ByteArray), false, (0 : Int), (0 : Int), (0 : Int), ([] : List S137), (0 : Int)⟩
def k135 : Kd S135 := Kd.iso (Kd.pair (Kd.int .i64) (Kd.pair (Kd.int .i64) (Kd.pair Kd.string (Kd.pair Kd.bool (Kd.pair (Kd.int .i64) (Kd.pair (Kd.int .i64) (Kd.pair (Kd.int .i64) (Kd.pair (Kd.slice 137 k137) (Kd.int .i64))))))))) (fun x : S135 => (x.f0, x.f1, x.f2, x.f3, x.f4, x.f5, x.f6, x.f7, x.f8))
theorem k135_open {w : World} {x : S135} {cs : List Value} (h : k135.K w x cs) : ∃ A7 c7, cs = [.int .i64 x.f0, .int .i64 x.f1, .string x.f2, .bool x.f3, .int .i64 x.f4, .int .i64 x.f5, .int .i64 x.f6, .slice A7 x.f7.length c7, .int .i64 x.f8] ∧ x.f7.length ≤ c7 ∧ k137.C w A7 x.f7.length x.f7 := by
  obtain ⟨_, _, rfl, rfl, ⟨_, _, rfl, rfl, ⟨_, _, rfl, rfl, ⟨_, _, rfl, rfl, ⟨_, _, rfl, rfl, ⟨_, _, rfl, rfl, ⟨_, _, rfl, rfl, ⟨_, _, rfl, ⟨A7, c7, rfl, l7, g7⟩, rfl⟩⟩⟩⟩⟩⟩⟩⟩ := h
  exact ⟨A7, c7, rfl, l7, g7⟩
theorem k135_openM {w : World} {base : Nat} {ok : Nat → Prop} {x : S135} {cs : List Value} (h : k135.M w base ok x cs) : ∃ v7, cs = [.int .i64 x.f0, .int .i64 x.f1, .string x.f2, .bool x.f3, .int .i64 x.f4, .int .i64 x.f5, .int .i64 x.f6, v7, .int .i64 x.f8] ∧ k137.R 137 w base ok v7 x.f7 := by
  obtain ⟨_, _, rfl, rfl, ⟨_, _, rfl, rfl, ⟨_, _, rfl, rfl, ⟨_, _, rfl, rfl, ⟨_, _, rfl, rfl, ⟨_, _, rfl, rfl, ⟨_, _, rfl, rfl, ⟨_, _, rfl, ⟨v7, rfl, g7⟩, rfl⟩⟩⟩⟩⟩⟩⟩⟩ := h
  exact ⟨v7, rfl, g7⟩
theorem k135_mkM (w : World) (base : Nat) (ok : Nat → Prop) (x : S135) {v7 : Value} (g7 : k137.R 137 w base ok v7 x.f7) : k135.M w base ok x [.int .i64 x.f0, .int .i64 x.f1, .string x.f2, .bool x.f3, .int .i64 x.f4, .int .i64 x.f5, .int .i64 x.f6, v7, .int .i64 x.f8] := ⟨[.int .i64 x.f0], [.int .i64 x.f1, .string x.f2, .bool x.f3, .int .i64 x.f4, .int .i64 x.f5, .int .i64 x.f6, v7, .int .i64 x.f8], rfl, rfl, ⟨[.int .i64 x.f1], [.string x.f2, .bool x.f3, .int .i64 x.f4, .int .i64 x.f5, .int .i64 x.f6, v7, .int .i64 x.f8], rfl, rfl, ⟨[.string x.f2], [.bool x.f3, .int .i64 x.f4, .int .i64 x.f5, .int .i64 x.f6, v7, .int .i64 x.f8], rfl, rfl, ⟨[.bool x.f3], [.int .i64 x.f4, .int .i64 x.f5, .int .i64 x.f6, v7, .int .i64 x.f8], rfl, rfl, ⟨[.int .i64 x.f4], [.int .i64 x.f5, .int .i64 x.f6, v7, .int .i64 x.f8], rfl, rfl, ⟨[.int .i64 x.f5], [.int .i64 x.f6, v7, .int .i64 x.f8], rfl, rfl, ⟨[.int .i64 x.f6], [v7, .int .i64 x.f8], rfl, rfl, ⟨[v7], [.int .i64 x.f8], rfl, ⟨v7, rfl, g7⟩, rfl⟩⟩⟩⟩⟩⟩⟩⟩
def rd_T135 (xs : List S135) (i : Int) : S135 := xs.getD i.toNat z135
theorem at_T135 {w : World} {A : Option Addr} {n : Nat} {xs : List S135} (h : Kd.C k135 w A n xs) (i : Int) (h0 : 0 ≤ i) (h1 : i < n) : ∃ ad A7 c7, A = some ad ∧ w.cell? (ad.add (i.toNat * 9)) = some (.int .i64 (rd_T135 xs i).f0) ∧ w.cell? ⟨(ad.add (i.toNat * 9)).block, (ad.add (i.toNat * 9)).off + 1, none⟩ = some (.int .i64 (rd_T135 xs i).f1) ∧ w.cell? ⟨(ad.add (i.toNat * 9)).block, (ad.add (i.toNat * 9)).off + 2, none⟩ = some (.string (rd_T135 xs i).f2) ∧ w.cell? ⟨(ad.add (i.toNat * 9)).block, (ad.add (i.toNat * 9)).off + 3, none⟩ = some (.bool (rd_T135 xs i).f3) ∧ w.cell? ⟨(ad.add (i.toNat * 9)).block, (ad.add (i.toNat * 9)).off + 4, none⟩ = some (.int .i64 (rd_T135 xs i).f4) ∧ w.cell? ⟨(ad.add (i.toNat * 9)).block, (ad.add (i.toNat * 9)).off + 5, none⟩ = some (.int .i64 (rd_T135 xs i).f5) ∧ w.cell? ⟨(ad.add (i.toNat * 9)).block, (ad.add (i.toNat * 9)).off + 6, none⟩ = some (.int .i64 (rd_T135 xs i).f6) ∧ w.cell? ⟨(ad.add (i.toNat * 9)).block, (ad.add (i.toNat * 9)).off + 7, none⟩ = some (.slice A7 (rd_T135 xs i).f7.length c7) ∧ w.cell? ⟨(ad.add (i.toNat * 9)).block, (ad.add (i.toNat * 9)).off + 8, none⟩ = some (.int .i64 (rd_T135 xs i).f8) ∧ (rd_T135 xs i).f7.length ≤ c7 ∧ k137.C w A7 (rd_T135 xs i).f7.length (rd_T135 xs i).f7 := by
  obtain ⟨ad, c, e, _, hK, hc0⟩ := Kd.C_get h z135 i h0 h1
  have hc : ∀ j u, c[j]? = some u → w.cell? (ad.add (i.toNat * 9 + j)) = some u := hc0
  obtain ⟨A7, c7, rfl, l7, g7⟩ := k135_open hK
  exact ⟨ad, A7, c7, e, hc 0 _ rfl, by rw [← add_field _ _ 1 (by omega)]; exact hc 1 _ rfl, by rw [← add_field _ _ 2 (by omega)]; exact hc 2 _ rfl, by rw [← add_field _ _ 3 (by omega)]; exact hc 3 _ rfl, by rw [← add_field _ _ 4 (by omega)]; exact hc 4 _ rfl, by rw [← add_field _ _ 5 (by omega)]; exact hc 5 _ rfl, by rw [← add_field _ _ 6 (by omega)]; exact hc 6 _ rfl, by rw [← add_field _ _ 7 (by omega)]; exact hc 7 _ rfl, by rw [← add_field _ _ 8 (by omega)]; exact hc 8 _ rfl, l7, g7⟩

structure S192 where
  f0 : ByteArray
  f1 : ByteArray
  f2 : Int
def z192 : S192 := ⟨(⟨#[]⟩ : ByteArray), (⟨#[]⟩ : ByteArray), (0 : Int)⟩
def k192 : Kd S192 := Kd.iso (Kd.pair Kd.string (Kd.pair Kd.string (Kd.int .i64))) (fun x : S192 => (x.f0, x.f1, x.f2))
theorem k192_open {w : World} {x : S192} {cs : List Value} (h : k192.K w x cs) : cs = [.string x.f0, .string x.f1, .int .i64 x.f2] := by
  obtain ⟨_, _, rfl, rfl, ⟨_, _, rfl, rfl, rfl⟩⟩ := h
  exact rfl
theorem k192_openM {w : World} {base : Nat} {ok : Nat → Prop} {x : S192} {cs : List Value} (h : k192.M w base ok x cs) : cs = [.string x.f0, .string x.f1, .int .i64 x.f2] := by
  obtain ⟨_, _, rfl, rfl, ⟨_, _, rfl, rfl, rfl⟩⟩ := h
  exact rfl
theorem k192_mkM (w : World) (base : Nat) (ok : Nat → Prop) (x : S192)  : k192.M w base ok x [.string x.f0, .string x.f1, .int .i64 x.f2] := ⟨[.string x.f0], [.string x.f1, .int .i64 x.f2], rfl, rfl, ⟨[.string x.f1], [.int .i64 x.f2], rfl, rfl, rfl⟩⟩
def rd_T192 (xs : List S192) (i : Int) : S192 := xs.getD i.toNat z192
theorem at_T192 {w : World} {A : Option Addr} {n : Nat} {xs : List S192} (h : Kd.C k192 w A n xs) (i : Int) (h0 : 0 ≤ i) (h1 : i < n) : ∃ ad , A = some ad ∧ w.cell? (ad.add (i.toNat * 3)) = some (.string (rd_T192 xs i).f0) ∧ w.cell? ⟨(ad.add (i.toNat * 3)).block, (ad.add (i.toNat * 3)).off + 1, none⟩ = some (.string (rd_T192 xs i).f1) ∧ w.cell? ⟨(ad.add (i.toNat * 3)).block, (ad.add (i.toNat * 3)).off + 2, none⟩ = some (.int .i64 (rd_T192 xs i).f2) := by
  obtain ⟨ad, c, e, _, hK, hc0⟩ := Kd.C_get h z192 i h0 h1
  have hc : ∀ j u, c[j]? = some u → w.cell? (ad.add (i.toNat * 3 + j)) = some u := hc0
  obtain rfl := k192_open hK
  exact ⟨ad, e, hc 0 _ rfl, by rw [← add_field _ _ 1 (by omega)]; exact hc 1 _ rfl, by rw [← add_field _ _ 2 (by omega)]; exact hc 2 _ rfl⟩

structure S120 where
  f0 : ByteArray
  f1 : Int
  f2 : Int
def z120 : S120 := ⟨(⟨#[]⟩ : ByteArray), (0 : Int), (0 : Int)⟩
def k120 : Kd S120 := Kd.iso (Kd.pair Kd.string (Kd.pair (Kd.int .i64) (Kd.int .i64))) (fun x : S120 => (x.f0, x.f1, x.f2))
theorem k120_open {w : World} {x : S120} {cs : List Value} (h : k120.K w x cs) : cs = [.string x.f0, .int .i64 x.f1, .int .i64 x.f2] := by
  obtain ⟨_, _, rfl, rfl, ⟨_, _, rfl, rfl, rfl⟩⟩ := h
  exact rfl
theorem k120_openM {w : World} {base : Nat} {ok : Nat → Prop} {x : S120} {cs : List Value} (h : k120.M w base ok x cs) : cs = [.string x.f0, .int .i64 x.f1, .int .i64 x.f2] := by
  obtain ⟨_, _, rfl, rfl, ⟨_, _, rfl, rfl, rfl⟩⟩ := h
  exact rfl
theorem k120_mkM (w : World) (base : Nat) (ok : Nat → Prop) (x : S120)  : k120.M w base ok x [.string x.f0, .int .i64 x.f1, .int .i64 x.f2] := ⟨[.string x.f0], [.int .i64 x.f1, .int .i64 x.f2], rfl, rfl, ⟨[.int .i64 x.f1], [.int .i64 x.f2], rfl, rfl, rfl⟩⟩
def rd_T120 (xs : List S120) (i : Int) : S120 := xs.getD i.toNat z120
theorem at_T120 {w : World} {A : Option Addr} {n : Nat} {xs : List S120} (h : Kd.C k120 w A n xs) (i : Int) (h0 : 0 ≤ i) (h1 : i < n) : ∃ ad , A = some ad ∧ w.cell? (ad.add (i.toNat * 3)) = some (.string (rd_T120 xs i).f0) ∧ w.cell? ⟨(ad.add (i.toNat * 3)).block, (ad.add (i.toNat * 3)).off + 1, none⟩ = some (.int .i64 (rd_T120 xs i).f1) ∧ w.cell? ⟨(ad.add (i.toNat * 3)).block, (ad.add (i.toNat * 3)).off + 2, none⟩ = some (.int .i64 (rd_T120 xs i).f2) := by
  obtain ⟨ad, c, e, _, hK, hc0⟩ := Kd.C_get h z120 i h0 h1
  have hc : ∀ j u, c[j]? = some u → w.cell? (ad.add (i.toNat * 3 + j)) = some u := hc0
  obtain rfl := k120_open hK
  exact ⟨ad, e, hc 0 _ rfl, by rw [← add_field _ _ 1 (by omega)]; exact hc 1 _ rfl, by rw [← add_field _ _ 2 (by omega)]; exact hc 2 _ rfl⟩

structure S40 where
  f0 : (List S135)
  f1 : Int
structure S43 where
  f0 : (List S192)
structure S46 where
  f0 : Bool
  f1 : S40
  f2 : Int
  f3 : S43
  f4 : (List S120)
  f5 : Int
structure S168 where
  f0 : Int
  f1 : ByteArray
def z168 : S168 := ⟨(0 : Int), (⟨#[]⟩ : ByteArray)⟩
def k168 : Kd S168 := Kd.iso (Kd.pair (Kd.int .i64) Kd.string) (fun x : S168 => (x.f0, x.f1))
theorem k168_open {w : World} {x : S168} {cs : List Value} (h : k168.K w x cs) : cs = [.int .i64 x.f0, .string x.f1] := by
  obtain ⟨_, _, rfl, rfl, rfl⟩ := h
  exact rfl
theorem k168_openM {w : World} {base : Nat} {ok : Nat → Prop} {x : S168} {cs : List Value} (h : k168.M w base ok x cs) : cs = [.int .i64 x.f0, .string x.f1] := by
  obtain ⟨_, _, rfl, rfl, rfl⟩ := h
  exact rfl
theorem k168_mkM (w : World) (base : Nat) (ok : Nat → Prop) (x : S168)  : k168.M w base ok x [.int .i64 x.f0, .string x.f1] := ⟨[.int .i64 x.f0], [.string x.f1], rfl, rfl, rfl⟩
def rd_T168 (xs : List S168) (i : Int) : S168 := xs.getD i.toNat z168
theorem at_T168 {w : World} {A : Option Addr} {n : Nat} {xs : List S168} (h : Kd.C k168 w A n xs) (i : Int) (h0 : 0 ≤ i) (h1 : i < n) : ∃ ad , A = some ad ∧ w.cell? (ad.add (i.toNat * 2)) = some (.int .i64 (rd_T168 xs i).f0) ∧ w.cell? ⟨(ad.add (i.toNat * 2)).block, (ad.add (i.toNat * 2)).off + 1, none⟩ = some (.string (rd_T168 xs i).f1) := by
  obtain ⟨ad, c, e, _, hK, hc0⟩ := Kd.C_get h z168 i h0 h1
  have hc : ∀ j u, c[j]? = some u → w.cell? (ad.add (i.toNat * 2 + j)) = some u := hc0
  obtain rfl := k168_open hK
  exact ⟨ad, e, hc 0 _ rfl, by rw [← add_field _ _ 1 (by omega)]; exact hc 1 _ rfl⟩

structure S77 where
  f0 : S46
  f1 : (List S97)
  f2 : (List Int)
  f3 : (List ByteArray)
  f4 : (List S168)
end Go.Proofs.Ytfgnaneajonapaa.Pr

namespace Go.Proofs.Ytfgnaneajonapaa.Opn
open Go.RowKit Go.ChangeShapes Go.WideShapes Go.Deep Go.Proofs.YtfgnaneajonapaaW.PrintWords
end Go.Proofs.Ytfgnaneajonapaa.Opn

namespace Go.Proofs.Ytfgnaneajonapaa.SFnExactWorldNew
open Go.RowKit Go.Proofs.YtfgnaneajonapaaW.PrintWords Go.Proofs.YtfgnaneajonapaaW.PrintLast Go.Proofs.YtfgnaneajonapaaW.PrintMore Go.Proofs.Ytfgnaneajonapaa.Pr Go.Proofs.Ytfgnaneajonapaa.Opn
set_option linter.unusedVariables false
def Direct : Prop := ∀  (w : World), Calls Try.prog 8 #[] w fun e w' => e = .returned (.bool true) ∧ Below w.heap.size w w'
end Go.Proofs.Ytfgnaneajonapaa.SFnExactWorldNew

namespace Go.Proofs.Ytfgnaneajonapaa.Pr
open Go.RowKit Go.Proofs.YtfgnaneajonapaaW.PrintWords Go.Proofs.YtfgnaneajonapaaW.PrintLast Go.Proofs.YtfgnaneajonapaaW.PrintMore
set_option linter.unusedVariables false
set_option linter.unusedSimpArgs false
theorem below_cells {B g : Nat} (hg : B ≤ g) : ∀ (vs : List Value) (o : Nat) (a w : World), Below B a w → Below B a (w.setCells g o vs)
  | [], _, _, _, h => h
  | v :: r, o, a, w, h => below_cells hg r (o + 1) a _ (h.setCell hg v)
end Go.Proofs.Ytfgnaneajonapaa.Pr

namespace Go.Proofs.Ytfgnaneajonapaa.Pr
open Go.RowKit Go.Proofs.YtfgnaneajonapaaW.PrintWords Go.Proofs.YtfgnaneajonapaaW.PrintLast Go.Proofs.YtfgnaneajonapaaW.PrintMore
set_option linter.unusedVariables false
set_option linter.unusedSimpArgs false
theorem H_open {α : Type} {d : Kd α} {e g cap n : Nat} {W : World} {base : Nat} {ok oki : Nat → Prop} {xs : List α} {i : Int} {c : List Value} (h : Kd.H d e W base ok (.slice (some ⟨g, 0, none⟩) n cap) xs i oki c) (h0 : 0 ≤ i) (h1 : i < n) :
    c.length = d.sz ∧ (∀ j u, c[j]? = some u → W.cell? ⟨g, i.toNat * d.sz + j, none⟩ = some u) ∧ ∀ j, W.frozen? ⟨g, i.toNat * d.sz + j, none⟩ = false := by
  obtain ⟨rows, hl, hraw, hcl, _, hcc, _⟩ := Kd.H_raw h h0 h1
  obtain ⟨_, _, _, _, hfr⟩ := Kd.R_elem hraw [] i h0 h1
  exact ⟨hcl, hcc, hfr⟩
theorem R_reok {α : Type} {d : Kd α} {e : Nat} {W : World} {base : Nat} {ok ok' : Nat → Prop} {v : Value} {xs : List α} (h : d.R e W base ok v xs) (hv : ∀ k, v.ownBlock = some k → ok' k) (hM : ∀ okA okB x cs, d.M W base okA x cs → d.M W base okB x cs) : d.R e W base ok' v xs :=
  ⟨hv, h.2.imp_ (fun _ _ hp => hM _ _ _ _ hp)⟩
end Go.Proofs.Ytfgnaneajonapaa.Pr

namespace Go.Proofs.Ytfgnaneajonapaa.Evs
open Go.RowKit Go.Proofs.YtfgnaneajonapaaW.PrintWords
theorem ev_some {α : Type} (r : α) : Ev (fun _ => some r) r := Ev.now r
theorem ev_pos {α : Type} {c : Prop} [Decidable c] {f g : Nat → Option α} {r : α} (h : c) (k : Ev f r) : Ev (fun n => if c then f n else g n) r := by
  simpa [h] using k
theorem ev_neg {α : Type} {c : Prop} [Decidable c] {f g : Nat → Option α} {r : α} (h : ¬ c) (k : Ev g r) : Ev (fun n => if c then f n else g n) r := by
  simpa [h] using k
theorem ev_bind {α β : Type} {g : Nat → Option α} {f : Nat → α → Option β} {a : α} {r : β} (h : Ev g a) (k : Ev (fun n => f n a) r) : Ev (fun n => (g n).bind (f n)) r := Ev.bind h k
theorem ev_call {α β : Type} {g : Option α} {f : Nat → α → Option β} {a : α} {r : β} (h : g = some a) (k : Ev (fun n => f n a) r) : Ev (fun n => g.bind (f n)) r := by
  subst h
  exact k
theorem ev_eq {α : Type} {g : Nat → Option α} {r s : α} (h : Ev g r) (e : r = s) : Ev g s := e ▸ h
theorem ev_step {α : Type} {g f : Nat → Option α} {r : α} (h : ∀ k, g (k + 1) = f k) (k : Ev f r) : Ev g r := Ev.step h k
theorem ev_rounds {α : Type} {g : Nat → Option α} {r : α} (h : Ev g r) : ∃ k, g k = some r := h.rounds
theorem wrap_succ {i : Int} (h0 : 0 ≤ i) (h1 : i < 9223372036854775807) : wrap64 (i + 1) = i + 1 := by unfold wrap64; omega
theorem wrap_in {i : Int} (h0 : -9223372036854775808 ≤ i) (h1 : i ≤ 9223372036854775807) : wrap64 i = i := by unfold wrap64; omega
theorem getD_mid' {α : Type} (p s : List α) (x d : α) (i : Int) (hi : i = (p.length : Int)) : (p ++ x :: s).getD i.toNat d = x := by
  subst hi
  simp [List.getD]
theorem set_mid {α : Type} (p s : List α) (x y : α) (i : Int) (hi : i = (p.length : Int)) : (p ++ x :: s).set i.toNat y = p ++ y :: s := by
  subst hi
  simp
end Go.Proofs.Ytfgnaneajonapaa.Evs

namespace Go.Proofs.Ytfgnaneajonapaa.Pr
open Go.RowKit Go.Proofs.YtfgnaneajonapaaW.PrintWords Go.Proofs.YtfgnaneajonapaaW.PrintLast Go.Proofs.YtfgnaneajonapaaW.PrintMore
attribute [local go_sem] max2_int min2_int max_two min_two max_three min_three max_four min_four
set_option linter.unusedVariables false
set_option linter.unusedSimpArgs false
def laws_eqPiece.f (a0_0 : Int) (a0_1 : Int) (a1_0 : Int) (a1_1 : Int) : Option (Bool) := if a0_0 = a1_0 then (if a0_1 = a1_1 then (some true) else (some false)) else (some false)
set_option maxHeartbeats 8000000 in
set_option maxRecDepth 100000 in
theorem laws_eqPiece.calls (a0_0 : Int) (a0_1 : Int) (a1_0 : Int) (a1_1 : Int) (r : Bool) (w : World) (h : laws_eqPiece.f a0_0 a0_1 a1_0 a1_1 = some r) (hr_ : Aside0 (r = true) := by exact ⟨rfl⟩) :
    Calls Try.prog 191 #[.agg #[.int .i64 a0_0, .int .i64 a0_1], .agg #[.int .i64 a1_0, .int .i64 a1_1]] w fun e w' => e = .returned (.bool r) ∧ Below w.heap.size w w' := by
  have hu137 := Try.underlying137
  have HB := Aside0.mk (Below.refl w.heap.size w)
  have H : (if a0_0 = a1_0 then (if a0_1 = a1_1 then (some true) else (some false)) else (some false)) = some r := h
  clear h
  by_cases c3 : a0_0 = a1_0
  · rw [if_pos c3] at H
    have c3b0 : (a0_0 == a1_0) = true := beq_iff_eq.mpr c3
    have c3b1 : (a0_0 != a1_0) = false := bne_eq_false_iff_eq.mpr c3
    clear c3
    by_cases c4 : a0_1 = a1_1
    · rw [if_pos c4] at H
      have c4b0 : (a0_1 == a1_1) = true := beq_iff_eq.mpr c4
      have c4b1 : (a0_1 != a1_1) = false := bne_eq_false_iff_eq.mpr c4
      clear c4
      obtain rfl := Option.some.inj H
      go_enter Try.func191, Try.ntmps191
      go_wp2_with (first | ((with_reducible refine gate_dst (N := 2) rfl ?_); refine BX 2 #[.int .i64 a0_0, .int .i64 a0_1] 137 ?_; intro gb288 hg w5 hbox hb; have BK288 := Aside0.mk (hbox); have GW288 : Aside0 (w.heap.size ≤ gb288) := WG hg (BB HB.out); have GE288 := GW288; replace HB := Aside0.mk (below_step (BB HB.out) hb); clear hb hbox hg) | ((with_reducible refine gate_dst (N := 3) rfl ?_); refine BX 3 #[.int .i64 a1_0, .int .i64 a1_1] 137 ?_; intro gb289 hg w6 hbox hb; have BK289 := Aside0.mk (hbox); have GW289 : Aside0 (w.heap.size ≤ gb289) := WG hg (BB1 HB.out GE288.out); have GE289 := GW289; have NB288_289 := NL BK288.out hg; have NB289_288 := NG BK288.out hg; replace BK288 := Aside0.mk (KB BK288.out hb); replace HB := Aside0.mk (below_step (BB1 HB.out GE288.out) hb); clear hb hbox hg; have hnb7 := NB288_289.out; have hnc7 := NB289_288.out; have hcz8 := blk_cell BK288.out; have hfz8 := blk_frozen BK288.out; have hcz9 := blk_cell BK289.out; have hfz9 := blk_frozen BK289.out))
      go_ret
      exact ⟨ER, (BB2 HB.out GE288.out GE289.out)⟩
    · rw [if_neg c4] at H
      have c4b0 : (a0_1 == a1_1) = false := beq_eq_false_iff_ne.mpr c4
      have c4b1 : (a0_1 != a1_1) = true := bne_iff_ne.mpr c4
      exact absurd ((Option.some.inj H).trans hr_.out) (by decide)
  · rw [if_neg c3] at H
    have c3b0 : (a0_0 == a1_0) = false := beq_eq_false_iff_ne.mpr c3
    have c3b1 : (a0_0 != a1_0) = true := bne_iff_ne.mpr c3
    exact absurd ((Option.some.inj H).trans hr_.out) (by decide)

end Go.Proofs.Ytfgnaneajonapaa.Pr

namespace Go.Proofs.Ytfgnaneajonapaa.Pr
open Go.RowKit Go.Proofs.YtfgnaneajonapaaW.PrintWords Go.Proofs.YtfgnaneajonapaaW.PrintLast Go.Proofs.YtfgnaneajonapaaW.PrintMore
attribute [local go_sem] max2_int min2_int max_two min_two max_three min_three max_four min_four
set_option linter.unusedVariables false
set_option linter.unusedSimpArgs false
def laws_eqPieceS.l0 : Nat → List (S137) → List (S137) → Int → Option (Bool)
  | 0, _, _, _ => none
  | k + 1, x0, x1, x5 => if x5 < (x0.length : Int) then (if 0 ≤ x5 then (if x5 < (x1.length : Int) then ((laws_eqPiece.f ((rd_T137 x0 x5).f0) ((rd_T137 x0 x5).f1) ((rd_T137 x1 x5).f0) ((rd_T137 x1 x5).f1)).bind fun t292 => (if t292 = true then (laws_eqPieceS.l0 k x0 x1 (wrap64 (x5 + 1))) else (some false))) else (none)) else (none)) else (some true)
def laws_eqPieceS.f (k : Nat) (l0 : List (S137)) (l1 : List (S137)) : Option (Bool) := if (l0.length : Int) = (l1.length : Int) then (laws_eqPieceS.l0 k l0 l1 0) else (some false)
def laws_eqPieceS.T6 : Bool × List (List Nat × List Nat) := (true, [([], []), ([], []), ([0, 1], [0, 1]), ([2], [2]), ([], []), ([], []), ([4, 5], [4, 5]), ([6], [6]), ([3, 7], [3, 7]), ([8], [8])])
def laws_eqPieceS.B6 : List Nat := [0, 0, 3, 7, 0, 0, 48, 112, 255, 511]
theorem laws_eqPieceS.tab6 : rtab .any (opsOf Try.f180 6) = laws_eqPieceS.T6 := by kernel_rfl
theorem laws_eqPieceS.bits6 : waitsOk laws_eqPieceS.T6.2 laws_eqPieceS.B6 = true := by kernel_rfl
set_option maxHeartbeats 8000000 in
set_option maxRecDepth 100000 in
theorem laws_eqPieceS.calls (k : Nat) (A0 : Option Addr) (c0 : Nat) (l0 : List (S137)) (A1 : Option Addr) (c1 : Nat) (l1 : List (S137)) (r : Bool) (w : World) (hr0 : Kd.C k137 w A0 l0.length l0) (hc0 : l0.length ≤ c0) (hr1 : Kd.C k137 w A1 l1.length l1) (hc1 : l1.length ≤ c1) (h : laws_eqPieceS.f k l0 l1 = some r) (hr_ : Aside0 (r = true) := by exact ⟨rfl⟩) :
    Calls Try.prog 180 #[.slice A0 l0.length c0, .slice A1 l1.length c1] w fun e w' => e = .returned (.bool r) ∧ Below w.heap.size w w' := by
  have hu137 := Try.underlying137
  have HR0 := Aside0.mk hr0
  have HC0 := Aside0.mk hc0
  clear hr0 hc0
  have HR1 := Aside0.mk hr1
  have HC1 := Aside0.mk hc1
  clear hr1 hc1
  have HB := Aside0.mk (Below.refl w.heap.size w)
  have H : (if (l0.length : Int) = (l1.length : Int) then (laws_eqPieceS.l0 k l0 l1 0) else (some false)) = some r := h
  clear h
  by_cases c3 : (l0.length : Int) = (l1.length : Int)
  · rw [if_pos c3] at H
    have c3b0 : ((l0.length : Int) == (l1.length : Int)) = true := beq_iff_eq.mpr c3
    have c3b1 : ((l0.length : Int) != (l1.length : Int)) = false := bne_eq_false_iff_eq.mpr c3
    have c3b2 : (l0.length == l1.length) = true := by first | simpa using c3 | (simp at c3 ⊢; omega)
    clear c3
    have H' := Aside0.mk H
    clear H
    go_enter Try.func180, Try.ntmps180
    go_wp2
    go_loopg [5] k (fun kq v5 w' => ∃ (x5_1 : Int), v5 = .int .i64 x5_1 ∧ Aside0 (laws_eqPieceS.l0 kq l0 l1 x5_1 = some r) ∧ Aside0 (kq ≤ k) ∧ Aside0 (Below w.heap.size w w'))
    case atStart => exact ⟨(0), FR, H', ⟨Nat.le_refl _⟩, ⟨(BB HB.out)⟩⟩
    case round =>
      clear H'
      try clear c1
      try clear p2
      try clear c3
      try clear c3b0
      try clear c3b1
      try clear c3b2
      obtain ⟨x5_1, rfl, HA, HK1, HB⟩ := hrel
      cases gk with
      | zero => exact absurd HA.out (by simp [laws_eqPieceS.l0])
      | succ k1 =>
        have H := HA.out
        clear HA
        simp only [laws_eqPieceS.l0] at H
        by_cases c4 : x5_1 < (l0.length : Int)
        · rw [if_pos c4] at H
          have c4b0 : decide (x5_1 < (l0.length : Int)) = true := decide_eq_true c4
          clear c4
          by_cases c5 : 0 ≤ x5_1
          · rw [if_pos c5] at H
            have c5b0 : decide (0 ≤ x5_1) = true := decide_eq_true c5
            clear c5
            by_cases c6 : x5_1 < (l1.length : Int)
            · rw [if_pos c6] at H
              have c6b0 : decide (x5_1 < (l1.length : Int)) = true := decide_eq_true c6
              clear c6
              replace H := Option.bind_eq_some_iff.mp H
              obtain ⟨t292, A70, H⟩ := H
              replace H : (if t292 = true then (laws_eqPieceS.l0 k1 l0 l1 (wrap64 (x5_1 + 1))) else (some false)) = some r := H
              have A7 := Aside0.mk A70
              clear A70
              by_cases c8 : t292 = true
              · subst c8
                have H1 : (laws_eqPieceS.l0 k1 l0 l1 (wrap64 (x5_1 + 1))) = some r := by rw [if_pos rfl] at H; exact H
                clear H
                have H := H1
                clear H1
                have H' := Aside0.mk H
                clear H
                try go_wp2
                have n0_ := Aside0.mk (below_drew1 HB.out)
                clear HB
                have HB := n0_
                clear n0_
                have p290 : 0 ≤ (x5_1 : Int) := DT
                have q290 : x5_1 < (l0.length : Int) := DT
                obtain ⟨ad290, e290, hx290_0, hx290_1⟩ := at_T137 HR0.out x5_1 p290 q290
                have hw290_1 := hx290_1
                have hw290_0 := hx290_0
                cases e290
                replace hx290_0 := (HB.out.cell (World.block_lt_of_cell? w _ hx290_0)).trans hx290_0
                replace hx290_1 := (HB.out.cell (World.block_lt_of_cell? w _ hx290_1)).trans hx290_1
                replace p290 := eq_true p290
                replace q290 := eq_true q290
                have p291 : 0 ≤ (x5_1 : Int) := DT
                have q291 : x5_1 < (l1.length : Int) := DT
                obtain ⟨ad291, e291, hx291_0, hx291_1⟩ := at_T137 HR1.out x5_1 p291 q291
                have hw291_1 := hx291_1
                have hw291_0 := hx291_0
                cases e291
                replace hx291_0 := (HB.out.cell (World.block_lt_of_cell? w _ hx291_0)).trans hx291_0
                replace hx291_1 := (HB.out.cell (World.block_lt_of_cell? w _ hx291_1)).trans hx291_1
                replace p291 := eq_true p291
                replace q291 := eq_true q291
                refine start_ (n := 10) (S := fun w' => w'.cell? (ad290.add ((x5_1).toNat * 2)) = some (.int .i64 ((rd_T137 l0 x5_1).f0)) ∧ w'.cell? ⟨(ad290.add ((x5_1).toNat * 2)).block, (ad290.add ((x5_1).toNat * 2)).off + 1, none⟩ = some (.int .i64 ((rd_T137 l0 x5_1).f1)) ∧ w'.cell? (ad291.add ((x5_1).toNat * 2)) = some (.int .i64 ((rd_T137 l1 x5_1).f0)) ∧ w'.cell? ⟨(ad291.add ((x5_1).toNat * 2)).block, (ad291.add ((x5_1).toNat * 2)).off + 1, none⟩ = some (.int .i64 ((rd_T137 l1 x5_1).f1))) (ds := []) #[false, false, false, false, false, false, false, false, false, false] (by kernel_rfl) rfl rfl ⟨((HB.out.cell (World.block_lt_of_cell? w _ hw290_0)).trans hw290_0), ((HB.out.cell (World.block_lt_of_cell? w _ hw290_1)).trans hw290_1), ((HB.out.cell (World.block_lt_of_cell? w _ hw291_0)).trans hw291_0), ((HB.out.cell (World.block_lt_of_cell? w _ hw291_1)).trans hw291_1)⟩ (fun hHeld => ?_); refine with_tabW laws_eqPieceS.tab6 laws_eqPieceS.bits6 (fun HT_ HW_ => ?_)
                generalize wr.drew = w9 at HB hx290_0 hx290_1 hx291_0 hx291_1 hHeld ⊢
                refine pure_ (i := 0) (N := some 17) (v := ?_) (a' := ?_) #[true, false, false, false, false, false, false, false, false, false] rfl rfl (any_of HT_.out (by kernel_rfl)) (fun _ _ _ h => h) (Or.inl ⟨by rfl, ?_⟩) ?_ ?_
                rotate_left
                · intro w'
                  go_simp
                  with_reducible rfl
                rotate_left
                · simp only [Act.put, List.setIfInBounds_toArray, List.set_cons_zero, List.set_cons_succ, i64_w, i32_w]
                  rfl
                refine pure_ (i := 1) (N := some 18) (v := ?_) (a' := ?_) #[true, true, false, false, false, false, false, false, false, false] rfl rfl (any_of HT_.out (by kernel_rfl)) (fun _ _ _ h => h) (Or.inl ⟨by rfl, ?_⟩) ?_ ?_
                rotate_left
                · intro w'
                  go_simp
                  with_reducible rfl
                rotate_left
                · simp only [Act.put, List.setIfInBounds_toArray, List.set_cons_zero, List.set_cons_succ, i64_w, i32_w]
                  rfl
                refine pure_ (i := 2) (N := some 19) (v := ?_) (a' := ?_) #[true, true, true, false, false, false, false, false, false, false] rfl rfl (any_of HT_.out (by kernel_rfl)) (fun _ _ _ h => h) (Or.inl ⟨by rfl, ?_⟩) ?_ ?_
                rotate_left
                · intro w'
                  go_simp
                  with_reducible rfl
                rotate_left
                · simp only [Act.put, List.setIfInBounds_toArray, List.set_cons_zero, List.set_cons_succ, i64_w, i32_w]
                  rfl
                refine pure_ (i := 4) (N := some 21) (v := ?_) (a' := ?_) #[true, true, true, false, true, false, false, false, false, false] rfl rfl (any_of HT_.out (by kernel_rfl)) (fun _ _ _ h => h) (Or.inl ⟨by rfl, ?_⟩) ?_ ?_
                rotate_left
                · intro w'
                  go_simp
                  with_reducible rfl
                rotate_left
                · simp only [Act.put, List.setIfInBounds_toArray, List.set_cons_zero, List.set_cons_succ, i64_w, i32_w]
                  rfl
                refine pure_ (i := 5) (N := some 22) (v := ?_) (a' := ?_) #[true, true, true, false, true, true, false, false, false, false] rfl rfl (any_of HT_.out (by kernel_rfl)) (fun _ _ _ h => h) (Or.inl ⟨by rfl, ?_⟩) ?_ ?_
                rotate_left
                · intro w'
                  go_simp
                  with_reducible rfl
                rotate_left
                · simp only [Act.put, List.setIfInBounds_toArray, List.set_cons_zero, List.set_cons_succ, i64_w, i32_w]
                  rfl
                refine pure_ (i := 6) (N := some 23) (v := ?_) (a' := ?_) #[true, true, true, false, true, true, true, false, false, false] rfl rfl (any_of HT_.out (by kernel_rfl)) (fun _ _ _ h => h) (Or.inl ⟨by rfl, ?_⟩) ?_ ?_
                rotate_left
                · intro w'
                  go_simp
                  with_reducible rfl
                rotate_left
                · simp only [Act.put, List.setIfInBounds_toArray, List.set_cons_zero, List.set_cons_succ, i64_w, i32_w]
                  rfl
                refine take_ (i := 3) (N := some 20) (v := ?_) (a' := ?_) #[true, true, true, true, true, true, true, false, false, false] rfl rfl (take_ofW HT_.out HW_.out (by kernel_rfl)) (fun _ _ _ h => h) (Or.inl ⟨by rfl, ?_⟩) hHeld ?_ ?_
                rotate_left
                · rintro w' ⟨s0, s1, s2, s3⟩
                  go_simp
                  with_reducible rfl
                rotate_left
                · simp only [Act.put, List.setIfInBounds_toArray, List.set_cons_zero, List.set_cons_succ, i64_w, i32_w]
                  rfl
                refine take_ (i := 7) (N := some 24) (v := ?_) (a' := ?_) #[true, true, true, true, true, true, true, true, false, false] rfl rfl (take_ofW HT_.out HW_.out (by kernel_rfl)) (fun _ _ _ h => h) (Or.inl ⟨by rfl, ?_⟩) hHeld ?_ ?_
                rotate_left
                · rintro w' ⟨s0, s1, s2, s3⟩
                  go_simp
                  with_reducible rfl
                rotate_left
                · simp only [Act.put, List.setIfInBounds_toArray, List.set_cons_zero, List.set_cons_succ, i64_w, i32_w]
                  rfl
                refine one_ (i := 8) (N := some 25) #[true, true, true, true, true, true, true, true, true, false] rfl rfl (one_of HT_.out (by kernel_rfl)) (by decide) (fun K hK => ?_)
                refine goes_ Try.func191 (by kernel_rfl) rfl #[.agg #[.int .i64 ((rd_T137 l0 x5_1).f0), .int .i64 ((rd_T137 l0 x5_1).f1)], .agg #[.int .i64 ((rd_T137 l1 x5_1).f0), .int .i64 ((rd_T137 l1 x5_1).f1)]] (by rfl) rfl rfl (by (try simp only [List.map_toArray, List.map_cons, List.map_nil]); first | done | rfl | (simp only [List.length_drop, List.length_take]; rfl)) ?_
                with_reducible refine (laws_eqPiece.calls ((rd_T137 l0 x5_1).f0) ((rd_T137 l0 x5_1).f1) ((rd_T137 l1 x5_1).f0) ((rd_T137 l1 x5_1).f1) true _ A7.out).mono ?_
                rintro e w10 ⟨rfl, hb⟩
                refine ⟨_, rfl, ?_⟩
                have n0_ := Aside0.mk (below_step (BB HB.out) hb)
                clear HB
                have HB := n0_
                clear n0_
                (try clear hb)
                (try clear hb2)
                (try clear hk)
                (try clear hi)
                refine hK.out _ _ ⟨((HB.out.cell (World.block_lt_of_cell? w _ hw290_0)).trans hw290_0), ((HB.out.cell (World.block_lt_of_cell? w _ hw290_1)).trans hw290_1), ((HB.out.cell (World.block_lt_of_cell? w _ hw291_0)).trans hw291_0), ((HB.out.cell (World.block_lt_of_cell? w _ hw291_1)).trans hw291_1)⟩ (fun hHeld => ?_)
                clear hK K
                refine norm_ (a' := ?_) ?_ ?_
                rotate_left
                · show Act.put _ (some 25) _ = _
                  simp only [Act.put, List.setIfInBounds_toArray, List.set_cons_zero, List.set_cons_succ, i64_w, i32_w]
                  rfl
                refine pure_ (i := 9) (N := some 26) (v := ?_) (a' := ?_) #[true, true, true, true, true, true, true, true, true, true] rfl rfl (any_of HT_.out (by kernel_rfl)) (fun _ _ _ h => h) (Or.inl ⟨by rfl, ?_⟩) ?_ ?_
                rotate_left
                · intro w'
                  go_simp
                  with_reducible rfl
                rotate_left
                · simp only [Act.put, List.setIfInBounds_toArray, List.set_cons_zero, List.set_cons_succ, i64_w, i32_w]
                  rfl
                refine done_ (done_of HT_.out (by kernel_rfl)) ?_
                try go_wp2
                go_roundg k1
                case measure => have := HK1.out; omega
                case rel => exact ⟨(wrap64 (x5_1 + 1)), FR, H', ⟨by have := HK1.out; omega⟩, ⟨(BB HB.out)⟩⟩
              · replace c8 := Bool.eq_false_iff.mpr c8
                subst c8
                have H1 : (some false) = some r := by rw [if_neg (show ¬ (false = true) by decide)] at H; exact H
                clear H
                have H := H1
                clear H1
                exact absurd ((Option.some.inj H).trans hr_.out) (by decide)
            · rw [if_neg c6] at H
              exact absurd H (by simp)
          · rw [if_neg c5] at H
            exact absurd H (by simp)
        · rw [if_neg c4] at H
          have c4b0 : decide (x5_1 < (l0.length : Int)) = false := decide_eq_false c4
          clear c4
          obtain rfl := Option.some.inj H
          go_wp2
          go_ret
          exact ⟨ER, (BB HB.out)⟩
  · rw [if_neg c3] at H
    have c3b0 : ((l0.length : Int) == (l1.length : Int)) = false := beq_eq_false_iff_ne.mpr c3
    have c3b1 : ((l0.length : Int) != (l1.length : Int)) = true := bne_iff_ne.mpr c3
    have c3b2 : (l0.length == l1.length) = false := by first | simpa using c3 | (simp at c3 ⊢; omega)
    exact absurd ((Option.some.inj H).trans hr_.out) (by decide)

end Go.Proofs.Ytfgnaneajonapaa.Pr

namespace Go.Proofs.Ytfgnaneajonapaa.Pr
open Go.RowKit Go.Proofs.YtfgnaneajonapaaW.PrintWords Go.Proofs.YtfgnaneajonapaaW.PrintLast Go.Proofs.YtfgnaneajonapaaW.PrintMore
attribute [local go_sem] max2_int min2_int max_two min_two max_three min_three max_four min_four
set_option linter.unusedVariables false
set_option linter.unusedSimpArgs false
end Go.Proofs.Ytfgnaneajonapaa.Pr

namespace Go.Proofs.Ytfgnaneajonapaa.Pr
open Go.RowKit Go.Proofs.YtfgnaneajonapaaW.PrintWords Go.Proofs.YtfgnaneajonapaaW.PrintLast Go.Proofs.YtfgnaneajonapaaW.PrintMore
attribute [local go_sem] max2_int min2_int max_two min_two max_three min_three max_four min_four
set_option linter.unusedVariables false
set_option linter.unusedSimpArgs false
end Go.Proofs.Ytfgnaneajonapaa.Pr

namespace Go.Proofs.Ytfgnaneajonapaa.Pr
open Go.RowKit Go.Proofs.YtfgnaneajonapaaW.PrintWords Go.Proofs.YtfgnaneajonapaaW.PrintLast Go.Proofs.YtfgnaneajonapaaW.PrintMore
attribute [local go_sem] max2_int min2_int max_two min_two max_three min_three max_four min_four
set_option linter.unusedVariables false
set_option linter.unusedSimpArgs false
end Go.Proofs.Ytfgnaneajonapaa.Pr

namespace Go.Proofs.Ytfgnaneajonapaa.Lw
open Go.RowKit Go.Proofs.YtfgnaneajonapaaW.PrintWords Go.Proofs.Ytfgnaneajonapaa.Pr Go.Proofs.Ytfgnaneajonapaa.Evs
set_option linter.unusedVariables false
abbrev ImPiece := S137
def lnPiece (x : ImPiece) : Prop := True
theorem rd137 (p s : List S137) (x : S137) : rd_T137 (p ++ x :: s) (p.length : Int) = x := by unfold rd_T137; exact getD_mid' p s x _ _ rfl
theorem eqPiece_refl (x : ImPiece) : laws_eqPiece.f (x.f0) (x.f1) (x.f0) (x.f1) = some true := by unfold laws_eqPiece.f; simp
theorem eqPieceS_loop (s : List ImPiece) : ∀ (p : List ImPiece), p.length + s.length < 9223372036854775807 → Ev (fun k => laws_eqPieceS.l0 k (p ++ s) (p ++ s) (p.length : Int)) true := by
  induction s with
  | nil => intro p hl; exact ev_step (fun k => laws_eqPieceS.l0.eq_2 _ _ _ k) (ev_neg (by simp) (ev_some _))
  | cons x s ih =>
    intro p hl
    simp at hl
    refine ev_step (fun k => laws_eqPieceS.l0.eq_2 _ _ _ k) (ev_pos (by simp; omega) (ev_pos (by omega) (ev_pos (by simp; omega) (ev_call (by rw [rd137]; exact eqPiece_refl x) (ev_pos rfl ?_)))))
    rw [wrap_succ (by omega) (by omega)]
    simpa using ih (p ++ [x]) (by simp; omega)
theorem eqPieceS_ev (l : List ImPiece) (hl : l.length < 9223372036854775807) : Ev (fun k => laws_eqPieceS.f k l l) true := by
  unfold laws_eqPieceS.f
  refine ev_pos rfl ?_
  simpa using eqPieceS_loop l [] (by simp; omega)
end Go.Proofs.Ytfgnaneajonapaa.Lw

namespace Go.Proofs.Ytfgnaneajonapaa.Pr
open Go.RowKit Go.Proofs.YtfgnaneajonapaaW.PrintWords Go.Proofs.YtfgnaneajonapaaW.PrintLast Go.Proofs.YtfgnaneajonapaaW.PrintMore
attribute [local go_sem] max2_int min2_int max_two min_two max_three min_three max_four min_four
set_option linter.unusedVariables false
set_option linter.unusedSimpArgs false
def laws_markPieceS.l0 : Nat → List (S137) → Int → Int → Option (Int × (List (S137)))
  | 0, _, _, _ => none
  | k + 1, x0, x1, x5 => if x5 < (x0.length : Int) then (if 0 ≤ x5 then ((some (x0.set (x5 : Int).toNat (⟨x1, (rd_T137 x0 x5).f1⟩ : S137) : List (S137))).bind fun y320 => (laws_markPieceS.l0 k (y320.set (x5 : Int).toNat (⟨(rd_T137 y320 x5).f0, wrap64 (x1 + 1)⟩ : S137)) (wrap64 ((wrap64 (x1 + 1)) + 1)) (wrap64 (x5 + 1)))) else (none)) else (some (x1, x0))
def laws_markPieceS.f (k : Nat) (l0 : List (S137)) (a1 : Int) : Option (Int × (List (S137))) := laws_markPieceS.l0 k l0 a1 0
set_option maxHeartbeats 8000000 in
set_option maxRecDepth 100000 in
theorem laws_markPieceS.calls (k : Nat) (P0_ : Nat → Prop) (u9000_ : Value) (l0 : List (S137)) (a1 : Int) (r1 : Int) (r2 : List (S137)) (w0 w : World) (hB : Below w0.heap.size w0 w) (ho0 : Kd.R k137 137 w w0.heap.size P0_ u9000_ l0) (h : laws_markPieceS.f k l0 a1 = some (r1, r2)) :
    Calls Try.prog 154 #[u9000_, .int .i64 a1] w fun e w' => e = .returned (.int .i64 r1) ∧ Kd.R k137 137 w' w0.heap.size (fun k_ => (P0_ k_ ∨ w.heap.size ≤ k_)) u9000_ r2 ∧ Below w0.heap.size w0 w' ∧ Kept w w' (fun k_ => P0_ k_) := by
  have HO0 := Aside0.mk (show Kd.R k137 137 w w0.heap.size (fun k_ => (P0_ k_ ∨ w.heap.size ≤ k_)) u9000_ l0 from Kd.R_mono ho0 (fun k_ hk => (.inl hk)))
  have HK := Aside0.mk (Kept.refl w (fun k_ => P0_ k_))
  have HW0 := Aside0.mk hB.size
  have HB := Aside0.mk hB
  clear hB
  have H : (laws_markPieceS.l0 k l0 a1 0) = some (r1, r2) := h
  clear h
  have H' := Aside0.mk H
  clear H
  go_enter Try.func154, Try.ntmps154
  go_wp2
  go_loopg [1, 5] k (fun kq v1 v5 w' => ∃ (x0_1 : List (S137)) (x1_1 : Int) (x5_1 : Int), v1 = .int .i64 x1_1 ∧ v5 = .int .i64 x5_1 ∧ Aside0 (laws_markPieceS.l0 kq x0_1 x1_1 x5_1 = some (r1, r2)) ∧ Aside0 (kq ≤ k) ∧ Aside0 (Kd.R k137 137 w' w0.heap.size (fun k_ => (P0_ k_ ∨ w.heap.size ≤ k_)) u9000_ x0_1) ∧ Aside0 (Kept w w' (fun k_ => P0_ k_)) ∧ Aside0 (Below w0.heap.size w0 w'))
  case atStart => exact ⟨(l0), (a1), (0), FR, FR, H', ⟨Nat.le_refl _⟩, ⟨(RR HO0.out)⟩, ⟨by repeat (first | (with_reducible first | exact HK.out | apply Kept.alloc | apply Kept.drewN | apply Kept.drew) | exact HK.out)⟩, ⟨(BB HB.out)⟩⟩
  case round =>
    clear H'
    try clear c1
    try clear p2
    obtain ⟨x0_1, x1_1, x5_1, rfl, rfl, HA, HK1, HO_0, HK, HB⟩ := hrel
    cases gk with
    | zero => exact absurd HA.out (by simp [laws_markPieceS.l0])
    | succ k1 =>
      have H := HA.out
      clear HA
      simp only [laws_markPieceS.l0] at H
      by_cases c3 : x5_1 < (x0_1.length : Int)
      · rw [if_pos c3] at H
        have c3b0 : decide (x5_1 < (x0_1.length : Int)) = true := decide_eq_true c3
        clear c3
        by_cases c4 : 0 ≤ x5_1
        · rw [if_pos c4] at H
          have c4b0 : decide (0 ≤ x5_1) = true := decide_eq_true c4
          clear c4
          obtain ⟨y320, hy320⟩ : ∃ y_ : List (S137), y_ = (x0_1.set (x5_1 : Int).toNat (⟨x1_1, (rd_T137 x0_1 x5_1).f1⟩ : S137)) := ⟨_, rfl⟩
          replace H : (laws_markPieceS.l0 k1 (y320.set (x5_1 : Int).toNat (⟨(rd_T137 y320 x5_1).f0, wrap64 (x1_1 + 1)⟩ : S137)) (wrap64 ((wrap64 (x1_1 + 1)) + 1)) (wrap64 (x5_1 + 1))) = some (r1, r2) := by first | (rw [hy320]; with_reducible exact H) | (have H2_ := (Option.bind_some _ _).symm.trans H; rw [hy320]; with_reducible exact H2_) | (have H2_ := (Option.bind_some _ _).symm.trans H; with_reducible exact H2_) | with_reducible exact H | (rw [hy320]; exact H) | exact H
          have Ny320 := Aside0.mk hy320
          clear hy320
          obtain ⟨y321, hy321⟩ : ∃ y_ : List (S137), y_ = (y320.set (x5_1 : Int).toNat (⟨(rd_T137 y320 x5_1).f0, wrap64 (x1_1 + 1)⟩ : S137)) := ⟨_, rfl⟩
          replace H : (laws_markPieceS.l0 k1 y321 (wrap64 ((wrap64 (x1_1 + 1)) + 1)) (wrap64 (x5_1 + 1))) = some (r1, r2) := by first | (rw [hy321]; with_reducible exact H) | (have H2_ := (Option.bind_some _ _).symm.trans H; rw [hy321]; with_reducible exact H2_) | (have H2_ := (Option.bind_some _ _).symm.trans H; with_reducible exact H2_) | with_reducible exact H | (rw [hy321]; exact H) | exact H
          have Ny321 := Aside0.mk hy321
          clear hy321
          have H' := Aside0.mk H
          clear H
          obtain ⟨Ao7, co7, eo7⟩ := Kd.R_slice HO_0.out
          subst eo7
          have p5 : 0 ≤ (x5_1 : Int) := DT
          have q5 : (x5_1 : Int) < ((x0_1.length : Int) : Int) := DT
          obtain ⟨go5, co5, eo5, gb5, gl5, cl5, HG5⟩ := Kd.R_form HO_0.out (by omega)
          (first | cases eo5 | (injection eo5 with ea_ en_ ec_; (first | subst ea_ | (injection ea_ with ea_; subst ea_)); subst ec_; clear en_))
          have GB5 := Aside0.mk gb5
          have GG5 := Aside0.mk HG5
          clear gb5 gl5 HG5
          have HMgo5 := Aside0.mk (show (P0_ go5 ∨ w.heap.size ≤ go5) from (HO_0.out.1 _ rfl))
          obtain ⟨ce5, hcl5, hM5, hcc5, hfr5⟩ := Kd.R_elem HO_0.out z137 (x5_1 : Int) p5 q5
          obtain rfl := k137_openM hM5
          have hx5_0 : wr.cell? ⟨go5, (x5_1 : Int).toNat * 2, none⟩ = some (.int .i64 ((rd_T137 x0_1 x5_1).f0)) := hcc5 0 _ rfl
          have hx5_1 : wr.cell? ⟨go5, (x5_1 : Int).toNat * 2 + 1, none⟩ = some (.int .i64 ((rd_T137 x0_1 x5_1).f1)) := hcc5 1 _ rfl
          have hf5_0 : wr.frozen? ⟨go5, (x5_1 : Int).toNat * 2, none⟩ = false := hfr5 0
          have hf5_1 : wr.frozen? ⟨go5, (x5_1 : Int).toNat * 2 + 1, none⟩ = false := hfr5 1
          clear hcl5 hcc5 hfr5 hM5
          replace p5 := eq_true p5
          replace q5 := eq_true q5
          have HX8 := Aside0.mk (show Kd.R k137 137 wr w0.heap.size (fun k_ => (P0_ k_ ∨ w.heap.size ≤ k_)) (.slice (some ⟨go5, 0, none⟩) x0_1.length co7) x0_1 from (RR HO_0.out))
          obtain ⟨ce8, hcl8, hM8, hcc8, hfr8⟩ := Kd.R_elem HX8.out z137 (x5_1 : Int) DT (by have h_ : (x5_1 : Int) < ((x0_1.length : Int) : Int) := DT; first | exact h_ | (have e_ := (Kd.R_reads' HO_0.out).1; omega) | simpa using h_)
          obtain rfl := k137_openM hM8
          have HP8 := Kd.R_seg HX8.out (x5_1 : Int) DT (by have h_ : (x5_1 : Int) < ((x0_1.length : Int) : Int) := DT; first | exact h_ | (have e_ := (Kd.R_reads' HO_0.out).1; omega) | simpa using h_) (seg := [.int .i64 x1_1]) (j := 0) hcl8 hcc8 (show 1 ≤ 2 from by decide) (x' := (⟨x1_1, (rd_T137 x0_1 x5_1).f1⟩ : S137)) (k137_mkM _ _ _ (⟨x1_1, (rd_T137 x0_1 x5_1).f1⟩ : S137) ) (fun _ hk => hk)
          have hx8_0 := hcc8 0 _ rfl
          (try simp only [show (k137).sz = 2 from rfl, Nat.mul_one, Nat.add_zero] at hx8_0)
          have hf8_0 := hfr8 0
          (try simp only [show (k137).sz = 2 from rfl, Nat.mul_one, Nat.add_zero] at hf8_0)
          clear hcl8 hcc8 hfr8 hM8
          go_wp2_with (first | ((with_reducible refine gate_store (t := 3) (p := 16) rfl ?_); refine store_event (t := 3) (p := 16) (v := ?vo_w9) (w1 := (wr.setCell ⟨go5, (x5_1 : Int).toNat * 2, none⟩ (.int .i64 x1_1))) ?hg ?ho ?hn ?hr ?_; (case ho => rfl); (case hg => rfl); (case hn => rfl); (case hr => first | (go_simp; done) | (go_simp; rfl)); intro w9 hw; have hg : wr.grownBy w9 (some go5) := (by rw [hw]; exact HP8.2); have hp_ : Kd.R k137 137 w9 w0.heap.size (fun k_ => (P0_ k_ ∨ w.heap.size ≤ k_)) (.slice (some ⟨go5, 0, none⟩) x0_1.length co7) y320 := (by rw [hw, Ny320.out]; exact HP8.1); clear HP8; have n0_ := Aside0.mk (hp_); have n1_ := Aside0.mk ((by rw [hw]; exact below_set (HB.out) GB5.out : Below w0.heap.size w0 w9)); have n2_ := Aside0.mk (Kept.of_grown (S := (fun k_ => P0_ k_)) hg (by repeat (first | (with_reducible first | exact HK.out | apply Kept.alloc | apply Kept.drewN | apply Kept.drew) | exact HK.out)) (fun k_ e_ => (HO_0.out.1 k_ e_))); clear HO_0; clear HB; clear HK; have HO_0 := n0_; have HB := n1_; have HK := n2_; clear n0_ n1_ n2_; clear hg hw hp_; have p6 : 0 ≤ (x5_1 : Int) := DT; have q6 : (x5_1 : Int) < ((x0_1.length : Int) : Int) := DT; obtain ⟨ce6, hcl6, hM6, hcc6, hfr6⟩ := Kd.R_elem HO_0.out z137 (x5_1 : Int) p6 q6; obtain rfl := k137_openM hM6; have hx6_0 : w9.cell? ⟨go5, (x5_1 : Int).toNat * 2, none⟩ = some (.int .i64 ((rd_T137 y320 x5_1).f0)) := hcc6 0 _ rfl; have hx6_1 : w9.cell? ⟨go5, (x5_1 : Int).toNat * 2 + 1, none⟩ = some (.int .i64 ((rd_T137 y320 x5_1).f1)) := hcc6 1 _ rfl; have hf6_0 : w9.frozen? ⟨go5, (x5_1 : Int).toNat * 2, none⟩ = false := hfr6 0; have hf6_1 : w9.frozen? ⟨go5, (x5_1 : Int).toNat * 2 + 1, none⟩ = false := hfr6 1; clear hcl6 hcc6 hfr6 hM6; replace p6 := eq_true p6; replace q6 := eq_true q6; have HX10 := Aside0.mk (show Kd.R k137 137 w9 w0.heap.size (fun k_ => (P0_ k_ ∨ w.heap.size ≤ k_)) (.slice (some ⟨go5, 0, none⟩) x0_1.length co7) y320 from (RR HO_0.out)); obtain ⟨ce10, hcl10, hM10, hcc10, hfr10⟩ := Kd.R_elem HX10.out z137 (x5_1 : Int) DT (by have h_ : (x5_1 : Int) < ((x0_1.length : Int) : Int) := DT; first | exact h_ | (have e_ := (Kd.R_reads' HO_0.out).1; omega) | simpa using h_); obtain rfl := k137_openM hM10; have HP10 := Kd.R_seg HX10.out (x5_1 : Int) DT (by have h_ : (x5_1 : Int) < ((x0_1.length : Int) : Int) := DT; first | exact h_ | (have e_ := (Kd.R_reads' HO_0.out).1; omega) | simpa using h_) (seg := [.int .i64 (wrap64 (x1_1 + 1))]) (j := 1) hcl10 hcc10 (show 2 ≤ 2 from by decide) (x' := (⟨(rd_T137 y320 x5_1).f0, wrap64 (x1_1 + 1)⟩ : S137)) (k137_mkM _ _ _ (⟨(rd_T137 y320 x5_1).f0, wrap64 (x1_1 + 1)⟩ : S137) ) (fun _ hk => hk); have hx10_1 := hcc10 1 _ rfl; (try simp only [show (k137).sz = 2 from rfl, Nat.mul_one, Nat.add_zero] at hx10_1); have hf10_1 := hfr10 1; (try simp only [show (k137).sz = 2 from rfl, Nat.mul_one, Nat.add_zero] at hf10_1); clear hcl10 hcc10 hfr10 hM10) | ((with_reducible refine gate_store (t := 3) (p := 23) rfl ?_); refine store_event (t := 3) (p := 23) (v := ?vo_w11) (w1 := (w9.setCell ⟨go5, (x5_1 : Int).toNat * 2 + 1, none⟩ (.int .i64 (wrap64 (x1_1 + 1))))) ?hg ?ho ?hn ?hr ?_; (case ho => rfl); (case hg => rfl); (case hn => rfl); (case hr => first | (go_simp; done) | (go_simp; rfl)); intro w11 hw; have hg : w9.grownBy w11 (some go5) := (by rw [hw]; exact HP10.2); have hp_ : Kd.R k137 137 w11 w0.heap.size (fun k_ => (P0_ k_ ∨ w.heap.size ≤ k_)) (.slice (some ⟨go5, 0, none⟩) x0_1.length co7) y321 := (by rw [hw, Ny321.out]; exact HP10.1); clear HP10; have n0_ := Aside0.mk (hp_); have n1_ := Aside0.mk ((by rw [hw]; exact below_set (HB.out) GB5.out : Below w0.heap.size w0 w11)); have n2_ := Aside0.mk (Kept.of_grown (S := (fun k_ => P0_ k_)) hg (by repeat (first | (with_reducible first | exact HK.out | apply Kept.alloc | apply Kept.drewN | apply Kept.drew) | exact HK.out)) (fun k_ e_ => (HO_0.out.1 k_ e_))); clear HO_0; clear HB; clear HK; have HO_0 := n0_; have HB := n1_; have HK := n2_; clear n0_ n1_ n2_; clear hg hw hp_))
          go_roundg k1
          case measure => have := HK1.out; omega
          case rel => exact ⟨(y321), (wrap64 ((wrap64 (x1_1 + 1)) + 1)), (wrap64 (x5_1 + 1)), FR, FR, H', ⟨by have := HK1.out; omega⟩, ⟨(RR HO_0.out)⟩, ⟨by repeat (first | (with_reducible first | exact HK.out | apply Kept.alloc | apply Kept.drewN | apply Kept.drew) | exact HK.out)⟩, ⟨(BB HB.out)⟩⟩
        · rw [if_neg c4] at H
          exact absurd H (by simp)
      · rw [if_neg c3] at H
        have c3b0 : decide (x5_1 < (x0_1.length : Int)) = false := decide_eq_false c3
        clear c3
        simp only [Option.some.injEq, Prod.mk.injEq] at H
        obtain ⟨rfl, rfl⟩ := H
        obtain ⟨Ao12, co12, eo12⟩ := Kd.R_slice HO_0.out
        subst eo12
        go_wp2
        go_ret
        exact ⟨ER, by (with_reducible repeat (first | apply Kd.R_alloc | apply Kd.R_drewN | apply Kd.R_drew)); exact HO_0.out, (BB HB.out), by repeat (first | (with_reducible first | exact HK.out | apply Kept.alloc | apply Kept.drewN | apply Kept.drew) | exact HK.out)⟩

end Go.Proofs.Ytfgnaneajonapaa.Pr

namespace Go.Proofs.Ytfgnaneajonapaa.Pr
open Go.RowKit Go.Proofs.YtfgnaneajonapaaW.PrintWords Go.Proofs.YtfgnaneajonapaaW.PrintLast Go.Proofs.YtfgnaneajonapaaW.PrintMore
attribute [local go_sem] max2_int min2_int max_two min_two max_three min_three max_four min_four
set_option linter.unusedVariables false
set_option linter.unusedSimpArgs false
def laws_heldPieceS.l0 : Nat → List (S137) → Int → Int → Option (Int)
  | 0, _, _, _ => none
  | k + 1, x0, x1, x5 => if x5 < (x0.length : Int) then (if 0 ≤ x5 then (if ((rd_T137 x0 x5).f0) = x1 then (if ((rd_T137 x0 x5).f1) = (wrap64 (x1 + 1)) then (laws_heldPieceS.l0 k x0 (wrap64 ((wrap64 (x1 + 1)) + 1)) (wrap64 (x5 + 1))) else (some (-1))) else (some (-1))) else (none)) else (some x1)
def laws_heldPieceS.f (k : Nat) (l0 : List (S137)) (a1 : Int) : Option (Int) := laws_heldPieceS.l0 k l0 a1 0
set_option maxHeartbeats 8000000 in
set_option maxRecDepth 100000 in
theorem laws_heldPieceS.calls (k : Nat) (A0 : Option Addr) (c0 : Nat) (l0 : List (S137)) (a1 : Int) (r : Int) (w : World) (hr0 : Kd.C k137 w A0 l0.length l0) (hc0 : l0.length ≤ c0) (h : laws_heldPieceS.f k l0 a1 = some r) :
    Calls Try.prog 155 #[.slice A0 l0.length c0, .int .i64 a1] w fun e w' => e = .returned (.int .i64 r) ∧ Drawn0 w w' := by
  have HR0 := Aside0.mk hr0
  have HC0 := Aside0.mk hc0
  clear hr0 hc0
  have H : (laws_heldPieceS.l0 k l0 a1 0) = some r := h
  clear h
  have H' := Aside0.mk H
  clear H
  go_enter Try.func155, Try.ntmps155
  go_wp2
  go_loopg [1, 5] k (fun kq v1 v5 w' => ∃ (x1_1 : Int) (x5_1 : Int), v1 = .int .i64 x1_1 ∧ v5 = .int .i64 x5_1 ∧ Aside0 (laws_heldPieceS.l0 kq l0 x1_1 x5_1 = some r) ∧ Aside0 (kq ≤ k) ∧ Drawn0 w w')
  case atStart => exact ⟨(a1), (0), FR, FR, H', ⟨Nat.le_refl _⟩, by repeat (first | exact Drawn0.refl _ | apply Drawn0.step)⟩
  case round =>
    clear H'
    try clear c1
    try clear p2
    obtain ⟨x1_1, x5_1, rfl, rfl, HA, HK1, ⟨m1, rfl⟩⟩ := hrel
    cases gk with
    | zero => exact absurd HA.out (by simp [laws_heldPieceS.l0])
    | succ k1 =>
      have H := HA.out
      clear HA
      simp only [laws_heldPieceS.l0] at H
      by_cases c3 : x5_1 < (l0.length : Int)
      · rw [if_pos c3] at H
        have c3b0 : decide (x5_1 < (l0.length : Int)) = true := decide_eq_true c3
        clear c3
        by_cases c4 : 0 ≤ x5_1
        · rw [if_pos c4] at H
          have c4b0 : decide (0 ≤ x5_1) = true := decide_eq_true c4
          clear c4
          by_cases c5 : ((rd_T137 l0 x5_1).f0) = x1_1
          · rw [if_pos c5] at H
            have c5b0 : (((rd_T137 l0 x5_1).f0) == x1_1) = true := beq_iff_eq.mpr c5
            have c5b1 : (((rd_T137 l0 x5_1).f0) != x1_1) = false := bne_eq_false_iff_eq.mpr c5
            clear c5
            by_cases c6 : ((rd_T137 l0 x5_1).f1) = (wrap64 (x1_1 + 1))
            · rw [if_pos c6] at H
              have c6b0 : (((rd_T137 l0 x5_1).f1) == (wrap64 (x1_1 + 1))) = true := beq_iff_eq.mpr c6
              have c6b1 : (((rd_T137 l0 x5_1).f1) != (wrap64 (x1_1 + 1))) = false := bne_eq_false_iff_eq.mpr c6
              clear c6
              have H' := Aside0.mk H
              clear H
              have p336 : 0 ≤ (x5_1 : Int) := DT
              have q336 : x5_1 < (l0.length : Int) := DT
              obtain ⟨ad336, e336, hx336_0, hx336_1⟩ := at_T137 HR0.out x5_1 p336 q336
              cases e336
              replace p336 := eq_true p336
              replace q336 := eq_true q336
              have p337 : 0 ≤ (x5_1 : Int) := DT
              have q337 : x5_1 < (l0.length : Int) := DT
              obtain ⟨ad337, e337, hx337_0, hx337_1⟩ := at_T137 HR0.out x5_1 p337 q337
              obtain rfl : ad336 = ad337 := (by injection e337)
              replace p337 := eq_true p337
              replace q337 := eq_true q337
              go_wp2
              go_roundg k1
              case measure => have := HK1.out; omega
              case rel => exact ⟨(wrap64 ((wrap64 (x1_1 + 1)) + 1)), (wrap64 (x5_1 + 1)), FR, FR, H', ⟨by have := HK1.out; omega⟩, by repeat (first | exact Drawn0.refl _ | apply Drawn0.step)⟩
            · rw [if_neg c6] at H
              have c6b0 : (((rd_T137 l0 x5_1).f1) == (wrap64 (x1_1 + 1))) = false := beq_eq_false_iff_ne.mpr c6
              have c6b1 : (((rd_T137 l0 x5_1).f1) != (wrap64 (x1_1 + 1))) = true := bne_iff_ne.mpr c6
              obtain rfl := Option.some.inj H
              have p336 : 0 ≤ (x5_1 : Int) := DT
              have q336 : x5_1 < (l0.length : Int) := DT
              obtain ⟨ad336, e336, hx336_0, hx336_1⟩ := at_T137 HR0.out x5_1 p336 q336
              cases e336
              replace p336 := eq_true p336
              replace q336 := eq_true q336
              have p337 : 0 ≤ (x5_1 : Int) := DT
              have q337 : x5_1 < (l0.length : Int) := DT
              obtain ⟨ad337, e337, hx337_0, hx337_1⟩ := at_T137 HR0.out x5_1 p337 q337
              obtain rfl : ad336 = ad337 := (by injection e337)
              replace p337 := eq_true p337
              replace q337 := eq_true q337
              go_wp2
              go_ret
              exact ⟨FR, by repeat (first | exact Drawn0.refl _ | apply Drawn0.step)⟩
          · rw [if_neg c5] at H
            have c5b0 : (((rd_T137 l0 x5_1).f0) == x1_1) = false := beq_eq_false_iff_ne.mpr c5
            have c5b1 : (((rd_T137 l0 x5_1).f0) != x1_1) = true := bne_iff_ne.mpr c5
            obtain rfl := Option.some.inj H
            have p336 : 0 ≤ (x5_1 : Int) := DT
            have q336 : x5_1 < (l0.length : Int) := DT
            obtain ⟨ad336, e336, hx336_0, hx336_1⟩ := at_T137 HR0.out x5_1 p336 q336
            cases e336
            replace p336 := eq_true p336
            replace q336 := eq_true q336
            go_wp2
            go_ret
            exact ⟨FR, by repeat (first | exact Drawn0.refl _ | apply Drawn0.step)⟩
        · rw [if_neg c4] at H
          exact absurd H (by simp)
      · rw [if_neg c3] at H
        have c3b0 : decide (x5_1 < (l0.length : Int)) = false := decide_eq_false c3
        clear c3
        obtain rfl := Option.some.inj H
        go_wp2
        go_ret
        exact ⟨FR, by repeat (first | exact Drawn0.refl _ | apply Drawn0.step)⟩

end Go.Proofs.Ytfgnaneajonapaa.Pr

namespace Go.Proofs.Ytfgnaneajonapaa.Lw
open Go.RowKit Go.Proofs.YtfgnaneajonapaaW.PrintWords Go.Proofs.Ytfgnaneajonapaa.Pr Go.Proofs.Ytfgnaneajonapaa.Evs
set_option linter.unusedVariables false
noncomputable def mkPiece (x : ImPiece) (n : Int) : ImPiece := ⟨n, n + 1⟩
noncomputable def mkPieceS : List ImPiece → Int → List ImPiece
  | [], _ => []
  | x :: s, n => mkPiece x n :: mkPieceS s (n + 2)
theorem markPieceS_loop (s : List ImPiece) : ∀ (q : List ImPiece) (n : Int), 0 ≤ n → n + 2 * s.length < 9223372036854775000 → q.length + s.length < 9223372036854775807 →
    Ev (fun k => laws_markPieceS.l0 k (q ++ s) n (q.length : Int)) (n + 2 * s.length, q ++ mkPieceS s n) := by
  induction s with
  | nil => intro q n h0 h1 hl; exact ev_step (fun k => laws_markPieceS.l0.eq_2 _ _ _ k) (ev_neg (by simp) (ev_eq (ev_some _) (by simp [mkPieceS])))
  | cons x s ih =>
    intro q n h0 h1 hl
    simp at h1 hl
    have e1 : wrap64 (n + 1) = n + 1 := wrap_in (by omega) (by omega)
    have e2 : wrap64 (n + 1 + 1) = n + 1 + 1 := wrap_in (by omega) (by omega)
    have e0 : wrap64 ((q.length : Int) + 1) = (q.length : Int) + 1 := wrap_in (by omega) (by omega)
    have hr : (n + 2 * ((x :: s).length : Int), q ++ mkPieceS (x :: s) n) = (n + 1 + 1 + 2 * (s.length : Int), (q ++ [mkPiece x n]) ++ mkPieceS s (n + 1 + 1)) := by
      have : n + 1 + 1 = n + 2 := by omega
      simp [mkPieceS, this]
      omega
    rw [hr]
    have h := ih (q ++ [mkPiece x n]) (n + 1 + 1) (by omega) (by omega) (by simp; omega)
    refine ev_step (fun k => laws_markPieceS.l0.eq_2 _ _ _ k) ?_
    simp only [e0, e1, e2]
    repeat (first | with_reducible refine ev_pos (by first | omega | (simp; omega)) ?_ | with_reducible refine ev_bind (mt_ev _ (by omega)) ?_ | with_reducible refine ev_call rfl ?_)
    simp only [rd137, set_mid _ _ _ _ _ rfl]
    simpa [mkPiece] using h
theorem markPieceS_ev (l : List ImPiece) (n : Int) (h0 : 0 ≤ n) (h1 : n + 2 * l.length < 9223372036854775000) : Ev (fun k => laws_markPieceS.f k l n) (n + 2 * l.length, mkPieceS l n) := by
  unfold laws_markPieceS.f
  simpa using markPieceS_loop l [] n h0 h1 (by simp; omega)
theorem heldPieceS_loop (s : List ImPiece) : ∀ (q : List ImPiece) (n : Int), 0 ≤ n → n + 2 * s.length < 9223372036854775000 → q.length + s.length < 9223372036854775807 →
    Ev (fun k => laws_heldPieceS.l0 k (q ++ mkPieceS s n) n (q.length : Int)) (n + 2 * s.length) := by
  induction s with
  | nil => intro q n h0 h1 hl; exact ev_step (fun k => laws_heldPieceS.l0.eq_2 _ _ _ k) (ev_neg (by simp [mkPieceS]) (ev_eq (ev_some _) (by simp)))
  | cons x s ih =>
    intro q n h0 h1 hl
    simp at h1 hl
    have e1 : wrap64 (n + 1) = n + 1 := wrap_in (by omega) (by omega)
    have e2 : wrap64 (n + 1 + 1) = n + 1 + 1 := wrap_in (by omega) (by omega)
    have e0 : wrap64 ((q.length : Int) + 1) = (q.length : Int) + 1 := wrap_in (by omega) (by omega)
    simp only [mkPieceS]
    refine ev_step (fun k => laws_heldPieceS.l0.eq_2 _ _ _ k) ?_
    simp only [rd137, e0, e1, e2]
    repeat (first | with_reducible refine ev_pos (by first | omega | (simp [mkPiece]; done) | (simp; omega)) ?_ | with_reducible refine ev_bind (mt_ev _ (by omega)) ?_)
    have h := ih (q ++ [mkPiece x n]) (n + 1 + 1) (by omega) (by omega) (by simp; omega)
    have hr : n + 2 * ((x :: s).length : Int) = n + 1 + 1 + 2 * (s.length : Int) := by simp; omega
    have e : n + 2 = n + 1 + 1 := by omega
    rw [hr, e]
    simpa using h
theorem heldPieceS_ev (l : List ImPiece) (n : Int) (h0 : 0 ≤ n) (h1 : n + 2 * l.length < 9223372036854775000) : Ev (fun k => laws_heldPieceS.f k (mkPieceS l n) n) (n + 2 * l.length) := by
  unfold laws_heldPieceS.f
  simpa using heldPieceS_loop l [] n h0 h1 (by simp; omega)
end Go.Proofs.Ytfgnaneajonapaa.Lw

namespace Go.Proofs.Ytfgnaneajonapaa.Pr
open Go.RowKit Go.Proofs.YtfgnaneajonapaaW.PrintWords Go.Proofs.YtfgnaneajonapaaW.PrintLast Go.Proofs.YtfgnaneajonapaaW.PrintMore
attribute [local go_sem] max2_int min2_int max_two min_two max_three min_three max_four min_four
set_option linter.unusedVariables false
set_option linter.unusedSimpArgs false
def laws_markText.l0 : Nat → Int → ByteArray → Option (ByteArray)
  | 0, _, _ => none
  | k + 1, x0, x3 => if x0 > 0 then ((some (([(wrap64 (48 + (Int.tmod x0 10))) % 256] : List Int) : List Int)).bind fun y231 => (if (strOfNums y231).size + x3.size ≤ 9223372036854775807 then (laws_markText.l0 k (wrap64 (Int.tdiv x0 10)) ((strOfNums y231) ++ x3)) else (none))) else (if 1 + x3.size ≤ 9223372036854775807 then (some ((⟨#[109]⟩ : ByteArray) ++ x3)) else (none))
def laws_markText.f (k : Nat) (a0 : Int) : Option (ByteArray) := if a0 ≤ 0 then (some (⟨#[109, 48]⟩ : ByteArray)) else (laws_markText.l0 k a0 (⟨#[]⟩ : ByteArray))
set_option maxHeartbeats 8000000 in
set_option maxRecDepth 100000 in
theorem laws_markText.calls (k : Nat) (a0 : Int) (r : ByteArray) (w : World) (h : laws_markText.f k a0 = some r) :
    Calls Try.prog 60 #[.int .i64 a0] w fun e w' => e = .returned (.string r) ∧ Below w.heap.size w w' := by
  have HB := Aside0.mk (Below.refl w.heap.size w)
  have H : (if a0 ≤ 0 then (some (⟨#[109, 48]⟩ : ByteArray)) else (laws_markText.l0 k a0 (⟨#[]⟩ : ByteArray))) = some r := h
  clear h
  by_cases c2 : a0 ≤ 0
  · rw [if_pos c2] at H
    have c2b0 : decide (a0 ≤ 0) = true := decide_eq_true c2
    clear c2
    obtain rfl := Option.some.inj H
    go_enter Try.func60, Try.ntmps60
    go_wp2
    go_ret
    exact ⟨ER, (BB HB.out)⟩
  · rw [if_neg c2] at H
    have c2b0 : decide (a0 ≤ 0) = false := decide_eq_false c2
    clear c2
    have H' := Aside0.mk H
    clear H
    go_enter Try.func60, Try.ntmps60
    go_wp2
    go_loopg [0, 3] k (fun kq v0 v3 w' => ∃ (x0_1 : Int) (x3_1 : ByteArray), v0 = .int .i64 x0_1 ∧ v3 = .string x3_1 ∧ Aside0 (laws_markText.l0 kq x0_1 x3_1 = some r) ∧ Aside0 (kq ≤ k) ∧ Aside0 (Below w.heap.size w w'))
    case atStart => exact ⟨(a0), ((⟨#[]⟩ : ByteArray)), FR, FR, H', ⟨Nat.le_refl _⟩, ⟨(BB HB.out)⟩⟩
    case round =>
      clear H'
      try clear c2
      try clear c2b0
      try clear p2
      obtain ⟨x0_1, x3_1, rfl, rfl, HA, HK1, HB⟩ := hrel
      cases gk with
      | zero => exact absurd HA.out (by simp [laws_markText.l0])
      | succ k1 =>
        have H := HA.out
        clear HA
        simp only [laws_markText.l0] at H
        by_cases c3 : x0_1 > 0
        · rw [if_pos c3] at H
          have c3b0 : decide (0 < x0_1) = true := decide_eq_true c3
          clear c3
          obtain ⟨y231, hy231⟩ : ∃ y_ : List Int, y_ = (([(wrap64 (48 + (Int.tmod x0_1 10))) % 256] : List Int)) := ⟨_, rfl⟩
          replace H : (if (strOfNums y231).size + x3_1.size ≤ 9223372036854775807 then (laws_markText.l0 k1 (wrap64 (Int.tdiv x0_1 10)) ((strOfNums y231) ++ x3_1)) else (none)) = some r := by first | (rw [hy231]; with_reducible exact H) | (have H2_ := (Option.bind_some _ _).symm.trans H; rw [hy231]; with_reducible exact H2_) | (have H2_ := (Option.bind_some _ _).symm.trans H; with_reducible exact H2_) | with_reducible exact H | (rw [hy231]; exact H) | exact H
          have Ny231 := Aside0.mk hy231
          clear hy231
          by_cases c4 : (strOfNums y231).size + x3_1.size ≤ 9223372036854775807
          · rw [if_pos c4] at H
            have c4b0 := eq_true c4
            have c4b1 : decide ((strOfNums y231).size + x3_1.size ≤ 9223372036854775807) = true := decide_eq_true c4
            try have c4b2 : (9223372036854775807 < (strOfNums y231).size + x3_1.size) = False := eq_false (Nat.not_lt.2 c4)
            have H' := Aside0.mk H
            clear H
            go_wp2_with (first | ((with_reducible refine gate_dst (N := 12) rfl ?_); refine Kd.R_lit (Kd.int .u8) _ 5 ?hg (N := 12) ?hd (xs := ([(wrap64 (48 + (Int.tmod x0_1 10))) % 256] : List Int)) (inner := [.int .u8 ((wrap64 (48 + (Int.tmod x0_1 10))) % 256)]) (ok := fun _ => True) (okp := fun _ => True) ?hr ?hp (fun _ hk => hk) trivial (Below.refl _ _) (Nat.le_refl _) (by simp) ?_; (case hd => rfl); (case hg => rfl); (case hr => first | (go_simp; done) | (go_simp; rfl)); (case hp => exact (Reps.one (show Kd.M (Kd.int .u8) _ _ _ ((wrap64 (48 + (Int.tmod x0_1 10))) % 256) [.int .u8 ((wrap64 (48 + (Int.tmod x0_1 10))) % 256)] from rfl) (Reps.none _ _))); intro v232 w5 ho6 hb hg_ hnew_; clear hg_ hnew_; (first | rw [← Ny231.out] at ho6 | (simp only [Int.reduceToNat] at ho6; rw [← Ny231.out] at ho6)); have HO233 := Aside0.mk (Kd.R_lower ho6 (below_size (BB HB.out))); replace HB := Aside0.mk (below_step (BB HB.out) hb); clear hb ho6; have hcv7 := own_string (P := Try.prog) Try.underlying148 Try.underlying5 Try.underlying9 (Kd.own_of_R HO233.out)))
            go_roundg k1
            case measure => have := HK1.out; omega
            case rel => exact ⟨(wrap64 (Int.tdiv x0_1 10)), ((strOfNums y231) ++ x3_1), FR, FR, H', ⟨by have := HK1.out; omega⟩, ⟨(BB HB.out)⟩⟩
          · rw [if_neg c4] at H
            exact absurd H (by simp)
        · rw [if_neg c3] at H
          have c3b0 : decide (0 < x0_1) = false := decide_eq_false c3
          clear c3
          by_cases c8 : 1 + x3_1.size ≤ 9223372036854775807
          · rw [if_pos c8] at H
            have c8b0 := eq_true c8
            have c8b1 : decide (1 + x3_1.size ≤ 9223372036854775807) = true := decide_eq_true c8
            try have c8b2 : (9223372036854775807 < 1 + x3_1.size) = False := eq_false (Nat.not_lt.2 c8)
            obtain rfl := Option.some.inj H
            go_wp2
            go_ret
            exact ⟨ER, (BB HB.out)⟩
          · rw [if_neg c8] at H
            exact absurd H (by simp)

end Go.Proofs.Ytfgnaneajonapaa.Pr

namespace Go.Proofs.Ytfgnaneajonapaa.Lw
open Go.RowKit Go.Proofs.YtfgnaneajonapaaW.PrintWords Go.Proofs.Ytfgnaneajonapaa.Pr Go.Proofs.Ytfgnaneajonapaa.Evs
set_option linter.unusedVariables false
theorem strOfNums_one (a : Int) : (strOfNums [a]).size = 1 := rfl
theorem markText_loop (n : Nat) : ∀ (x : Int) (acc : ByteArray), x.toNat ≤ n → acc.size + x.toNat < 9223372036854775806 → ∃ t, Ev (fun k => laws_markText.l0 k x acc) t := by
  induction n with
  | zero =>
    intro x acc hx hs
    exact ⟨_, ev_step (fun k => laws_markText.l0.eq_2 _ _ k) (ev_neg (by omega) (ev_pos (by omega) (ev_some _)))⟩
  | succ n ih =>
    intro x acc hx hs
    by_cases c : x > 0
    · have e : Int.tdiv x 10 = x / 10 := Int.tdiv_eq_ediv_of_nonneg (by omega)
      have ew : wrap64 (Int.tdiv x 10) = x / 10 := by rw [e]; exact wrap_in (by omega) (by omega)
      have es : (strOfNums [(wrap64 (48 + (Int.tmod x 10))) % 256] ++ acc).size = 1 + acc.size := by rw [ByteArray.size_append, strOfNums_one]
      obtain ⟨t, ht⟩ := ih (x / 10) (strOfNums [(wrap64 (48 + (Int.tmod x 10))) % 256] ++ acc) (by omega) (by rw [es]; omega)
      refine ⟨t, ev_step (fun k => laws_markText.l0.eq_2 _ _ k) (ev_pos c (ev_call rfl (ev_pos ?_ (by rw [ew]; exact ht))))⟩
      rw [strOfNums_one]
      omega
    · exact ⟨_, ev_step (fun k => laws_markText.l0.eq_2 _ _ k) (ev_neg c (ev_pos (by omega) (ev_some _)))⟩
theorem markText_some (x : Int) (h0 : x < 9223372036854775800) : ∃ t, Ev (fun k => laws_markText.f k x) t := by
  unfold laws_markText.f
  by_cases c : x ≤ 0
  · exact ⟨_, ev_pos c (ev_some _)⟩
  · obtain ⟨t, ht⟩ := markText_loop x.toNat x ⟨#[]⟩ (Nat.le_refl _) (by simp [ByteArray.size]; omega)
    exact ⟨t, ev_neg c ht⟩
open Classical in
noncomputable def mt (x : Int) : ByteArray := if h : ∃ t, Ev (fun k => laws_markText.f k x) t then Classical.choose h else ⟨#[]⟩
theorem mt_ev (x : Int) (h0 : x < 9223372036854775800) : Ev (fun k => laws_markText.f k x) (mt x) := by
  unfold mt
  rw [dif_pos (markText_some x h0)]
  exact Classical.choose_spec (markText_some x h0)
end Go.Proofs.Ytfgnaneajonapaa.Lw

namespace Go.Proofs.Ytfgnaneajonapaa.Pr
open Go.RowKit Go.Proofs.YtfgnaneajonapaaW.PrintWords Go.Proofs.YtfgnaneajonapaaW.PrintLast Go.Proofs.YtfgnaneajonapaaW.PrintMore
set_option linter.unusedVariables false
set_option linter.unusedSimpArgs false
open Go.Proofs.Ytfgnaneajonapaa.Evs
noncomputable def mkInode (x : S135) (n : Int) : S135 := ⟨n, n + 1, Lw.mt (n + 1 + 1), ((n + 1 + 1 + 1) % 3 == 0), n + 1 + 1 + 1 + 1, n + 1 + 1 + 1 + 1 + 1, n + 1 + 1 + 1 + 1 + 1 + 1, Lw.mkPieceS x.f7 (n + 1 + 1 + 1 + 1 + 1 + 1 + 1), n + 1 + 1 + 1 + 1 + 1 + 1 + 1 + 2 * (x.f7.length : Int)⟩
def cntInode (x : S135) : Int := 8 + 2 * (x.f7.length : Int)
noncomputable def mkInodeS : List S135 → Int → List S135
  | [], _ => []
  | x :: s, n => mkInode x n :: mkInodeS s (n + cntInode x)
def cntInodeS : List S135 → Int
  | [] => 0
  | x :: s => cntInode x + cntInodeS s
theorem cntInodeS_pos : ∀ l : List S135, 0 ≤ cntInodeS l
  | [] => Int.le_refl _
  | x :: s => by have := cntInodeS_pos s; simp only [cntInodeS, cntInode]; omega
set_option maxHeartbeats 8000000 in
set_option maxRecDepth 100000 in
theorem laws_markInodeS.calls (P0 : Nat → Prop) (u : Value) (l0 : List S135) (a1 : Int) (w0 w : World) (hB : Below w0.heap.size w0 w) (ho0 : Kd.S k135 135 w w0.heap.size P0 u l0) (ha : 0 ≤ a1) (hb : a1 + cntInodeS l0 < 9223372036854775000) :
    Calls Try.prog 111 #[u, .int .i64 a1] w fun e w' => e = .returned (.int .i64 (a1 + cntInodeS l0)) ∧ Kd.S k135 135 w' w0.heap.size P0 u (mkInodeS l0 a1) ∧ Below w0.heap.size w0 w' ∧ Kept w w' P0 := by
  have hu135 := Try.underlying135
  obtain ⟨Au, cap, rfl⟩ := Kd.S_slice ho0
  have hlen : l0.length ≤ 9223372036854775807 := (Kd.S_reads' ho0).2.2.2.1
  have hcap : l0.length ≤ cap := (Kd.S_reads' ho0).2.1
  obtain ⟨fin, hfin⟩ : ∃ fin, fin = a1 + cntInodeS l0 := ⟨_, rfl⟩
  obtain ⟨res, hres⟩ : ∃ res, res = mkInodeS l0 a1 := ⟨_, rfl⟩
  rw [← hfin, ← hres]
  have HS0 := Aside0.mk ho0
  have HB00 := Aside0.mk hB
  have HR0 := Aside0.mk (show l0.take 0 ++ mkInodeS (l0.drop 0) a1 = res from hres.symm)
  have hcn0 : a1 + cntInodeS (l0.drop 0) = fin := hfin.symm
  rw [← hfin] at hb
  clear ho0 hB hfin hres
  go_enter Try.func111, Try.ntmps111
  go_wp2
  go_loopg [1, 5] l0.length (fun gg s1 s5 wr => ∃ (ii : Nat) (kk : Int) (ys : List S135), s1 = .int .i64 kk ∧ s5 = .int .i64 ii ∧ ii ≤ l0.length ∧ l0.length - ii ≤ gg ∧ 0 ≤ kk ∧ kk + cntInodeS (ys.drop ii) = fin ∧ Aside0 (ys.take ii ++ mkInodeS (ys.drop ii) kk = res) ∧ Aside0 (ys.length = l0.length) ∧ Aside0 (Kd.S k135 135 wr w0.heap.size P0 (.slice Au l0.length cap) ys) ∧ Aside0 (Below w0.heap.size w0 wr) ∧ Aside0 (Kept w wr P0))
  case atStart => exact ⟨0, a1, l0, rfl, rfl, Nat.zero_le _, by omega, ha, hcn0, HR0, ⟨rfl⟩, HS0, HB00, ⟨Kept.refl _ _⟩⟩
  case round =>
    obtain ⟨ii, kk, ys, rfl, rfl, hii, hgg, hk0, hcn, HR, HYL, HS, HB0, HK0⟩ := hrel
    have hyl := HYL.out
    by_cases hlt : ii < l0.length
    · have hltz : (ii : Int) < (l0.length : Int) := by omega
      have HDr := Aside0.mk (List.drop_eq_getElem_cons (show ii < ys.length by omega))
      obtain ⟨g0, cap', ev, hg1, -, -⟩ := Kd.S_form HS.out (by omega)
      injection ev with ea len_ ec
      subst ea; subst ec
      clear len_
      have HG : Aside0 (P0 g0) := ⟨(Kd.S_R HS.out).1 g0 rfl⟩
      obtain ⟨oki, c, hcl, hM, hcc, hfr, hoki, hH⟩ := Kd.S_elem HS.out z135 (ii : Int) (by omega) hltz
      have ey : ys.getD ((ii : Int)).toNat z135 = ys[ii]'(by omega) := by simp [List.getD, List.getElem?_eq_getElem (show ii < ys.length by omega)]
      rw [ey] at hM
      have hcn2 := hcn
      rw [HDr.out, cntInodeS, cntInode] at hcn2
      have hpos := cntInodeS_pos (ys.drop (ii + 1))
      generalize ys[ii]'(by omega) = y at hM HDr hcn2
      clear ey hcc hfr hcl
      obtain ⟨v_, rfl, hI⟩ := k135_openM hM
      obtain ⟨Av, cv, rfl⟩ := Kd.R_slice hI
      have HI0 := Aside0.mk hI
      have HH0 := Aside0.mk hH
      have hoki := Aside0.mk hoki
      clear hI hH hM hyl
      obtain ⟨-, hcc, hfr⟩ := H_open HH0.out (by omega) (by omega)
      have hc0_0 : wr.cell? ⟨g0, ii * 9, none⟩ = some (.int .i64 y.f0) := hcc 0 _ rfl
      have hf0_0 : wr.frozen? ⟨g0, ii * 9, none⟩ = false := hfr 0
      have hc0_1 : wr.cell? ⟨g0, ii * 9 + 1, none⟩ = some (.int .i64 y.f1) := hcc 1 _ rfl
      have hf0_1 : wr.frozen? ⟨g0, ii * 9 + 1, none⟩ = false := hfr 1
      have hc0_2 : wr.cell? ⟨g0, ii * 9 + 2, none⟩ = some (.string y.f2) := hcc 2 _ rfl
      have hf0_2 : wr.frozen? ⟨g0, ii * 9 + 2, none⟩ = false := hfr 2
      have hc0_3 : wr.cell? ⟨g0, ii * 9 + 3, none⟩ = some (.bool y.f3) := hcc 3 _ rfl
      have hf0_3 : wr.frozen? ⟨g0, ii * 9 + 3, none⟩ = false := hfr 3
      have hc0_4 : wr.cell? ⟨g0, ii * 9 + 4, none⟩ = some (.int .i64 y.f4) := hcc 4 _ rfl
      have hf0_4 : wr.frozen? ⟨g0, ii * 9 + 4, none⟩ = false := hfr 4
      have hc0_5 : wr.cell? ⟨g0, ii * 9 + 5, none⟩ = some (.int .i64 y.f5) := hcc 5 _ rfl
      have hf0_5 : wr.frozen? ⟨g0, ii * 9 + 5, none⟩ = false := hfr 5
      have hc0_6 : wr.cell? ⟨g0, ii * 9 + 6, none⟩ = some (.int .i64 y.f6) := hcc 6 _ rfl
      have hf0_6 : wr.frozen? ⟨g0, ii * 9 + 6, none⟩ = false := hfr 6
      have hc0_7 : wr.cell? ⟨g0, ii * 9 + 7, none⟩ = some (.slice Av y.f7.length cv) := hcc 7 _ rfl
      have hf0_7 : wr.frozen? ⟨g0, ii * 9 + 7, none⟩ = false := hfr 7
      have hc0_8 : wr.cell? ⟨g0, ii * 9 + 8, none⟩ = some (.int .i64 y.f8) := hcc 8 _ rfl
      have hf0_8 : wr.frozen? ⟨g0, ii * 9 + 8, none⟩ = false := hfr 8
      clear hcc hfr
      have hgs0 : g0 < wr.heap.size := World.block_lt_of_cell? wr _ hc0_0
      have GG1 := Aside0.mk (Kd.H_seg HH0.out (by omega) (by omega) (seg := [.int .i64 (kk), .int .i64 (kk + 1)]) (j := 0) (show 0 + 2 ≤ 9 by decide) (by intro q hq; simp only [List.mem_cons, List.not_mem_nil, or_false] at hq; rcases hq with rfl | rfl <;> rfl))
      have HH1 : Aside0 (Kd.H k135 135 (((wr).setCell ⟨g0, ii * 9, none⟩ (.int .i64 (kk))).setCell ⟨g0, ii * 9 + 1, none⟩ (.int .i64 (kk + 1))) w0.heap.size P0 (.slice (some ⟨g0, 0, none⟩) l0.length cap) ys (ii : Int) oki [.int .i64 (kk), .int .i64 (kk + 1), .string y.f2, .bool y.f3, .int .i64 y.f4, .int .i64 y.f5, .int .i64 y.f6, .slice Av y.f7.length cv, .int .i64 y.f8]) := Aside0.mk GG1.out.1
      have HI1 : Aside0 (Kd.R k137 137 (((wr).setCell ⟨g0, ii * 9, none⟩ (.int .i64 (kk))).setCell ⟨g0, ii * 9 + 1, none⟩ (.int .i64 (kk + 1))) w0.heap.size oki (.slice Av y.f7.length cv) y.f7) := Aside0.mk (Kd.R_step HI0.out (fun k ho hlt => GG1.out.2.block k hlt (fun he => (hoki.out k ho).2 (by injection he))))
      have HB1 : Aside0 (Below w0.heap.size w0 (((wr).setCell ⟨g0, ii * 9, none⟩ (.int .i64 (kk))).setCell ⟨g0, ii * 9 + 1, none⟩ (.int .i64 (kk + 1)))) := Aside0.mk (below_cells hg1 [.int .i64 (kk), .int .i64 (kk + 1)] _ _ _ HB0.out)
      have HK1 : Aside0 (Kept w (((wr).setCell ⟨g0, ii * 9, none⟩ (.int .i64 (kk))).setCell ⟨g0, ii * 9 + 1, none⟩ (.int .i64 (kk + 1))) P0) := Aside0.mk (Kept.of_grown GG1.out.2 HK0.out (fun k hk => by injection hk with hk; subst hk; exact .inl HG.out))
      clear GG1
      obtain ⟨q2, hq2⟩ := (Lw.mt_ev (kk + 1 + 1) (by omega)).rounds
      go_wp2_with fail
      refine (laws_markText.calls q2 (kk + 1 + 1) _ _ hq2).mono ?_
      rintro e w3 ⟨rfl, hb⟩
      have HH2 := Aside0.mk (Kd.H_step HH1.out (fun k _ _ hlt => hb.block k hlt))
      have HI2 := Aside0.mk (Kd.R_step HI1.out (fun k _ hlt => hb.block k hlt))
      have HB2 := Aside0.mk (HB1.out.trans (hb.mono HB1.out.size))
      have HK2 := Aside0.mk (HK1.out.below hb)
      clear hb
      obtain ⟨-, hcc, hfr⟩ := H_open HH2.out (by omega) (by omega)
      have hc1_0 : w3.cell? ⟨g0, ii * 9, none⟩ = some (.int .i64 (kk)) := hcc 0 _ rfl
      have hf1_0 : w3.frozen? ⟨g0, ii * 9, none⟩ = false := hfr 0
      have hc1_1 : w3.cell? ⟨g0, ii * 9 + 1, none⟩ = some (.int .i64 (kk + 1)) := hcc 1 _ rfl
      have hf1_1 : w3.frozen? ⟨g0, ii * 9 + 1, none⟩ = false := hfr 1
      have hc1_2 : w3.cell? ⟨g0, ii * 9 + 2, none⟩ = some (.string y.f2) := hcc 2 _ rfl
      have hf1_2 : w3.frozen? ⟨g0, ii * 9 + 2, none⟩ = false := hfr 2
      have hc1_3 : w3.cell? ⟨g0, ii * 9 + 3, none⟩ = some (.bool y.f3) := hcc 3 _ rfl
      have hf1_3 : w3.frozen? ⟨g0, ii * 9 + 3, none⟩ = false := hfr 3
      have hc1_4 : w3.cell? ⟨g0, ii * 9 + 4, none⟩ = some (.int .i64 y.f4) := hcc 4 _ rfl
      have hf1_4 : w3.frozen? ⟨g0, ii * 9 + 4, none⟩ = false := hfr 4
      have hc1_5 : w3.cell? ⟨g0, ii * 9 + 5, none⟩ = some (.int .i64 y.f5) := hcc 5 _ rfl
      have hf1_5 : w3.frozen? ⟨g0, ii * 9 + 5, none⟩ = false := hfr 5
      have hc1_6 : w3.cell? ⟨g0, ii * 9 + 6, none⟩ = some (.int .i64 y.f6) := hcc 6 _ rfl
      have hf1_6 : w3.frozen? ⟨g0, ii * 9 + 6, none⟩ = false := hfr 6
      have hc1_7 : w3.cell? ⟨g0, ii * 9 + 7, none⟩ = some (.slice Av y.f7.length cv) := hcc 7 _ rfl
      have hf1_7 : w3.frozen? ⟨g0, ii * 9 + 7, none⟩ = false := hfr 7
      have hc1_8 : w3.cell? ⟨g0, ii * 9 + 8, none⟩ = some (.int .i64 y.f8) := hcc 8 _ rfl
      have hf1_8 : w3.frozen? ⟨g0, ii * 9 + 8, none⟩ = false := hfr 8
      clear hcc hfr
      have hgs1 : g0 < w3.heap.size := World.block_lt_of_cell? w3 _ hc1_0
      have GG3 := Aside0.mk (Kd.H_seg HH2.out (by omega) (by omega) (seg := [.string (Lw.mt (kk + 1 + 1)), .bool ((kk + 1 + 1 + 1) % 3 == 0), .int .i64 (kk + 1 + 1 + 1 + 1), .int .i64 (kk + 1 + 1 + 1 + 1 + 1), .int .i64 (kk + 1 + 1 + 1 + 1 + 1 + 1)]) (j := 2) (show 2 + 5 ≤ 9 by decide) (by intro q hq; simp only [List.mem_cons, List.not_mem_nil, or_false] at hq; rcases hq with rfl | rfl | rfl | rfl | rfl <;> rfl))
      have HH3 : Aside0 (Kd.H k135 135 ((((((w3).setCell ⟨g0, ii * 9 + 2, none⟩ (.string (Lw.mt (kk + 1 + 1)))).setCell ⟨g0, ii * 9 + 3, none⟩ (.bool ((kk + 1 + 1 + 1) % 3 == 0))).setCell ⟨g0, ii * 9 + 4, none⟩ (.int .i64 (kk + 1 + 1 + 1 + 1))).setCell ⟨g0, ii * 9 + 5, none⟩ (.int .i64 (kk + 1 + 1 + 1 + 1 + 1))).setCell ⟨g0, ii * 9 + 6, none⟩ (.int .i64 (kk + 1 + 1 + 1 + 1 + 1 + 1))) w0.heap.size P0 (.slice (some ⟨g0, 0, none⟩) l0.length cap) ys (ii : Int) oki [.int .i64 (kk), .int .i64 (kk + 1), .string (Lw.mt (kk + 1 + 1)), .bool ((kk + 1 + 1 + 1) % 3 == 0), .int .i64 (kk + 1 + 1 + 1 + 1), .int .i64 (kk + 1 + 1 + 1 + 1 + 1), .int .i64 (kk + 1 + 1 + 1 + 1 + 1 + 1), .slice Av y.f7.length cv, .int .i64 y.f8]) := Aside0.mk GG3.out.1
      have HI3 : Aside0 (Kd.R k137 137 ((((((w3).setCell ⟨g0, ii * 9 + 2, none⟩ (.string (Lw.mt (kk + 1 + 1)))).setCell ⟨g0, ii * 9 + 3, none⟩ (.bool ((kk + 1 + 1 + 1) % 3 == 0))).setCell ⟨g0, ii * 9 + 4, none⟩ (.int .i64 (kk + 1 + 1 + 1 + 1))).setCell ⟨g0, ii * 9 + 5, none⟩ (.int .i64 (kk + 1 + 1 + 1 + 1 + 1))).setCell ⟨g0, ii * 9 + 6, none⟩ (.int .i64 (kk + 1 + 1 + 1 + 1 + 1 + 1))) w0.heap.size oki (.slice Av y.f7.length cv) y.f7) := Aside0.mk (Kd.R_step HI2.out (fun k ho hlt => GG3.out.2.block k hlt (fun he => (hoki.out k ho).2 (by injection he))))
      have HB3 : Aside0 (Below w0.heap.size w0 ((((((w3).setCell ⟨g0, ii * 9 + 2, none⟩ (.string (Lw.mt (kk + 1 + 1)))).setCell ⟨g0, ii * 9 + 3, none⟩ (.bool ((kk + 1 + 1 + 1) % 3 == 0))).setCell ⟨g0, ii * 9 + 4, none⟩ (.int .i64 (kk + 1 + 1 + 1 + 1))).setCell ⟨g0, ii * 9 + 5, none⟩ (.int .i64 (kk + 1 + 1 + 1 + 1 + 1))).setCell ⟨g0, ii * 9 + 6, none⟩ (.int .i64 (kk + 1 + 1 + 1 + 1 + 1 + 1)))) := Aside0.mk (below_cells hg1 [.string (Lw.mt (kk + 1 + 1)), .bool ((kk + 1 + 1 + 1) % 3 == 0), .int .i64 (kk + 1 + 1 + 1 + 1), .int .i64 (kk + 1 + 1 + 1 + 1 + 1), .int .i64 (kk + 1 + 1 + 1 + 1 + 1 + 1)] _ _ _ HB2.out)
      have HK3 : Aside0 (Kept w ((((((w3).setCell ⟨g0, ii * 9 + 2, none⟩ (.string (Lw.mt (kk + 1 + 1)))).setCell ⟨g0, ii * 9 + 3, none⟩ (.bool ((kk + 1 + 1 + 1) % 3 == 0))).setCell ⟨g0, ii * 9 + 4, none⟩ (.int .i64 (kk + 1 + 1 + 1 + 1))).setCell ⟨g0, ii * 9 + 5, none⟩ (.int .i64 (kk + 1 + 1 + 1 + 1 + 1))).setCell ⟨g0, ii * 9 + 6, none⟩ (.int .i64 (kk + 1 + 1 + 1 + 1 + 1 + 1))) P0) := Aside0.mk (Kept.of_grown GG3.out.2 HK2.out (fun k hk => by injection hk with hk; subst hk; exact .inl HG.out))
      obtain ⟨q7, hq7⟩ := (Lw.markPieceS_ev y.f7 (kk + 1 + 1 + 1 + 1 + 1 + 1 + 1) (by omega) (by omega)).rounds
      go_wp2_with fail
      refine (laws_markPieceS.calls q7 oki (.slice Av y.f7.length cv) y.f7 (kk + 1 + 1 + 1 + 1 + 1 + 1 + 1) _ _ w0 _ HB3.out HI3.out hq7).mono ?_
      rintro e w8 ⟨rfl, hr, hb, hk⟩
      have HH4 := Aside0.mk (Kd.H_step HH3.out (fun k _ hn hlt => hk.2 k hlt hn))
      have HI4 : Aside0 (Kd.R k137 137 w8 w0.heap.size oki (.slice Av y.f7.length cv) (Lw.mkPieceS y.f7 (kk + 1 + 1 + 1 + 1 + 1 + 1 + 1))) := Aside0.mk (R_reok hr (fun k hk => HI3.out.1 k hk) (fun _ _ x cs hM => by obtain rfl := k137_openM hM; exact k137_mkM _ _ _ x))
      have HB4 := Aside0.mk hb
      have HK4 := Aside0.mk (HK3.out.then_ hk (fun k ho => .inl (hoki.out k ho).1))
      clear hb hk hr
      obtain ⟨-, hcc, hfr⟩ := H_open HH4.out (by omega) (by omega)
      have hc2_0 : w8.cell? ⟨g0, ii * 9, none⟩ = some (.int .i64 (kk)) := hcc 0 _ rfl
      have hf2_0 : w8.frozen? ⟨g0, ii * 9, none⟩ = false := hfr 0
      have hc2_1 : w8.cell? ⟨g0, ii * 9 + 1, none⟩ = some (.int .i64 (kk + 1)) := hcc 1 _ rfl
      have hf2_1 : w8.frozen? ⟨g0, ii * 9 + 1, none⟩ = false := hfr 1
      have hc2_2 : w8.cell? ⟨g0, ii * 9 + 2, none⟩ = some (.string (Lw.mt (kk + 1 + 1))) := hcc 2 _ rfl
      have hf2_2 : w8.frozen? ⟨g0, ii * 9 + 2, none⟩ = false := hfr 2
      have hc2_3 : w8.cell? ⟨g0, ii * 9 + 3, none⟩ = some (.bool ((kk + 1 + 1 + 1) % 3 == 0)) := hcc 3 _ rfl
      have hf2_3 : w8.frozen? ⟨g0, ii * 9 + 3, none⟩ = false := hfr 3
      have hc2_4 : w8.cell? ⟨g0, ii * 9 + 4, none⟩ = some (.int .i64 (kk + 1 + 1 + 1 + 1)) := hcc 4 _ rfl
      have hf2_4 : w8.frozen? ⟨g0, ii * 9 + 4, none⟩ = false := hfr 4
      have hc2_5 : w8.cell? ⟨g0, ii * 9 + 5, none⟩ = some (.int .i64 (kk + 1 + 1 + 1 + 1 + 1)) := hcc 5 _ rfl
      have hf2_5 : w8.frozen? ⟨g0, ii * 9 + 5, none⟩ = false := hfr 5
      have hc2_6 : w8.cell? ⟨g0, ii * 9 + 6, none⟩ = some (.int .i64 (kk + 1 + 1 + 1 + 1 + 1 + 1)) := hcc 6 _ rfl
      have hf2_6 : w8.frozen? ⟨g0, ii * 9 + 6, none⟩ = false := hfr 6
      have hc2_7 : w8.cell? ⟨g0, ii * 9 + 7, none⟩ = some (.slice Av y.f7.length cv) := hcc 7 _ rfl
      have hf2_7 : w8.frozen? ⟨g0, ii * 9 + 7, none⟩ = false := hfr 7
      have hc2_8 : w8.cell? ⟨g0, ii * 9 + 8, none⟩ = some (.int .i64 y.f8) := hcc 8 _ rfl
      have hf2_8 : w8.frozen? ⟨g0, ii * 9 + 8, none⟩ = false := hfr 8
      clear hcc hfr
      have hgs2 : g0 < w8.heap.size := World.block_lt_of_cell? w8 _ hc2_0
      have GG5 := Aside0.mk (Kd.H_seg HH4.out (by omega) (by omega) (seg := [.int .i64 (kk + 1 + 1 + 1 + 1 + 1 + 1 + 1 + 2 * (y.f7.length : Int))]) (j := 8) (show 8 + 1 ≤ 9 by decide) (by intro q hq; simp only [List.mem_cons, List.not_mem_nil, or_false] at hq; rcases hq with rfl <;> rfl))
      have HH5 : Aside0 (Kd.H k135 135 ((w8).setCell ⟨g0, ii * 9 + 8, none⟩ (.int .i64 (kk + 1 + 1 + 1 + 1 + 1 + 1 + 1 + 2 * (y.f7.length : Int)))) w0.heap.size P0 (.slice (some ⟨g0, 0, none⟩) l0.length cap) ys (ii : Int) oki [.int .i64 (kk), .int .i64 (kk + 1), .string (Lw.mt (kk + 1 + 1)), .bool ((kk + 1 + 1 + 1) % 3 == 0), .int .i64 (kk + 1 + 1 + 1 + 1), .int .i64 (kk + 1 + 1 + 1 + 1 + 1), .int .i64 (kk + 1 + 1 + 1 + 1 + 1 + 1), .slice Av y.f7.length cv, .int .i64 (kk + 1 + 1 + 1 + 1 + 1 + 1 + 1 + 2 * (y.f7.length : Int))]) := Aside0.mk GG5.out.1
      have HI5 : Aside0 (Kd.R k137 137 ((w8).setCell ⟨g0, ii * 9 + 8, none⟩ (.int .i64 (kk + 1 + 1 + 1 + 1 + 1 + 1 + 1 + 2 * (y.f7.length : Int)))) w0.heap.size oki (.slice Av y.f7.length cv) (Lw.mkPieceS y.f7 (kk + 1 + 1 + 1 + 1 + 1 + 1 + 1))) := Aside0.mk (Kd.R_step HI4.out (fun k ho hlt => GG5.out.2.block k hlt (fun he => (hoki.out k ho).2 (by injection he))))
      have HB5 : Aside0 (Below w0.heap.size w0 ((w8).setCell ⟨g0, ii * 9 + 8, none⟩ (.int .i64 (kk + 1 + 1 + 1 + 1 + 1 + 1 + 1 + 2 * (y.f7.length : Int))))) := Aside0.mk (below_cells hg1 [.int .i64 (kk + 1 + 1 + 1 + 1 + 1 + 1 + 1 + 2 * (y.f7.length : Int))] _ _ _ HB4.out)
      have HK5 : Aside0 (Kept w ((w8).setCell ⟨g0, ii * 9 + 8, none⟩ (.int .i64 (kk + 1 + 1 + 1 + 1 + 1 + 1 + 1 + 2 * (y.f7.length : Int)))) P0) := Aside0.mk (Kept.of_grown GG5.out.2 HK4.out (fun k hk => by injection hk with hk; subst hk; exact .inl HG.out))
      go_wp2
      go_roundg (l0.length - (ii + 1))
      case measure => omega
      case rel =>
        have hyl := HYL.out
        refine ⟨ii + 1, kk + 1 + 1 + 1 + 1 + 1 + 1 + 1 + 2 * (y.f7.length : Int) + 1, ys.set ii (mkInode y kk), rfl, by go_num, by omega, Nat.le_refl _, by omega, ?_, ?_, ⟨by rw [List.length_set]; exact hyl⟩, ?_, HB5, HK5⟩
        · rw [← hcn, HDr.out, cntInodeS, cntInode, List.drop_set_of_lt (by omega)]; omega
        · refine ⟨?_⟩
          rw [← HR.out, HDr.out, mkInodeS]
          rw [show kk + cntInode y = kk + 1 + 1 + 1 + 1 + 1 + 1 + 1 + 2 * (y.f7.length : Int) + 1 from by unfold cntInode; omega, List.drop_set_of_lt (by omega), ← List.take_append_getElem (by rw [List.length_set]; omega), List.take_set, List.set_eq_of_length_le (by simp; omega), List.getElem_set_self, List.append_assoc, List.singleton_append]
        · exact ⟨Kd.H_back HH5.out (k135_mkM _ _ _ (mkInode y kk) HI5.out) (fun _ hk => hk)⟩
    · have hltz : ¬ (ii : Int) < (l0.length : Int) := by omega
      have hd1 : decide ((ii : Int) < (l0.length : Int)) = false := decide_eq_false hltz
      have hd2 : decide (ii < l0.length) = false := decide_eq_false hlt
      have hnil : ys.drop ii = [] := List.drop_eq_nil_of_le (by omega)
      have htk : ys.take ii = ys := List.take_of_length_le (by omega)
      have HF : Aside0 (ys = res) := ⟨by rw [← HR.out, hnil, htk]; simp [mkInodeS]⟩
      have hfk : fin = kk := by rw [← hcn, hnil]; simp [cntInodeS]
      subst hfk
      clear hcn hnil htk hyl
      go_wp2
      go_ret
      exact ⟨rfl, by rw [← HF.out]; exact HS.out, HB0.out, HK0.out⟩
end Go.Proofs.Ytfgnaneajonapaa.Pr

namespace Go.Proofs.Ytfgnaneajonapaa.Pr
open Go.RowKit Go.Proofs.YtfgnaneajonapaaW.PrintWords Go.Proofs.YtfgnaneajonapaaW.PrintLast Go.Proofs.YtfgnaneajonapaaW.PrintMore
attribute [local go_sem] max2_int min2_int max_two min_two max_three min_three max_four min_four
set_option linter.unusedVariables false
set_option linter.unusedSimpArgs false
def laws_eqInode.f (k : Nat) (a0_0 : Int) (a0_1 : Int) (a0_2 : ByteArray) (a0_3 : Bool) (a0_4 : Int) (a0_5 : Int) (a0_6 : Int) (l0_7 : List (S137)) (a0_8 : Int) (a1_0 : Int) (a1_1 : Int) (a1_2 : ByteArray) (a1_3 : Bool) (a1_4 : Int) (a1_5 : Int) (a1_6 : Int) (l1_7 : List (S137)) (a1_8 : Int) : Option (Bool) := if a0_0 = a1_0 then (if a0_1 = a1_1 then (if a0_2.toList = a1_2.toList then (if (a0_3 != a1_3) = true then (some false) else (if a0_4 = a1_4 then (if a0_5 = a1_5 then (if a0_6 = a1_6 then ((laws_eqPieceS.f k l0_7 l1_7).bind fun t295 => (if t295 = true then (if a0_8 = a1_8 then (some true) else (some false)) else (some false))) else (some false)) else (some false)) else (some false))) else (some false)) else (some false)) else (some false)
set_option maxHeartbeats 8000000 in
set_option maxRecDepth 100000 in
theorem laws_eqInode.calls (k : Nat) (a0_0 : Int) (a0_1 : Int) (a0_2 : ByteArray) (a0_3 : Bool) (a0_4 : Int) (a0_5 : Int) (a0_6 : Int) (A0_7 : Option Addr) (c0_7 : Nat) (l0_7 : List (S137)) (a0_8 : Int) (a1_0 : Int) (a1_1 : Int) (a1_2 : ByteArray) (a1_3 : Bool) (a1_4 : Int) (a1_5 : Int) (a1_6 : Int) (A1_7 : Option Addr) (c1_7 : Nat) (l1_7 : List (S137)) (a1_8 : Int) (r : Bool) (w : World) (hr0_7 : Kd.C k137 w A0_7 l0_7.length l0_7) (hc0_7 : l0_7.length ≤ c0_7) (hr1_7 : Kd.C k137 w A1_7 l1_7.length l1_7) (hc1_7 : l1_7.length ≤ c1_7) (h : laws_eqInode.f k a0_0 a0_1 a0_2 a0_3 a0_4 a0_5 a0_6 l0_7 a0_8 a1_0 a1_1 a1_2 a1_3 a1_4 a1_5 a1_6 l1_7 a1_8 = some r) (hr_ : Aside0 (r = true) := by exact ⟨rfl⟩) :
    Calls Try.prog 152 #[.agg #[.int .i64 a0_0, .int .i64 a0_1, .string a0_2, .bool a0_3, .int .i64 a0_4, .int .i64 a0_5, .int .i64 a0_6, .slice A0_7 l0_7.length c0_7, .int .i64 a0_8], .agg #[.int .i64 a1_0, .int .i64 a1_1, .string a1_2, .bool a1_3, .int .i64 a1_4, .int .i64 a1_5, .int .i64 a1_6, .slice A1_7 l1_7.length c1_7, .int .i64 a1_8]] w fun e w' => e = .returned (.bool r) ∧ Below w.heap.size w w' := by
  have hu135 := Try.underlying135
  have HR0_7 := Aside0.mk hr0_7
  have HC0_7 := Aside0.mk hc0_7
  clear hr0_7 hc0_7
  have HR1_7 := Aside0.mk hr1_7
  have HC1_7 := Aside0.mk hc1_7
  clear hr1_7 hc1_7
  have HB := Aside0.mk (Below.refl w.heap.size w)
  have H : (if a0_0 = a1_0 then (if a0_1 = a1_1 then (if a0_2.toList = a1_2.toList then (if (a0_3 != a1_3) = true then (some false) else (if a0_4 = a1_4 then (if a0_5 = a1_5 then (if a0_6 = a1_6 then ((laws_eqPieceS.f k l0_7 l1_7).bind fun t295 => (if t295 = true then (if a0_8 = a1_8 then (some true) else (some false)) else (some false))) else (some false)) else (some false)) else (some false))) else (some false)) else (some false)) else (some false)) = some r := h
  clear h
  by_cases c3 : a0_0 = a1_0
  · rw [if_pos c3] at H
    have c3b0 : (a0_0 == a1_0) = true := beq_iff_eq.mpr c3
    have c3b1 : (a0_0 != a1_0) = false := bne_eq_false_iff_eq.mpr c3
    clear c3
    by_cases c4 : a0_1 = a1_1
    · rw [if_pos c4] at H
      have c4b0 : (a0_1 == a1_1) = true := beq_iff_eq.mpr c4
      have c4b1 : (a0_1 != a1_1) = false := bne_eq_false_iff_eq.mpr c4
      clear c4
      by_cases c5 : a0_2.toList = a1_2.toList
      · rw [if_pos c5] at H
        have c5b0 : (a0_2.toList == a1_2.toList) = true := beq_iff_eq.mpr c5
        have c5b1 : (a0_2.toList != a1_2.toList) = false := bne_eq_false_iff_eq.mpr c5
        clear c5
        by_cases c6 : (a0_3 != a1_3) = true
        · rw [if_pos c6] at H
          have c6b0 : (a0_3 != a1_3) = true := c6
          (try (have c6b1 : decide (a0_3 = a1_3) = false := by simpa using c6))
          (try (have c6b2 : (a0_3 == a1_3) = false := by simpa using c6))
          (try (have c6b3 : ¬ (a0_3 = a1_3) := by simpa using c6))
          clear c6
          exact absurd ((Option.some.inj H).trans hr_.out) (by decide)
        · rw [if_neg c6] at H
          have c6b0 : (a0_3 != a1_3) = false := by simpa using c6
          (try (have c6b1 : decide (a0_3 = a1_3) = true := by simpa using c6))
          (try (have c6b2 : (a0_3 == a1_3) = true := by simpa using c6))
          clear c6
          by_cases c7 : a0_4 = a1_4
          · rw [if_pos c7] at H
            have c7b0 : (a0_4 == a1_4) = true := beq_iff_eq.mpr c7
            have c7b1 : (a0_4 != a1_4) = false := bne_eq_false_iff_eq.mpr c7
            clear c7
            by_cases c8 : a0_5 = a1_5
            · rw [if_pos c8] at H
              have c8b0 : (a0_5 == a1_5) = true := beq_iff_eq.mpr c8
              have c8b1 : (a0_5 != a1_5) = false := bne_eq_false_iff_eq.mpr c8
              clear c8
              by_cases c9 : a0_6 = a1_6
              · rw [if_pos c9] at H
                have c9b0 : (a0_6 == a1_6) = true := beq_iff_eq.mpr c9
                have c9b1 : (a0_6 != a1_6) = false := bne_eq_false_iff_eq.mpr c9
                clear c9
                replace H := Option.bind_eq_some_iff.mp H
                obtain ⟨t295, A100, H⟩ := H
                replace H : (if t295 = true then (if a0_8 = a1_8 then (some true) else (some false)) else (some false)) = some r := H
                have A10 := Aside0.mk A100
                clear A100
                by_cases c11 : t295 = true
                · subst c11
                  have H1 : (if a0_8 = a1_8 then (some true) else (some false)) = some r := by rw [if_pos rfl] at H; exact H
                  clear H
                  have H := H1
                  clear H1
                  by_cases c12 : a0_8 = a1_8
                  · rw [if_pos c12] at H
                    have c12b0 : (a0_8 == a1_8) = true := beq_iff_eq.mpr c12
                    have c12b1 : (a0_8 != a1_8) = false := bne_eq_false_iff_eq.mpr c12
                    clear c12
                    obtain rfl := Option.some.inj H
                    go_enter Try.func152, Try.ntmps152
                    go_wp2_with (first | ((with_reducible refine gate_dst (N := 2) rfl ?_); refine BX 2 #[.int .i64 a0_0, .int .i64 a0_1, .string a0_2, .bool a0_3, .int .i64 a0_4, .int .i64 a0_5, .int .i64 a0_6, .slice A0_7 l0_7.length c0_7, .int .i64 a0_8] 135 ?_; intro gb293 hg w13 hbox hb; have BK293 := Aside0.mk (hbox); have GW293 : Aside0 (w.heap.size ≤ gb293) := WG hg (BB HB.out); have GE293 := GW293; replace HB := Aside0.mk (below_step (BB HB.out) hb); clear hb hbox hg) | ((with_reducible refine gate_dst (N := 3) rfl ?_); refine BX 3 #[.int .i64 a1_0, .int .i64 a1_1, .string a1_2, .bool a1_3, .int .i64 a1_4, .int .i64 a1_5, .int .i64 a1_6, .slice A1_7 l1_7.length c1_7, .int .i64 a1_8] 135 ?_; intro gb294 hg w14 hbox hb; have BK294 := Aside0.mk (hbox); have GW294 : Aside0 (w.heap.size ≤ gb294) := WG hg (BB1 HB.out GE293.out); have GE294 := GW294; have NB293_294 := NL BK293.out hg; have NB294_293 := NG BK293.out hg; replace BK293 := Aside0.mk (KB BK293.out hb); replace HB := Aside0.mk (below_step (BB1 HB.out GE293.out) hb); clear hb hbox hg; have hnb15 := NB293_294.out; have hnc15 := NB294_293.out; have hcz16 := blk_cell BK293.out; have hfz16 := blk_frozen BK293.out; have hcz17 := blk_cell BK294.out; have hfz17 := blk_frozen BK294.out) | ((with_reducible refine gate_callee (f := 180) rfl ?_); refine GL (some 44) rfl rfl Try.func180 #[.slice A0_7 l0_7.length c0_7, .slice A1_7 l1_7.length c1_7] rfl ?_; (with_reducible refine (laws_eqPieceS.calls k _ _ l0_7 _ _ l1_7 true _ ?side1 ?side2 ?side3 ?side4 A10.out).mono ?_); (case side1 => exact CC (Kd.C_below HR0_7.out HB.out)); (case side2 => exact HC0_7.out); (case side3 => exact CC (Kd.C_below HR1_7.out HB.out)); (case side4 => exact HC1_7.out); rintro e w18 ⟨rfl, hb⟩; refine ⟨_, rfl, ?_⟩; replace BK293 := Aside0.mk (KB BK293.out hb); replace BK294 := Aside0.mk (KB BK294.out hb); replace HB := Aside0.mk (below_step (BB2 HB.out GE293.out GE294.out) hb); (try clear hb); have hcz19 := blk_cell BK293.out; have hfz19 := blk_frozen BK293.out; have hcz20 := blk_cell BK294.out; have hfz20 := blk_frozen BK294.out))
                    go_ret
                    exact ⟨ER, (BB2 HB.out GE293.out GE294.out)⟩
                  · rw [if_neg c12] at H
                    have c12b0 : (a0_8 == a1_8) = false := beq_eq_false_iff_ne.mpr c12
                    have c12b1 : (a0_8 != a1_8) = true := bne_iff_ne.mpr c12
                    exact absurd ((Option.some.inj H).trans hr_.out) (by decide)
                · replace c11 := Bool.eq_false_iff.mpr c11
                  subst c11
                  have H1 : (some false) = some r := by rw [if_neg (show ¬ (false = true) by decide)] at H; exact H
                  clear H
                  have H := H1
                  clear H1
                  exact absurd ((Option.some.inj H).trans hr_.out) (by decide)
              · rw [if_neg c9] at H
                have c9b0 : (a0_6 == a1_6) = false := beq_eq_false_iff_ne.mpr c9
                have c9b1 : (a0_6 != a1_6) = true := bne_iff_ne.mpr c9
                exact absurd ((Option.some.inj H).trans hr_.out) (by decide)
            · rw [if_neg c8] at H
              have c8b0 : (a0_5 == a1_5) = false := beq_eq_false_iff_ne.mpr c8
              have c8b1 : (a0_5 != a1_5) = true := bne_iff_ne.mpr c8
              exact absurd ((Option.some.inj H).trans hr_.out) (by decide)
          · rw [if_neg c7] at H
            have c7b0 : (a0_4 == a1_4) = false := beq_eq_false_iff_ne.mpr c7
            have c7b1 : (a0_4 != a1_4) = true := bne_iff_ne.mpr c7
            exact absurd ((Option.some.inj H).trans hr_.out) (by decide)
      · rw [if_neg c5] at H
        have c5b0 : (a0_2.toList == a1_2.toList) = false := beq_eq_false_iff_ne.mpr c5
        have c5b1 : (a0_2.toList != a1_2.toList) = true := bne_iff_ne.mpr c5
        exact absurd ((Option.some.inj H).trans hr_.out) (by decide)
    · rw [if_neg c4] at H
      have c4b0 : (a0_1 == a1_1) = false := beq_eq_false_iff_ne.mpr c4
      have c4b1 : (a0_1 != a1_1) = true := bne_iff_ne.mpr c4
      exact absurd ((Option.some.inj H).trans hr_.out) (by decide)
  · rw [if_neg c3] at H
    have c3b0 : (a0_0 == a1_0) = false := beq_eq_false_iff_ne.mpr c3
    have c3b1 : (a0_0 != a1_0) = true := bne_iff_ne.mpr c3
    exact absurd ((Option.some.inj H).trans hr_.out) (by decide)

end Go.Proofs.Ytfgnaneajonapaa.Pr

namespace Go.Proofs.Ytfgnaneajonapaa.Pr
open Go.RowKit Go.Proofs.YtfgnaneajonapaaW.PrintWords Go.Proofs.YtfgnaneajonapaaW.PrintLast Go.Proofs.YtfgnaneajonapaaW.PrintMore
attribute [local go_sem] max2_int min2_int max_two min_two max_three min_three max_four min_four
set_option linter.unusedVariables false
set_option linter.unusedSimpArgs false
def laws_eqInodeS.l0 : Nat → List (S135) → List (S135) → Int → Option (Bool)
  | 0, _, _, _ => none
  | k + 1, x0, x1, x5 => if x5 < (x0.length : Int) then (if 0 ≤ x5 then (if x5 < (x1.length : Int) then ((laws_eqInode.f k ((rd_T135 x0 x5).f0) ((rd_T135 x0 x5).f1) ((rd_T135 x0 x5).f2) ((rd_T135 x0 x5).f3) ((rd_T135 x0 x5).f4) ((rd_T135 x0 x5).f5) ((rd_T135 x0 x5).f6) ((rd_T135 x0 x5).f7) ((rd_T135 x0 x5).f8) ((rd_T135 x1 x5).f0) ((rd_T135 x1 x5).f1) ((rd_T135 x1 x5).f2) ((rd_T135 x1 x5).f3) ((rd_T135 x1 x5).f4) ((rd_T135 x1 x5).f5) ((rd_T135 x1 x5).f6) ((rd_T135 x1 x5).f7) ((rd_T135 x1 x5).f8)).bind fun t298 => (if t298 = true then (laws_eqInodeS.l0 k x0 x1 (wrap64 (x5 + 1))) else (some false))) else (none)) else (none)) else (some true)
def laws_eqInodeS.f (k : Nat) (l0 : List (S135)) (l1 : List (S135)) : Option (Bool) := if (l0.length : Int) = (l1.length : Int) then (laws_eqInodeS.l0 k l0 l1 0) else (some false)
def laws_eqInodeS.T6 : Bool × List (List Nat × List Nat) := (true, [([], []), ([], []), ([0, 1], [0, 1]), ([2], [2]), ([], []), ([], []), ([4, 5], [4, 5]), ([6], [6]), ([3, 7], [3, 7]), ([8], [8])])
def laws_eqInodeS.B6 : List Nat := [0, 0, 3, 7, 0, 0, 48, 112, 255, 511]
theorem laws_eqInodeS.tab6 : rtab .any (opsOf Try.f108 6) = laws_eqInodeS.T6 := by kernel_rfl
theorem laws_eqInodeS.bits6 : waitsOk laws_eqInodeS.T6.2 laws_eqInodeS.B6 = true := by kernel_rfl
set_option maxHeartbeats 8000000 in
set_option maxRecDepth 100000 in
theorem laws_eqInodeS.calls (k : Nat) (A0 : Option Addr) (c0 : Nat) (l0 : List (S135)) (A1 : Option Addr) (c1 : Nat) (l1 : List (S135)) (r : Bool) (w : World) (hr0 : Kd.C k135 w A0 l0.length l0) (hc0 : l0.length ≤ c0) (hr1 : Kd.C k135 w A1 l1.length l1) (hc1 : l1.length ≤ c1) (h : laws_eqInodeS.f k l0 l1 = some r) (hr_ : Aside0 (r = true) := by exact ⟨rfl⟩) :
    Calls Try.prog 108 #[.slice A0 l0.length c0, .slice A1 l1.length c1] w fun e w' => e = .returned (.bool r) ∧ Below w.heap.size w w' := by
  have hu135 := Try.underlying135
  have HR0 := Aside0.mk hr0
  have HC0 := Aside0.mk hc0
  clear hr0 hc0
  have HR1 := Aside0.mk hr1
  have HC1 := Aside0.mk hc1
  clear hr1 hc1
  have HB := Aside0.mk (Below.refl w.heap.size w)
  have H : (if (l0.length : Int) = (l1.length : Int) then (laws_eqInodeS.l0 k l0 l1 0) else (some false)) = some r := h
  clear h
  by_cases c3 : (l0.length : Int) = (l1.length : Int)
  · rw [if_pos c3] at H
    have c3b0 : ((l0.length : Int) == (l1.length : Int)) = true := beq_iff_eq.mpr c3
    have c3b1 : ((l0.length : Int) != (l1.length : Int)) = false := bne_eq_false_iff_eq.mpr c3
    have c3b2 : (l0.length == l1.length) = true := by first | simpa using c3 | (simp at c3 ⊢; omega)
    clear c3
    have H' := Aside0.mk H
    clear H
    go_enter Try.func108, Try.ntmps108
    go_wp2
    go_loopg [5] k (fun kq v5 w' => ∃ (x5_1 : Int), v5 = .int .i64 x5_1 ∧ Aside0 (laws_eqInodeS.l0 kq l0 l1 x5_1 = some r) ∧ Aside0 (kq ≤ k) ∧ Aside0 (Below w.heap.size w w'))
    case atStart => exact ⟨(0), FR, H', ⟨Nat.le_refl _⟩, ⟨(BB HB.out)⟩⟩
    case round =>
      clear H'
      try clear c1
      try clear p2
      try clear c3
      try clear c3b0
      try clear c3b1
      try clear c3b2
      obtain ⟨x5_1, rfl, HA, HK1, HB⟩ := hrel
      cases gk with
      | zero => exact absurd HA.out (by simp [laws_eqInodeS.l0])
      | succ k1 =>
        have H := HA.out
        clear HA
        simp only [laws_eqInodeS.l0] at H
        by_cases c4 : x5_1 < (l0.length : Int)
        · rw [if_pos c4] at H
          have c4b0 : decide (x5_1 < (l0.length : Int)) = true := decide_eq_true c4
          clear c4
          by_cases c5 : 0 ≤ x5_1
          · rw [if_pos c5] at H
            have c5b0 : decide (0 ≤ x5_1) = true := decide_eq_true c5
            clear c5
            by_cases c6 : x5_1 < (l1.length : Int)
            · rw [if_pos c6] at H
              have c6b0 : decide (x5_1 < (l1.length : Int)) = true := decide_eq_true c6
              clear c6
              replace H := Option.bind_eq_some_iff.mp H
              obtain ⟨t298, A70, H⟩ := H
              replace H : (if t298 = true then (laws_eqInodeS.l0 k1 l0 l1 (wrap64 (x5_1 + 1))) else (some false)) = some r := H
              have A7 := Aside0.mk A70
              clear A70
              by_cases c8 : t298 = true
              · subst c8
                have H1 : (laws_eqInodeS.l0 k1 l0 l1 (wrap64 (x5_1 + 1))) = some r := by rw [if_pos rfl] at H; exact H
                clear H
                have H := H1
                clear H1
                have H' := Aside0.mk H
                clear H
                try go_wp2
                have n0_ := Aside0.mk (below_drew1 HB.out)
                clear HB
                have HB := n0_
                clear n0_
                have p296 : 0 ≤ (x5_1 : Int) := DT
                have q296 : x5_1 < (l0.length : Int) := DT
                obtain ⟨ad296, A296_7, c296_7, e296, hx296_0, hx296_1, hx296_2, hx296_3, hx296_4, hx296_5, hx296_6, hx296_7, hx296_8, hl296_7, hi296_7⟩ := at_T135 HR0.out x5_1 p296 q296
                have hw296_8 := hx296_8
                have hw296_7 := hx296_7
                have hw296_6 := hx296_6
                have hw296_5 := hx296_5
                have hw296_4 := hx296_4
                have hw296_3 := hx296_3
                have hw296_2 := hx296_2
                have hw296_1 := hx296_1
                have hw296_0 := hx296_0
                cases e296
                replace hx296_0 := (HB.out.cell (World.block_lt_of_cell? w _ hx296_0)).trans hx296_0
                replace hx296_1 := (HB.out.cell (World.block_lt_of_cell? w _ hx296_1)).trans hx296_1
                replace hx296_2 := (HB.out.cell (World.block_lt_of_cell? w _ hx296_2)).trans hx296_2
                replace hx296_3 := (HB.out.cell (World.block_lt_of_cell? w _ hx296_3)).trans hx296_3
                replace hx296_4 := (HB.out.cell (World.block_lt_of_cell? w _ hx296_4)).trans hx296_4
                replace hx296_5 := (HB.out.cell (World.block_lt_of_cell? w _ hx296_5)).trans hx296_5
                replace hx296_6 := (HB.out.cell (World.block_lt_of_cell? w _ hx296_6)).trans hx296_6
                replace hx296_7 := (HB.out.cell (World.block_lt_of_cell? w _ hx296_7)).trans hx296_7
                replace hx296_8 := (HB.out.cell (World.block_lt_of_cell? w _ hx296_8)).trans hx296_8
                have HR296_7 := Aside0.mk hi296_7
                have HC296_7 := Aside0.mk hl296_7
                clear hi296_7 hl296_7
                replace p296 := eq_true p296
                replace q296 := eq_true q296
                have p297 : 0 ≤ (x5_1 : Int) := DT
                have q297 : x5_1 < (l1.length : Int) := DT
                obtain ⟨ad297, A297_7, c297_7, e297, hx297_0, hx297_1, hx297_2, hx297_3, hx297_4, hx297_5, hx297_6, hx297_7, hx297_8, hl297_7, hi297_7⟩ := at_T135 HR1.out x5_1 p297 q297
                have hw297_8 := hx297_8
                have hw297_7 := hx297_7
                have hw297_6 := hx297_6
                have hw297_5 := hx297_5
                have hw297_4 := hx297_4
                have hw297_3 := hx297_3
                have hw297_2 := hx297_2
                have hw297_1 := hx297_1
                have hw297_0 := hx297_0
                cases e297
                replace hx297_0 := (HB.out.cell (World.block_lt_of_cell? w _ hx297_0)).trans hx297_0
                replace hx297_1 := (HB.out.cell (World.block_lt_of_cell? w _ hx297_1)).trans hx297_1
                replace hx297_2 := (HB.out.cell (World.block_lt_of_cell? w _ hx297_2)).trans hx297_2
                replace hx297_3 := (HB.out.cell (World.block_lt_of_cell? w _ hx297_3)).trans hx297_3
                replace hx297_4 := (HB.out.cell (World.block_lt_of_cell? w _ hx297_4)).trans hx297_4
                replace hx297_5 := (HB.out.cell (World.block_lt_of_cell? w _ hx297_5)).trans hx297_5
                replace hx297_6 := (HB.out.cell (World.block_lt_of_cell? w _ hx297_6)).trans hx297_6
                replace hx297_7 := (HB.out.cell (World.block_lt_of_cell? w _ hx297_7)).trans hx297_7
                replace hx297_8 := (HB.out.cell (World.block_lt_of_cell? w _ hx297_8)).trans hx297_8
                have HR297_7 := Aside0.mk hi297_7
                have HC297_7 := Aside0.mk hl297_7
                clear hi297_7 hl297_7
                replace p297 := eq_true p297
                replace q297 := eq_true q297
                refine start_ (n := 10) (S := fun w' => w'.cell? (ad296.add ((x5_1).toNat * 9)) = some (.int .i64 ((rd_T135 l0 x5_1).f0)) ∧ w'.cell? ⟨(ad296.add ((x5_1).toNat * 9)).block, (ad296.add ((x5_1).toNat * 9)).off + 1, none⟩ = some (.int .i64 ((rd_T135 l0 x5_1).f1)) ∧ w'.cell? ⟨(ad296.add ((x5_1).toNat * 9)).block, (ad296.add ((x5_1).toNat * 9)).off + 2, none⟩ = some (.string ((rd_T135 l0 x5_1).f2)) ∧ w'.cell? ⟨(ad296.add ((x5_1).toNat * 9)).block, (ad296.add ((x5_1).toNat * 9)).off + 3, none⟩ = some (.bool ((rd_T135 l0 x5_1).f3)) ∧ w'.cell? ⟨(ad296.add ((x5_1).toNat * 9)).block, (ad296.add ((x5_1).toNat * 9)).off + 4, none⟩ = some (.int .i64 ((rd_T135 l0 x5_1).f4)) ∧ w'.cell? ⟨(ad296.add ((x5_1).toNat * 9)).block, (ad296.add ((x5_1).toNat * 9)).off + 5, none⟩ = some (.int .i64 ((rd_T135 l0 x5_1).f5)) ∧ w'.cell? ⟨(ad296.add ((x5_1).toNat * 9)).block, (ad296.add ((x5_1).toNat * 9)).off + 6, none⟩ = some (.int .i64 ((rd_T135 l0 x5_1).f6)) ∧ w'.cell? ⟨(ad296.add ((x5_1).toNat * 9)).block, (ad296.add ((x5_1).toNat * 9)).off + 7, none⟩ = some (.slice A296_7 ((rd_T135 l0 x5_1).f7).length c296_7) ∧ w'.cell? ⟨(ad296.add ((x5_1).toNat * 9)).block, (ad296.add ((x5_1).toNat * 9)).off + 8, none⟩ = some (.int .i64 ((rd_T135 l0 x5_1).f8)) ∧ w'.cell? (ad297.add ((x5_1).toNat * 9)) = some (.int .i64 ((rd_T135 l1 x5_1).f0)) ∧ w'.cell? ⟨(ad297.add ((x5_1).toNat * 9)).block, (ad297.add ((x5_1).toNat * 9)).off + 1, none⟩ = some (.int .i64 ((rd_T135 l1 x5_1).f1)) ∧ w'.cell? ⟨(ad297.add ((x5_1).toNat * 9)).block, (ad297.add ((x5_1).toNat * 9)).off + 2, none⟩ = some (.string ((rd_T135 l1 x5_1).f2)) ∧ w'.cell? ⟨(ad297.add ((x5_1).toNat * 9)).block, (ad297.add ((x5_1).toNat * 9)).off + 3, none⟩ = some (.bool ((rd_T135 l1 x5_1).f3)) ∧ w'.cell? ⟨(ad297.add ((x5_1).toNat * 9)).block, (ad297.add ((x5_1).toNat * 9)).off + 4, none⟩ = some (.int .i64 ((rd_T135 l1 x5_1).f4)) ∧ w'.cell? ⟨(ad297.add ((x5_1).toNat * 9)).block, (ad297.add ((x5_1).toNat * 9)).off + 5, none⟩ = some (.int .i64 ((rd_T135 l1 x5_1).f5)) ∧ w'.cell? ⟨(ad297.add ((x5_1).toNat * 9)).block, (ad297.add ((x5_1).toNat * 9)).off + 6, none⟩ = some (.int .i64 ((rd_T135 l1 x5_1).f6)) ∧ w'.cell? ⟨(ad297.add ((x5_1).toNat * 9)).block, (ad297.add ((x5_1).toNat * 9)).off + 7, none⟩ = some (.slice A297_7 ((rd_T135 l1 x5_1).f7).length c297_7) ∧ w'.cell? ⟨(ad297.add ((x5_1).toNat * 9)).block, (ad297.add ((x5_1).toNat * 9)).off + 8, none⟩ = some (.int .i64 ((rd_T135 l1 x5_1).f8))) (ds := []) #[false, false, false, false, false, false, false, false, false, false] (by kernel_rfl) rfl rfl ⟨((HB.out.cell (World.block_lt_of_cell? w _ hw296_0)).trans hw296_0), ((HB.out.cell (World.block_lt_of_cell? w _ hw296_1)).trans hw296_1), ((HB.out.cell (World.block_lt_of_cell? w _ hw296_2)).trans hw296_2), ((HB.out.cell (World.block_lt_of_cell? w _ hw296_3)).trans hw296_3), ((HB.out.cell (World.block_lt_of_cell? w _ hw296_4)).trans hw296_4), ((HB.out.cell (World.block_lt_of_cell? w _ hw296_5)).trans hw296_5), ((HB.out.cell (World.block_lt_of_cell? w _ hw296_6)).trans hw296_6), ((HB.out.cell (World.block_lt_of_cell? w _ hw296_7)).trans hw296_7), ((HB.out.cell (World.block_lt_of_cell? w _ hw296_8)).trans hw296_8), ((HB.out.cell (World.block_lt_of_cell? w _ hw297_0)).trans hw297_0), ((HB.out.cell (World.block_lt_of_cell? w _ hw297_1)).trans hw297_1), ((HB.out.cell (World.block_lt_of_cell? w _ hw297_2)).trans hw297_2), ((HB.out.cell (World.block_lt_of_cell? w _ hw297_3)).trans hw297_3), ((HB.out.cell (World.block_lt_of_cell? w _ hw297_4)).trans hw297_4), ((HB.out.cell (World.block_lt_of_cell? w _ hw297_5)).trans hw297_5), ((HB.out.cell (World.block_lt_of_cell? w _ hw297_6)).trans hw297_6), ((HB.out.cell (World.block_lt_of_cell? w _ hw297_7)).trans hw297_7), ((HB.out.cell (World.block_lt_of_cell? w _ hw297_8)).trans hw297_8)⟩ (fun hHeld => ?_); refine with_tabW laws_eqInodeS.tab6 laws_eqInodeS.bits6 (fun HT_ HW_ => ?_)
                generalize wr.drew = w9 at HB HR296_7 HR297_7 hx296_0 hx296_1 hx296_2 hx296_3 hx296_4 hx296_5 hx296_6 hx296_7 hx296_8 hx297_0 hx297_1 hx297_2 hx297_3 hx297_4 hx297_5 hx297_6 hx297_7 hx297_8 hHeld ⊢
                refine pure_ (i := 0) (N := some 17) (v := ?_) (a' := ?_) #[true, false, false, false, false, false, false, false, false, false] rfl rfl (any_of HT_.out (by kernel_rfl)) (fun _ _ _ h => h) (Or.inl ⟨by rfl, ?_⟩) ?_ ?_
                rotate_left
                · intro w'
                  go_simp
                  with_reducible rfl
                rotate_left
                · simp only [Act.put, List.setIfInBounds_toArray, List.set_cons_zero, List.set_cons_succ, i64_w, i32_w]
                  rfl
                refine pure_ (i := 1) (N := some 18) (v := ?_) (a' := ?_) #[true, true, false, false, false, false, false, false, false, false] rfl rfl (any_of HT_.out (by kernel_rfl)) (fun _ _ _ h => h) (Or.inl ⟨by rfl, ?_⟩) ?_ ?_
                rotate_left
                · intro w'
                  go_simp
                  with_reducible rfl
                rotate_left
                · simp only [Act.put, List.setIfInBounds_toArray, List.set_cons_zero, List.set_cons_succ, i64_w, i32_w]
                  rfl
                refine pure_ (i := 2) (N := some 19) (v := ?_) (a' := ?_) #[true, true, true, false, false, false, false, false, false, false] rfl rfl (any_of HT_.out (by kernel_rfl)) (fun _ _ _ h => h) (Or.inl ⟨by rfl, ?_⟩) ?_ ?_
                rotate_left
                · intro w'
                  go_simp
                  with_reducible rfl
                rotate_left
                · simp only [Act.put, List.setIfInBounds_toArray, List.set_cons_zero, List.set_cons_succ, i64_w, i32_w]
                  rfl
                refine pure_ (i := 4) (N := some 21) (v := ?_) (a' := ?_) #[true, true, true, false, true, false, false, false, false, false] rfl rfl (any_of HT_.out (by kernel_rfl)) (fun _ _ _ h => h) (Or.inl ⟨by rfl, ?_⟩) ?_ ?_
                rotate_left
                · intro w'
                  go_simp
                  with_reducible rfl
                rotate_left
                · simp only [Act.put, List.setIfInBounds_toArray, List.set_cons_zero, List.set_cons_succ, i64_w, i32_w]
                  rfl
                refine pure_ (i := 5) (N := some 22) (v := ?_) (a' := ?_) #[true, true, true, false, true, true, false, false, false, false] rfl rfl (any_of HT_.out (by kernel_rfl)) (fun _ _ _ h => h) (Or.inl ⟨by rfl, ?_⟩) ?_ ?_
                rotate_left
                · intro w'
                  go_simp
                  with_reducible rfl
                rotate_left
                · simp only [Act.put, List.setIfInBounds_toArray, List.set_cons_zero, List.set_cons_succ, i64_w, i32_w]
                  rfl
                refine pure_ (i := 6) (N := some 23) (v := ?_) (a' := ?_) #[true, true, true, false, true, true, true, false, false, false] rfl rfl (any_of HT_.out (by kernel_rfl)) (fun _ _ _ h => h) (Or.inl ⟨by rfl, ?_⟩) ?_ ?_
                rotate_left
                · intro w'
                  go_simp
                  with_reducible rfl
                rotate_left
                · simp only [Act.put, List.setIfInBounds_toArray, List.set_cons_zero, List.set_cons_succ, i64_w, i32_w]
                  rfl
                refine take_ (i := 3) (N := some 20) (v := ?_) (a' := ?_) #[true, true, true, true, true, true, true, false, false, false] rfl rfl (take_ofW HT_.out HW_.out (by kernel_rfl)) (fun _ _ _ h => h) (Or.inl ⟨by rfl, ?_⟩) hHeld ?_ ?_
                rotate_left
                · rintro w' ⟨s0, s1, s2, s3, s4, s5, s6, s7, s8, s9, s10, s11, s12, s13, s14, s15, s16, s17⟩
                  go_simp
                  with_reducible rfl
                rotate_left
                · simp only [Act.put, List.setIfInBounds_toArray, List.set_cons_zero, List.set_cons_succ, i64_w, i32_w]
                  rfl
                refine take_ (i := 7) (N := some 24) (v := ?_) (a' := ?_) #[true, true, true, true, true, true, true, true, false, false] rfl rfl (take_ofW HT_.out HW_.out (by kernel_rfl)) (fun _ _ _ h => h) (Or.inl ⟨by rfl, ?_⟩) hHeld ?_ ?_
                rotate_left
                · rintro w' ⟨s0, s1, s2, s3, s4, s5, s6, s7, s8, s9, s10, s11, s12, s13, s14, s15, s16, s17⟩
                  go_simp
                  with_reducible rfl
                rotate_left
                · simp only [Act.put, List.setIfInBounds_toArray, List.set_cons_zero, List.set_cons_succ, i64_w, i32_w]
                  rfl
                refine one_ (i := 8) (N := some 25) #[true, true, true, true, true, true, true, true, true, false] rfl rfl (one_of HT_.out (by kernel_rfl)) (by decide) (fun K hK => ?_)
                refine goes_ Try.func152 (by kernel_rfl) rfl #[.agg #[.int .i64 ((rd_T135 l0 x5_1).f0), .int .i64 ((rd_T135 l0 x5_1).f1), .string ((rd_T135 l0 x5_1).f2), .bool ((rd_T135 l0 x5_1).f3), .int .i64 ((rd_T135 l0 x5_1).f4), .int .i64 ((rd_T135 l0 x5_1).f5), .int .i64 ((rd_T135 l0 x5_1).f6), .slice A296_7 ((rd_T135 l0 x5_1).f7).length c296_7, .int .i64 ((rd_T135 l0 x5_1).f8)], .agg #[.int .i64 ((rd_T135 l1 x5_1).f0), .int .i64 ((rd_T135 l1 x5_1).f1), .string ((rd_T135 l1 x5_1).f2), .bool ((rd_T135 l1 x5_1).f3), .int .i64 ((rd_T135 l1 x5_1).f4), .int .i64 ((rd_T135 l1 x5_1).f5), .int .i64 ((rd_T135 l1 x5_1).f6), .slice A297_7 ((rd_T135 l1 x5_1).f7).length c297_7, .int .i64 ((rd_T135 l1 x5_1).f8)]] (by rfl) rfl rfl (by (try simp only [List.map_toArray, List.map_cons, List.map_nil]); first | done | rfl | (simp only [List.length_drop, List.length_take]; rfl)) ?_
                with_reducible refine (laws_eqInode.calls k1 ((rd_T135 l0 x5_1).f0) ((rd_T135 l0 x5_1).f1) ((rd_T135 l0 x5_1).f2) ((rd_T135 l0 x5_1).f3) ((rd_T135 l0 x5_1).f4) ((rd_T135 l0 x5_1).f5) ((rd_T135 l0 x5_1).f6) _ _ ((rd_T135 l0 x5_1).f7) ((rd_T135 l0 x5_1).f8) ((rd_T135 l1 x5_1).f0) ((rd_T135 l1 x5_1).f1) ((rd_T135 l1 x5_1).f2) ((rd_T135 l1 x5_1).f3) ((rd_T135 l1 x5_1).f4) ((rd_T135 l1 x5_1).f5) ((rd_T135 l1 x5_1).f6) _ _ ((rd_T135 l1 x5_1).f7) ((rd_T135 l1 x5_1).f8) true _ ?side1 ?side2 ?side3 ?side4 A7.out).mono ?_
                (case side1 => exact CC (Kd.C_below HR296_7.out HB.out))
                (case side2 => exact HC296_7.out)
                (case side3 => exact CC (Kd.C_below HR297_7.out HB.out))
                (case side4 => exact HC297_7.out)
                rintro e w10 ⟨rfl, hb⟩
                refine ⟨_, rfl, ?_⟩
                have n0_ := Aside0.mk (below_step (BB HB.out) hb)
                clear HB
                have HB := n0_
                clear n0_
                (try clear hb)
                (try clear hb2)
                (try clear hk)
                (try clear hi)
                refine hK.out _ _ ⟨((HB.out.cell (World.block_lt_of_cell? w _ hw296_0)).trans hw296_0), ((HB.out.cell (World.block_lt_of_cell? w _ hw296_1)).trans hw296_1), ((HB.out.cell (World.block_lt_of_cell? w _ hw296_2)).trans hw296_2), ((HB.out.cell (World.block_lt_of_cell? w _ hw296_3)).trans hw296_3), ((HB.out.cell (World.block_lt_of_cell? w _ hw296_4)).trans hw296_4), ((HB.out.cell (World.block_lt_of_cell? w _ hw296_5)).trans hw296_5), ((HB.out.cell (World.block_lt_of_cell? w _ hw296_6)).trans hw296_6), ((HB.out.cell (World.block_lt_of_cell? w _ hw296_7)).trans hw296_7), ((HB.out.cell (World.block_lt_of_cell? w _ hw296_8)).trans hw296_8), ((HB.out.cell (World.block_lt_of_cell? w _ hw297_0)).trans hw297_0), ((HB.out.cell (World.block_lt_of_cell? w _ hw297_1)).trans hw297_1), ((HB.out.cell (World.block_lt_of_cell? w _ hw297_2)).trans hw297_2), ((HB.out.cell (World.block_lt_of_cell? w _ hw297_3)).trans hw297_3), ((HB.out.cell (World.block_lt_of_cell? w _ hw297_4)).trans hw297_4), ((HB.out.cell (World.block_lt_of_cell? w _ hw297_5)).trans hw297_5), ((HB.out.cell (World.block_lt_of_cell? w _ hw297_6)).trans hw297_6), ((HB.out.cell (World.block_lt_of_cell? w _ hw297_7)).trans hw297_7), ((HB.out.cell (World.block_lt_of_cell? w _ hw297_8)).trans hw297_8)⟩ (fun hHeld => ?_)
                clear hK K
                refine norm_ (a' := ?_) ?_ ?_
                rotate_left
                · show Act.put _ (some 25) _ = _
                  simp only [Act.put, List.setIfInBounds_toArray, List.set_cons_zero, List.set_cons_succ, i64_w, i32_w]
                  rfl
                refine pure_ (i := 9) (N := some 26) (v := ?_) (a' := ?_) #[true, true, true, true, true, true, true, true, true, true] rfl rfl (any_of HT_.out (by kernel_rfl)) (fun _ _ _ h => h) (Or.inl ⟨by rfl, ?_⟩) ?_ ?_
                rotate_left
                · intro w'
                  go_simp
                  with_reducible rfl
                rotate_left
                · simp only [Act.put, List.setIfInBounds_toArray, List.set_cons_zero, List.set_cons_succ, i64_w, i32_w]
                  rfl
                refine done_ (done_of HT_.out (by kernel_rfl)) ?_
                try go_wp2
                go_roundg k1
                case measure => have := HK1.out; omega
                case rel => exact ⟨(wrap64 (x5_1 + 1)), FR, H', ⟨by have := HK1.out; omega⟩, ⟨(BB HB.out)⟩⟩
              · replace c8 := Bool.eq_false_iff.mpr c8
                subst c8
                have H1 : (some false) = some r := by rw [if_neg (show ¬ (false = true) by decide)] at H; exact H
                clear H
                have H := H1
                clear H1
                exact absurd ((Option.some.inj H).trans hr_.out) (by decide)
            · rw [if_neg c6] at H
              exact absurd H (by simp)
          · rw [if_neg c5] at H
            exact absurd H (by simp)
        · rw [if_neg c4] at H
          have c4b0 : decide (x5_1 < (l0.length : Int)) = false := decide_eq_false c4
          clear c4
          obtain rfl := Option.some.inj H
          go_wp2
          go_ret
          exact ⟨ER, (BB HB.out)⟩
  · rw [if_neg c3] at H
    have c3b0 : ((l0.length : Int) == (l1.length : Int)) = false := beq_eq_false_iff_ne.mpr c3
    have c3b1 : ((l0.length : Int) != (l1.length : Int)) = true := bne_iff_ne.mpr c3
    have c3b2 : (l0.length == l1.length) = false := by first | simpa using c3 | (simp at c3 ⊢; omega)
    exact absurd ((Option.some.inj H).trans hr_.out) (by decide)

end Go.Proofs.Ytfgnaneajonapaa.Pr

namespace Go.Proofs.Ytfgnaneajonapaa.Pr
open Go.RowKit Go.Proofs.YtfgnaneajonapaaW.PrintWords Go.Proofs.YtfgnaneajonapaaW.PrintLast Go.Proofs.YtfgnaneajonapaaW.PrintMore
attribute [local go_sem] max2_int min2_int max_two min_two max_three min_three max_four min_four
set_option linter.unusedVariables false
set_option linter.unusedSimpArgs false
end Go.Proofs.Ytfgnaneajonapaa.Pr

namespace Go.Proofs.Ytfgnaneajonapaa.Pr
open Go.RowKit Go.Proofs.YtfgnaneajonapaaW.PrintWords Go.Proofs.YtfgnaneajonapaaW.PrintLast Go.Proofs.YtfgnaneajonapaaW.PrintMore
attribute [local go_sem] max2_int min2_int max_two min_two max_three min_three max_four min_four
set_option linter.unusedVariables false
set_option linter.unusedSimpArgs false
end Go.Proofs.Ytfgnaneajonapaa.Pr

namespace Go.Proofs.Ytfgnaneajonapaa.Pr
open Go.RowKit Go.Proofs.YtfgnaneajonapaaW.PrintWords Go.Proofs.YtfgnaneajonapaaW.PrintLast Go.Proofs.YtfgnaneajonapaaW.PrintMore
attribute [local go_sem] max2_int min2_int max_two min_two max_three min_three max_four min_four
set_option linter.unusedVariables false
set_option linter.unusedSimpArgs false
end Go.Proofs.Ytfgnaneajonapaa.Pr

namespace Go.Proofs.Ytfgnaneajonapaa.Pr
open Go.RowKit Go.Proofs.YtfgnaneajonapaaW.PrintWords Go.Proofs.YtfgnaneajonapaaW.PrintLast Go.Proofs.YtfgnaneajonapaaW.PrintMore
attribute [local go_sem] max2_int min2_int max_two min_two max_three min_three max_four min_four
set_option linter.unusedVariables false
set_option linter.unusedSimpArgs false
end Go.Proofs.Ytfgnaneajonapaa.Pr

namespace Go.Proofs.Ytfgnaneajonapaa.Lw
open Go.RowKit Go.Proofs.YtfgnaneajonapaaW.PrintWords Go.Proofs.Ytfgnaneajonapaa.Pr Go.Proofs.Ytfgnaneajonapaa.Evs
set_option linter.unusedVariables false
abbrev ImInode := S135
theorem rd135 (p s : List S135) (x : S135) : rd_T135 (p ++ x :: s) (p.length : Int) = x := by unfold rd_T135; exact getD_mid' p s x _ _ rfl
def lnInode (x : ImInode) : Prop := (x.f7.length < 9223372036854775000 ∧ ∀ y ∈ x.f7, lnPiece y)
theorem eqInode_refl (x : ImInode) (hx : lnInode x) : Ev (fun k => laws_eqInode.f k (x.f0) (x.f1) (x.f2) (x.f3) (x.f4) (x.f5) (x.f6) (x.f7) (x.f8) (x.f0) (x.f1) (x.f2) (x.f3) (x.f4) (x.f5) (x.f6) (x.f7) (x.f8)) true := by
  unfold lnInode at hx
  have h0 := hx
  unfold laws_eqInode.f
  repeat (first | with_reducible exact ev_some _ | with_reducible refine ev_pos rfl ?_ | with_reducible refine ev_neg (by simp; done) ?_ | with_reducible refine ev_bind (eqPieceS_ev x.f7 (by have := h0.1; omega)) ?_)
theorem eqInodeS_loop (s : List ImInode) : ∀ (p : List ImInode), p.length + s.length < 9223372036854775807 → (∀ x ∈ s, lnInode x) → Ev (fun k => laws_eqInodeS.l0 k (p ++ s) (p ++ s) (p.length : Int)) true := by
  induction s with
  | nil => intro p hl hs; exact ev_step (fun k => laws_eqInodeS.l0.eq_2 _ _ _ k) (ev_neg (by simp) (ev_some _))
  | cons x s ih =>
    intro p hl hs
    simp at hl
    refine ev_step (fun k => laws_eqInodeS.l0.eq_2 _ _ _ k) (ev_pos (by simp; omega) (ev_pos (by omega) (ev_pos (by simp; omega) (ev_bind (by simp only [rd135]; exact eqInode_refl x (hs x (by simp))) (ev_pos rfl ?_)))))
    rw [wrap_succ (by omega) (by omega)]
    simpa using ih (p ++ [x]) (by simp; omega) (fun y hy => hs y (by simp [hy]))
theorem eqInodeS_ev (l : List ImInode) (hl : l.length < 9223372036854775807) (hs : ∀ x ∈ l, lnInode x) : Ev (fun k => laws_eqInodeS.f k l l) true := by
  unfold laws_eqInodeS.f
  refine ev_pos rfl ?_
  simpa using eqInodeS_loop l [] (by simp; omega) hs
end Go.Proofs.Ytfgnaneajonapaa.Lw
