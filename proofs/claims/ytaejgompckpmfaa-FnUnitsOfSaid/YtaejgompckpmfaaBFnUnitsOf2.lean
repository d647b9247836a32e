/- A part of the proof of the law FnUnitsOf: its texts, one behind the other. -/
import Derived.ArgAppend
import Derived.Below
import Derived.BigQuiet
import Derived.Deep.AppendLies
import Derived.Deep.CutBlock
import Derived.Deep.DeepCutAuto
import Derived.Deep.Draws
import Derived.Deep.LoopGhost
import Derived.Deep.OwnRows
import Derived.Deep.QuietTactic
import Derived.Deep.RegionHeld3
import Derived.KernelRfl
import Derived.Laws.BitsLemmas
import Derived.Laws.BytesArg
import Derived.Laws.IdiomCopy
import Derived.Laws.MakeOwn
import Derived.Laws.OwnMore
import Derived.Laws.Rows
import Derived.Laws.Slices
import Derived.Lib.AppendStr
import Derived.Lib.ConvBytes
import Derived.Maps.AppendAt
import Derived.OrdersHeld
import Derived.OwnWalk
import Derived.RowKit
import Derived.RowKit3
import Derived.Shelf.Abstract
import Derived.Shelf.RegionOpenPlain
import Derived.Tactics
import Derived.Test.YtaejgompckpmfaaProg
import Derived.WalkKit
import Derived.WideLaws
import Derived.Test.YtaejgompckpmfaaBFnUnitsOf1
set_option linter.unusedVariables false
set_option linter.unusedSimpArgs false
namespace Go.Proofs.Ytaejgompckpmfaa.Pr
open Go.RowKit Go.Proofs.YtaejgompckpmfaaW.PrintWords Go.Proofs.YtaejgompckpmfaaW.PrintLast Go.Proofs.YtaejgompckpmfaaW.PrintMore
attribute [local go_sem] max2_int min2_int max_two min_two max_three min_three max_four min_four
def errW : Option Int → Value
 | none => .nilIface
 | some c => .iface 0 (.int .i64 c)
theorem errW_none : errW none = .nilIface := rfl
theorem errW_some (c : Int) : errW (some c) = .iface 0 (.int .i64 c) := rfl

theorem CC {p q : Prop} (h : q) (f : q → p := by intro h_; repeat (first | exact h_ | (with_reducible refine Kd.C_alloc ?_ _) | (with_reducible refine Kd.C_drewN ?_ _) | (with_reducible refine Kd.C_drew ?_))) : p := f h
theorem BB {p q : Prop} (h : q) (f : q → p := by intro h_; repeat (first | (with_reducible first | exact h_ | apply below_alloc | apply pw_below_drewN | apply below_drew1) | exact h_)) : p := f h
theorem BB1 {p q q1 : Prop} (h : q) (h1 : q1) (f : q → q1 → p := by intro h_ g1_; repeat (first | (with_reducible first | exact h_ | apply below_alloc | apply pw_below_drewN | apply below_drew1 | refine below_set ?_ g1_) | exact h_)) : p := f h h1
theorem BB2 {p q q1 q2 : Prop} (h : q) (h1 : q1) (h2 : q2) (f : q → q1 → q2 → p := by intro h_ g1_ g2_; repeat (first | (with_reducible first | exact h_ | apply below_alloc | apply pw_below_drewN | apply below_drew1 | refine below_set ?_ g1_ | refine below_set ?_ g2_) | exact h_)) : p := f h h1 h2
theorem BB3 {p q q1 q2 q3 : Prop} (h : q) (h1 : q1) (h2 : q2) (h3 : q3) (f : q → q1 → q2 → q3 → p := by intro h_ g1_ g2_ g3_; repeat (first | (with_reducible first | exact h_ | apply below_alloc | apply pw_below_drewN | apply below_drew1 | refine below_set ?_ g1_ | refine below_set ?_ g2_ | refine below_set ?_ g3_) | exact h_)) : p := f h h1 h2 h3
theorem BB4 {p q q1 q2 q3 q4 : Prop} (h : q) (h1 : q1) (h2 : q2) (h3 : q3) (h4 : q4) (f : q → q1 → q2 → q3 → q4 → p := by intro h_ g1_ g2_ g3_ g4_; repeat (first | (with_reducible first | exact h_ | apply below_alloc | apply pw_below_drewN | apply below_drew1 | refine below_set ?_ g1_ | refine below_set ?_ g2_ | refine below_set ?_ g3_ | refine below_set ?_ g4_) | exact h_)) : p := f h h1 h2 h3 h4
theorem RR {p q : Prop} (h : q) (f : q → p := by intro h_; (with_reducible repeat (first | apply Kd.R_alloc | apply Kd.R_drewN | apply Kd.R_drew)); exact h_) : p := f h
theorem SS {p q : Prop} (h : q) (f : q → p := by intro h_; (with_reducible repeat (first | apply Kd.S_alloc | apply Kd.S_drewN | apply Kd.S_drew)); exact h_) : p := f h
theorem FR {p : Prop} (h : p := by first | rfl | (simp; done) | (simp [*]; done)) : p := h
theorem ER {p : Prop} (h : p := by first | rfl | (simp [errW_none, errW_some] <;> rfl) | (simp [*, errW_none, errW_some] <;> rfl)) : p := h
theorem DT {p : Prop} [Decidable p] (h : decide p = true := by first | (with_reducible assumption) | assumption) : p := of_decide_eq_true h
theorem KB {w W w1 : World} {g : Nat} {o : Obj} (h : w.heap[g]? = some o) (hb : Below W.heap.size W w1) (f : w.heap[g]? = some o → W.heap[g]? = some o := by intro h_; (with_reducible repeat (first | refine blk_drewN ?_ _ | refine blk_drew ?_ | refine blk_alloc ?_ _)); exact h_) : w1.heap[g]? = some o := blk_below (f h) hb
theorem NL {w W : World} {g g' : Nat} {o : Obj} (h : w.heap[g]? = some o) (hg : g' = W.heap.size) (f : w.heap[g]? = some o → W.heap[g]? = some o := by intro h_; (with_reducible repeat (first | refine blk_drewN ?_ _ | refine blk_drew ?_ | refine blk_alloc ?_ _)); exact h_) : Aside0 (g ≠ g') := ⟨by rw [hg]; exact Nat.ne_of_lt (blk_lt (f h))⟩
theorem NG {w W : World} {g g' : Nat} {o : Obj} (h : w.heap[g]? = some o) (hg : g' = W.heap.size) (f : w.heap[g]? = some o → W.heap[g]? = some o := by intro h_; (with_reducible repeat (first | refine blk_drewN ?_ _ | refine blk_drew ?_ | refine blk_alloc ?_ _)); exact h_) : Aside0 (g' ≠ g) := ⟨by rw [hg]; exact Nat.ne_of_gt (blk_lt (f h))⟩
theorem WG {w W : World} {g : Nat} (hg : g = W.heap.size) (h : Below w.heap.size w W) : Aside0 (w.heap.size ≤ g) := ⟨by rw [hg]; exact below_size h⟩
theorem BX {P : Program} {ops : Array Oper} {Q : Exit → Act → World → Prop} {rest : List Oper} {o : Oper} {a : Act} {W : World} (N : Tmp) (cs : Array Value) (t : TypeId)
  (h : ∀ g, g = W.heap.size → ∀ w1, w1.heap[g]? = some (.cells cs t (0, 0)) → Below W.heap.size W w1 → wpList P ops Q rest (a.put o.dst (.pointer (some ⟨g, 0, none⟩))) w1)
  (hd : o.dst = some N := by rfl) (hg : o.guard = none := by rfl) (hr : (execOp a.eval o).run P W = .ok (.value (.pointer (some ⟨W.heap.size, 0, none⟩))) (W.alloc (.cells cs t (0, 0))) := by first | (go_simp; done) | (go_simp; rfl)) : wpList P ops Q (o :: rest) a W := box_event hg hd hr h
theorem GL {P : Program} {ops : Array Oper} {Q : Exit → Act → World → Prop} {rest : List Oper} {oi : Oper} {a : Act} {w : World} (N : Option Tmp) (hd : oi.dst = N) (hg : oi.guard = none) {f : FuncId} {fn : Func} {os_ : Array Operand} {ts : Array TypeId} (hf : P.funcs[f]? = some fn) (args : Array Value)
  (hop : oi.op = .call { callee := .value (.func f), args := os_, argTypes := ts }) (h : Calls P f args w fun e w' => ∃ v, e = .returned v ∧ wpList P ops Q rest (a.put N v) w')
  (hname : (fn.name == "runtime.NumGoroutine") = false := by kernel_rfl) (hb : fn.body.isSome = true := by rfl) (hargs : os_.map a.eval = args := by (try simp only [List.map_toArray, List.map_cons, List.map_nil]); first | done | rfl | (simp only [List.length_drop, List.length_take]; rfl)) : wpList P ops Q (oi :: rest) a w :=
 goesL_ N hd hg hf hname hb args hop hargs h

theorem fk_of_R {α : Type} {d : Kd α} {e : Nat} {W : World} {base : Nat} {ok : Nat → Prop} {v : Value} {xs : List α} (h : d.R e W base ok v xs) : Kd.FK (Kd.slice e d) W ok xs [v] := by
 obtain ⟨A, c, rfl⟩ := Kd.R_slice h
 exact Kd.FK_slice_mk (Kd.R_reads' h).2.1 (Kd.R_F h)
theorem PT {p q : Prop} (h : p) (f : p → q := by intro hk; (repeat' apply And.intro) <;> first | exact hk.1 | exact hk.2 | exact hk.1.1 | exact hk.1.2 | exact hk.2.1 | exact hk.2.2 | exact hk.1.1.1 | exact hk.1.1.2 | exact hk.1.2.1 | exact hk.1.2.2 | exact hk.2.1.1 | exact hk.2.1.2 | exact hk.2.2.1 | exact hk.2.2.2 | exact hk.1.1.1.1 | exact hk.1.1.1.2 | exact hk.1.1.2.1 | exact hk.1.1.2.2 | exact hk.1.2.1.1 | exact hk.1.2.1.2 | exact hk.1.2.2.1 | exact hk.1.2.2.2 | exact hk.2.1.1.1 | exact hk.2.1.1.2 | exact hk.2.1.2.1 | exact hk.2.1.2.2 | exact hk.2.2.1.1 | exact hk.2.2.1.2 | exact hk.2.2.2.1 | exact hk.2.2.2.2 | exact hk.1.1.1.1.1 | exact hk.1.1.1.1.2 | exact hk.1.1.1.2.1 | exact hk.1.1.1.2.2 | exact hk.1.1.2.1.1 | exact hk.1.1.2.1.2 | exact hk.1.1.2.2.1 | exact hk.1.1.2.2.2 | exact hk.1.2.1.1.1 | exact hk.1.2.1.1.2 | exact hk.1.2.1.2.1 | exact hk.1.2.1.2.2 | exact hk.1.2.2.1.1 | exact hk.1.2.2.1.2 | exact hk.1.2.2.2.1 | exact hk.1.2.2.2.2 | exact hk.2.1.1.1.1 | exact hk.2.1.1.1.2 | exact hk.2.1.1.2.1 | exact hk.2.1.1.2.2 | exact hk.2.1.2.1.1 | exact hk.2.1.2.1.2 | exact hk.2.1.2.2.1 | exact hk.2.1.2.2.2 | exact hk.2.2.1.1.1 | exact hk.2.2.1.1.2 | exact hk.2.2.1.2.1 | exact hk.2.2.1.2.2 | exact hk.2.2.2.1.1 | exact hk.2.2.2.1.2 | exact hk.2.2.2.2.1 | exact hk.2.2.2.2.2 | trivial) : q := f h
theorem store_any {P : Program} {v : Value} {n : Nat} (h : ∃ A c, v = .slice A n c) : ∀ (a : Addr) (m : Mode) (W : World), (store a v m).run P W = stored P W a v m := by
 obtain ⟨A, c, rfl⟩ := h
 exact fun a m W => run_store_slice ..

theorem info3 : (Try.prog.info? 3).map (fun i => (i.zero, i.size, i.bytes)) = some (some (.int .i64 0), 1, 8) := by kernel_rfl
theorem info4 : (Try.prog.info? 4).map (fun i => (i.zero, i.size, i.bytes)) = some (some (.bool false), 1, 1) := by kernel_rfl
theorem info5 : (Try.prog.info? 5).map (fun i => (i.zero, i.size, i.bytes)) = some (some (.int .u8 0), 1, 1) := by kernel_rfl
theorem info9 : (Try.prog.info? 9).map (fun i => (i.zero, i.size, i.bytes)) = some (some (.string ⟨#[]⟩), 1, 16) := by kernel_rfl
theorem info35 : (Try.prog.info? 35).map (fun i => (i.zero, i.size, i.bytes)) = some (some (.agg #[(.int .i64 0), (.bool false), (.slice none 0 0)]), 3, 40) := by kernel_rfl
theorem info41 : (Try.prog.info? 41).map (fun i => (i.zero, i.size, i.bytes)) = some (some (.slice none 0 0), 1, 24) := by kernel_rfl
theorem info60 : (Try.prog.info? 60).map (fun i => (i.zero, i.size, i.bytes)) = some (some (.agg #[(.int .i64 0), (.int .i64 0), (.string ⟨#[]⟩), (.int .i64 0)]), 4, 40) := by kernel_rfl
structure S60 where
 f0 : Int
 f1 : Int
 f2 : ByteArray
 f3 : Int
def z60 : S60 := ⟨(0 : Int), (0 : Int), (⟨#[]⟩ : ByteArray), (0 : Int)⟩
def k60 : Kd S60 := Kd.iso (Kd.pair (Kd.int .i64) (Kd.pair (Kd.int .i64) (Kd.pair Kd.string (Kd.int .i64)))) (fun x : S60 => (x.f0, x.f1, x.f2, x.f3))
theorem k60_open {w : World} {x : S60} {cs : List Value} (h : k60.K w x cs) : cs = [.int .i64 x.f0, .int .i64 x.f1, .string x.f2, .int .i64 x.f3] := by
 obtain ⟨_, _, rfl, rfl, ⟨_, _, rfl, rfl, ⟨_, _, rfl, rfl, rfl⟩⟩⟩ := h
 exact rfl
theorem k60_openM {w : World} {base : Nat} {ok : Nat → Prop} {x : S60} {cs : List Value} (h : k60.M w base ok x cs) : cs = [.int .i64 x.f0, .int .i64 x.f1, .string x.f2, .int .i64 x.f3] := by
 obtain ⟨_, _, rfl, rfl, ⟨_, _, rfl, rfl, ⟨_, _, rfl, rfl, rfl⟩⟩⟩ := h
 exact rfl
theorem k60_mkM (w : World) (base : Nat) (ok : Nat → Prop) (x : S60)  : k60.M w base ok x [.int .i64 x.f0, .int .i64 x.f1, .string x.f2, .int .i64 x.f3] := ⟨[.int .i64 x.f0], [.int .i64 x.f1, .string x.f2, .int .i64 x.f3], rfl, rfl, ⟨[.int .i64 x.f1], [.string x.f2, .int .i64 x.f3], rfl, rfl, ⟨[.string x.f2], [.int .i64 x.f3], rfl, rfl, rfl⟩⟩⟩
def rd_T60 (xs : List S60) (i : Int) : S60 := xs.getD i.toNat z60
theorem at_T60 {w : World} {A : Option Addr} {n : Nat} {xs : List S60} (h : Kd.C k60 w A n xs) (i : Int) (h0 : 0 ≤ i) (h1 : i < n) : ∃ ad , A = some ad ∧ w.cell? (ad.add (i.toNat * 4)) = some (.int .i64 (rd_T60 xs i).f0) ∧ w.cell? ⟨(ad.add (i.toNat * 4)).block, (ad.add (i.toNat * 4)).off + 1, none⟩ = some (.int .i64 (rd_T60 xs i).f1) ∧ w.cell? ⟨(ad.add (i.toNat * 4)).block, (ad.add (i.toNat * 4)).off + 2, none⟩ = some (.string (rd_T60 xs i).f2) ∧ w.cell? ⟨(ad.add (i.toNat * 4)).block, (ad.add (i.toNat * 4)).off + 3, none⟩ = some (.int .i64 (rd_T60 xs i).f3) := by
 obtain ⟨ad, c, e, _, hK, hc0⟩ := Kd.C_get h z60 i h0 h1
 have hc : ∀ j u, c[j]? = some u → w.cell? (ad.add (i.toNat * 4 + j)) = some u := hc0
 obtain rfl := k60_open hK
 exact ⟨ad, e, hc 0 _ rfl, by rw [← add_field _ _ 1 (by omega)]; exact hc 1 _ rfl, by rw [← add_field _ _ 2 (by omega)]; exact hc 2 _ rfl, by rw [← add_field _ _ 3 (by omega)]; exact hc 3 _ rfl⟩

def rd_L4 (xs : List (List Int)) (i : Int) : (List Int) := xs.getD i.toNat ([] : List Int)
theorem at_L4 {w : World} {A : Option Addr} {n : Nat} {xs : List (List Int)} (h : Kd.C (Kd.slice 3 (Kd.int .i64)) w A n xs) (i : Int) (h0 : 0 ≤ i) (h1 : i < n) : ∃ ad A0 c0, A = some ad ∧ w.cell? (ad.add i.toNat) = some (.slice A0 (rd_L4 xs i).length c0) ∧ (rd_L4 xs i).length ≤ c0 ∧ (Kd.int .i64).C w A0 (rd_L4 xs i).length (rd_L4 xs i) := by
 obtain ⟨ad, c, e, _, hK, hc0⟩ := Kd.C_get h ([] : List Int) i h0 h1
 have hc : ∀ j u, c[j]? = some u → w.cell? (ad.add (i.toNat * 1 + j)) = some u := hc0
 obtain ⟨A0, c0, rfl, l0, g0⟩ := hK
 exact ⟨ad, A0, c0, e, by have hq := hc 0 _ rfl; rwa [Nat.mul_one, Nat.add_zero] at hq, l0, g0⟩

structure S35 where
 f0 : Int
 f1 : Bool
 f2 : (List S60)
def z35 : S35 := ⟨(0 : Int), false, ([] : List S60)⟩
def k35 : Kd S35 := Kd.iso (Kd.pair (Kd.int .i64) (Kd.pair Kd.bool (Kd.slice 60 k60))) (fun x : S35 => (x.f0, x.f1, x.f2))
theorem k35_open {w : World} {x : S35} {cs : List Value} (h : k35.K w x cs) : ∃ A2 c2, cs = [.int .i64 x.f0, .bool x.f1, .slice A2 x.f2.length c2] ∧ x.f2.length ≤ c2 ∧ k60.C w A2 x.f2.length x.f2 := by
 obtain ⟨_, _, rfl, rfl, ⟨_, _, rfl, rfl, ⟨A2, c2, rfl, l2, g2⟩⟩⟩ := h
 exact ⟨A2, c2, rfl, l2, g2⟩
theorem k35_openM {w : World} {base : Nat} {ok : Nat → Prop} {x : S35} {cs : List Value} (h : k35.M w base ok x cs) : ∃ v2, cs = [.int .i64 x.f0, .bool x.f1, v2] ∧ k60.R 60 w base ok v2 x.f2 := by
 obtain ⟨_, _, rfl, rfl, ⟨_, _, rfl, rfl, ⟨v2, rfl, g2⟩⟩⟩ := h
 exact ⟨v2, rfl, g2⟩
theorem k35_mkM (w : World) (base : Nat) (ok : Nat → Prop) (x : S35) {v2 : Value} (g2 : k60.R 60 w base ok v2 x.f2) : k35.M w base ok x [.int .i64 x.f0, .bool x.f1, v2] := ⟨[.int .i64 x.f0], [.bool x.f1, v2], rfl, rfl, ⟨[.bool x.f1], [v2], rfl, rfl, ⟨v2, rfl, g2⟩⟩⟩
def rd_T35 (xs : List S35) (i : Int) : S35 := xs.getD i.toNat z35
theorem at_T35 {w : World} {A : Option Addr} {n : Nat} {xs : List S35} (h : Kd.C k35 w A n xs) (i : Int) (h0 : 0 ≤ i) (h1 : i < n) : ∃ ad A2 c2, A = some ad ∧ w.cell? (ad.add (i.toNat * 3)) = some (.int .i64 (rd_T35 xs i).f0) ∧ w.cell? ⟨(ad.add (i.toNat * 3)).block, (ad.add (i.toNat * 3)).off + 1, none⟩ = some (.bool (rd_T35 xs i).f1) ∧ w.cell? ⟨(ad.add (i.toNat * 3)).block, (ad.add (i.toNat * 3)).off + 2, none⟩ = some (.slice A2 (rd_T35 xs i).f2.length c2) ∧ (rd_T35 xs i).f2.length ≤ c2 ∧ k60.C w A2 (rd_T35 xs i).f2.length (rd_T35 xs i).f2 := by
 obtain ⟨ad, c, e, _, hK, hc0⟩ := Kd.C_get h z35 i h0 h1
 have hc : ∀ j u, c[j]? = some u → w.cell? (ad.add (i.toNat * 3 + j)) = some u := hc0
 obtain ⟨A2, c2, rfl, l2, g2⟩ := k35_open hK
 exact ⟨ad, A2, c2, e, hc 0 _ rfl, by rw [← add_field _ _ 1 (by omega)]; exact hc 1 _ rfl, by rw [← add_field _ _ 2 (by omega)]; exact hc 2 _ rfl, l2, g2⟩

theorem PU {P : Program} {md : Region.Mode} {ops : Array Oper} {Q : Exit → Act → World → Prop} {S : World → Prop} {ds : List Nat} {fuel : Nat} {l : Array Bool} {a : Act} {w : World} (i : Nat) (N : Tmp) {oi : Oper} {v : Value} {a' : Act}
  (h : wpAnyLast P md ops Q S ds fuel (l.setIfInBounds i true) a' w)
  (hi : ops[i]? = some oi := by rfl) (hN : oi.dst = some N := by rfl) (hc : anyB md ops l (l.setIfInBounds i true) i = true := by kernel_rfl) (hQ : ∀ c a w, Q (.panic c) (a.put oi.dst v) w → Q (.panic c) a w := by exact fun _ _ _ h => h)
  (hy : Yields P ops oi v a := by (refine Or.inl ⟨by rfl, ?_⟩; intro w'; go_simp; with_reducible rfl)) (ha : a.put (some N) v = a' := by (simp only [Act.put, List.setIfInBounds_toArray, List.set_cons_zero, List.set_cons_succ, i64_w, i32_w]; rfl)) : wpAnyLast P md ops Q S ds (fuel + 1) l a w :=
 pure_ (l.setIfInBounds i true) hi hN hc hQ hy ha h
theorem PH {P : Program} {md : Region.Mode} {ops : Array Oper} {Q : Exit → Act → World → Prop} {S : World → Prop} {ds : List Nat} {T : Bool × List (List Nat × List Nat)} {fuel : Nat} {l : Array Bool} {a : Act} {w : World} (i : Nat) (N : Tmp) {oi : Oper} {v : Value} {a' : Act} (hT : rtab md ops = T)
  (h : wpAnyLast P md ops Q S ds fuel (l.setIfInBounds i true) a' w)
  (hi : ops[i]? = some oi := by rfl) (hN : oi.dst = some N := by rfl) (hc : anyT T l.toList (l.setIfInBounds i true).toList i = true := by kernel_rfl) (hQ : ∀ c a w, Q (.panic c) (a.put oi.dst v) w → Q (.panic c) a w := by exact fun _ _ _ h => h)
  (hy : Yields P ops oi v a := by (refine Or.inl ⟨by rfl, ?_⟩; intro w'; go_simp; with_reducible rfl)) (ha : a.put (some N) v = a' := by (simp only [Act.put, List.setIfInBounds_toArray, List.set_cons_zero, List.set_cons_succ, i64_w, i32_w]; rfl)) : wpAnyLast P md ops Q S ds (fuel + 1) l a w :=
 pure_ (l.setIfInBounds i true) hi hN (any_of hT hc) hQ hy ha h
theorem PO {P : Program} {md : Region.Mode} {ops : Array Oper} {Q : Exit → Act → World → Prop} {S : World → Prop} {ds : List Nat} {T : Bool × List (List Nat × List Nat)} {fuel : Nat} {l : Array Bool} {a : Act} {w : World} (i : Nat) (N : Tmp) {oi : Oper} {a' : Act} (hT : rtab md ops = T)
  (h : wpAnyLast P md ops Q S ds fuel (l.setIfInBounds i true) a' w)
  (hi : ops[i]? = some oi := by rfl) (hN : oi.dst = some N := by rfl) (hc : anyT T l.toList (l.setIfInBounds i true).toList i = true := by kernel_rfl) (hQ : ∀ c a w, Q (.panic c) (a.put oi.dst undef) w → Q (.panic c) a w := by exact fun _ _ _ h => h)
  (hy : Yields P ops oi undef a := by exact Or.inr ⟨by rfl, rfl⟩) (ha : a.put (some N) undef = a' := by (simp only [Act.put, List.setIfInBounds_toArray, List.set_cons_zero, List.set_cons_succ, i64_w, i32_w]; rfl)) : wpAnyLast P md ops Q S ds (fuel + 1) l a w :=
 pure_ (l.setIfInBounds i true) hi hN (any_of hT hc) hQ hy ha h
theorem TK {P : Program} {md : Region.Mode} {ops : Array Oper} {Q : Exit → Act → World → Prop} {S : World → Prop} {ds : List Nat} {fuel : Nat} {l : Array Bool} {a : Act} {w : World} (i : Nat) (N : Tmp) {oi : Oper} {v : Value} {a' : Act} (hS : S w)
  (h : wpAnyLast P md ops Q S ds fuel (l.setIfInBounds i true) a' w)
  (hi : ops[i]? = some oi := by rfl) (hN : oi.dst = some N := by rfl) (hc : takeB md ops ds l (l.setIfInBounds i true) i = true := by kernel_rfl) (hQ : ∀ c a w, Q (.panic c) (a.put oi.dst v) w → Q (.panic c) a w := by exact fun _ _ _ h => h)
  (hy : YieldsIf P ops S oi v a := by (refine Or.inl ⟨by rfl, ?_⟩; intro w' s_; (repeat (have h_ := And.left s_; replace s_ := And.right s_)); go_simp; with_reducible rfl)) (ha : a.put (some N) v = a' := by (simp only [Act.put, List.setIfInBounds_toArray, List.set_cons_zero, List.set_cons_succ, i64_w, i32_w]; rfl)) : wpAnyLast P md ops Q S ds (fuel + 1) l a w :=
 take_ (l.setIfInBounds i true) hi hN hc hQ hy hS ha h
theorem TH {P : Program} {md : Region.Mode} {ops : Array Oper} {Q : Exit → Act → World → Prop} {S : World → Prop} {ds : List Nat} {T : Bool × List (List Nat × List Nat)} {B : List Nat} {fuel : Nat} {l : Array Bool} {a : Act} {w : World} (i : Nat) (N : Tmp) {oi : Oper} {v : Value} {a' : Act} (hT : rtab md ops = T) (hW : waitsOk T.2 B = true) (hS : S w)
  (h : wpAnyLast P md ops Q S ds fuel (l.setIfInBounds i true) a' w)
  (hi : ops[i]? = some oi := by rfl) (hN : oi.dst = some N := by rfl) (hc : takeW T B ds l.toList (l.setIfInBounds i true).toList i = true := by kernel_rfl) (hQ : ∀ c a w, Q (.panic c) (a.put oi.dst v) w → Q (.panic c) a w := by exact fun _ _ _ h => h)
  (hy : YieldsIf P ops S oi v a := by (refine Or.inl ⟨by rfl, ?_⟩; intro w' s_; (repeat (have h_ := And.left s_; replace s_ := And.right s_)); go_simp; with_reducible rfl)) (ha : a.put (some N) v = a' := by (simp only [Act.put, List.setIfInBounds_toArray, List.set_cons_zero, List.set_cons_succ, i64_w, i32_w]; rfl)) : wpAnyLast P md ops Q S ds (fuel + 1) l a w :=
 take_ (l.setIfInBounds i true) hi hN (take_ofW hT hW hc) hQ hy hS ha h
theorem OH {P : Program} {md : Region.Mode} {ops : Array Oper} {Q : Exit → Act → World → Prop} {S : World → Prop} {ds : List Nat} {T : Bool × List (List Nat × List Nat)} {fuel : Nat} {l : Array Bool} {a : Act} {w : World} (i : Nat) (N : Option Tmp) {oi : Oper} (hT : rtab md ops = T)
  (h : ∀ K : Act → World → Prop, Shut (∀ a' w', S w' → (S w' → wpAnyLast P md ops Q S ds fuel (l.setIfInBounds i true) a' w') → K a' w') → if Region.wanted oi (yielded ops a.tmps) = true then Oper.wp P oi a w K Q else K (a.put N undef) w)
  (hi : ops[i]? = some oi := by rfl) (hN : oi.dst = N := by rfl) (hc : (readyT T.2 l.toList == [i] && l.toList.set i true == (l.setIfInBounds i true).toList) = true := by kernel_rfl) (hd : i ∉ ds := by decide) : wpAnyLast P md ops Q S ds (fuel + 1) l a w := one_ (l.setIfInBounds i true) hi hN (one_of hT hc) hd h
theorem LH {P : Program} {md : Region.Mode} {ops : Array Oper} {Q : Exit → Act → World → Prop} {S : World → Prop} {ds : List Nat} {T : Bool × List (List Nat × List Nat)} {fuel : Nat} {l : Array Bool} {a : Act} {w : World} (i : Nat) (N : Option Tmp) {oi : Oper} (hT : rtab md ops = T)
  (h : ∀ K : Act → World → Prop, Shut (∀ a' w', wpAnyLast P md ops Q S ds fuel (l.setIfInBounds i true) a' w' → K a' w') → if Region.wanted oi (yielded ops a.tmps) = true then Oper.wp P oi a w K Q else K (a.put N undef) w)
  (hi : ops[i]? = some oi := by rfl) (hN : oi.dst = N := by rfl) (hc : (readyT T.2 l.toList == [i] && l.toList.set i true == (l.setIfInBounds i true).toList) = true := by kernel_rfl) (hd : i ∈ ds := by decide) : wpAnyLast P md ops Q S ds (fuel + 1) l a w := last_ (l.setIfInBounds i true) hi hN (one_of hT hc) hd h
theorem KK {p q : Prop} (h : q) (f : q → p := by intro h_; repeat (first | (with_reducible first | exact h_ | apply KeepBut.set_ | apply keep_drewN | apply keep_drew | apply keep_alloc) | exact h_)) : p := f h
theorem KK1 {p q r : Prop} (h : q) (g : r) (f : q → r → p := by intro h_ g_; repeat (first | (with_reducible first | exact h_ | apply KeepBut.set_ | apply keep_drewN | apply keep_drew | apply keep_alloc | refine keep_far ?_ g_ _) | exact h_)) : p := f h g
theorem KK2 {p q r s : Prop} (h : q) (g : r) (k : s) (f : q → r → s → p := by intro h_ g_ k_; repeat (first | (with_reducible first | exact h_ | apply KeepBut.set_ | apply keep_drewN | apply keep_drew | apply keep_alloc | refine keep_far ?_ g_ _ | refine keep_far ?_ k_ _) | exact h_)) : p := f h g k
theorem CX {B : Nat} {w W : World} (h : Below B w W) {p : Addr} {v : Value} (hc : w.cell? p = some v) (hB : B = w.heap.size := by rfl) : W.cell? p = some v := (h.cell (hB ▸ World.block_lt_of_cell? w _ hc)).trans hc
theorem GO {P : Program} {ops : Array Oper} {Q : Exit → Act → World → Prop} {oi : Oper} {N : Option Tmp} {a : Act} {w : World} {K : Act → World → Prop} {f : FuncId} {fn : Func} {os_ : Array Operand} {ts : Array TypeId} (hf : P.funcs[f]? = some fn) (args : Array Value)
  (h : Calls P f args w fun e w' => ∃ v, e = .returned v ∧ K (a.put N v) w')
  (hname : (fn.name == "runtime.NumGoroutine") = false := by kernel_rfl) (hb : fn.body.isSome = true := by rfl) (hw : Region.wanted oi (yielded ops a.tmps) = true := by rfl) (hN : oi.dst = N := by rfl) (hop : oi.op = .call { callee := .value (.func f), args := os_, argTypes := ts } := by rfl)
  (hargs : os_.map a.eval = args := by (try simp only [List.map_toArray, List.map_cons, List.map_nil]); first | done | rfl | (simp only [List.length_drop, List.length_take]; rfl)) : if Region.wanted oi (yielded ops a.tmps) = true then Oper.wp P oi a w K Q else K (a.put N undef) w :=
 goes_ hf hname hb args hw hN hop hargs h
theorem NM {P : Program} {md : Region.Mode} {ops : Array Oper} {Q : Exit → Act → World → Prop} {S : World → Prop} {ds : List Nat} {fuel : Nat} {l : Array Bool} {a : Act} {w : World} (N : Tmp) {v : Value} {a' : Act} (h : wpAnyLast P md ops Q S ds fuel l a' w)
  (ha : a.put (some N) v = a' := by (simp only [Act.put, List.setIfInBounds_toArray, List.set_cons_zero, List.set_cons_succ, i64_w, i32_w]; rfl)) : wpAnyLast P md ops Q S ds fuel l (a.put (some N) v) w := norm_ ha h
theorem AM {p : Prop} (h : p) : Aside0 p := ⟨h⟩
theorem OB {α β : Type} {y : α} {f : α → Option β} {r : Option β} (H : (some y).bind f = r) : f y = r := (Option.bind_some _ _).symm.trans H
theorem BD {p q : Prop} (h : q) (f : q → p := by intro h_; (with_reducible repeat (first | refine blk_drewN ?_ _ | refine blk_drew ?_ | refine blk_alloc ?_ _)); exact h_) : p := f h
def spec_l14At.l0 : Nat → Int → Int → Int → Int → Bool → List (S60) → Option (Int)
 | 0, _, _, _, _, _, _ => none
 | k + 1, x1, x2, x7, x378000, x378001, x378002 => if x7 < (x378002.length : Int) then (if 0 ≤ x7 then (if ((rd_T60 x378002 x7).f0) = x1 then (if ((rd_T60 x378002 x7).f1) = x2 then (some x7) else (spec_l14At.l0 k x1 x2 (wrap64 (x7 + 1)) x378000 x378001 x378002)) else (spec_l14At.l0 k x1 x2 (wrap64 (x7 + 1)) x378000 x378001 x378002)) else (none)) else (some (-1))
def spec_l14At.f (k : Nat) (a0_0 : Int) (a0_1 : Bool) (l0_2 : List (S60)) (a1 : Int) (a2 : Int) : Option (Int) := spec_l14At.l0 k a1 a2 0 a0_0 a0_1 l0_2
set_option maxHeartbeats 8000000 in
set_option maxRecDepth 100000 in
theorem spec_l14At.calls (k : Nat) (a0_0 : Int) (a0_1 : Bool) (A0_2 : Option Addr) (c0_2 : Nat) (l0_2 : List (S60)) (a1 : Int) (a2 : Int) (r : Int) (w : World) (hr0_2 : Kd.C k60 w A0_2 l0_2.length l0_2) (hc0_2 : l0_2.length ≤ c0_2) (h : spec_l14At.f k a0_0 a0_1 l0_2 a1 a2 = some r) :
  Calls Try.prog 28 #[.agg #[.int .i64 a0_0, .bool a0_1, .slice A0_2 l0_2.length c0_2], .int .i64 a1, .int .i64 a2] w fun e w' => e = .returned (.int .i64 r) ∧ Below w.heap.size w w' := by
 have hu35 := Try.underlying35
 have HR0_2 := AM hr0_2
 have HC0_2 := AM hc0_2
 clear hr0_2 hc0_2
 have HB := AM (Below.refl w.heap.size w)
 have H : (spec_l14At.l0 k a1 a2 0 a0_0 a0_1 l0_2) = some r := h
 clear h
 have H' := AM H
 clear H
 go_enter Try.func28, Try.ntmps28
 go_wp2_with (first | ((with_reducible refine gate_dst (N := 3) rfl ?_); refine BX 3 #[.int .i64 a0_0, .bool a0_1, .slice A0_2 l0_2.length c0_2] 35 ?_; intro gb377 hg w4 hbox hb; have BK377 := AM (hbox); have GW377 : Aside0 (w.heap.size ≤ gb377) := WG hg (BB HB.out); have GE377 := GW377; replace HB := AM (below_step (BB HB.out) hb); clear hb hbox hg))
 go_loopg [7] k (fun kq v7 w' => ∃ (x7_1 : Int), v7 = .int .i64 x7_1 ∧ Aside0 (spec_l14At.l0 kq a1 a2 x7_1 a0_0 a0_1 l0_2 = some r) ∧ Aside0 (kq ≤ k) ∧ Aside0 (w'.heap[gb377]? = some (.cells #[.int .i64 a0_0, .bool a0_1, (.slice A0_2 l0_2.length c0_2)] 35 (0, 0))) ∧ Aside0 (Below w.heap.size w w'))
 case atStart => exact ⟨(0), FR, H', ⟨Nat.le_refl _⟩, ⟨by refine BD ?_; exact BK377.out⟩, ⟨(BB1 HB.out GE377.out)⟩⟩
 case round =>
  clear H'
  try clear c2
  try clear p2
  obtain ⟨x7_1, rfl, HA, HK1, BK377, HB⟩ := hrel
  cases gk with
  | zero => exact absurd HA.out (by simp [spec_l14At.l0])
  | succ k1 =>
   have H := HA.out
   clear HA
   simp only [spec_l14At.l0] at H
   by_cases c5 : x7_1 < (l0_2.length : Int)
   ·rw [if_pos c5] at H
    have c5b0 := decide_eq_true c5
    clear c5
    by_cases c6 : 0 ≤ x7_1
    rotate_left
    ·rw [if_neg c6] at H; exact absurd H (by simp)
    rw [if_pos c6] at H
    have c6b0 := decide_eq_true c6
    clear c6
    by_cases c7 : ((rd_T60 l0_2 x7_1).f0) = a1
    ·rw [if_pos c7] at H
     have c7b0 : (((rd_T60 l0_2 x7_1).f0) == a1) = true := beq_iff_eq.mpr c7
     have c7b1 : (((rd_T60 l0_2 x7_1).f0) != a1) = false := bne_eq_false_iff_eq.mpr c7
     clear c7
     by_cases c8 : ((rd_T60 l0_2 x7_1).f1) = a2
     ·rw [if_pos c8] at H
      have c8b0 : (((rd_T60 l0_2 x7_1).f1) == a2) = true := beq_iff_eq.mpr c8
      have c8b1 : (((rd_T60 l0_2 x7_1).f1) != a2) = false := bne_eq_false_iff_eq.mpr c8
      clear c8
      obtain rfl := Option.some.inj H
      have hcz9 := blk_cell BK377.out
      have hcz9_1 : wr.cell? ⟨gb377, 1, none⟩ = some (.bool a0_1) := (blk_cell BK377.out 1).trans rfl
      have hcz9_2 : wr.cell? ⟨gb377, 2, none⟩ = some (.slice A0_2 l0_2.length c0_2) := (blk_cell BK377.out 2).trans rfl
      have hfz9 := blk_frozen BK377.out
      have hfz9_1 := blk_frozen BK377.out 1
      have hfz9_2 := blk_frozen BK377.out 2
      have p378 : 0 ≤ (x7_1 : Int) := DT
      have q378 : x7_1 < (l0_2.length : Int) := DT
      obtain ⟨ad378, e378, hx378_0, hx378_1, hx378_2, hx378_3⟩ := at_T60 HR0_2.out x7_1 p378 q378
      cases e378
      replace hx378_0 := CX HB.out hx378_0
      replace hx378_1 := CX HB.out hx378_1
      replace hx378_2 := CX HB.out hx378_2
      replace hx378_3 := CX HB.out hx378_3
      replace p378 := eq_true p378
      replace q378 := eq_true q378
      have p379 : 0 ≤ (x7_1 : Int) := DT
      have q379 : x7_1 < (l0_2.length : Int) := DT
      obtain ⟨ad379, e379, hx379_0, hx379_1, hx379_2, hx379_3⟩ := at_T60 HR0_2.out x7_1 p379 q379
      obtain rfl : ad378 = ad379 := (by injection e379)
      replace hx379_0 := CX HB.out hx379_0
      replace hx379_1 := CX HB.out hx379_1
      replace hx379_2 := CX HB.out hx379_2
      replace hx379_3 := CX HB.out hx379_3
      replace p379 := eq_true p379
      replace q379 := eq_true q379
      go_wp2
      go_ret
      exact ⟨ER, (BB1 HB.out GE377.out)⟩
     ·rw [if_neg c8] at H
      have c8b0 : (((rd_T60 l0_2 x7_1).f1) == a2) = false := beq_eq_false_iff_ne.mpr c8
      have c8b1 : (((rd_T60 l0_2 x7_1).f1) != a2) = true := bne_iff_ne.mpr c8
      have H' := AM H
      clear H
      have hcz10 := blk_cell BK377.out
      have hcz10_1 : wr.cell? ⟨gb377, 1, none⟩ = some (.bool a0_1) := (blk_cell BK377.out 1).trans rfl
      have hcz10_2 : wr.cell? ⟨gb377, 2, none⟩ = some (.slice A0_2 l0_2.length c0_2) := (blk_cell BK377.out 2).trans rfl
      have hfz10 := blk_frozen BK377.out
      have hfz10_1 := blk_frozen BK377.out 1
      have hfz10_2 := blk_frozen BK377.out 2
      have p378 : 0 ≤ (x7_1 : Int) := DT
      have q378 : x7_1 < (l0_2.length : Int) := DT
      obtain ⟨ad378, e378, hx378_0, hx378_1, hx378_2, hx378_3⟩ := at_T60 HR0_2.out x7_1 p378 q378
      cases e378
      replace hx378_0 := CX HB.out hx378_0
      replace hx378_1 := CX HB.out hx378_1
      replace hx378_2 := CX HB.out hx378_2
      replace hx378_3 := CX HB.out hx378_3
      replace p378 := eq_true p378
      replace q378 := eq_true q378
      have p379 : 0 ≤ (x7_1 : Int) := DT
      have q379 : x7_1 < (l0_2.length : Int) := DT
      obtain ⟨ad379, e379, hx379_0, hx379_1, hx379_2, hx379_3⟩ := at_T60 HR0_2.out x7_1 p379 q379
      obtain rfl : ad378 = ad379 := (by injection e379)
      replace hx379_0 := CX HB.out hx379_0
      replace hx379_1 := CX HB.out hx379_1
      replace hx379_2 := CX HB.out hx379_2
      replace hx379_3 := CX HB.out hx379_3
      replace p379 := eq_true p379
      replace q379 := eq_true q379
      go_wp2
      go_roundg k1
      case measure => have := HK1.out; omega
      case rel => exact ⟨(wrap64 (x7_1 + 1)), FR, H', ⟨by have := HK1.out; omega⟩, ⟨by refine BD ?_; exact BK377.out⟩, ⟨(BB1 HB.out GE377.out)⟩⟩
    ·rw [if_neg c7] at H
     have c7b0 : (((rd_T60 l0_2 x7_1).f0) == a1) = false := beq_eq_false_iff_ne.mpr c7
     have c7b1 : (((rd_T60 l0_2 x7_1).f0) != a1) = true := bne_iff_ne.mpr c7
     have H' := AM H
     clear H
     have hcz11 := blk_cell BK377.out
     have hcz11_1 : wr.cell? ⟨gb377, 1, none⟩ = some (.bool a0_1) := (blk_cell BK377.out 1).trans rfl
     have hcz11_2 : wr.cell? ⟨gb377, 2, none⟩ = some (.slice A0_2 l0_2.length c0_2) := (blk_cell BK377.out 2).trans rfl
     have hfz11 := blk_frozen BK377.out
     have hfz11_1 := blk_frozen BK377.out 1
     have hfz11_2 := blk_frozen BK377.out 2
     have p378 : 0 ≤ (x7_1 : Int) := DT
     have q378 : x7_1 < (l0_2.length : Int) := DT
     obtain ⟨ad378, e378, hx378_0, hx378_1, hx378_2, hx378_3⟩ := at_T60 HR0_2.out x7_1 p378 q378
     cases e378
     replace hx378_0 := CX HB.out hx378_0
     replace hx378_1 := CX HB.out hx378_1
     replace hx378_2 := CX HB.out hx378_2
     replace hx378_3 := CX HB.out hx378_3
     replace p378 := eq_true p378
     replace q378 := eq_true q378
     go_wp2
     go_roundg k1
     case measure => have := HK1.out; omega
     case rel => exact ⟨(wrap64 (x7_1 + 1)), FR, H', ⟨by have := HK1.out; omega⟩, ⟨by refine BD ?_; exact BK377.out⟩, ⟨(BB1 HB.out GE377.out)⟩⟩
   ·rw [if_neg c5] at H
    have c5b0 := decide_eq_false c5
    clear c5
    obtain rfl := Option.some.inj H
    have hcz12 := blk_cell BK377.out
    have hcz12_1 : wr.cell? ⟨gb377, 1, none⟩ = some (.bool a0_1) := (blk_cell BK377.out 1).trans rfl
    have hcz12_2 : wr.cell? ⟨gb377, 2, none⟩ = some (.slice A0_2 l0_2.length c0_2) := (blk_cell BK377.out 2).trans rfl
    have hfz12 := blk_frozen BK377.out
    have hfz12_1 := blk_frozen BK377.out 1
    have hfz12_2 := blk_frozen BK377.out 2
    go_wp2
    go_ret
    exact ⟨ER, (BB1 HB.out GE377.out)⟩

mutual
def spec_SumMore.l0 : Nat → Int → ByteArray → Int → Option (Int)
 | 0, _, _, _ => none
 | k + 1, x0, x1, x5 => if x5 < (x1.size : Int) then (if 0 ≤ x5 then (spec_SumMore.l1 k (Go.bits .xor .u32 x0 ((bt x1 x5) % 4294967296)) x1 x5 0) else (none)) else (some x0)
def spec_SumMore.l1 : Nat → Int → ByteArray → Int → Int → Option (Int)
 | 0, _, _, _, _ => none
 | k + 1, x0, x1, x5, x6 => if x6 < 8 then (if (Int.tmod x0 2) = 1 then (spec_SumMore.l1 k (Go.bits .xor .u32 ((Int.tdiv x0 2) % 4294967296) 3558460437) x1 x5 (wrap64 (x6 + 1))) else (spec_SumMore.l1 k ((Int.tdiv x0 2) % 4294967296) x1 x5 (wrap64 (x6 + 1)))) else (spec_SumMore.l0 k x0 x1 (wrap64 (x5 + 1)))
end
def spec_SumMore.f (k : Nat) (a0 : Int) (a1 : ByteArray) : Option (Int) := spec_SumMore.l0 k a0 a1 0
set_option maxHeartbeats 8000000 in
set_option maxRecDepth 100000 in
theorem spec_SumMore.calls (k : Nat) (a0 : Int) (a1 : ByteArray) (r : Int) (w : World) (h : spec_SumMore.f k a0 a1 = some r) :
  Calls Try.prog 80 #[.int .u32 a0, .string a1] w fun e w' => e = .returned (.int .u32 r) ∧ Drawn0 w w' := by
 have H : (spec_SumMore.l0 k a0 a1 0) = some r := h
 clear h
 have H' := AM H
 clear H
 go_enter Try.func80, Try.ntmps80
 go_wp2
 go_loopg [0, 5] k (fun kq v0 v5 w' => ∃ (x0_1 : Int) (x5_1 : Int), v0 = .int .u32 x0_1 ∧ v5 = .int .i64 x5_1 ∧ Aside0 (spec_SumMore.l0 kq x0_1 a1 x5_1 = some r) ∧ Aside0 (kq ≤ k) ∧ Drawn0 w w')
 case atStart => exact ⟨(a0), (0), FR, FR, H', ⟨Nat.le_refl _⟩, by repeat (first | exact Drawn0.refl _ | apply Drawn0.step)⟩
 case round =>
  clear H'
  try clear p2
  obtain ⟨x0_1, x5_1, rfl, rfl, HA, HK1, ⟨m1, rfl⟩⟩ := hrel
  cases gk with
  | zero => exact absurd HA.out (by simp [spec_SumMore.l0])
  | succ k1 =>
   have H := HA.out
   clear HA
   simp only [spec_SumMore.l0] at H
   by_cases c3 : x5_1 < (a1.size : Int)
   ·rw [if_pos c3] at H
    have c3b0 := decide_eq_true c3
    clear c3
    by_cases c4 : 0 ≤ x5_1
    rotate_left
    ·rw [if_neg c4] at H; exact absurd H (by simp)
    rw [if_pos c4] at H
    have c4b0 := decide_eq_true c4
    clear c4
    have H' := AM H
    clear H
    have p5 : 0 ≤ (x5_1 : Int) := DT
    have q5 : x5_1 < (a1.size : Int) := DT
    have hx5 := bt_at a1 x5_1
    replace p5 := eq_true p5
    replace q5 := eq_true q5
    go_wp2
    go_loopg [0, 6] k1 (fun kq v0 v6 w' => ∃ (x0_2 : Int) (x6_2 : Int), v0 = .int .u32 x0_2 ∧ v6 = .int .i64 x6_2 ∧ Aside0 (spec_SumMore.l1 kq x0_2 a1 x5_1 x6_2 = some r) ∧ Aside0 (kq ≤ k1) ∧ Drawn0 w w')
    case atStart => exact ⟨(Go.bits .xor .u32 x0_1 ((bt a1 x5_1) % 4294967296)), (0), FR, FR, H', ⟨Nat.le_refl _⟩, by repeat (first | exact Drawn0.refl _ | apply Drawn0.step)⟩
    case round =>
     clear H'
     try clear p2
     try clear c3
     try clear c3b0
     try clear c4
     try clear c4b0
     try clear p5
     try clear q5
     try clear hx5
     try clear p2
     try clear p5
     try clear q5
     obtain ⟨x0_2, x6_2, rfl, rfl, HA, HK2, ⟨m2, rfl⟩⟩ := hrel
     cases gk with
     | zero => exact absurd HA.out (by simp [spec_SumMore.l1])
     | succ k2 =>
      have H := HA.out
      clear HA
      simp only [spec_SumMore.l1] at H
      by_cases c6 : x6_2 < 8
      ·rw [if_pos c6] at H
       have c6b0 := decide_eq_true c6
       clear c6
       by_cases c7 : (Int.tmod x0_2 2) = 1
       ·rw [if_pos c7] at H
        have c7b0 : ((Int.tmod x0_2 2) == 1) = true := beq_iff_eq.mpr c7
        have c7b1 : ((Int.tmod x0_2 2) != 1) = false := bne_eq_false_iff_eq.mpr c7
        clear c7
        have H' := AM H
        clear H
        go_wp2
        go_roundg k2
        case measure => have := HK1.out; have := HK2.out; omega
        case rel => exact ⟨(Go.bits .xor .u32 ((Int.tdiv x0_2 2) % 4294967296) 3558460437), (wrap64 (x6_2 + 1)), FR, FR, H', ⟨by have := HK1.out; have := HK2.out; omega⟩, by repeat (first | exact Drawn0.refl _ | apply Drawn0.step)⟩
       ·rw [if_neg c7] at H
        have c7b0 : ((Int.tmod x0_2 2) == 1) = false := beq_eq_false_iff_ne.mpr c7
        have c7b1 : ((Int.tmod x0_2 2) != 1) = true := bne_iff_ne.mpr c7
        have H' := AM H
        clear H
        go_wp2
        go_roundg k2
        case measure => have := HK1.out; have := HK2.out; omega
        case rel => exact ⟨((Int.tdiv x0_2 2) % 4294967296), (wrap64 (x6_2 + 1)), FR, FR, H', ⟨by have := HK1.out; have := HK2.out; omega⟩, by repeat (first | exact Drawn0.refl _ | apply Drawn0.step)⟩
      ·rw [if_neg c6] at H
       have c6b0 := decide_eq_false c6
       clear c6
       have H' := AM H
       clear H
       go_wp2
       go_roundg k2
       case measure => have := HK1.out; have := HK2.out; omega
       case rel => exact ⟨(x0_2), (wrap64 (x5_1 + 1)), FR, FR, H', ⟨by have := HK1.out; have := HK2.out; omega⟩, by repeat (first | exact Drawn0.refl _ | apply Drawn0.step)⟩
   ·rw [if_neg c3] at H
    have c3b0 := decide_eq_false c3
    clear c3
    obtain rfl := Option.some.inj H
    go_wp2
    go_ret
    exact ⟨FR, by repeat (first | exact Drawn0.refl _ | apply Drawn0.step)⟩

def spec_SumOf.f (k : Nat) (a0 : ByteArray) : Option (Int) := (spec_SumMore.f k 4294967295 a0).bind fun t132 => (some t132)
set_option maxHeartbeats 8000000 in
set_option maxRecDepth 100000 in
theorem spec_SumOf.calls (k : Nat) (a0 : ByteArray) (r : Int) (w : World) (h : spec_SumOf.f k a0 = some r) :
  Calls Try.prog 54 #[.string a0] w fun e w' => e = .returned (.int .u32 r) ∧ Drawn0 w w' := by
 have H : ((spec_SumMore.f k 4294967295 a0).bind fun t132 => (some t132)) = some r := h
 clear h
 replace H := Option.bind_eq_some_iff.mp H
 obtain ⟨t132, A20, H⟩ := H
 replace H : (some t132) = some r := H
 have A2 := AM A20
 clear A20
 obtain rfl := Option.some.inj H
 go_enter Try.func54, Try.ntmps54
 go_wp2_with (first | ((with_reducible refine gate_callee (f := 80) rfl ?_); refine GL (some 4) rfl rfl Try.func80 #[.int .u32 4294967295, .string a0] rfl ?_; (with_reducible refine (spec_SumMore.calls k 4294967295 a0 t132 _ A2.out).mono ?_); rintro e w' ⟨rfl, ⟨nd, rfl⟩⟩; refine ⟨_, rfl, ?_⟩))
 go_ret
 exact ⟨FR, by repeat (first | exact Drawn0.refl _ | apply Drawn0.step)⟩

def spec_SumText.f (k : Nat) (a0 : ByteArray) : Option (Int) := (spec_SumOf.f k a0).bind fun t133 => (some (wrap64 (t133)))
set_option maxHeartbeats 8000000 in
set_option maxRecDepth 100000 in
theorem spec_SumText.calls (k : Nat) (a0 : ByteArray) (r : Int) (w : World) (h : spec_SumText.f k a0 = some r) :
  Calls Try.prog 29 #[.string a0] w fun e w' => e = .returned (.int .i64 r) ∧ Drawn0 w w' := by
 have H : ((spec_SumOf.f k a0).bind fun t133 => (some (wrap64 (t133)))) = some r := h
 clear h
 replace H := Option.bind_eq_some_iff.mp H
 obtain ⟨t133, A20, H⟩ := H
 replace H : (some (wrap64 (t133))) = some r := H
 have A2 := AM A20
 clear A20
 obtain rfl := Option.some.inj H
 go_enter Try.func29, Try.ntmps29
 go_wp2_with (first | ((with_reducible refine gate_callee (f := 54) rfl ?_); refine GL (some 4) rfl rfl Try.func54 #[.string a0] rfl ?_; (with_reducible refine (spec_SumOf.calls k a0 t133 _ A2.out).mono ?_); rintro e w' ⟨rfl, ⟨nd, rfl⟩⟩; refine ⟨_, rfl, ?_⟩))
 go_ret
 exact ⟨FR, by repeat (first | exact Drawn0.refl _ | apply Drawn0.step)⟩

def spec_GetUnit.f (k : Nat) (a0_0 : Int) (a0_1 : Bool) (l0_2 : List (S60)) (a1 : Int) (a2 : Int) : Option (ByteArray × Bool) := (spec_l14At.f k a0_0 a0_1 l0_2 a1 a2).bind fun t423 => (if a0_1 = true then (if t423 < 0 then (some ((⟨#[]⟩ : ByteArray), false)) else (if 0 ≤ t423 then (if t423 < (l0_2.length : Int) then ((spec_SumText.f k ((rd_T60 l0_2 t423).f2)).bind fun t426 => (if ((rd_T60 l0_2 t423).f3) = t426 then (some ((rd_T60 l0_2 t423).f2, true)) else (some ((⟨#[]⟩ : ByteArray), false)))) else (none)) else (none))) else (some ((⟨#[]⟩ : ByteArray), false)))
set_option maxHeartbeats 8000000 in
set_option maxRecDepth 100000 in
theorem spec_GetUnit.calls (k : Nat) (a0_0 : Int) (a0_1 : Bool) (A0_2 : Option Addr) (c0_2 : Nat) (l0_2 : List (S60)) (a1 : Int) (a2 : Int) (r1 : ByteArray) (r2 : Bool) (w : World) (hr0_2 : Kd.C k60 w A0_2 l0_2.length l0_2) (hc0_2 : l0_2.length ≤ c0_2) (h : spec_GetUnit.f k a0_0 a0_1 l0_2 a1 a2 = some (r1, r2)) :
  Calls Try.prog 10 #[.agg #[.int .i64 a0_0, .bool a0_1, .slice A0_2 l0_2.length c0_2], .int .i64 a1, .int .i64 a2] w fun e w' => e = .returned (.tuple #[.string r1, .bool r2]) ∧ Below w.heap.size w w' := by
 have hu35 := Try.underlying35
 have HR0_2 := AM hr0_2
 have HC0_2 := AM hc0_2
 clear hr0_2 hc0_2
 have HB := AM (Below.refl w.heap.size w)
 have H : ((spec_l14At.f k a0_0 a0_1 l0_2 a1 a2).bind fun t423 => (if a0_1 = true then (if t423 < 0 then (some ((⟨#[]⟩ : ByteArray), false)) else (if 0 ≤ t423 then (if t423 < (l0_2.length : Int) then ((spec_SumText.f k ((rd_T60 l0_2 t423).f2)).bind fun t426 => (if ((rd_T60 l0_2 t423).f3) = t426 then (some ((rd_T60 l0_2 t423).f2, true)) else (some ((⟨#[]⟩ : ByteArray), false)))) else (none)) else (none))) else (some ((⟨#[]⟩ : ByteArray), false)))) = some (r1, r2) := h
 clear h
 replace H := Option.bind_eq_some_iff.mp H
 obtain ⟨t423, A40, H⟩ := H
 replace H : (if a0_1 = true then (if t423 < 0 then (some ((⟨#[]⟩ : ByteArray), false)) else (if 0 ≤ t423 then (if t423 < (l0_2.length : Int) then ((spec_SumText.f k ((rd_T60 l0_2 t423).f2)).bind fun t426 => (if ((rd_T60 l0_2 t423).f3) = t426 then (some ((rd_T60 l0_2 t423).f2, true)) else (some ((⟨#[]⟩ : ByteArray), false)))) else (none)) else (none))) else (some ((⟨#[]⟩ : ByteArray), false))) = some (r1, r2) := H
 have A4 := AM A40
 clear A40
 by_cases c5 : a0_1 = true
 ·subst c5
  have H1 : (if t423 < 0 then (some ((⟨#[]⟩ : ByteArray), false)) else (if 0 ≤ t423 then (if t423 < (l0_2.length : Int) then ((spec_SumText.f k ((rd_T60 l0_2 t423).f2)).bind fun t426 => (if ((rd_T60 l0_2 t423).f3) = t426 then (some ((rd_T60 l0_2 t423).f2, true)) else (some ((⟨#[]⟩ : ByteArray), false)))) else (none)) else (none))) = some (r1, r2) := by rw [if_pos rfl] at H; exact H
  clear H
  have H := H1
  clear H1
  by_cases c6 : t423 < 0
  ·rw [if_pos c6] at H
   have c6b0 := decide_eq_true c6
   clear c6
   simp only [Option.some.injEq, Prod.mk.injEq] at H
   obtain ⟨rfl, rfl⟩ := H
   go_enter Try.func10, Try.ntmps10
   go_wp2_with (first | ((with_reducible refine gate_dst (N := 3) rfl ?_); refine BX 3 #[.int .i64 a0_0, .bool true, .slice A0_2 l0_2.length c0_2] 35 ?_; intro gb422 hg w7 hbox hb; have BK422 := AM (hbox); have GW422 : Aside0 (w.heap.size ≤ gb422) := WG hg (BB HB.out); have GE422 := GW422; replace HB := AM (below_step (BB HB.out) hb); clear hb hbox hg; have hcz8 := blk_cell BK422.out; have hfz8 := blk_frozen BK422.out) | (go_at_call 28; (with_reducible refine (spec_l14At.calls k a0_0 true _ _ l0_2 a1 a2 t423 _ ?side1 ?side2 A4.out).mono ?_); (case side1 => exact CC (Kd.C_below HR0_2.out HB.out)); (case side2 => exact HC0_2.out); rintro e w9 ⟨rfl, hb⟩; replace BK422 := AM (KB BK422.out hb); replace HB := AM (below_step (BB1 HB.out GE422.out) hb); (try clear hb); (try clear hb2); (try clear hk); (try clear hi); have hcz10 := blk_cell BK422.out; have hfz10 := blk_frozen BK422.out))
   repeat (go_quiet (first | ((with_reducible refine gate_dst (N := 3) rfl ?_); refine BX 3 #[.int .i64 a0_0, .bool true, .slice A0_2 l0_2.length c0_2] 35 ?_; intro gb422 hg w7 hbox hb; have BK422 := AM (hbox); have GW422 : Aside0 (w.heap.size ≤ gb422) := WG hg (BB HB.out); have GE422 := GW422; replace HB := AM (below_step (BB HB.out) hb); clear hb hbox hg; have hcz8 := blk_cell BK422.out; have hfz8 := blk_frozen BK422.out) | (go_at_call 28; (with_reducible refine (spec_l14At.calls k a0_0 true _ _ l0_2 a1 a2 t423 _ ?side1 ?side2 A4.out).mono ?_); (case side1 => exact CC (Kd.C_below HR0_2.out HB.out)); (case side2 => exact HC0_2.out); rintro e w9 ⟨rfl, hb⟩; replace BK422 := AM (KB BK422.out hb); replace HB := AM (below_step (BB1 HB.out GE422.out) hb); (try clear hb); (try clear hb2); (try clear hk); (try clear hi); have hcz10 := blk_cell BK422.out; have hfz10 := blk_frozen BK422.out)); try go_wp2_with (first | ((with_reducible refine gate_dst (N := 3) rfl ?_); refine BX 3 #[.int .i64 a0_0, .bool true, .slice A0_2 l0_2.length c0_2] 35 ?_; intro gb422 hg w7 hbox hb; have BK422 := AM (hbox); have GW422 : Aside0 (w.heap.size ≤ gb422) := WG hg (BB HB.out); have GE422 := GW422; replace HB := AM (below_step (BB HB.out) hb); clear hb hbox hg; have hcz8 := blk_cell BK422.out; have hfz8 := blk_frozen BK422.out) | (go_at_call 28; (with_reducible refine (spec_l14At.calls k a0_0 true _ _ l0_2 a1 a2 t423 _ ?side1 ?side2 A4.out).mono ?_); (case side1 => exact CC (Kd.C_below HR0_2.out HB.out)); (case side2 => exact HC0_2.out); rintro e w9 ⟨rfl, hb⟩; replace BK422 := AM (KB BK422.out hb); replace HB := AM (below_step (BB1 HB.out GE422.out) hb); (try clear hb); (try clear hb2); (try clear hk); (try clear hi); have hcz10 := blk_cell BK422.out; have hfz10 := blk_frozen BK422.out)))
   go_ret2
   exact ⟨ER, (BB1 HB.out GE422.out)⟩
  ·rw [if_neg c6] at H
   have c6b0 := decide_eq_false c6
   clear c6
   by_cases c11 : 0 ≤ t423
   rotate_left
   ·rw [if_neg c11] at H; exact absurd H (by simp)
   rw [if_pos c11] at H
   have c11b0 := decide_eq_true c11
   clear c11
   by_cases c12 : t423 < (l0_2.length : Int)
   rotate_left
   ·rw [if_neg c12] at H; exact absurd H (by simp)
   rw [if_pos c12] at H
   have c12b0 := decide_eq_true c12
   clear c12
   replace H := Option.bind_eq_some_iff.mp H
   obtain ⟨t426, A130, H⟩ := H
   replace H : (if ((rd_T60 l0_2 t423).f3) = t426 then (some ((rd_T60 l0_2 t423).f2, true)) else (some ((⟨#[]⟩ : ByteArray), false))) = some (r1, r2) := H
   have A13 := AM A130
   clear A130
   by_cases c14 : ((rd_T60 l0_2 t423).f3) = t426
   ·rw [if_pos c14] at H
    have c14b0 : (((rd_T60 l0_2 t423).f3) == t426) = true := beq_iff_eq.mpr c14
    have c14b1 : (((rd_T60 l0_2 t423).f3) != t426) = false := bne_eq_false_iff_eq.mpr c14
    clear c14
    simp only [Option.some.injEq, Prod.mk.injEq] at H
    obtain ⟨rfl, rfl⟩ := H
    go_enter Try.func10, Try.ntmps10
    go_wp2_with (first | ((with_reducible refine gate_dst (N := 3) rfl ?_); refine BX 3 #[.int .i64 a0_0, .bool true, .slice A0_2 l0_2.length c0_2] 35 ?_; intro gb422 hg w15 hbox hb; have BK422 := AM (hbox); have GW422 : Aside0 (w.heap.size ≤ gb422) := WG hg (BB HB.out); have GE422 := GW422; replace HB := AM (below_step (BB HB.out) hb); clear hb hbox hg; have hcz16 := blk_cell BK422.out; have hfz16 := blk_frozen BK422.out) | (go_at_call 28; (with_reducible refine (spec_l14At.calls k a0_0 true _ _ l0_2 a1 a2 t423 _ ?side1 ?side2 A4.out).mono ?_); (case side1 => exact CC (Kd.C_below HR0_2.out HB.out)); (case side2 => exact HC0_2.out); rintro e w17 ⟨rfl, hb⟩; replace BK422 := AM (KB BK422.out hb); replace HB := AM (below_step (BB1 HB.out GE422.out) hb); (try clear hb); (try clear hb2); (try clear hk); (try clear hi); have hcz18 := blk_cell BK422.out; have hfz18 := blk_frozen BK422.out; have p424 : 0 ≤ (t423 : Int) := DT; have q424 : t423 < (l0_2.length : Int) := DT; obtain ⟨ad424, e424, hx424_0, hx424_1, hx424_2, hx424_3⟩ := at_T60 HR0_2.out t423 p424 q424; cases e424; replace hx424_0 := CX HB.out hx424_0; replace hx424_1 := CX HB.out hx424_1; replace hx424_2 := CX HB.out hx424_2; replace hx424_3 := CX HB.out hx424_3; replace p424 := eq_true p424; replace q424 := eq_true q424; have p425 : 0 ≤ (t423 : Int) := DT; have q425 : t423 < (l0_2.length : Int) := DT; obtain ⟨ad425, e425, hx425_0, hx425_1, hx425_2, hx425_3⟩ := at_T60 HR0_2.out t423 p425 q425; obtain rfl : ad424 = ad425 := (by injection e425); replace hx425_0 := CX HB.out hx425_0; replace hx425_1 := CX HB.out hx425_1; replace hx425_2 := CX HB.out hx425_2; replace hx425_3 := CX HB.out hx425_3; replace p425 := eq_true p425; replace q425 := eq_true q425) | (go_at_call 29; (with_reducible refine (spec_SumText.calls k ((rd_T60 l0_2 t423).f2) t426 _ A13.out).mono ?_); rintro e w' ⟨rfl, ⟨nd, rfl⟩⟩; (try first | exact ⟨rfl, _, World.drewN_drewN _ _ _⟩ | exact ⟨rfl, _, Eq.trans (World.drewN_drewN _ _ _) (congrArg (World.drewN _) (Nat.add_assoc _ _ _))⟩); have p427 : 0 ≤ (t423 : Int) := DT; have q427 : t423 < (l0_2.length : Int) := DT; obtain ⟨ad427, e427, hx427_0, hx427_1, hx427_2, hx427_3⟩ := at_T60 HR0_2.out t423 p427 q427; obtain rfl : ad424 = ad427 := (by injection e427); replace hx427_0 := CX HB.out hx427_0; replace hx427_1 := CX HB.out hx427_1; replace hx427_2 := CX HB.out hx427_2; replace hx427_3 := CX HB.out hx427_3; replace p427 := eq_true p427; replace q427 := eq_true q427))
    repeat (go_quiet (first | ((with_reducible refine gate_dst (N := 3) rfl ?_); refine BX 3 #[.int .i64 a0_0, .bool true, .slice A0_2 l0_2.length c0_2] 35 ?_; intro gb422 hg w15 hbox hb; have BK422 := AM (hbox); have GW422 : Aside0 (w.heap.size ≤ gb422) := WG hg (BB HB.out); have GE422 := GW422; replace HB := AM (below_step (BB HB.out) hb); clear hb hbox hg; have hcz16 := blk_cell BK422.out; have hfz16 := blk_frozen BK422.out) | (go_at_call 28; (with_reducible refine (spec_l14At.calls k a0_0 true _ _ l0_2 a1 a2 t423 _ ?side1 ?side2 A4.out).mono ?_); (case side1 => exact CC (Kd.C_below HR0_2.out HB.out)); (case side2 => exact HC0_2.out); rintro e w17 ⟨rfl, hb⟩; replace BK422 := AM (KB BK422.out hb); replace HB := AM (below_step (BB1 HB.out GE422.out) hb); (try clear hb); (try clear hb2); (try clear hk); (try clear hi); have hcz18 := blk_cell BK422.out; have hfz18 := blk_frozen BK422.out; have p424 : 0 ≤ (t423 : Int) := DT; have q424 : t423 < (l0_2.length : Int) := DT; obtain ⟨ad424, e424, hx424_0, hx424_1, hx424_2, hx424_3⟩ := at_T60 HR0_2.out t423 p424 q424; cases e424; replace hx424_0 := CX HB.out hx424_0; replace hx424_1 := CX HB.out hx424_1; replace hx424_2 := CX HB.out hx424_2; replace hx424_3 := CX HB.out hx424_3; replace p424 := eq_true p424; replace q424 := eq_true q424; have p425 : 0 ≤ (t423 : Int) := DT; have q425 : t423 < (l0_2.length : Int) := DT; obtain ⟨ad425, e425, hx425_0, hx425_1, hx425_2, hx425_3⟩ := at_T60 HR0_2.out t423 p425 q425; obtain rfl : ad424 = ad425 := (by injection e425); replace hx425_0 := CX HB.out hx425_0; replace hx425_1 := CX HB.out hx425_1; replace hx425_2 := CX HB.out hx425_2; replace hx425_3 := CX HB.out hx425_3; replace p425 := eq_true p425; replace q425 := eq_true q425) | (go_at_call 29; (with_reducible refine (spec_SumText.calls k ((rd_T60 l0_2 t423).f2) t426 _ A13.out).mono ?_); rintro e w' ⟨rfl, ⟨nd, rfl⟩⟩; (try first | exact ⟨rfl, _, World.drewN_drewN _ _ _⟩ | exact ⟨rfl, _, Eq.trans (World.drewN_drewN _ _ _) (congrArg (World.drewN _) (Nat.add_assoc _ _ _))⟩); have p427 : 0 ≤ (t423 : Int) := DT; have q427 : t423 < (l0_2.length : Int) := DT; obtain ⟨ad427, e427, hx427_0, hx427_1, hx427_2, hx427_3⟩ := at_T60 HR0_2.out t423 p427 q427; obtain rfl : ad424 = ad427 := (by injection e427); replace hx427_0 := CX HB.out hx427_0; replace hx427_1 := CX HB.out hx427_1; replace hx427_2 := CX HB.out hx427_2; replace hx427_3 := CX HB.out hx427_3; replace p427 := eq_true p427; replace q427 := eq_true q427)); try go_wp2_with (first | ((with_reducible refine gate_dst (N := 3) rfl ?_); refine BX 3 #[.int .i64 a0_0, .bool true, .slice A0_2 l0_2.length c0_2] 35 ?_; intro gb422 hg w15 hbox hb; have BK422 := AM (hbox); have GW422 : Aside0 (w.heap.size ≤ gb422) := WG hg (BB HB.out); have GE422 := GW422; replace HB := AM (below_step (BB HB.out) hb); clear hb hbox hg; have hcz16 := blk_cell BK422.out; have hfz16 := blk_frozen BK422.out) | (go_at_call 28; (with_reducible refine (spec_l14At.calls k a0_0 true _ _ l0_2 a1 a2 t423 _ ?side1 ?side2 A4.out).mono ?_); (case side1 => exact CC (Kd.C_below HR0_2.out HB.out)); (case side2 => exact HC0_2.out); rintro e w17 ⟨rfl, hb⟩; replace BK422 := AM (KB BK422.out hb); replace HB := AM (below_step (BB1 HB.out GE422.out) hb); (try clear hb); (try clear hb2); (try clear hk); (try clear hi); have hcz18 := blk_cell BK422.out; have hfz18 := blk_frozen BK422.out; have p424 : 0 ≤ (t423 : Int) := DT; have q424 : t423 < (l0_2.length : Int) := DT; obtain ⟨ad424, e424, hx424_0, hx424_1, hx424_2, hx424_3⟩ := at_T60 HR0_2.out t423 p424 q424; cases e424; replace hx424_0 := CX HB.out hx424_0; replace hx424_1 := CX HB.out hx424_1; replace hx424_2 := CX HB.out hx424_2; replace hx424_3 := CX HB.out hx424_3; replace p424 := eq_true p424; replace q424 := eq_true q424; have p425 : 0 ≤ (t423 : Int) := DT; have q425 : t423 < (l0_2.length : Int) := DT; obtain ⟨ad425, e425, hx425_0, hx425_1, hx425_2, hx425_3⟩ := at_T60 HR0_2.out t423 p425 q425; obtain rfl : ad424 = ad425 := (by injection e425); replace hx425_0 := CX HB.out hx425_0; replace hx425_1 := CX HB.out hx425_1; replace hx425_2 := CX HB.out hx425_2; replace hx425_3 := CX HB.out hx425_3; replace p425 := eq_true p425; replace q425 := eq_true q425) | (go_at_call 29; (with_reducible refine (spec_SumText.calls k ((rd_T60 l0_2 t423).f2) t426 _ A13.out).mono ?_); rintro e w' ⟨rfl, ⟨nd, rfl⟩⟩; (try first | exact ⟨rfl, _, World.drewN_drewN _ _ _⟩ | exact ⟨rfl, _, Eq.trans (World.drewN_drewN _ _ _) (congrArg (World.drewN _) (Nat.add_assoc _ _ _))⟩); have p427 : 0 ≤ (t423 : Int) := DT; have q427 : t423 < (l0_2.length : Int) := DT; obtain ⟨ad427, e427, hx427_0, hx427_1, hx427_2, hx427_3⟩ := at_T60 HR0_2.out t423 p427 q427; obtain rfl : ad424 = ad427 := (by injection e427); replace hx427_0 := CX HB.out hx427_0; replace hx427_1 := CX HB.out hx427_1; replace hx427_2 := CX HB.out hx427_2; replace hx427_3 := CX HB.out hx427_3; replace p427 := eq_true p427; replace q427 := eq_true q427)))
    go_ret2
    exact ⟨ER, (BB1 HB.out GE422.out)⟩
   ·rw [if_neg c14] at H
    have c14b0 : (((rd_T60 l0_2 t423).f3) == t426) = false := beq_eq_false_iff_ne.mpr c14
    have c14b1 : (((rd_T60 l0_2 t423).f3) != t426) = true := bne_iff_ne.mpr c14
    simp only [Option.some.injEq, Prod.mk.injEq] at H
    obtain ⟨rfl, rfl⟩ := H
    go_enter Try.func10, Try.ntmps10
    go_wp2_with (first | ((with_reducible refine gate_dst (N := 3) rfl ?_); refine BX 3 #[.int .i64 a0_0, .bool true, .slice A0_2 l0_2.length c0_2] 35 ?_; intro gb422 hg w19 hbox hb; have BK422 := AM (hbox); have GW422 : Aside0 (w.heap.size ≤ gb422) := WG hg (BB HB.out); have GE422 := GW422; replace HB := AM (below_step (BB HB.out) hb); clear hb hbox hg; have hcz20 := blk_cell BK422.out; have hfz20 := blk_frozen BK422.out) | (go_at_call 28; (with_reducible refine (spec_l14At.calls k a0_0 true _ _ l0_2 a1 a2 t423 _ ?side1 ?side2 A4.out).mono ?_); (case side1 => exact CC (Kd.C_below HR0_2.out HB.out)); (case side2 => exact HC0_2.out); rintro e w21 ⟨rfl, hb⟩; replace BK422 := AM (KB BK422.out hb); replace HB := AM (below_step (BB1 HB.out GE422.out) hb); (try clear hb); (try clear hb2); (try clear hk); (try clear hi); have hcz22 := blk_cell BK422.out; have hfz22 := blk_frozen BK422.out; have p424 : 0 ≤ (t423 : Int) := DT; have q424 : t423 < (l0_2.length : Int) := DT; obtain ⟨ad424, e424, hx424_0, hx424_1, hx424_2, hx424_3⟩ := at_T60 HR0_2.out t423 p424 q424; cases e424; replace hx424_0 := CX HB.out hx424_0; replace hx424_1 := CX HB.out hx424_1; replace hx424_2 := CX HB.out hx424_2; replace hx424_3 := CX HB.out hx424_3; replace p424 := eq_true p424; replace q424 := eq_true q424; have p425 : 0 ≤ (t423 : Int) := DT; have q425 : t423 < (l0_2.length : Int) := DT; obtain ⟨ad425, e425, hx425_0, hx425_1, hx425_2, hx425_3⟩ := at_T60 HR0_2.out t423 p425 q425; obtain rfl : ad424 = ad425 := (by injection e425); replace hx425_0 := CX HB.out hx425_0; replace hx425_1 := CX HB.out hx425_1; replace hx425_2 := CX HB.out hx425_2; replace hx425_3 := CX HB.out hx425_3; replace p425 := eq_true p425; replace q425 := eq_true q425) | (go_at_call 29; (with_reducible refine (spec_SumText.calls k ((rd_T60 l0_2 t423).f2) t426 _ A13.out).mono ?_); rintro e w' ⟨rfl, ⟨nd, rfl⟩⟩; (try first | exact ⟨rfl, _, World.drewN_drewN _ _ _⟩ | exact ⟨rfl, _, Eq.trans (World.drewN_drewN _ _ _) (congrArg (World.drewN _) (Nat.add_assoc _ _ _))⟩)))
    repeat (go_quiet (first | ((with_reducible refine gate_dst (N := 3) rfl ?_); refine BX 3 #[.int .i64 a0_0, .bool true, .slice A0_2 l0_2.length c0_2] 35 ?_; intro gb422 hg w19 hbox hb; have BK422 := AM (hbox); have GW422 : Aside0 (w.heap.size ≤ gb422) := WG hg (BB HB.out); have GE422 := GW422; replace HB := AM (below_step (BB HB.out) hb); clear hb hbox hg; have hcz20 := blk_cell BK422.out; have hfz20 := blk_frozen BK422.out) | (go_at_call 28; (with_reducible refine (spec_l14At.calls k a0_0 true _ _ l0_2 a1 a2 t423 _ ?side1 ?side2 A4.out).mono ?_); (case side1 => exact CC (Kd.C_below HR0_2.out HB.out)); (case side2 => exact HC0_2.out); rintro e w21 ⟨rfl, hb⟩; replace BK422 := AM (KB BK422.out hb); replace HB := AM (below_step (BB1 HB.out GE422.out) hb); (try clear hb); (try clear hb2); (try clear hk); (try clear hi); have hcz22 := blk_cell BK422.out; have hfz22 := blk_frozen BK422.out; have p424 : 0 ≤ (t423 : Int) := DT; have q424 : t423 < (l0_2.length : Int) := DT; obtain ⟨ad424, e424, hx424_0, hx424_1, hx424_2, hx424_3⟩ := at_T60 HR0_2.out t423 p424 q424; cases e424; replace hx424_0 := CX HB.out hx424_0; replace hx424_1 := CX HB.out hx424_1; replace hx424_2 := CX HB.out hx424_2; replace hx424_3 := CX HB.out hx424_3; replace p424 := eq_true p424; replace q424 := eq_true q424; have p425 : 0 ≤ (t423 : Int) := DT; have q425 : t423 < (l0_2.length : Int) := DT; obtain ⟨ad425, e425, hx425_0, hx425_1, hx425_2, hx425_3⟩ := at_T60 HR0_2.out t423 p425 q425; obtain rfl : ad424 = ad425 := (by injection e425); replace hx425_0 := CX HB.out hx425_0; replace hx425_1 := CX HB.out hx425_1; replace hx425_2 := CX HB.out hx425_2; replace hx425_3 := CX HB.out hx425_3; replace p425 := eq_true p425; replace q425 := eq_true q425) | (go_at_call 29; (with_reducible refine (spec_SumText.calls k ((rd_T60 l0_2 t423).f2) t426 _ A13.out).mono ?_); rintro e w' ⟨rfl, ⟨nd, rfl⟩⟩; (try first | exact ⟨rfl, _, World.drewN_drewN _ _ _⟩ | exact ⟨rfl, _, Eq.trans (World.drewN_drewN _ _ _) (congrArg (World.drewN _) (Nat.add_assoc _ _ _))⟩))); try go_wp2_with (first | ((with_reducible refine gate_dst (N := 3) rfl ?_); refine BX 3 #[.int .i64 a0_0, .bool true, .slice A0_2 l0_2.length c0_2] 35 ?_; intro gb422 hg w19 hbox hb; have BK422 := AM (hbox); have GW422 : Aside0 (w.heap.size ≤ gb422) := WG hg (BB HB.out); have GE422 := GW422; replace HB := AM (below_step (BB HB.out) hb); clear hb hbox hg; have hcz20 := blk_cell BK422.out; have hfz20 := blk_frozen BK422.out) | (go_at_call 28; (with_reducible refine (spec_l14At.calls k a0_0 true _ _ l0_2 a1 a2 t423 _ ?side1 ?side2 A4.out).mono ?_); (case side1 => exact CC (Kd.C_below HR0_2.out HB.out)); (case side2 => exact HC0_2.out); rintro e w21 ⟨rfl, hb⟩; replace BK422 := AM (KB BK422.out hb); replace HB := AM (below_step (BB1 HB.out GE422.out) hb); (try clear hb); (try clear hb2); (try clear hk); (try clear hi); have hcz22 := blk_cell BK422.out; have hfz22 := blk_frozen BK422.out; have p424 : 0 ≤ (t423 : Int) := DT; have q424 : t423 < (l0_2.length : Int) := DT; obtain ⟨ad424, e424, hx424_0, hx424_1, hx424_2, hx424_3⟩ := at_T60 HR0_2.out t423 p424 q424; cases e424; replace hx424_0 := CX HB.out hx424_0; replace hx424_1 := CX HB.out hx424_1; replace hx424_2 := CX HB.out hx424_2; replace hx424_3 := CX HB.out hx424_3; replace p424 := eq_true p424; replace q424 := eq_true q424; have p425 : 0 ≤ (t423 : Int) := DT; have q425 : t423 < (l0_2.length : Int) := DT; obtain ⟨ad425, e425, hx425_0, hx425_1, hx425_2, hx425_3⟩ := at_T60 HR0_2.out t423 p425 q425; obtain rfl : ad424 = ad425 := (by injection e425); replace hx425_0 := CX HB.out hx425_0; replace hx425_1 := CX HB.out hx425_1; replace hx425_2 := CX HB.out hx425_2; replace hx425_3 := CX HB.out hx425_3; replace p425 := eq_true p425; replace q425 := eq_true q425) | (go_at_call 29; (with_reducible refine (spec_SumText.calls k ((rd_T60 l0_2 t423).f2) t426 _ A13.out).mono ?_); rintro e w' ⟨rfl, ⟨nd, rfl⟩⟩; (try first | exact ⟨rfl, _, World.drewN_drewN _ _ _⟩ | exact ⟨rfl, _, Eq.trans (World.drewN_drewN _ _ _) (congrArg (World.drewN _) (Nat.add_assoc _ _ _))⟩))))
    go_ret2
    exact ⟨ER, (BB1 HB.out GE422.out)⟩
 ·replace c5 := Bool.eq_false_iff.mpr c5
  subst c5
  have H1 : (some ((⟨#[]⟩ : ByteArray), false)) = some (r1, r2) := by rw [if_neg (show ¬ (false = true) by decide)] at H; exact H
  clear H
  have H := H1
  clear H1
  simp only [Option.some.injEq, Prod.mk.injEq] at H
  obtain ⟨rfl, rfl⟩ := H
  go_enter Try.func10, Try.ntmps10
  go_wp2_with (first | ((with_reducible refine gate_dst (N := 3) rfl ?_); refine BX 3 #[.int .i64 a0_0, .bool false, .slice A0_2 l0_2.length c0_2] 35 ?_; intro gb422 hg w23 hbox hb; have BK422 := AM (hbox); have GW422 : Aside0 (w.heap.size ≤ gb422) := WG hg (BB HB.out); have GE422 := GW422; replace HB := AM (below_step (BB HB.out) hb); clear hb hbox hg; have hcz24 := blk_cell BK422.out; have hfz24 := blk_frozen BK422.out) | (go_at_call 28; (with_reducible refine (spec_l14At.calls k a0_0 false _ _ l0_2 a1 a2 t423 _ ?side1 ?side2 A4.out).mono ?_); (case side1 => exact CC (Kd.C_below HR0_2.out HB.out)); (case side2 => exact HC0_2.out); rintro e w25 ⟨rfl, hb⟩; replace BK422 := AM (KB BK422.out hb); replace HB := AM (below_step (BB1 HB.out GE422.out) hb); (try clear hb); (try clear hb2); (try clear hk); (try clear hi); have hcz26 := blk_cell BK422.out; have hfz26 := blk_frozen BK422.out))
  repeat (go_quiet (first | ((with_reducible refine gate_dst (N := 3) rfl ?_); refine BX 3 #[.int .i64 a0_0, .bool false, .slice A0_2 l0_2.length c0_2] 35 ?_; intro gb422 hg w23 hbox hb; have BK422 := AM (hbox); have GW422 : Aside0 (w.heap.size ≤ gb422) := WG hg (BB HB.out); have GE422 := GW422; replace HB := AM (below_step (BB HB.out) hb); clear hb hbox hg; have hcz24 := blk_cell BK422.out; have hfz24 := blk_frozen BK422.out) | (go_at_call 28; (with_reducible refine (spec_l14At.calls k a0_0 false _ _ l0_2 a1 a2 t423 _ ?side1 ?side2 A4.out).mono ?_); (case side1 => exact CC (Kd.C_below HR0_2.out HB.out)); (case side2 => exact HC0_2.out); rintro e w25 ⟨rfl, hb⟩; replace BK422 := AM (KB BK422.out hb); replace HB := AM (below_step (BB1 HB.out GE422.out) hb); (try clear hb); (try clear hb2); (try clear hk); (try clear hi); have hcz26 := blk_cell BK422.out; have hfz26 := blk_frozen BK422.out)); try go_wp2_with (first | ((with_reducible refine gate_dst (N := 3) rfl ?_); refine BX 3 #[.int .i64 a0_0, .bool false, .slice A0_2 l0_2.length c0_2] 35 ?_; intro gb422 hg w23 hbox hb; have BK422 := AM (hbox); have GW422 : Aside0 (w.heap.size ≤ gb422) := WG hg (BB HB.out); have GE422 := GW422; replace HB := AM (below_step (BB HB.out) hb); clear hb hbox hg; have hcz24 := blk_cell BK422.out; have hfz24 := blk_frozen BK422.out) | (go_at_call 28; (with_reducible refine (spec_l14At.calls k a0_0 false _ _ l0_2 a1 a2 t423 _ ?side1 ?side2 A4.out).mono ?_); (case side1 => exact CC (Kd.C_below HR0_2.out HB.out)); (case side2 => exact HC0_2.out); rintro e w25 ⟨rfl, hb⟩; replace BK422 := AM (KB BK422.out hb); replace HB := AM (below_step (BB1 HB.out GE422.out) hb); (try clear hb); (try clear hb2); (try clear hk); (try clear hi); have hcz26 := blk_cell BK422.out; have hfz26 := blk_frozen BK422.out)))
  go_ret2
  exact ⟨ER, (BB1 HB.out GE422.out)⟩

def IsS81 (w0 W : World) (g : Nat) (f0 : List Int) (f1 : Int) (f2 : Int) : Prop := ∃ A0 c0, W.heap[g]? = some (.cells #[.slice A0 f0.length c0, .int .i64 f1, .int .i64 f2] 81 (0, 0)) ∧ w0.heap.size ≤ g ∧ Kd.C (Kd.int .u8) w0 A0 f0.length f0
theorem IsS81.grown {w0 W : World} {g : Nat} {f0 : List Int} {f1 : Int} {f2 : Int} {W1 : World} {row : Option Nat} (h : IsS81 w0 W g f0 f1 f2) (hw : W.grownBy W1 row) (hne : some g ≠ row) : IsS81 w0 W1 g f0 f1 f2 := by
 obtain ⟨A0, c0, hb, hg, hr0⟩ := h
 exact ⟨A0, c0, blk_grown hb hw hne, hg, hr0⟩
theorem IsS81.kept {w0 W : World} {g : Nat} {f0 : List Int} {f1 : Int} {f2 : Int} {W1 : World} {S : Nat → Prop} (h : IsS81 w0 W g f0 f1 f2) (hk : Kept W W1 S) (hne : ¬ S g) : IsS81 w0 W1 g f0 f1 f2 := by
 obtain ⟨A0, c0, hb, hg, hr0⟩ := h
 exact ⟨A0, c0, blk_kept hb hk hne, hg, hr0⟩
theorem IsS81.below {w0 W : World} {g : Nat} {f0 : List Int} {f1 : Int} {f2 : Int} {W1 : World} (h : IsS81 w0 W g f0 f1 f2) (hw : Below W.heap.size W W1) : IsS81 w0 W1 g f0 f1 f2 := h.grown (grown_of_below hw none) (by simp)
theorem IsS81.alloc {w0 W : World} {g : Nat} {f0 : List Int} {f1 : Int} {f2 : Int} (h : IsS81 w0 W g f0 f1 f2) (o : Obj) : IsS81 w0 (W.alloc o) g f0 f1 f2 := h.below (below_alloc (Below.refl _ _) o)
theorem IsS81.drewN {w0 W : World} {g : Nat} {f0 : List Int} {f1 : Int} {f2 : Int} (h : IsS81 w0 W g f0 f1 f2) (m : Nat) : IsS81 w0 (W.drewN m) g f0 f1 f2 := h
theorem IsS81.drew {w0 W : World} {g : Nat} {f0 : List Int} {f1 : Int} {f2 : Int} (h : IsS81 w0 W g f0 f1 f2) : IsS81 w0 W.drew g f0 f1 f2 := h
theorem IsS81.at_ {w0 W : World} {g : Nat} {f0 : List Int} {f1 : Int} {f2 : Int} {w' : World} {m : Nat} (hq : W.drewN m = w') (h : IsS81 w0 W g f0 f1 f2) : IsS81 w0 w' g f0 f1 f2 := by subst hq; exact IsS81.drewN h m
theorem IsS81.apart {w0 W : World} {g : Nat} {f0 : List Int} {f1 : Int} {f2 : Int} {α : Type} {d : Kd α} {e : Nat} {base : Nat} {ok : Nat → Prop} {v : Value} {xs : List α} (h : IsS81 w0 W g f0 f1 f2) (ho : d.R e W base ok v xs) (ht : ∀ q, q ∈ e :: d.E → q ≠ 81) : d.R e W base (fun k => ok k ∧ k ≠ g) v xs := by
 obtain ⟨A0, c0, hb, hg, hr0⟩ := h
 exact Kd.R_types ho hb ht
theorem IsS81.own_ne {w0 W : World} {g : Nat} {f0 : List Int} {f1 : Int} {f2 : Int} {α : Type} {d : Kd α} {e : Nat} {base : Nat} {ok : Nat → Prop} {v : Value} {xs : List α} (h : IsS81 w0 W g f0 f1 f2) (ho : d.R e W base ok v xs) (ht : e ≠ 81) : some g ≠ v.ownBlock := by
 obtain ⟨A0, c0, hb, hg, hr0⟩ := h
 exact Kd.R_ne ho hb ht
theorem IsS81.apartS {w0 W : World} {g : Nat} {f0 : List Int} {f1 : Int} {f2 : Int} {α : Type} {d : Kd α} {e : Nat} {base : Nat} {ok : Nat → Prop} {v : Value} {xs : List α} (h : IsS81 w0 W g f0 f1 f2) (ho : d.S e W base ok v xs) (ht : ∀ q, q ∈ e :: d.E → q ≠ 81) : d.S e W base (fun k => ok k ∧ k ≠ g) v xs := by
 obtain ⟨A0, c0, hb, hg, hr0⟩ := h
 exact Kd.S_types ho hb ht
theorem IsS81.own_neS {w0 W : World} {g : Nat} {f0 : List Int} {f1 : Int} {f2 : Int} {α : Type} {d : Kd α} {e : Nat} {base : Nat} {ok : Nat → Prop} {v : Value} {xs : List α} (h : IsS81 w0 W g f0 f1 f2) (ho : d.S e W base ok v xs) (ht : e ≠ 81) : some g ≠ v.ownBlock := by
 obtain ⟨A0, c0, hb, hg, hr0⟩ := h
 exact Kd.S_ne ho hb ht
theorem IsS81.lt {w0 W : World} {g : Nat} {f0 : List Int} {f1 : Int} {f2 : Int} (h : IsS81 w0 W g f0 f1 f2) : g < W.heap.size := by
 obtain ⟨A0, c0, hb, hg, hr0⟩ := h
 exact blk_lt hb
theorem IsS81.ge {w0 W : World} {g : Nat} {f0 : List Int} {f1 : Int} {f2 : Int} (h : IsS81 w0 W g f0 f1 f2) : w0.heap.size ≤ g := by
 obtain ⟨A0, c0, hb, hg, hr0⟩ := h
 exact hg
theorem IsS81.ne_blk {w0 W : World} {g : Nat} {f0 : List Int} {f1 : Int} {f2 : Int} {a : Nat} {cs : Array Value} {t : TypeId} {fr : Nat × Nat} (h : IsS81 w0 W g f0 f1 f2) (hb2 : W.heap[a]? = some (.cells cs t fr)) (ht : t ≠ 81) : g ≠ a := by
 obtain ⟨A0, c0, hb, hg, hr0⟩ := h
 rintro rfl
 rw [hb] at hb2
 injection hb2 with hb2
 injection hb2 with _ ht2
 exact ht ht2.symm
theorem IsS81.far {w0 W : World} {g : Nat} {f0 : List Int} {f1 : Int} {f2 : Int} {p : Addr} (h : IsS81 w0 W g f0 f1 f2) (hne : g ≠ p.block) (u : Value) : IsS81 w0 (W.setCell p u) g f0 f1 f2 := by
 obtain ⟨A0, c0, hb, hg, hr0⟩ := h
 exact ⟨A0, c0, blk_far hb hne u, hg, hr0⟩
theorem cellS81_0 {W : World} {g : Nat} {A0 : Option Addr} {c0 : Nat} {f0 : List Int} {f1 : Int} {f2 : Int} (h : W.heap[g]? = some (.cells #[.slice A0 f0.length c0, .int .i64 f1, .int .i64 f2] 81 (0, 0))) : W.cell? ⟨g, 0, none⟩ = some (.slice A0 f0.length c0) := (blk_cell h 0).trans rfl
theorem cellS81_1 {W : World} {g : Nat} {A0 : Option Addr} {c0 : Nat} {f0 : List Int} {f1 : Int} {f2 : Int} (h : W.heap[g]? = some (.cells #[.slice A0 f0.length c0, .int .i64 f1, .int .i64 f2] 81 (0, 0))) : W.cell? ⟨g, 1, none⟩ = some (.int .i64 f1) := (blk_cell h 1).trans rfl
theorem IsS81.set_1 {w0 W : World} {g : Nat} {f0 : List Int} {f1 : Int} {f2 : Int} (h : IsS81 w0 W g f0 f1 f2) (x : Int) : IsS81 w0 (W.setCell ⟨g, 1, none⟩ (.int .i64 x)) g f0 x f2 := by
 obtain ⟨A0, c0, hb, hg, hr0⟩ := h
 exact ⟨A0, c0, by simpa using blk_set hb 1 (.int .i64 x), hg, hr0⟩
theorem cellS81_2 {W : World} {g : Nat} {A0 : Option Addr} {c0 : Nat} {f0 : List Int} {f1 : Int} {f2 : Int} (h : W.heap[g]? = some (.cells #[.slice A0 f0.length c0, .int .i64 f1, .int .i64 f2] 81 (0, 0))) : W.cell? ⟨g, 2, none⟩ = some (.int .i64 f2) := (blk_cell h 2).trans rfl
theorem IsS81.set_2 {w0 W : World} {g : Nat} {f0 : List Int} {f1 : Int} {f2 : Int} (h : IsS81 w0 W g f0 f1 f2) (x : Int) : IsS81 w0 (W.setCell ⟨g, 2, none⟩ (.int .i64 x)) g f0 f1 x := by
 obtain ⟨A0, c0, hb, hg, hr0⟩ := h
 exact ⟨A0, c0, by simpa using blk_set hb 2 (.int .i64 x), hg, hr0⟩
theorem IsS81.new (w0 W : World) (A0 : Option Addr) (c0 : Nat) (f0 : List Int) (f1 : Int) (f2 : Int) (hB : Below w0.heap.size w0 W) (hr0 : Kd.C (Kd.int .u8) w0 A0 f0.length f0) : IsS81 w0 (W.alloc (.cells #[.slice A0 f0.length c0, .int .i64 f1, .int .i64 f2] 81)) W.heap.size f0 f1 f2 := ⟨A0, c0, by simpa using heap_alloc_new W _, hB.size, hr0⟩

theorem II81 {p q : Prop} (h : q) (f : q → p := by intro h_; repeat (first | (with_reducible first | exact h_ | apply IsS81.alloc | apply IsS81.drewN | apply IsS81.drew | apply IsS81.set_1 | apply IsS81.set_2) | exact h_)) : p := f h
theorem II811 {p q r : Prop} (h : q) (g : r) (f : q → r → p := by intro h_ g_; repeat (first | (with_reducible first | exact h_ | apply IsS81.alloc | apply IsS81.drewN | apply IsS81.drew | apply IsS81.set_1 | apply IsS81.set_2 | refine IsS81.far ?_ g_ _) | exact h_)) : p := f h g
theorem II812 {p q r s : Prop} (h : q) (g : r) (k : s) (f : q → r → s → p := by intro h_ g_ k_; repeat (first | (with_reducible first | exact h_ | apply IsS81.alloc | apply IsS81.drewN | apply IsS81.drew | apply IsS81.set_1 | apply IsS81.set_2 | refine IsS81.far ?_ g_ _ | refine IsS81.far ?_ k_ _) | exact h_)) : p := f h g k
def spec_l01Byte.f (s0_0 : List Int) (s0_1 : Int) (s0_2 : Int) : Option (Int × Int × Int) := if s0_1 < (s0_0.length : Int) then (if 0 ≤ s0_1 then (some (Go.bits .and .i64 (wrap64 ((Go.bits .and .i64 (Go.bits .xor .i64 ((wrap64 ((wrap64 (s0_2 * 6364136223846793005)) + 1442695040888963407)) / 8589934592) ((wrap64 ((wrap64 (s0_2 * 6364136223846793005)) + 1442695040888963407)) / 35184372088832)) 255) + (wrap64 (rd s0_0 s0_1)))) 255, wrap64 (s0_1 + 1), wrap64 ((wrap64 (s0_2 * 6364136223846793005)) + 1442695040888963407))) else (none)) else (some (Go.bits .and .i64 (Go.bits .xor .i64 ((wrap64 ((wrap64 (s0_2 * 6364136223846793005)) + 1442695040888963407)) / 8589934592) ((wrap64 ((wrap64 (s0_2 * 6364136223846793005)) + 1442695040888963407)) / 35184372088832)) 255, s0_1, wrap64 ((wrap64 (s0_2 * 6364136223846793005)) + 1442695040888963407)))
set_option maxHeartbeats 8000000 in
set_option maxRecDepth 100000 in
theorem spec_l01Byte.calls (g : Nat) (s0_0 : List Int) (s0_1 : Int) (s0_2 : Int) (r1 : Int) (r2 : Int) (r3 : Int) (w0 w : World) (hI : IsS81 w0 w g s0_0 s0_1 s0_2) (hB : Below w0.heap.size w0 w) (h : spec_l01Byte.f s0_0 s0_1 s0_2 = some (r1, r2, r3)) :
  Calls Try.prog 31 #[.pointer (some ⟨g, 0, none⟩)] w fun e w' => e = .returned (.int .i64 r1) ∧ IsS81 w0 w' g s0_0 r2 r3 ∧ Below w0.heap.size w0 w' ∧ KeepBut w w' g none := by
 have HI0 := AM hI
 have HK := AM (KeepBut.refl w g none)
 have HL := AM hB.size
 clear hI
 have HW0 := AM hB.size
 have HB := AM hB
 clear hB
 have H : (if s0_1 < (s0_0.length : Int) then (if 0 ≤ s0_1 then (some (Go.bits .and .i64 (wrap64 ((Go.bits .and .i64 (Go.bits .xor .i64 ((wrap64 ((wrap64 (s0_2 * 6364136223846793005)) + 1442695040888963407)) / 8589934592) ((wrap64 ((wrap64 (s0_2 * 6364136223846793005)) + 1442695040888963407)) / 35184372088832)) 255) + (wrap64 (rd s0_0 s0_1)))) 255, wrap64 (s0_1 + 1), wrap64 ((wrap64 (s0_2 * 6364136223846793005)) + 1442695040888963407))) else (none)) else (some (Go.bits .and .i64 (Go.bits .xor .i64 ((wrap64 ((wrap64 (s0_2 * 6364136223846793005)) + 1442695040888963407)) / 8589934592) ((wrap64 ((wrap64 (s0_2 * 6364136223846793005)) + 1442695040888963407)) / 35184372088832)) 255, s0_1, wrap64 ((wrap64 (s0_2 * 6364136223846793005)) + 1442695040888963407)))) = some (r1, r2, r3) := h
 clear h
 by_cases c2 : s0_1 < (s0_0.length : Int)
 ·rw [if_pos c2] at H
  have c2b0 := decide_eq_true c2
  clear c2
  by_cases c3 : 0 ≤ s0_1
  rotate_left
  ·rw [if_neg c3] at H; exact absurd H (by simp)
  rw [if_pos c3] at H
  have c3b0 := decide_eq_true c3
  clear c3
  simp only [Option.some.injEq, Prod.mk.injEq] at H
  obtain ⟨rfl, rfl, rfl⟩ := H
  obtain ⟨ASz4_0, cSz4_0, HGz4, hgz4, HSz4_0⟩ := HI0.out
  have hcz4_0 := cellS81_0 HGz4
  have hcz4_1 := cellS81_1 HGz4
  have hcz4_2 := cellS81_2 HGz4
  have hfz4_1 := blk_frozen HGz4 1
  have hfz4_2 := blk_frozen HGz4 2
  clear HGz4 hgz4
  have p101 : 0 ≤ (s0_1 : Int) := DT
  have q101 : s0_1 < (s0_0.length : Int) := DT
  obtain ⟨ad101, e101, hx101_0⟩ := Kd.at_int HSz4_0 s0_1 p101 q101
  cases e101
  have hn101_0 : ad101.block ≠ g := Nat.ne_of_lt (Nat.lt_of_lt_of_le (by have := World.block_lt_of_cell? _ _ hx101_0; first | rwa [add_block] at this | exact this) (IsS81.ge HI0.out))
  replace hx101_0 := pw_cell_below HB.out hx101_0
  replace hx101_0 := (cell_far (p := ⟨g, 2, none⟩) (by first | (rw [add_block]; exact hn101_0) | (show (Addr.add _ _).block ≠ _; rw [add_block]; exact hn101_0) | exact hn101_0) (.int .i64 (wrap64 ((wrap64 (s0_2 * 6364136223846793005)) + 1442695040888963407)))).trans hx101_0
  (try have hy101_0 := fun (n_ : Nat) => (show (((w.drewN n_).setCell ⟨g, 2, none⟩ (.int .i64 (wrap64 ((wrap64 (s0_2 * 6364136223846793005)) + 1442695040888963407))))).cell? _ = some _ from hx101_0))
  clear hn101_0
  replace p101 := eq_true p101
  replace q101 := eq_true q101
  go_enter Try.func31, Try.ntmps31
  go_wp2
  repeat (go_quiet (fail); try go_wp2)
  go_ret
  exact ⟨ER, (II81 HI0.out), (BB1 HB.out (IsS81.ge HI0.out)), (KK HK.out)⟩
 ·rw [if_neg c2] at H
  have c2b0 := decide_eq_false c2
  clear c2
  simp only [Option.some.injEq, Prod.mk.injEq] at H
  obtain ⟨rfl, rfl, rfl⟩ := H
  obtain ⟨ASz5_0, cSz5_0, HGz5, hgz5, HSz5_0⟩ := HI0.out
  have hcz5_0 := cellS81_0 HGz5
  have hcz5_1 := cellS81_1 HGz5
  have hcz5_2 := cellS81_2 HGz5
  have hfz5_1 := blk_frozen HGz5 1
  have hfz5_2 := blk_frozen HGz5 2
  clear HGz5 hgz5
  go_enter Try.func31, Try.ntmps31
  go_wp2
  repeat (go_quiet (fail); try go_wp2)
  go_ret
  exact ⟨ER, (II81 HI0.out), (BB1 HB.out (IsS81.ge HI0.out)), (KK HK.out)⟩

def spec_l01New.l0 : Nat → List Int → Int → Int → Option (List Int × Int × Int)
 | 0, _, _, _ => none
 | k + 1, x0, x3, x4 => if x4 < (x0.length : Int) then (if x4 < 4000 then (if 0 ≤ x4 then (spec_l01New.l0 k x0 (Go.bits .and .i64 (wrap64 ((wrap64 ((wrap64 (x3 * 131)) + (wrap64 (rd x0 x4)))) + 7)) 1073741823) (wrap64 (x4 + 1))) else (none)) else (some (x0, 0, x3))) else (some (x0, 0, x3))
def spec_l01New.f (k : Nat) (l0 : List Int) : Option (List Int × Int × Int) := spec_l01New.l0 k l0 (wrap64 (36801 + (l0.length : Int))) 0
set_option maxHeartbeats 8000000 in
set_option maxRecDepth 100000 in
theorem spec_l01New.calls (k : Nat) (A0 : Option Addr) (c0 : Nat) (l0 : List Int) (r1 : List Int) (r2 : Int) (r3 : Int) (w0 w : World) (hB : Below w0.heap.size w0 w) (hr0 : Kd.C (Kd.int .u8) w0 A0 l0.length l0) (hc0 : l0.length ≤ c0) (h : spec_l01New.f k l0 = some (r1, r2, r3)) :
  Calls Try.prog 25 #[.slice A0 l0.length c0] w fun e w' => ∃ g_ : Nat, e = .returned (.pointer (some ⟨g_, 0, none⟩)) ∧ IsS81 w0 w' g_ r1 r2 r3 ∧ Below w0.heap.size w0 w' ∧ Below w.heap.size w w' := by
 have hu81 := Try.underlying81
 have HR0 := AM hr0
 have HC0 := AM hc0
 clear hr0 hc0
 have HBW := AM (Below.refl w.heap.size w)
 have HW0 := AM hB.size
 have HB := AM hB
 clear hB
 have H : (spec_l01New.l0 k l0 (wrap64 (36801 + (l0.length : Int))) 0) = some (r1, r2, r3) := h
 clear h
 have H' := AM H
 clear H
 go_enter Try.func25, Try.ntmps25
 go_wp2
 go_loopg [3, 4] k (fun kq v3 v4 w' => ∃ (x3_1 : Int) (x4_1 : Int), v3 = .int .i64 x3_1 ∧ v4 = .int .i64 x4_1 ∧ Aside0 (spec_l01New.l0 kq l0 x3_1 x4_1 = some (r1, r2, r3)) ∧ Aside0 (kq ≤ k) ∧ Aside0 (Below w0.heap.size w0 w') ∧ Aside0 (Below w.heap.size w w'))
 case atStart => exact ⟨(wrap64 (36801 + (l0.length : Int))), (0), FR, FR, H', ⟨Nat.le_refl _⟩, ⟨(BB HB.out)⟩, ⟨(BB HBW.out)⟩⟩
 case round =>
  clear H'
  obtain ⟨x3_1, x4_1, rfl, rfl, HA, HK1, HB, HBW⟩ := hrel
  cases gk with
  | zero => exact absurd HA.out (by simp [spec_l01New.l0])
  | succ k1 =>
   have H := HA.out
   clear HA
   simp only [spec_l01New.l0] at H
   by_cases c2 : x4_1 < (l0.length : Int)
   ·rw [if_pos c2] at H
    have c2b0 := decide_eq_true c2
    clear c2
    by_cases c3 : x4_1 < 4000
    ·rw [if_pos c3] at H
     have c3b0 := decide_eq_true c3
     clear c3
     by_cases c4 : 0 ≤ x4_1
     rotate_left
     ·rw [if_neg c4] at H; exact absurd H (by simp)
     rw [if_pos c4] at H
     have c4b0 := decide_eq_true c4
     clear c4
     have H' := AM H
     clear H
     have p380 : 0 ≤ (x4_1 : Int) := DT
     have q380 : x4_1 < (l0.length : Int) := DT
     obtain ⟨ad380, e380, hx380_0⟩ := Kd.at_int HR0.out x4_1 p380 q380
     cases e380
     replace hx380_0 := pw_cell_below HB.out hx380_0
     replace p380 := eq_true p380
     replace q380 := eq_true q380
     go_wp2
     go_roundg k1
     case measure => have := HK1.out; omega
     case rel => exact ⟨(Go.bits .and .i64 (wrap64 ((wrap64 ((wrap64 (x3_1 * 131)) + (wrap64 (rd l0 x4_1)))) + 7)) 1073741823), (wrap64 (x4_1 + 1)), FR, FR, H', ⟨by have := HK1.out; omega⟩, ⟨(BB HB.out)⟩, ⟨(BB HBW.out)⟩⟩
    ·rw [if_neg c3] at H
     have c3b0 := decide_eq_false c3
     clear c3
     simp only [Option.some.injEq, Prod.mk.injEq] at H
     obtain ⟨rfl, rfl, rfl⟩ := H
     go_wp2_with (first | ((with_reducible refine gate_dst (N := 31) rfl ?_); refine BX 31 #[.slice A0 l0.length c0, .int .i64 0, .int .i64 x3_1] 81 ?_; intro gb381 hg w5 hbox hb; have n0_ := AM (below_step HBW.out hb); have n1_ := AM (below_step (BB HB.out) hb); have n2_ := AM (hbox); have n3_ := AM ((by rw [hg]; exact (below_size (BB HBW.out)) : w.heap.size ≤ gb381)); have n4_ := AM ((Nat.le_trans HW0.out (by rw [hg]; exact (below_size (BB HBW.out)) : w.heap.size ≤ gb381) : w0.heap.size ≤ gb381)); clear HBW; clear HB; have HBW := n0_; have HB := n1_; have BK381 := n2_; have GW381 := n3_; have GE381 := n4_; clear n0_ n1_ n2_ n3_ n4_; clear hb hbox hg))
     go_ret
     exact ⟨_, rfl, (show IsS81 w0 _ gb381 l0 0 x3_1 from ⟨_, _, by refine BD ?_; exact BK381.out, GE381.out, HR0.out⟩), (BB1 HB.out GE381.out), (BB1 HBW.out GW381.out)⟩
   ·rw [if_neg c2] at H
    have c2b0 := decide_eq_false c2
    clear c2
    simp only [Option.some.injEq, Prod.mk.injEq] at H
    obtain ⟨rfl, rfl, rfl⟩ := H
    go_wp2_with (first | ((with_reducible refine gate_dst (N := 31) rfl ?_); refine BX 31 #[.slice A0 l0.length c0, .int .i64 0, .int .i64 x3_1] 81 ?_; intro gb382 hg w6 hbox hb; have n0_ := AM (below_step HBW.out hb); have n1_ := AM (below_step (BB HB.out) hb); have n2_ := AM (hbox); have n3_ := AM ((by rw [hg]; exact (below_size (BB HBW.out)) : w.heap.size ≤ gb382)); have n4_ := AM ((Nat.le_trans HW0.out (by rw [hg]; exact (below_size (BB HBW.out)) : w.heap.size ≤ gb382) : w0.heap.size ≤ gb382)); clear HBW; clear HB; have HBW := n0_; have HB := n1_; have BK382 := n2_; have GW382 := n3_; have GE382 := n4_; clear n0_ n1_ n2_ n3_ n4_; clear hb hbox hg))
    go_ret
    exact ⟨_, rfl, (show IsS81 w0 _ gb382 l0 0 x3_1 from ⟨_, _, by refine BD ?_; exact BK382.out, GE382.out, HR0.out⟩), (BB1 HB.out GE382.out), (BB1 HBW.out GW382.out)⟩

end Go.Proofs.Ytaejgompckpmfaa.Pr
namespace Go.Proofs.Ytaejgompckpmfaa.Pr
open Go.RowKit Go.Proofs.YtaejgompckpmfaaW.PrintWords Go.Proofs.YtaejgompckpmfaaW.PrintLast Go.Proofs.YtaejgompckpmfaaW.PrintMore
open Go.Lib Go.Shelf
def btN (s : ByteArray) (j : Nat) : Int := ((s.data.toList.getD j 0).toNat : Int)
def xB (x y : Int) : Int := Go.bits .xor .u8 x y
theorem btN_lo (s : ByteArray) (j : Nat) : 0 ≤ btN s j := Int.natCast_nonneg _
theorem btN_hi (s : ByteArray) (j : Nat) : btN s j < 256 := by
 unfold btN
 have := (s.data.toList.getD j 0).toNat_lt
 omega
theorem btN_end (s : ByteArray) (j : Nat) (h : s.size ≤ j) : btN s j = 0 := by
 unfold btN
 rw [List.getD_eq_getElem?_getD, List.getElem?_eq_none (by rw [Array.length_toList]; exact h)]
 rfl
theorem btN_get (s : ByteArray) (j : Nat) (h : j < s.size) : btN s j = ((s[j]'h).toNat : Int) := by
 unfold btN
 rw [List.getD_eq_getElem?_getD, List.getElem?_eq_getElem (by rw [Array.length_toList]; exact h)]
 rfl
theorem xB_comm (x y : Int) : xB x y = xB y x := by
 unfold xB Go.bits
 simp only [BitVec.xor_comm]
theorem xB_zero (x : Int) (h0 : 0 ≤ x) (h1 : x < 256) : xB x 0 = x := by
 obtain ⟨n, rfl⟩ : ∃ n : Nat, x = (n : Int) := ⟨x.toNat, by omega⟩
 have hn : n < 256 := by omega
 have e : xB (n : Int) 0 = IntKind.u8.wrap (((BitVec.ofNat 8 n) ^^^ 0#8).toNat : Int) := rfl
 have e2 : (BitVec.ofNat 8 n) ^^^ 0#8 = BitVec.ofNat 8 n := by simp
 rw [e, e2, IntKind.wrap_u8, BitVec.toNat_ofNat]
 omega
def addT (a b : ByteArray) : ByteArray := strOfNums ((List.range (max a.size b.size)).map fun j => xB (btN a j) (btN b j))
theorem addT_comm (a b : ByteArray) : addT a b = addT b a := by
 unfold addT
 rw [Nat.max_comm]
 congr 1
 exact List.map_congr_left fun j _ => xB_comm _ _
theorem getD_map_range (f : Nat → Int) (n j : Nat) (h : j < n) : ((List.range n).map f).getD j 0 = f j := by
 rw [List.getD_eq_getElem?_getD, List.getElem?_map, List.getElem?_range h]
 rfl
def Buf (w : World) (b n : Nat) (f : Nat → Int) : Prop := ∀ j, j < n → w.cell? ⟨b, j, none⟩ = some (.int .u8 (f j)) ∧ w.frozen? ⟨b, j, none⟩ = false
theorem Buf.drew {w : World} {b n : Nat} {f : Nat → Int} (h : Buf w b n f) : Buf w.drew b n f := h
theorem Buf.set {w : World} {b n : Nat} {f : Nat → Int} (h : Buf w b n f) (i : Nat) (v : Int) (g : Nat → Int) (hg : g i = v) (ho : ∀ j, j ≠ i → g j = f j) : Buf (w.setCell ⟨b, i, none⟩ (.int .u8 v)) b n g := fun j hj => by
 refine ⟨?_, by rw [World.frozen?_setCell]; exact (h j hj).2⟩
 by_cases e : j = i
 ·subst e
  rw [hg]
  exact World.cell?_setCell_same' _ _ _ (by rw [(h j hj).1]; rfl)
 ·rw [World.cell?_setCell_other _ _ _ _ (by intro e2; simp only [Addr.mk.injEq] at e2; exact e e2.2.1.symm), ho j e]
  exact (h j hj).1
theorem Buf.conv {P : Program} {w : World} {b n : Nat} {f : Nat → Int} (h : Buf w b n f) (src e : TypeId) (hs : P.underlying src = some (.slice e)) (he : P.underlying e = some (.int .u8)) (cap : Nat) : ∀ dst, P.underlying dst = some .string → (convert src dst (.slice (some ⟨b, 0, none⟩) n cap)).run P w = .ok (.string (strOfNums ((List.range n).map f))) w :=
 run_convert_bytes_arg w src e hs he b 0 n cap ((List.range n).map f) (by simp) (fun i hi => by rw [Nat.zero_add, getD_map_range f n i hi]; exact (h i hi).1)
theorem Buf.new (w : World) (e : TypeId) (s : ByteArray) : Buf (bytesWorld w e s) w.heap.size s.size (btN s) := fun j hj => ⟨bytesWorld_cell w e s j hj, by
 simp only [World.frozen?, bytesWorld_at_new]
 have : s.size ≤ (bytesCells w e s).size := by simp [bytesCells]
 simp
 omega⟩
theorem below_bytes (w : World) (e : TypeId) (s : ByteArray) : Below w.heap.size w (bytesWorld w e s) := by
 refine ⟨?_, ?_, ?_, by rw [bytesWorld_size]; omega, fun k hk => bytesWorld_at_old w e s k hk⟩
 ·simp [bytesWorld, World.freeze, World.alloc, World.drew, -World.alloc_eq, -World.drew_eq]
 ·simp [bytesWorld, World.freeze, World.alloc, World.drew, -World.alloc_eq, -World.drew_eq]
 ·simp [bytesWorld, World.freeze, World.alloc, World.drew, -World.alloc_eq, -World.drew_eq]
def flipT (s : ByteArray) (ix : Nat) : ByteArray := strOfNums ((List.range s.size).map fun j => if j = ix then xB (btN s j) 1 else btN s j)
end Go.Proofs.Ytaejgompckpmfaa.Pr
namespace Go.Proofs.Ytaejgompckpmfaa.Pr
open Go.RowKit Go.Proofs.YtaejgompckpmfaaW.PrintWords Go.Proofs.YtaejgompckpmfaaW.PrintLast Go.Proofs.YtaejgompckpmfaaW.PrintMore
attribute [local go_sem] max2_int min2_int max_two min_two max_three min_three max_four min_four
def spec_l14Copy.f (a0_0 : Int) (a0_1 : Bool) (l0_2 : List (S60)) : Option (Int × Bool × (List (S60))) := (some (([] : List (S60)) : List (S60))).bind fun y136 => (if y136.length + l0_2.length < 3518437208883 then (some (a0_0, a0_1, (y136 ++ l0_2))) else (none))
set_option maxHeartbeats 8000000 in
set_option maxRecDepth 100000 in
theorem spec_l14Copy.calls (a0_0 : Int) (a0_1 : Bool) (A0_2 : Option Addr) (c0_2 : Nat) (l0_2 : List (S60)) (r1 : Int) (r2 : Bool) (r3 : List (S60)) (w : World) (hr0_2 : Kd.C k60 w A0_2 l0_2.length l0_2) (hc0_2 : l0_2.length ≤ c0_2) (h : spec_l14Copy.f a0_0 a0_1 l0_2 = some (r1, r2, r3)) :
  Calls Try.prog 79 #[.agg #[.int .i64 a0_0, .bool a0_1, .slice A0_2 l0_2.length c0_2]] w fun e w' => ∃ v2_ : Value, e = .returned (.agg #[.int .i64 r1, .bool r2, v2_]) ∧ Kd.R k60 60 w' w.heap.size (fun _ => True) v2_ r3 ∧ Below w.heap.size w w' := by
 have hu35 := Try.underlying35
 have HR0_2 := AM hr0_2
 have HC0_2 := AM hc0_2
 clear hr0_2 hc0_2
 have HB := AM (Below.refl w.heap.size w)
 have H : ((some (([] : List (S60)) : List (S60))).bind fun y136 => (if y136.length + l0_2.length < 3518437208883 then (some (a0_0, a0_1, (y136 ++ l0_2))) else (none))) = some (r1, r2, r3) := h
 clear h
 obtain ⟨y136, hy136⟩ : ∃ y_ : List (S60), y_ = (([] : List (S60))) := ⟨_, rfl⟩
 replace H : (if y136.length + l0_2.length < 3518437208883 then (some (a0_0, a0_1, (y136 ++ l0_2))) else (none)) = some (r1, r2, r3) := by first | (rw [hy136]; first | with_reducible exact H | with_reducible exact OB H) | with_reducible exact OB H | with_reducible exact H | (rw [hy136]; exact H) | exact H
 have Ny136 := AM hy136
 clear hy136
 by_cases c2 : y136.length + l0_2.length < 3518437208883
 rotate_left
 ·rw [if_neg c2] at H; exact absurd H (by simp)
 rw [if_pos c2] at H
 have LMc2 := AM c2
 clear c2
 obtain ⟨y139, hy139⟩ : ∃ y_ : List (S60), y_ = (y136 ++ l0_2) := ⟨_, rfl⟩
 replace H : (some (a0_0, a0_1, y139)) = some (r1, r2, r3) := by first | (rw [hy139]; first | with_reducible exact H | with_reducible exact OB H) | with_reducible exact OB H | with_reducible exact H | (rw [hy139]; exact H) | exact H
 have Ny139 := AM hy139
 clear hy139
 simp only [Option.some.injEq, Prod.mk.injEq] at H
 obtain ⟨rfl, rfl, rfl⟩ := H
 go_enter Try.func79, Try.ntmps79
 go_wp2_with (first | ((with_reducible refine gate_dst (N := 1) rfl ?_); refine BX 1 #[.int .i64 a0_0, .bool a0_1, .slice A0_2 l0_2.length c0_2] 35 ?_; intro gb134 hg w3 hbox hb; have BK134 := AM (hbox); have GW134 : Aside0 (w.heap.size ≤ gb134) := WG hg (BB HB.out); have GE134 := GW134; replace HB := AM (below_step (BB HB.out) hb); clear hb hbox hg) | ((with_reducible refine gate_dst (N := 2) rfl ?_); refine BX 2 #[.int .i64 0, .bool false, .slice none 0 0] 35 ?_; intro gb135 hg w4 hbox hb; have BK135 := AM (hbox); have GW135 : Aside0 (w.heap.size ≤ gb135) := WG hg (BB1 HB.out GE134.out); have GE135 := GW135; have NB134_135 := NL BK134.out hg; have NB135_134 := NG BK134.out hg; replace BK134 := AM (KB BK134.out hb); replace HB := AM (below_step (BB1 HB.out GE134.out) hb); clear hb hbox hg) | ((with_reducible refine gate_dst (N := 3) rfl ?_); refine Kd.R_lit k60 _ 60 ?hg (N := 3) ?hd (xs := ([] : List (S60))) (inner := []) (ok := fun _ => True) (okp := fun _ => True) ?hr ?hp (fun _ hk => hk) trivial (Below.refl _ _) (Nat.le_refl _) (by simp) ?_; (case hd => rfl); (case hg => rfl); (case hr => first | (go_simp; done) | (go_simp; rfl)); (case hp => exact (Reps.none _ _)); intro v137 w5 ho6 hb hg_ hnew_; clear hg_ hnew_; (first | rw [← Ny136.out] at ho6 | (simp only [Int.reduceToNat] at ho6; rw [← Ny136.out] at ho6)); have HO138 := AM (Kd.R_lower ho6 (below_size (BB2 HB.out GE134.out GE135.out))); replace BK134 := AM (KB BK134.out hb); replace BK135 := AM (KB BK135.out hb); replace HB := AM (below_step (BB2 HB.out GE134.out GE135.out) hb); clear hb ho6; have hnb7 := NB134_135.out; have hnc7 := NB135_134.out; have hcz8 := blk_cell BK134.out; have hfz8 := blk_frozen BK134.out) | ((with_reducible refine gate_builtin (b := .append) (xs := #[.tmp 3, .tmp 5]) rfl ?_); at_builtin; refine Kd.R_append_rows k60 (w0 := w) w.heap.size rfl (.tmp 3) (.tmp 5) 33 60 (.agg #[(.int .i64 0), (.int .i64 0), (.string ⟨#[]⟩), (.int .i64 0)]) 40 rfl Try.underlying33 info60 rfl (by decide) (by omega) v137 y136 l0_2 _ _ _ (fun _ => True) (fun _ => False) rfl rfl ?aO ?aR (fun _ _ h => h) (fun _ h => h.elim) ?aF ?aB ?aS ?aL ?_; (case aR => exact CC (Kd.C_below HR0_2.out HB.out)); (case aB => exact (BB2 HB.out GE134.out GE135.out)); (case aF => exact (fun _ _ => trivial)); (case aO => exact (RR HO138.out)); (case aS => exact (below_size (BB2 HB.out GE134.out GE135.out))); (case aL => have := LMc2.out; omega); intro v140 w9 ho hb hg hat; rw [← Ny139.out] at ho; have n0_ := AM (blk_grown (g := gb134) (o := .cells #[.int .i64 a0_0, .bool a0_1, .slice A0_2 l0_2.length c0_2] 35 (0, 0)) (BD BK134.out) hg (Kd.R_ne HO138.out BK134.out (by decide))); have n1_ := AM (blk_grown (g := gb135) (o := .cells #[.int .i64 0, .bool false, .slice none 0 0] 35 (0, 0)) (BD BK135.out) hg (Kd.R_ne HO138.out BK135.out (by decide))); have n2_ := AM (hb); have n3_ := AM (ho); clear BK134; clear BK135; clear HB; clear HO138; have BK134 := n0_; have BK135 := n1_; have HB := n2_; have HO141 := n3_; clear n0_ n1_ n2_ n3_; clear ho hb hg hat; obtain ⟨Ao10, co10, eo10⟩ := Kd.R_slice HO141.out; subst eo10; have hcz11 := blk_cell BK134.out; have hfz11 := blk_frozen BK134.out; have hcz12 := blk_cell BK135.out; have hfz12 := blk_frozen BK135.out))
 refine bodyPost_ret (results_cell_row rfl _ _ gb135 35 #[.int .i64 a0_0, .bool a0_1, .slice Ao10 y139.length co10] (0, 0) _ rfl (by refine BD ?_; refine blk_put (cs := #[.int .i64 a0_0, .bool a0_1, .slice none 0 0]) ?_ 2 _ rfl; refine BD ?_; refine blk_put (cs := #[.int .i64 a0_0, .bool false, .slice none 0 0]) ?_ 1 _ rfl; refine BD ?_; refine blk_put (cs := #[.int .i64 0, .bool false, .slice none 0 0]) ?_ 0 _ rfl; refine BD ?_; refine blk_far ?_ NB135_134.out _; refine BD ?_; exact BK135.out) Try.underlying35 rfl (by kernel_rfl)) rfl ?_
 exact ⟨_, ER, by (with_reducible repeat (first | apply Kd.R_alloc | apply Kd.R_drewN | apply Kd.R_drew)); exact Kd.R_mono (Kd.R_far (p := ⟨gb135, 2, none⟩) (Kd.R_far (p := ⟨gb135, 1, none⟩) (Kd.R_far (p := ⟨gb135, 0, none⟩) (Kd.R_far (p := ⟨gb134, 2, none⟩) (Kd.R_types (Kd.R_types HO141.out BK134.out (by decide)) BK135.out (by decide)) (fun _ hk => hk.1.2) (.slice Ao10 y139.length co10)) (fun _ hk => hk.2) (.int .i64 a0_0)) (fun _ hk => hk.2) (.bool a0_1)) (fun _ hk => hk.2) (.slice Ao10 y139.length co10)) (fun _ hk => trivial), (BB2 HB.out GE134.out GE135.out)⟩

end Go.Proofs.Ytaejgompckpmfaa.Pr
namespace Go.Proofs.Ytaejgompckpmfaa.Pr
open Go.RowKit Go.Proofs.YtaejgompckpmfaaW.PrintWords Go.Proofs.YtaejgompckpmfaaW.PrintLast Go.Proofs.YtaejgompckpmfaaW.PrintMore
attribute [local go_sem] max2_int min2_int max_two min_two max_three min_three max_four min_four
open Go.Lib Go.Shelf
def spec_Spoil.f (k : Nat) (a0_0 : Int) (a0_1 : Bool) (l0_2 : List (S60)) (a1 : Int) (a2 : Int) (a3 : Int) : Option (Int × Bool × (List (S60)) × Bool) := (spec_l14Copy.f a0_0 a0_1 l0_2).bind fun bt382 => ((spec_l14At.f k a0_0 a0_1 l0_2 a1 a2).bind fun t388 => (if t388 < 0 then (some (bt382.1, bt382.2.1, bt382.2.2, false)) else (if a3 < 0 then (some (bt382.1, bt382.2.1, bt382.2.2, false)) else (if 0 ≤ t388 then (if t388 < (l0_2.length : Int) then (if ((rd_T60 l0_2 t388).f2).toList = ([] : List UInt8) then (some (bt382.1, bt382.2.1, bt382.2.2, false)) else ((spec_SumText.f k ((rd_T60 l0_2 t388).f2)).bind fun t392 => (if ((rd_T60 l0_2 t388).f3) = t392 then (if t388 < (bt382.2.2.length : Int) then (some (bt382.1, bt382.2.1, (bt382.2.2.set (t388 : Int).toNat (⟨(rd_T60 bt382.2.2 t388).f0, (rd_T60 bt382.2.2 t388).f1, flipT ((rd_T60 l0_2 t388).f2) (Int.tmod a3 (((rd_T60 l0_2 t388).f2).size : Int)).toNat, (rd_T60 bt382.2.2 t388).f3⟩ : S60)), true)) else (none)) else (some (bt382.1, bt382.2.1, bt382.2.2, false))))) else (none)) else (none)))))
def spec_Spoil.T3 : Bool × List (List Nat × List Nat) := (true, [([], []), ([0], [0]), ([1], [1]), ([2], [2]), ([3, 2], [2, 3]), ([2, 4], [2, 4]), ([5, 2], [5]), ([6], [6]), ([7, 6], [6, 7]), ([6], [6]), ([8, 9, 6], [6, 8, 9]), ([10, 6], [6, 10]), ([11, 6], [6, 11]), ([12, 6], [6, 12]), ([6, 13], [6, 13]), ([14, 6], [14]), ([15], [15]), ([16, 15], [15, 16]), ([15], [15]), ([17, 18, 15], [15, 17, 18]), ([19, 15], [15, 19]), ([20, 15], [15, 20]), ([15], [15]), ([22, 15], [15, 22]), ([15], [15]), ([23, 24, 15], [15, 23, 24]), ([25, 15], [15, 25]), ([26, 15], [15, 26]), ([27, 15, 15], [15, 27]), ([21, 28, 15], [15, 21, 28]), ([15, 29], [15, 29])])
def spec_Spoil.B3 : List Nat := [0, 1, 3, 7, 15, 31, 63, 127, 255, 127, 1023, 2047, 4095, 8191, 16383, 32767, 65535, 131071, 65535, 524287, 1048575, 2097151, 65535, 4259839, 65535, 29425663, 62980095, 130088959, 264306687, 536870911, 1073741823]
theorem spec_Spoil.tab3 : rtab .any (opsOf Try.f53 3) = spec_Spoil.T3 := by kernel_rfl
theorem spec_Spoil.bits3 : waitsOk spec_Spoil.T3.2 spec_Spoil.B3 = true := by kernel_rfl
set_option maxHeartbeats 8000000 in
set_option maxRecDepth 100000 in
theorem spec_Spoil.calls (k : Nat) (a0_0 : Int) (a0_1 : Bool) (A0_2 : Option Addr) (c0_2 : Nat) (l0_2 : List (S60)) (a1 : Int) (a2 : Int) (a3 : Int) (r1 : Int) (r2 : Bool) (r3 : List (S60)) (r4 : Bool) (w : World) (hr0_2 : Kd.C k60 w A0_2 l0_2.length l0_2) (hc0_2 : l0_2.length ≤ c0_2) (h : spec_Spoil.f k a0_0 a0_1 l0_2 a1 a2 a3 = some (r1, r2, r3, r4)) :
  Calls Try.prog 53 #[.agg #[.int .i64 a0_0, .bool a0_1, .slice A0_2 l0_2.length c0_2], .int .i64 a1, .int .i64 a2, .int .i64 a3] w fun e w' => ∃ v2_ : Value, e = .returned (.tuple #[.agg #[.int .i64 r1, .bool r2, v2_], .bool r4]) ∧ Kd.R k60 60 w' w.heap.size (fun _ => True) v2_ r3 ∧ Below w.heap.size w w' := by
 have hu35 := Try.underlying35
 have HR0_2 := AM hr0_2
 have HC0_2 := AM hc0_2
 clear hr0_2 hc0_2
 have HB := AM (Below.refl w.heap.size w)
 have H : ((spec_l14Copy.f a0_0 a0_1 l0_2).bind fun bt382 => ((spec_l14At.f k a0_0 a0_1 l0_2 a1 a2).bind fun t388 => (if t388 < 0 then (some (bt382.1, bt382.2.1, bt382.2.2, false)) else (if a3 < 0 then (some (bt382.1, bt382.2.1, bt382.2.2, false)) else (if 0 ≤ t388 then (if t388 < (l0_2.length : Int) then (if ((rd_T60 l0_2 t388).f2).toList = ([] : List UInt8) then (some (bt382.1, bt382.2.1, bt382.2.2, false)) else ((spec_SumText.f k ((rd_T60 l0_2 t388).f2)).bind fun t392 => (if ((rd_T60 l0_2 t388).f3) = t392 then (if t388 < (bt382.2.2.length : Int) then (some (bt382.1, bt382.2.1, (bt382.2.2.set (t388 : Int).toNat (⟨(rd_T60 bt382.2.2 t388).f0, (rd_T60 bt382.2.2 t388).f1, flipT ((rd_T60 l0_2 t388).f2) (Int.tmod a3 (((rd_T60 l0_2 t388).f2).size : Int)).toNat, (rd_T60 bt382.2.2 t388).f3⟩ : S60)), true)) else (none)) else (some (bt382.1, bt382.2.1, bt382.2.2, false))))) else (none)) else (none)))))) = some (r1, r2, r3, r4) := h
 clear h
 replace H := Option.bind_eq_some_iff.mp H
 obtain ⟨⟨t382, t383, t384⟩, A50, H⟩ := H
 replace H : ((spec_l14At.f k a0_0 a0_1 l0_2 a1 a2).bind fun t388 => (if t388 < 0 then (some (t382, t383, t384, false)) else (if a3 < 0 then (some (t382, t383, t384, false)) else (if 0 ≤ t388 then (if t388 < (l0_2.length : Int) then (if ((rd_T60 l0_2 t388).f2).toList = ([] : List UInt8) then (some (t382, t383, t384, false)) else ((spec_SumText.f k ((rd_T60 l0_2 t388).f2)).bind fun t392 => (if ((rd_T60 l0_2 t388).f3) = t392 then (if t388 < (t384.length : Int) then (some (t382, t383, (t384.set (t388 : Int).toNat (⟨(rd_T60 t384 t388).f0, (rd_T60 t384 t388).f1, flipT ((rd_T60 l0_2 t388).f2) (Int.tmod a3 (((rd_T60 l0_2 t388).f2).size : Int)).toNat, (rd_T60 t384 t388).f3⟩ : S60)), true)) else (none)) else (some (t382, t383, t384, false))))) else (none)) else (none))))) = some (r1, r2, r3, r4) := H
 have A5 := AM A50
 clear A50
 replace H := Option.bind_eq_some_iff.mp H
 obtain ⟨t388, A60, H⟩ := H
 replace H : (if t388 < 0 then (some (t382, t383, t384, false)) else (if a3 < 0 then (some (t382, t383, t384, false)) else (if 0 ≤ t388 then (if t388 < (l0_2.length : Int) then (if ((rd_T60 l0_2 t388).f2).toList = ([] : List UInt8) then (some (t382, t383, t384, false)) else ((spec_SumText.f k ((rd_T60 l0_2 t388).f2)).bind fun t392 => (if ((rd_T60 l0_2 t388).f3) = t392 then (if t388 < (t384.length : Int) then (some (t382, t383, (t384.set (t388 : Int).toNat (⟨(rd_T60 t384 t388).f0, (rd_T60 t384 t388).f1, flipT ((rd_T60 l0_2 t388).f2) (Int.tmod a3 (((rd_T60 l0_2 t388).f2).size : Int)).toNat, (rd_T60 t384 t388).f3⟩ : S60)), true)) else (none)) else (some (t382, t383, t384, false))))) else (none)) else (none)))) = some (r1, r2, r3, r4) := H
 have A6 := AM A60
 clear A60
 by_cases c7 : t388 < 0
 ·rw [if_pos c7] at H
  have c7b0 := decide_eq_true c7
  clear c7
  simp only [Option.some.injEq, Prod.mk.injEq] at H
  obtain ⟨rfl, rfl, rfl, rfl⟩ := H
  go_enter Try.func53, Try.ntmps53
  try go_wp2_with (first | ((with_reducible refine gate_dst (N := 4) rfl ?_); refine BX 4 #[.int .i64 a0_0, .bool a0_1, .slice A0_2 l0_2.length c0_2] 35 ?_; intro gb380 hg w8 hbox hb; have BK380 := AM (hbox); have GW380 : Aside0 (w.heap.size ≤ gb380) := WG hg (BB HB.out); have GE380 := GW380; replace HB := AM (below_step (BB HB.out) hb); clear hb hbox hg) | ((with_reducible refine gate_dst (N := 8) rfl ?_); refine BX 8 #[.int .i64 0, .bool false, .slice none 0 0] 35 ?_; intro gb381 hg w9 hbox hb; have BK381 := AM (hbox); have GW381 : Aside0 (w.heap.size ≤ gb381) := WG hg (BB1 HB.out GE380.out); have GE381 := GW381; have NB380_381 := NL BK380.out hg; have NB381_380 := NG BK380.out hg; replace BK380 := AM (KB BK380.out hb); replace HB := AM (below_step (BB1 HB.out GE380.out) hb); clear hb hbox hg; have hnb10 := NB380_381.out; have hnc10 := NB381_380.out; have hcz11 := blk_cell BK380.out; have hfz11 := blk_frozen BK380.out) | ((with_reducible refine gate_callee (f := 79) rfl ?_); refine GL (some 14) rfl rfl Try.func79 #[.agg #[.int .i64 a0_0, .bool a0_1, .slice A0_2 l0_2.length c0_2]] rfl ?_; (with_reducible refine (spec_l14Copy.calls a0_0 a0_1 _ _ l0_2 t382 t383 t384 _ ?side1 ?side2 A5.out).mono ?_); (case side1 => exact CC (Kd.C_below HR0_2.out HB.out)); (case side2 => exact HC0_2.out); rintro e w12 ⟨v385, rfl, ho0, hb⟩; refine ⟨_, rfl, ?_⟩; have HO386 := AM (Kd.R_lower ho0 (below_size (BB2 HB.out GE380.out GE381.out))); replace BK380 := AM (KB BK380.out hb); replace BK381 := AM (KB BK381.out hb); replace HB := AM (below_step (BB2 HB.out GE380.out GE381.out) hb); (try clear hb); (try clear ho0)) | ((with_reducible refine gate_dst (N := 10) rfl ?_); refine BX 10 #[.int .i64 0, .bool false, .slice none 0 0] 35 ?_; intro gb387 hg w13 hbox hb; have BK387 := AM (hbox); have GW387 : Aside0 (w.heap.size ≤ gb387) := WG hg (BB2 HB.out GE380.out GE381.out); have GE387 := GW387; have NB380_387 := NL BK380.out hg; have NB387_380 := NG BK380.out hg; have NB381_387 := NL BK381.out hg; have NB387_381 := NG BK381.out hg; replace HO386 := AM (Kd.R_below (RR HO386.out) hb); replace BK380 := AM (KB BK380.out hb); replace BK381 := AM (KB BK381.out hb); replace HB := AM (below_step (BB2 HB.out GE380.out GE381.out) hb); clear hb hbox hg; have hnb14 := NB387_380.out; have hnc14 := NB380_387.out; have hnb15 := NB387_381.out; have hnc15 := NB381_387.out; have hcz16 := blk_cell BK387.out; have hfz16 := blk_frozen BK387.out; obtain ⟨Ao17, co17, eo17⟩ := Kd.R_slice HO386.out; subst eo17; have hcz18 := blk_cell BK380.out; have hfz18 := blk_frozen BK380.out) | ((with_reducible refine gate_callee (f := 28) rfl ?_); refine GL (some 18) rfl rfl Try.func28 #[.agg #[.int .i64 a0_0, .bool a0_1, .slice A0_2 l0_2.length c0_2], .int .i64 a1, .int .i64 a2] rfl ?_; (with_reducible refine (spec_l14At.calls k a0_0 a0_1 _ _ l0_2 a1 a2 t388 _ ?side1 ?side2 A6.out).mono ?_); (case side1 => exact Kd.C_below HR0_2.out (BB3 HB.out GE380.out GE381.out GE387.out)); (case side2 => exact HC0_2.out); rintro e w19 ⟨rfl, hb⟩; refine ⟨_, rfl, ?_⟩; have n0_ := AM (Kd.R_below (by (with_reducible repeat (first | apply Kd.R_alloc | apply Kd.R_drewN | apply Kd.R_drew)); exact (Kd.R_mono (Kd.R_far (p := ⟨gb387, 2, none⟩) (Kd.R_far (p := ⟨gb387, 1, none⟩) (Kd.R_far (p := ⟨gb387, 0, none⟩) (Kd.R_types HO386.out BK387.out (by decide)) (fun _ hk => hk.2) (.int .i64 t382)) (fun _ hk => hk.2) (.bool t383)) (fun _ hk => hk.2) (.slice Ao17 t384.length co17)) (fun _ h_ => h_.1))) hb); have n1_ := AM (blk_below (g := gb380) (o := .cells #[.int .i64 a0_0, .bool a0_1, .slice A0_2 l0_2.length c0_2] 35 (0, 0)) (by refine BD ?_; refine blk_far ?_ NB380_387.out _; refine BD ?_; refine blk_far ?_ NB380_387.out _; refine BD ?_; refine blk_far ?_ NB380_387.out _; refine BD ?_; exact BK380.out) hb); have n2_ := AM (blk_below (g := gb381) (o := .cells #[.int .i64 0, .bool false, .slice none 0 0] 35 (0, 0)) (by refine BD ?_; refine blk_far ?_ NB381_387.out _; refine BD ?_; refine blk_far ?_ NB381_387.out _; refine BD ?_; refine blk_far ?_ NB381_387.out _; refine BD ?_; exact BK381.out) hb); have n3_ := AM (blk_below (g := gb387) (o := .cells #[.int .i64 t382, .bool t383, .slice Ao17 t384.length co17] 35 (0, 0)) (by refine BD ?_; refine blk_put (cs := #[.int .i64 t382, .bool t383, .slice none 0 0]) ?_ 2 _ rfl; refine BD ?_; refine blk_put (cs := #[.int .i64 t382, .bool false, .slice none 0 0]) ?_ 1 _ rfl; refine BD ?_; refine blk_put (cs := #[.int .i64 0, .bool false, .slice none 0 0]) ?_ 0 _ rfl; refine BD ?_; exact BK387.out) hb); have n4_ := AM (below_step (BB3 HB.out GE380.out GE381.out GE387.out) hb); clear HO386; clear BK380; clear BK381; clear BK387; clear HB; have HO386 := n0_; have BK380 := n1_; have BK381 := n2_; have BK387 := n3_; have HB := n4_; clear n0_ n1_ n2_ n3_ n4_; (try clear hb)))
  replace HO386 := AM (Kd.R_drew HO386.out); replace BK380 := AM (blk_drew BK380.out); replace BK381 := AM (blk_drew BK381.out); replace BK387 := AM (blk_drew BK387.out); replace HB := AM (below_drew1 HB.out)
  refine start_ (n := 31) (S := fun w' => True) (ds := []) (.replicate 31 false) (by kernel_rfl) rfl rfl trivial (fun hHeld => ?_); refine with_tabW spec_Spoil.tab3 spec_Spoil.bits3 (fun HT_ HW_ => ?_)
  generalize w19.drew = w20 at HO386 BK380 BK381 BK387 HB hHeld ⊢
  refine PH 0 19 HT_.out ?_
  refine PH 1 20 HT_.out ?_
  refine PH 2 21 HT_.out ?_
  refine PO 3 22 HT_.out ?_
  refine PO 4 23 HT_.out ?_
  refine PH 5 24 HT_.out ?_
  refine PH 6 25 HT_.out ?_
  refine PO 7 26 HT_.out ?_
  refine PO 8 27 HT_.out ?_
  refine PO 9 28 HT_.out ?_
  refine PO 10 29 HT_.out ?_
  refine PO 11 30 HT_.out ?_
  refine PO 12 31 HT_.out ?_
  refine PO 13 32 HT_.out ?_
  refine PH 14 33 HT_.out ?_
  refine PH 15 34 HT_.out ?_
  refine PO 16 35 HT_.out ?_
  refine PO 17 36 HT_.out ?_
  refine PO 18 37 HT_.out ?_
  refine PO 19 38 HT_.out ?_
  refine PO 20 39 HT_.out ?_
  refine PO 21 40 HT_.out ?_
  refine PO 22 41 HT_.out ?_
  refine PO 23 42 HT_.out ?_
  refine PO 24 43 HT_.out ?_
  refine PO 25 44 HT_.out ?_
  refine PO 26 45 HT_.out ?_
  refine PO 27 46 HT_.out ?_
  refine PO 28 47 HT_.out ?_
  refine PO 29 48 HT_.out ?_
  refine PH 30 49 HT_.out ?_
  refine done_ (done_of HT_.out (by kernel_rfl)) ?_
  have hcz21 := blk_cell BK387.out
  have hcz21_1 : w20.cell? ⟨gb387, 1, none⟩ = some (.bool t383) := (blk_cell BK387.out 1).trans rfl
  have hcz21_2 : w20.cell? ⟨gb387, 2, none⟩ = some (.slice Ao17 t384.length co17) := (blk_cell BK387.out 2).trans rfl
  have hfz21 := blk_frozen BK387.out
  have hfz21_1 := blk_frozen BK387.out 1
  have hfz21_2 := blk_frozen BK387.out 2
  have hcz22 := blk_cell BK381.out
  have hcz22_1 : w20.cell? ⟨gb381, 1, none⟩ = some (.bool false) := (blk_cell BK381.out 1).trans rfl
  have hcz22_2 : w20.cell? ⟨gb381, 2, none⟩ = some (.slice none 0 0) := (blk_cell BK381.out 2).trans rfl
  have hfz22 := blk_frozen BK381.out
  have hfz22_1 := blk_frozen BK381.out 1
  have hfz22_2 := blk_frozen BK381.out 2
  try go_wp2
  refine bodyPost_ret (results_ct rfl _ _ gb381 35 #[.int .i64 t382, .bool t383, .slice Ao17 t384.length co17] (0, 0) _ rfl (by refine BD ?_; refine blk_put (cs := #[.int .i64 t382, .bool t383, .slice none 0 0]) ?_ 2 _ rfl; refine BD ?_; refine blk_put (cs := #[.int .i64 t382, .bool false, .slice none 0 0]) ?_ 1 _ rfl; refine BD ?_; refine blk_put (cs := #[.int .i64 0, .bool false, .slice none 0 0]) ?_ 0 _ rfl; refine BD ?_; exact BK381.out) Try.underlying35 rfl (by kernel_rfl)) rfl ?_
  exact ⟨_, ER, by (with_reducible repeat (first | apply Kd.R_alloc | apply Kd.R_drewN | apply Kd.R_drew)); exact Kd.R_mono (Kd.R_far (p := ⟨gb381, 2, none⟩) (Kd.R_far (p := ⟨gb381, 1, none⟩) (Kd.R_far (p := ⟨gb381, 0, none⟩) (Kd.R_types HO386.out BK381.out (by decide)) (fun _ hk => hk.2) (.int .i64 t382)) (fun _ hk => hk.2) (.bool t383)) (fun _ hk => hk.2) (.slice Ao17 t384.length co17)) (fun _ hk => trivial), (BB3 HB.out GE380.out GE381.out GE387.out)⟩
 ·rw [if_neg c7] at H
  have c7b0 := decide_eq_false c7
  clear c7
  by_cases c23 : a3 < 0
  ·rw [if_pos c23] at H
   have c23b0 := decide_eq_true c23
   clear c23
   simp only [Option.some.injEq, Prod.mk.injEq] at H
   obtain ⟨rfl, rfl, rfl, rfl⟩ := H
   go_enter Try.func53, Try.ntmps53
   try go_wp2_with (first | ((with_reducible refine gate_dst (N := 4) rfl ?_); refine BX 4 #[.int .i64 a0_0, .bool a0_1, .slice A0_2 l0_2.length c0_2] 35 ?_; intro gb380 hg w24 hbox hb; have BK380 := AM (hbox); have GW380 : Aside0 (w.heap.size ≤ gb380) := WG hg (BB HB.out); have GE380 := GW380; replace HB := AM (below_step (BB HB.out) hb); clear hb hbox hg) | ((with_reducible refine gate_dst (N := 8) rfl ?_); refine BX 8 #[.int .i64 0, .bool false, .slice none 0 0] 35 ?_; intro gb381 hg w25 hbox hb; have BK381 := AM (hbox); have GW381 : Aside0 (w.heap.size ≤ gb381) := WG hg (BB1 HB.out GE380.out); have GE381 := GW381; have NB380_381 := NL BK380.out hg; have NB381_380 := NG BK380.out hg; replace BK380 := AM (KB BK380.out hb); replace HB := AM (below_step (BB1 HB.out GE380.out) hb); clear hb hbox hg; have hnb26 := NB380_381.out; have hnc26 := NB381_380.out; have hcz27 := blk_cell BK380.out; have hfz27 := blk_frozen BK380.out) | ((with_reducible refine gate_callee (f := 79) rfl ?_); refine GL (some 14) rfl rfl Try.func79 #[.agg #[.int .i64 a0_0, .bool a0_1, .slice A0_2 l0_2.length c0_2]] rfl ?_; (with_reducible refine (spec_l14Copy.calls a0_0 a0_1 _ _ l0_2 t382 t383 t384 _ ?side1 ?side2 A5.out).mono ?_); (case side1 => exact CC (Kd.C_below HR0_2.out HB.out)); (case side2 => exact HC0_2.out); rintro e w28 ⟨v385, rfl, ho0, hb⟩; refine ⟨_, rfl, ?_⟩; have HO386 := AM (Kd.R_lower ho0 (below_size (BB2 HB.out GE380.out GE381.out))); replace BK380 := AM (KB BK380.out hb); replace BK381 := AM (KB BK381.out hb); replace HB := AM (below_step (BB2 HB.out GE380.out GE381.out) hb); (try clear hb); (try clear ho0)) | ((with_reducible refine gate_dst (N := 10) rfl ?_); refine BX 10 #[.int .i64 0, .bool false, .slice none 0 0] 35 ?_; intro gb387 hg w29 hbox hb; have BK387 := AM (hbox); have GW387 : Aside0 (w.heap.size ≤ gb387) := WG hg (BB2 HB.out GE380.out GE381.out); have GE387 := GW387; have NB380_387 := NL BK380.out hg; have NB387_380 := NG BK380.out hg; have NB381_387 := NL BK381.out hg; have NB387_381 := NG BK381.out hg; replace HO386 := AM (Kd.R_below (RR HO386.out) hb); replace BK380 := AM (KB BK380.out hb); replace BK381 := AM (KB BK381.out hb); replace HB := AM (below_step (BB2 HB.out GE380.out GE381.out) hb); clear hb hbox hg; have hnb30 := NB387_380.out; have hnc30 := NB380_387.out; have hnb31 := NB387_381.out; have hnc31 := NB381_387.out; have hcz32 := blk_cell BK387.out; have hfz32 := blk_frozen BK387.out; obtain ⟨Ao33, co33, eo33⟩ := Kd.R_slice HO386.out; subst eo33; have hcz34 := blk_cell BK380.out; have hfz34 := blk_frozen BK380.out) | ((with_reducible refine gate_callee (f := 28) rfl ?_); refine GL (some 18) rfl rfl Try.func28 #[.agg #[.int .i64 a0_0, .bool a0_1, .slice A0_2 l0_2.length c0_2], .int .i64 a1, .int .i64 a2] rfl ?_; (with_reducible refine (spec_l14At.calls k a0_0 a0_1 _ _ l0_2 a1 a2 t388 _ ?side1 ?side2 A6.out).mono ?_); (case side1 => exact Kd.C_below HR0_2.out (BB3 HB.out GE380.out GE381.out GE387.out)); (case side2 => exact HC0_2.out); rintro e w35 ⟨rfl, hb⟩; refine ⟨_, rfl, ?_⟩; have n0_ := AM (Kd.R_below (by (with_reducible repeat (first | apply Kd.R_alloc | apply Kd.R_drewN | apply Kd.R_drew)); exact (Kd.R_mono (Kd.R_far (p := ⟨gb387, 2, none⟩) (Kd.R_far (p := ⟨gb387, 1, none⟩) (Kd.R_far (p := ⟨gb387, 0, none⟩) (Kd.R_types HO386.out BK387.out (by decide)) (fun _ hk => hk.2) (.int .i64 t382)) (fun _ hk => hk.2) (.bool t383)) (fun _ hk => hk.2) (.slice Ao33 t384.length co33)) (fun _ h_ => h_.1))) hb); have n1_ := AM (blk_below (g := gb380) (o := .cells #[.int .i64 a0_0, .bool a0_1, .slice A0_2 l0_2.length c0_2] 35 (0, 0)) (by refine BD ?_; refine blk_far ?_ NB380_387.out _; refine BD ?_; refine blk_far ?_ NB380_387.out _; refine BD ?_; refine blk_far ?_ NB380_387.out _; refine BD ?_; exact BK380.out) hb); have n2_ := AM (blk_below (g := gb381) (o := .cells #[.int .i64 0, .bool false, .slice none 0 0] 35 (0, 0)) (by refine BD ?_; refine blk_far ?_ NB381_387.out _; refine BD ?_; refine blk_far ?_ NB381_387.out _; refine BD ?_; refine blk_far ?_ NB381_387.out _; refine BD ?_; exact BK381.out) hb); have n3_ := AM (blk_below (g := gb387) (o := .cells #[.int .i64 t382, .bool t383, .slice Ao33 t384.length co33] 35 (0, 0)) (by refine BD ?_; refine blk_put (cs := #[.int .i64 t382, .bool t383, .slice none 0 0]) ?_ 2 _ rfl; refine BD ?_; refine blk_put (cs := #[.int .i64 t382, .bool false, .slice none 0 0]) ?_ 1 _ rfl; refine BD ?_; refine blk_put (cs := #[.int .i64 0, .bool false, .slice none 0 0]) ?_ 0 _ rfl; refine BD ?_; exact BK387.out) hb); have n4_ := AM (below_step (BB3 HB.out GE380.out GE381.out GE387.out) hb); clear HO386; clear BK380; clear BK381; clear BK387; clear HB; have HO386 := n0_; have BK380 := n1_; have BK381 := n2_; have BK387 := n3_; have HB := n4_; clear n0_ n1_ n2_ n3_ n4_; (try clear hb)))
   replace HO386 := AM (Kd.R_drew HO386.out); replace BK380 := AM (blk_drew BK380.out); replace BK381 := AM (blk_drew BK381.out); replace BK387 := AM (blk_drew BK387.out); replace HB := AM (below_drew1 HB.out)
   refine start_ (n := 31) (S := fun w' => True) (ds := []) (.replicate 31 false) (by kernel_rfl) rfl rfl trivial (fun hHeld => ?_); refine with_tabW spec_Spoil.tab3 spec_Spoil.bits3 (fun HT_ HW_ => ?_)
   generalize w35.drew = w36 at HO386 BK380 BK381 BK387 HB hHeld ⊢
   refine PH 0 19 HT_.out ?_
   refine PH 1 20 HT_.out ?_
   refine PH 2 21 HT_.out ?_
   refine PH 3 22 HT_.out ?_
   refine PH 4 23 HT_.out ?_
   refine PH 5 24 HT_.out ?_
   refine PH 6 25 HT_.out ?_
   refine PO 7 26 HT_.out ?_
   refine PO 8 27 HT_.out ?_
   refine PO 9 28 HT_.out ?_
   refine PO 10 29 HT_.out ?_
   refine PO 11 30 HT_.out ?_
   refine PO 12 31 HT_.out ?_
   refine PO 13 32 HT_.out ?_
   refine PH 14 33 HT_.out ?_
   refine PH 15 34 HT_.out ?_
   refine PO 16 35 HT_.out ?_
   refine PO 17 36 HT_.out ?_
   refine PO 18 37 HT_.out ?_
   refine PO 19 38 HT_.out ?_
   refine PO 20 39 HT_.out ?_
   refine PO 21 40 HT_.out ?_
   refine PO 22 41 HT_.out ?_
   refine PO 23 42 HT_.out ?_
   refine PO 24 43 HT_.out ?_
   refine PO 25 44 HT_.out ?_
   refine PO 26 45 HT_.out ?_
   refine PO 27 46 HT_.out ?_
   refine PO 28 47 HT_.out ?_
   refine PO 29 48 HT_.out ?_
   refine PH 30 49 HT_.out ?_
   refine done_ (done_of HT_.out (by kernel_rfl)) ?_
   have hcz37 := blk_cell BK387.out
   have hcz37_1 : w36.cell? ⟨gb387, 1, none⟩ = some (.bool t383) := (blk_cell BK387.out 1).trans rfl
   have hcz37_2 : w36.cell? ⟨gb387, 2, none⟩ = some (.slice Ao33 t384.length co33) := (blk_cell BK387.out 2).trans rfl
   have hfz37 := blk_frozen BK387.out
   have hfz37_1 := blk_frozen BK387.out 1
   have hfz37_2 := blk_frozen BK387.out 2
   have hcz38 := blk_cell BK381.out
   have hcz38_1 : w36.cell? ⟨gb381, 1, none⟩ = some (.bool false) := (blk_cell BK381.out 1).trans rfl
   have hcz38_2 : w36.cell? ⟨gb381, 2, none⟩ = some (.slice none 0 0) := (blk_cell BK381.out 2).trans rfl
   have hfz38 := blk_frozen BK381.out
   have hfz38_1 := blk_frozen BK381.out 1
   have hfz38_2 := blk_frozen BK381.out 2
   try go_wp2
   refine bodyPost_ret (results_ct rfl _ _ gb381 35 #[.int .i64 t382, .bool t383, .slice Ao33 t384.length co33] (0, 0) _ rfl (by refine BD ?_; refine blk_put (cs := #[.int .i64 t382, .bool t383, .slice none 0 0]) ?_ 2 _ rfl; refine BD ?_; refine blk_put (cs := #[.int .i64 t382, .bool false, .slice none 0 0]) ?_ 1 _ rfl; refine BD ?_; refine blk_put (cs := #[.int .i64 0, .bool false, .slice none 0 0]) ?_ 0 _ rfl; refine BD ?_; exact BK381.out) Try.underlying35 rfl (by kernel_rfl)) rfl ?_
   exact ⟨_, ER, by (with_reducible repeat (first | apply Kd.R_alloc | apply Kd.R_drewN | apply Kd.R_drew)); exact Kd.R_mono (Kd.R_far (p := ⟨gb381, 2, none⟩) (Kd.R_far (p := ⟨gb381, 1, none⟩) (Kd.R_far (p := ⟨gb381, 0, none⟩) (Kd.R_types HO386.out BK381.out (by decide)) (fun _ hk => hk.2) (.int .i64 t382)) (fun _ hk => hk.2) (.bool t383)) (fun _ hk => hk.2) (.slice Ao33 t384.length co33)) (fun _ hk => trivial), (BB3 HB.out GE380.out GE381.out GE387.out)⟩
  ·rw [if_neg c23] at H
   have c23b0 := decide_eq_false c23
   clear c23
   by_cases c39 : 0 ≤ t388
   rotate_left
   ·rw [if_neg c39] at H; exact absurd H (by simp)
   rw [if_pos c39] at H
   have c39b0 := decide_eq_true c39
   clear c39
   by_cases c40 : t388 < (l0_2.length : Int)
   rotate_left
   ·rw [if_neg c40] at H; exact absurd H (by simp)
   rw [if_pos c40] at H
   have c40b0 := decide_eq_true c40
   clear c40
   by_cases c41 : ((rd_T60 l0_2 t388).f2).toList = ([] : List UInt8)
   ·rw [if_pos c41] at H
    have c41b0 : (((rd_T60 l0_2 t388).f2).toList == ([] : List UInt8)) = true := beq_iff_eq.mpr c41
    have c41b1 : (((rd_T60 l0_2 t388).f2).toList != ([] : List UInt8)) = false := bne_eq_false_iff_eq.mpr c41
    clear c41
    simp only [Option.some.injEq, Prod.mk.injEq] at H
    obtain ⟨rfl, rfl, rfl, rfl⟩ := H
    go_enter Try.func53, Try.ntmps53
    try go_wp2_with (first | ((with_reducible refine gate_dst (N := 4) rfl ?_); refine BX 4 #[.int .i64 a0_0, .bool a0_1, .slice A0_2 l0_2.length c0_2] 35 ?_; intro gb380 hg w42 hbox hb; have BK380 := AM (hbox); have GW380 : Aside0 (w.heap.size ≤ gb380) := WG hg (BB HB.out); have GE380 := GW380; replace HB := AM (below_step (BB HB.out) hb); clear hb hbox hg) | ((with_reducible refine gate_dst (N := 8) rfl ?_); refine BX 8 #[.int .i64 0, .bool false, .slice none 0 0] 35 ?_; intro gb381 hg w43 hbox hb; have BK381 := AM (hbox); have GW381 : Aside0 (w.heap.size ≤ gb381) := WG hg (BB1 HB.out GE380.out); have GE381 := GW381; have NB380_381 := NL BK380.out hg; have NB381_380 := NG BK380.out hg; replace BK380 := AM (KB BK380.out hb); replace HB := AM (below_step (BB1 HB.out GE380.out) hb); clear hb hbox hg; have hnb44 := NB380_381.out; have hnc44 := NB381_380.out; have hcz45 := blk_cell BK380.out; have hfz45 := blk_frozen BK380.out) | ((with_reducible refine gate_callee (f := 79) rfl ?_); refine GL (some 14) rfl rfl Try.func79 #[.agg #[.int .i64 a0_0, .bool a0_1, .slice A0_2 l0_2.length c0_2]] rfl ?_; (with_reducible refine (spec_l14Copy.calls a0_0 a0_1 _ _ l0_2 t382 t383 t384 _ ?side1 ?side2 A5.out).mono ?_); (case side1 => exact CC (Kd.C_below HR0_2.out HB.out)); (case side2 => exact HC0_2.out); rintro e w46 ⟨v385, rfl, ho0, hb⟩; refine ⟨_, rfl, ?_⟩; have HO386 := AM (Kd.R_lower ho0 (below_size (BB2 HB.out GE380.out GE381.out))); replace BK380 := AM (KB BK380.out hb); replace BK381 := AM (KB BK381.out hb); replace HB := AM (below_step (BB2 HB.out GE380.out GE381.out) hb); (try clear hb); (try clear ho0)) | ((with_reducible refine gate_dst (N := 10) rfl ?_); refine BX 10 #[.int .i64 0, .bool false, .slice none 0 0] 35 ?_; intro gb387 hg w47 hbox hb; have BK387 := AM (hbox); have GW387 : Aside0 (w.heap.size ≤ gb387) := WG hg (BB2 HB.out GE380.out GE381.out); have GE387 := GW387; have NB380_387 := NL BK380.out hg; have NB387_380 := NG BK380.out hg; have NB381_387 := NL BK381.out hg; have NB387_381 := NG BK381.out hg; replace HO386 := AM (Kd.R_below (RR HO386.out) hb); replace BK380 := AM (KB BK380.out hb); replace BK381 := AM (KB BK381.out hb); replace HB := AM (below_step (BB2 HB.out GE380.out GE381.out) hb); clear hb hbox hg; have hnb48 := NB387_380.out; have hnc48 := NB380_387.out; have hnb49 := NB387_381.out; have hnc49 := NB381_387.out; have hcz50 := blk_cell BK387.out; have hfz50 := blk_frozen BK387.out; obtain ⟨Ao51, co51, eo51⟩ := Kd.R_slice HO386.out; subst eo51; have hcz52 := blk_cell BK380.out; have hfz52 := blk_frozen BK380.out) | ((with_reducible refine gate_callee (f := 28) rfl ?_); refine GL (some 18) rfl rfl Try.func28 #[.agg #[.int .i64 a0_0, .bool a0_1, .slice A0_2 l0_2.length c0_2], .int .i64 a1, .int .i64 a2] rfl ?_; (with_reducible refine (spec_l14At.calls k a0_0 a0_1 _ _ l0_2 a1 a2 t388 _ ?side1 ?side2 A6.out).mono ?_); (case side1 => exact Kd.C_below HR0_2.out (BB3 HB.out GE380.out GE381.out GE387.out)); (case side2 => exact HC0_2.out); rintro e w53 ⟨rfl, hb⟩; refine ⟨_, rfl, ?_⟩; have n0_ := AM (Kd.R_below (by (with_reducible repeat (first | apply Kd.R_alloc | apply Kd.R_drewN | apply Kd.R_drew)); exact (Kd.R_mono (Kd.R_far (p := ⟨gb387, 2, none⟩) (Kd.R_far (p := ⟨gb387, 1, none⟩) (Kd.R_far (p := ⟨gb387, 0, none⟩) (Kd.R_types HO386.out BK387.out (by decide)) (fun _ hk => hk.2) (.int .i64 t382)) (fun _ hk => hk.2) (.bool t383)) (fun _ hk => hk.2) (.slice Ao51 t384.length co51)) (fun _ h_ => h_.1))) hb); have n1_ := AM (blk_below (g := gb380) (o := .cells #[.int .i64 a0_0, .bool a0_1, .slice A0_2 l0_2.length c0_2] 35 (0, 0)) (by refine BD ?_; refine blk_far ?_ NB380_387.out _; refine BD ?_; refine blk_far ?_ NB380_387.out _; refine BD ?_; refine blk_far ?_ NB380_387.out _; refine BD ?_; exact BK380.out) hb); have n2_ := AM (blk_below (g := gb381) (o := .cells #[.int .i64 0, .bool false, .slice none 0 0] 35 (0, 0)) (by refine BD ?_; refine blk_far ?_ NB381_387.out _; refine BD ?_; refine blk_far ?_ NB381_387.out _; refine BD ?_; refine blk_far ?_ NB381_387.out _; refine BD ?_; exact BK381.out) hb); have n3_ := AM (blk_below (g := gb387) (o := .cells #[.int .i64 t382, .bool t383, .slice Ao51 t384.length co51] 35 (0, 0)) (by refine BD ?_; refine blk_put (cs := #[.int .i64 t382, .bool t383, .slice none 0 0]) ?_ 2 _ rfl; refine BD ?_; refine blk_put (cs := #[.int .i64 t382, .bool false, .slice none 0 0]) ?_ 1 _ rfl; refine BD ?_; refine blk_put (cs := #[.int .i64 0, .bool false, .slice none 0 0]) ?_ 0 _ rfl; refine BD ?_; exact BK387.out) hb); have n4_ := AM (below_step (BB3 HB.out GE380.out GE381.out GE387.out) hb); clear HO386; clear BK380; clear BK381; clear BK387; clear HB; have HO386 := n0_; have BK380 := n1_; have BK381 := n2_; have BK387 := n3_; have HB := n4_; clear n0_ n1_ n2_ n3_ n4_; (try clear hb)))
    replace HO386 := AM (Kd.R_drew HO386.out); replace BK380 := AM (blk_drew BK380.out); replace BK381 := AM (blk_drew BK381.out); replace BK387 := AM (blk_drew BK387.out); replace HB := AM (below_drew1 HB.out)
    have p389 : 0 ≤ (t388 : Int) := DT
    have q389 : t388 < (l0_2.length : Int) := DT
    obtain ⟨ad389, e389, hx389_0, hx389_1, hx389_2, hx389_3⟩ := at_T60 HR0_2.out t388 p389 q389
    have hw389_3 := hx389_3
    have hw389_2 := hx389_2
    have hw389_1 := hx389_1
    have hw389_0 := hx389_0
    cases e389
    replace hx389_0 := CX HB.out hx389_0
    replace hx389_1 := CX HB.out hx389_1
    replace hx389_2 := CX HB.out hx389_2
    replace hx389_3 := CX HB.out hx389_3
    replace p389 := eq_true p389
    replace q389 := eq_true q389
    refine start_ (n := 31) (S := fun w' => w'.cell? ⟨gb380, 0, none⟩ = some (.int .i64 a0_0) ∧ w'.cell? ⟨gb380, 1, none⟩ = some (.bool a0_1) ∧ w'.cell? ⟨gb380, 2, none⟩ = some (.slice (some ad389) l0_2.length c0_2) ∧ w'.cell? (ad389.add ((t388).toNat * 4)) = some (.int .i64 ((rd_T60 l0_2 t388).f0)) ∧ w'.cell? ⟨(ad389.add ((t388).toNat * 4)).block, (ad389.add ((t388).toNat * 4)).off + 1, none⟩ = some (.int .i64 ((rd_T60 l0_2 t388).f1)) ∧ w'.cell? ⟨(ad389.add ((t388).toNat * 4)).block, (ad389.add ((t388).toNat * 4)).off + 2, none⟩ = some (.string ((rd_T60 l0_2 t388).f2)) ∧ w'.cell? ⟨(ad389.add ((t388).toNat * 4)).block, (ad389.add ((t388).toNat * 4)).off + 3, none⟩ = some (.int .i64 ((rd_T60 l0_2 t388).f3))) (ds := []) (.replicate 31 false) (by kernel_rfl) rfl rfl ⟨(blk_cell BK380.out 0).trans rfl, (blk_cell BK380.out 1).trans rfl, (blk_cell BK380.out 2).trans rfl, (CX HB.out hw389_0), (CX HB.out hw389_1), (CX HB.out hw389_2), (CX HB.out hw389_3)⟩ (fun hHeld => ?_); refine with_tabW spec_Spoil.tab3 spec_Spoil.bits3 (fun HT_ HW_ => ?_)
    generalize w53.drew = w54 at HO386 BK380 BK381 BK387 HB hx389_0 hx389_1 hx389_2 hx389_3 hHeld ⊢
    refine PH 0 19 HT_.out ?_
    refine PH 1 20 HT_.out ?_
    refine PH 2 21 HT_.out ?_
    refine PH 3 22 HT_.out ?_
    refine PH 4 23 HT_.out ?_
    refine PH 5 24 HT_.out ?_
    refine PH 6 25 HT_.out ?_
    refine PH 7 26 HT_.out ?_
    refine PH 9 28 HT_.out ?_
    refine TH 8 27 HT_.out HW_.out hHeld ?_
    refine PH 10 29 HT_.out ?_
    refine PH 11 30 HT_.out ?_
    refine TH 12 31 HT_.out HW_.out hHeld ?_
    refine PH 13 32 HT_.out ?_
    refine PH 14 33 HT_.out ?_
    refine PH 15 34 HT_.out ?_
    refine PO 16 35 HT_.out ?_
    refine PO 17 36 HT_.out ?_
    refine PO 18 37 HT_.out ?_
    refine PO 19 38 HT_.out ?_
    refine PO 20 39 HT_.out ?_
    refine PO 21 40 HT_.out ?_
    refine PO 22 41 HT_.out ?_
    refine PO 23 42 HT_.out ?_
    refine PO 24 43 HT_.out ?_
    refine PO 25 44 HT_.out ?_
    refine PO 26 45 HT_.out ?_
    refine PO 27 46 HT_.out ?_
    refine PO 28 47 HT_.out ?_
    refine PO 29 48 HT_.out ?_
    refine PH 30 49 HT_.out ?_
    refine done_ (done_of HT_.out (by kernel_rfl)) ?_
    have hcz55 := blk_cell BK387.out
    have hcz55_1 : w54.cell? ⟨gb387, 1, none⟩ = some (.bool t383) := (blk_cell BK387.out 1).trans rfl
    have hcz55_2 : w54.cell? ⟨gb387, 2, none⟩ = some (.slice Ao51 t384.length co51) := (blk_cell BK387.out 2).trans rfl
    have hfz55 := blk_frozen BK387.out
    have hfz55_1 := blk_frozen BK387.out 1
    have hfz55_2 := blk_frozen BK387.out 2
    have hcz56 := blk_cell BK381.out
    have hcz56_1 : w54.cell? ⟨gb381, 1, none⟩ = some (.bool false) := (blk_cell BK381.out 1).trans rfl
    have hcz56_2 : w54.cell? ⟨gb381, 2, none⟩ = some (.slice none 0 0) := (blk_cell BK381.out 2).trans rfl
    have hfz56 := blk_frozen BK381.out
    have hfz56_1 := blk_frozen BK381.out 1
    have hfz56_2 := blk_frozen BK381.out 2
    try go_wp2
    refine bodyPost_ret (results_ct rfl _ _ gb381 35 #[.int .i64 t382, .bool t383, .slice Ao51 t384.length co51] (0, 0) _ rfl (by refine BD ?_; refine blk_put (cs := #[.int .i64 t382, .bool t383, .slice none 0 0]) ?_ 2 _ rfl; refine BD ?_; refine blk_put (cs := #[.int .i64 t382, .bool false, .slice none 0 0]) ?_ 1 _ rfl; refine BD ?_; refine blk_put (cs := #[.int .i64 0, .bool false, .slice none 0 0]) ?_ 0 _ rfl; refine BD ?_; exact BK381.out) Try.underlying35 rfl (by kernel_rfl)) rfl ?_
    exact ⟨_, ER, by (with_reducible repeat (first | apply Kd.R_alloc | apply Kd.R_drewN | apply Kd.R_drew)); exact Kd.R_mono (Kd.R_far (p := ⟨gb381, 2, none⟩) (Kd.R_far (p := ⟨gb381, 1, none⟩) (Kd.R_far (p := ⟨gb381, 0, none⟩) (Kd.R_types HO386.out BK381.out (by decide)) (fun _ hk => hk.2) (.int .i64 t382)) (fun _ hk => hk.2) (.bool t383)) (fun _ hk => hk.2) (.slice Ao51 t384.length co51)) (fun _ hk => trivial), (BB3 HB.out GE380.out GE381.out GE387.out)⟩
   ·rw [if_neg c41] at H
    have c41b0 : (((rd_T60 l0_2 t388).f2).toList == ([] : List UInt8)) = false := beq_eq_false_iff_ne.mpr c41
    have c41b1 : (((rd_T60 l0_2 t388).f2).toList != ([] : List UInt8)) = true := bne_iff_ne.mpr c41
    replace H := Option.bind_eq_some_iff.mp H
    obtain ⟨t392, A570, H⟩ := H
    replace H : (if ((rd_T60 l0_2 t388).f3) = t392 then (if t388 < (t384.length : Int) then (some (t382, t383, (t384.set (t388 : Int).toNat (⟨(rd_T60 t384 t388).f0, (rd_T60 t384 t388).f1, flipT ((rd_T60 l0_2 t388).f2) (Int.tmod a3 (((rd_T60 l0_2 t388).f2).size : Int)).toNat, (rd_T60 t384 t388).f3⟩ : S60)), true)) else (none)) else (some (t382, t383, t384, false))) = some (r1, r2, r3, r4) := H
    have A57 := AM A570
    clear A570
    by_cases c58 : ((rd_T60 l0_2 t388).f3) = t392
    ·rw [if_pos c58] at H
     have c58b0 : (((rd_T60 l0_2 t388).f3) == t392) = true := beq_iff_eq.mpr c58
     have c58b1 : (((rd_T60 l0_2 t388).f3) != t392) = false := bne_eq_false_iff_eq.mpr c58
     clear c58
     by_cases c59 : t388 < (t384.length : Int)
     rotate_left
     ·rw [if_neg c59] at H; exact absurd H (by simp)
     rw [if_pos c59] at H
     have c59b0 := decide_eq_true c59
     clear c59
     obtain ⟨tf, htf⟩ : ∃ tf : ByteArray, tf = flipT ((rd_T60 l0_2 t388).f2) (Int.tmod a3 (((rd_T60 l0_2 t388).f2).size : Int)).toNat := ⟨_, rfl⟩
     rw [← htf] at H
     have HTF := AM htf
     clear htf
     obtain ⟨y394, hy394⟩ : ∃ y_ : List (S60), y_ = (t384.set (t388 : Int).toNat (⟨(rd_T60 t384 t388).f0, (rd_T60 t384 t388).f1, tf, (rd_T60 t384 t388).f3⟩ : S60)) := ⟨_, rfl⟩
     replace H : (some (t382, t383, y394, true)) = some (r1, r2, r3, r4) := by first | (rw [hy394]; first | with_reducible exact H | with_reducible exact OB H) | with_reducible exact OB H | with_reducible exact H | (rw [hy394]; exact H) | exact H
     have Ny394 := AM hy394
     clear hy394
     simp only [Option.some.injEq, Prod.mk.injEq] at H
     obtain ⟨rfl, rfl, rfl, rfl⟩ := H
     go_enter Try.func53, Try.ntmps53
     try go_wp2_with (first | ((with_reducible refine gate_dst (N := 4) rfl ?_); refine BX 4 #[.int .i64 a0_0, .bool a0_1, .slice A0_2 l0_2.length c0_2] 35 ?_; intro gb380 hg w61 hbox hb; have BK380 := AM (hbox); have GW380 : Aside0 (w.heap.size ≤ gb380) := WG hg (BB HB.out); have GE380 := GW380; replace HB := AM (below_step (BB HB.out) hb); clear hb hbox hg) | ((with_reducible refine gate_dst (N := 8) rfl ?_); refine BX 8 #[.int .i64 0, .bool false, .slice none 0 0] 35 ?_; intro gb381 hg w62 hbox hb; have BK381 := AM (hbox); have GW381 : Aside0 (w.heap.size ≤ gb381) := WG hg (BB1 HB.out GE380.out); have GE381 := GW381; have NB380_381 := NL BK380.out hg; have NB381_380 := NG BK380.out hg; replace BK380 := AM (KB BK380.out hb); replace HB := AM (below_step (BB1 HB.out GE380.out) hb); clear hb hbox hg; have hnb63 := NB380_381.out; have hnc63 := NB381_380.out; have hcz64 := blk_cell BK380.out; have hfz64 := blk_frozen BK380.out) | ((with_reducible refine gate_callee (f := 79) rfl ?_); refine GL (some 14) rfl rfl Try.func79 #[.agg #[.int .i64 a0_0, .bool a0_1, .slice A0_2 l0_2.length c0_2]] rfl ?_; (with_reducible refine (spec_l14Copy.calls a0_0 a0_1 _ _ l0_2 t382 t383 t384 _ ?side1 ?side2 A5.out).mono ?_); (case side1 => exact CC (Kd.C_below HR0_2.out HB.out)); (case side2 => exact HC0_2.out); rintro e w65 ⟨v385, rfl, ho0, hb⟩; refine ⟨_, rfl, ?_⟩; have HO386 := AM (Kd.R_lower ho0 (below_size (BB2 HB.out GE380.out GE381.out))); replace BK380 := AM (KB BK380.out hb); replace BK381 := AM (KB BK381.out hb); replace HB := AM (below_step (BB2 HB.out GE380.out GE381.out) hb); (try clear hb); (try clear ho0)) | ((with_reducible refine gate_dst (N := 10) rfl ?_); refine BX 10 #[.int .i64 0, .bool false, .slice none 0 0] 35 ?_; intro gb387 hg w66 hbox hb; have BK387 := AM (hbox); have GW387 : Aside0 (w.heap.size ≤ gb387) := WG hg (BB2 HB.out GE380.out GE381.out); have GE387 := GW387; have NB380_387 := NL BK380.out hg; have NB387_380 := NG BK380.out hg; have NB381_387 := NL BK381.out hg; have NB387_381 := NG BK381.out hg; replace HO386 := AM (Kd.R_below (RR HO386.out) hb); replace BK380 := AM (KB BK380.out hb); replace BK381 := AM (KB BK381.out hb); replace HB := AM (below_step (BB2 HB.out GE380.out GE381.out) hb); clear hb hbox hg; have hnb67 := NB387_380.out; have hnc67 := NB380_387.out; have hnb68 := NB387_381.out; have hnc68 := NB381_387.out; have hcz69 := blk_cell BK387.out; have hfz69 := blk_frozen BK387.out; obtain ⟨Ao70, co70, eo70⟩ := Kd.R_slice HO386.out; subst eo70; have hcz71 := blk_cell BK380.out; have hfz71 := blk_frozen BK380.out) | ((with_reducible refine gate_callee (f := 28) rfl ?_); refine GL (some 18) rfl rfl Try.func28 #[.agg #[.int .i64 a0_0, .bool a0_1, .slice A0_2 l0_2.length c0_2], .int .i64 a1, .int .i64 a2] rfl ?_; (with_reducible refine (spec_l14At.calls k a0_0 a0_1 _ _ l0_2 a1 a2 t388 _ ?side1 ?side2 A6.out).mono ?_); (case side1 => exact Kd.C_below HR0_2.out (BB3 HB.out GE380.out GE381.out GE387.out)); (case side2 => exact HC0_2.out); rintro e w72 ⟨rfl, hb⟩; refine ⟨_, rfl, ?_⟩; have n0_ := AM (Kd.R_below (by (with_reducible repeat (first | apply Kd.R_alloc | apply Kd.R_drewN | apply Kd.R_drew)); exact (Kd.R_mono (Kd.R_far (p := ⟨gb387, 2, none⟩) (Kd.R_far (p := ⟨gb387, 1, none⟩) (Kd.R_far (p := ⟨gb387, 0, none⟩) (Kd.R_types HO386.out BK387.out (by decide)) (fun _ hk => hk.2) (.int .i64 t382)) (fun _ hk => hk.2) (.bool t383)) (fun _ hk => hk.2) (.slice Ao70 t384.length co70)) (fun _ h_ => h_.1))) hb); have n1_ := AM (blk_below (g := gb380) (o := .cells #[.int .i64 a0_0, .bool a0_1, .slice A0_2 l0_2.length c0_2] 35 (0, 0)) (by refine BD ?_; refine blk_far ?_ NB380_387.out _; refine BD ?_; refine blk_far ?_ NB380_387.out _; refine BD ?_; refine blk_far ?_ NB380_387.out _; refine BD ?_; exact BK380.out) hb); have n2_ := AM (blk_below (g := gb381) (o := .cells #[.int .i64 0, .bool false, .slice none 0 0] 35 (0, 0)) (by refine BD ?_; refine blk_far ?_ NB381_387.out _; refine BD ?_; refine blk_far ?_ NB381_387.out _; refine BD ?_; refine blk_far ?_ NB381_387.out _; refine BD ?_; exact BK381.out) hb); have n3_ := AM (blk_below (g := gb387) (o := .cells #[.int .i64 t382, .bool t383, .slice Ao70 t384.length co70] 35 (0, 0)) (by refine BD ?_; refine blk_put (cs := #[.int .i64 t382, .bool t383, .slice none 0 0]) ?_ 2 _ rfl; refine BD ?_; refine blk_put (cs := #[.int .i64 t382, .bool false, .slice none 0 0]) ?_ 1 _ rfl; refine BD ?_; refine blk_put (cs := #[.int .i64 0, .bool false, .slice none 0 0]) ?_ 0 _ rfl; refine BD ?_; exact BK387.out) hb); have n4_ := AM (below_step (BB3 HB.out GE380.out GE381.out GE387.out) hb); clear HO386; clear BK380; clear BK381; clear BK387; clear HB; have HO386 := n0_; have BK380 := n1_; have BK381 := n2_; have BK387 := n3_; have HB := n4_; clear n0_ n1_ n2_ n3_ n4_; (try clear hb)))
     replace HO386 := AM (Kd.R_drew HO386.out); replace BK380 := AM (blk_drew BK380.out); replace BK381 := AM (blk_drew BK381.out); replace BK387 := AM (blk_drew BK387.out); replace HB := AM (below_drew1 HB.out)
     have p389 : 0 ≤ (t388 : Int) := DT
     have q389 : t388 < (l0_2.length : Int) := DT
     obtain ⟨ad389, e389, hx389_0, hx389_1, hx389_2, hx389_3⟩ := at_T60 HR0_2.out t388 p389 q389
     have hw389_3 := hx389_3
     have hw389_2 := hx389_2
     have hw389_1 := hx389_1
     have hw389_0 := hx389_0
     cases e389
     replace hx389_0 := CX HB.out hx389_0
     replace hx389_1 := CX HB.out hx389_1
     replace hx389_2 := CX HB.out hx389_2
     replace hx389_3 := CX HB.out hx389_3
     replace p389 := eq_true p389
     replace q389 := eq_true q389
     have p390 : 0 ≤ (t388 : Int) := DT
     have q390 : t388 < (l0_2.length : Int) := DT
     obtain ⟨ad390, e390, hx390_0, hx390_1, hx390_2, hx390_3⟩ := at_T60 HR0_2.out t388 p390 q390
     have hw390_3 := hx390_3
     have hw390_2 := hx390_2
     have hw390_1 := hx390_1
     have hw390_0 := hx390_0
     obtain rfl : ad389 = ad390 := (by injection e390)
     replace hx390_0 := CX HB.out hx390_0
     replace hx390_1 := CX HB.out hx390_1
     replace hx390_2 := CX HB.out hx390_2
     replace hx390_3 := CX HB.out hx390_3
     replace p390 := eq_true p390
     replace q390 := eq_true q390
     have p391 : 0 ≤ (t388 : Int) := DT
     have q391 : t388 < (l0_2.length : Int) := DT
     obtain ⟨ad391, e391, hx391_0, hx391_1, hx391_2, hx391_3⟩ := at_T60 HR0_2.out t388 p391 q391
     have hw391_3 := hx391_3
     have hw391_2 := hx391_2
     have hw391_1 := hx391_1
     have hw391_0 := hx391_0
     obtain rfl : ad389 = ad391 := (by injection e391)
     replace hx391_0 := CX HB.out hx391_0
     replace hx391_1 := CX HB.out hx391_1
     replace hx391_2 := CX HB.out hx391_2
     replace hx391_3 := CX HB.out hx391_3
     replace p391 := eq_true p391
     replace q391 := eq_true q391
     refine start_ (n := 31) (S := fun w' => w'.cell? ⟨gb380, 0, none⟩ = some (.int .i64 a0_0) ∧ w'.cell? ⟨gb380, 1, none⟩ = some (.bool a0_1) ∧ w'.cell? ⟨gb380, 2, none⟩ = some (.slice (some ad389) l0_2.length c0_2) ∧ w'.cell? (ad389.add ((t388).toNat * 4)) = some (.int .i64 ((rd_T60 l0_2 t388).f0)) ∧ w'.cell? ⟨(ad389.add ((t388).toNat * 4)).block, (ad389.add ((t388).toNat * 4)).off + 1, none⟩ = some (.int .i64 ((rd_T60 l0_2 t388).f1)) ∧ w'.cell? ⟨(ad389.add ((t388).toNat * 4)).block, (ad389.add ((t388).toNat * 4)).off + 2, none⟩ = some (.string ((rd_T60 l0_2 t388).f2)) ∧ w'.cell? ⟨(ad389.add ((t388).toNat * 4)).block, (ad389.add ((t388).toNat * 4)).off + 3, none⟩ = some (.int .i64 ((rd_T60 l0_2 t388).f3)) ∧ w'.cell? (ad389.add ((t388).toNat * 4)) = some (.int .i64 ((rd_T60 l0_2 t388).f0)) ∧ w'.cell? ⟨(ad389.add ((t388).toNat * 4)).block, (ad389.add ((t388).toNat * 4)).off + 1, none⟩ = some (.int .i64 ((rd_T60 l0_2 t388).f1)) ∧ w'.cell? ⟨(ad389.add ((t388).toNat * 4)).block, (ad389.add ((t388).toNat * 4)).off + 2, none⟩ = some (.string ((rd_T60 l0_2 t388).f2)) ∧ w'.cell? ⟨(ad389.add ((t388).toNat * 4)).block, (ad389.add ((t388).toNat * 4)).off + 3, none⟩ = some (.int .i64 ((rd_T60 l0_2 t388).f3)) ∧ w'.cell? (ad389.add ((t388).toNat * 4)) = some (.int .i64 ((rd_T60 l0_2 t388).f0)) ∧ w'.cell? ⟨(ad389.add ((t388).toNat * 4)).block, (ad389.add ((t388).toNat * 4)).off + 1, none⟩ = some (.int .i64 ((rd_T60 l0_2 t388).f1)) ∧ w'.cell? ⟨(ad389.add ((t388).toNat * 4)).block, (ad389.add ((t388).toNat * 4)).off + 2, none⟩ = some (.string ((rd_T60 l0_2 t388).f2)) ∧ w'.cell? ⟨(ad389.add ((t388).toNat * 4)).block, (ad389.add ((t388).toNat * 4)).off + 3, none⟩ = some (.int .i64 ((rd_T60 l0_2 t388).f3))) (ds := []) (.replicate 31 false) (by kernel_rfl) rfl rfl ⟨(blk_cell BK380.out 0).trans rfl, (blk_cell BK380.out 1).trans rfl, (blk_cell BK380.out 2).trans rfl, (CX HB.out hw389_0), (CX HB.out hw389_1), (CX HB.out hw389_2), (CX HB.out hw389_3), (CX HB.out hw390_0), (CX HB.out hw390_1), (CX HB.out hw390_2), (CX HB.out hw390_3), (CX HB.out hw391_0), (CX HB.out hw391_1), (CX HB.out hw391_2), (CX HB.out hw391_3)⟩ (fun hHeld => ?_); refine with_tabW spec_Spoil.tab3 spec_Spoil.bits3 (fun HT_ HW_ => ?_)
     generalize w72.drew = w73 at HO386 BK380 BK381 BK387 HB hx389_0 hx389_1 hx389_2 hx389_3 hx390_0 hx390_1 hx390_2 hx390_3 hx391_0 hx391_1 hx391_2 hx391_3 hHeld ⊢
     refine PH 0 19 HT_.out ?_
     refine PH 1 20 HT_.out ?_
     refine PH 2 21 HT_.out ?_
     refine PH 3 22 HT_.out ?_
     refine PH 4 23 HT_.out ?_
     refine PH 5 24 HT_.out ?_
     refine PH 6 25 HT_.out ?_
     refine PH 7 26 HT_.out ?_
     refine PH 9 28 HT_.out ?_
     refine TH 8 27 HT_.out HW_.out hHeld ?_
     refine PH 10 29 HT_.out ?_
     refine PH 11 30 HT_.out ?_
     refine TH 12 31 HT_.out HW_.out hHeld ?_
     refine PH 13 32 HT_.out ?_
     refine PH 14 33 HT_.out ?_
     refine PH 15 34 HT_.out ?_
     refine PH 16 35 HT_.out ?_
     refine PH 18 37 HT_.out ?_
     refine PH 22 41 HT_.out ?_
     refine PH 24 43 HT_.out ?_
     refine TH 17 36 HT_.out HW_.out hHeld ?_
     refine PH 19 38 HT_.out ?_
     refine PH 20 39 HT_.out ?_
     refine TH 21 40 HT_.out HW_.out hHeld ?_
     refine TH 23 42 HT_.out HW_.out hHeld ?_
     refine PH 25 44 HT_.out ?_
     refine PH 26 45 HT_.out ?_
     refine TH 27 46 HT_.out HW_.out hHeld ?_
     refine OH 28 (some 47) HT_.out (fun K hK => ?_)
     refine GO Try.func29 #[.string ((rd_T60 l0_2 t388).f2)] ?_
     with_reducible refine (spec_SumText.calls k ((rd_T60 l0_2 t388).f2) t392 _ A57.out).mono ?_
     rintro e w' ⟨rfl, ⟨nd, rfl⟩⟩
     refine ⟨_, rfl, ?_⟩
     refine hK.out _ _ ⟨(blk_cell BK380.out 0).trans rfl, (blk_cell BK380.out 1).trans rfl, (blk_cell BK380.out 2).trans rfl, (CX HB.out hw389_0), (CX HB.out hw389_1), (CX HB.out hw389_2), (CX HB.out hw389_3), (CX HB.out hw390_0), (CX HB.out hw390_1), (CX HB.out hw390_2), (CX HB.out hw390_3), (CX HB.out hw391_0), (CX HB.out hw391_1), (CX HB.out hw391_2), (CX HB.out hw391_3)⟩ (fun hHeld => ?_)
     clear hK K
     refine NM 47 ?_
     refine PH 29 48 HT_.out ?_
     refine PH 30 49 HT_.out ?_
     refine done_ (done_of HT_.out (by kernel_rfl)) ?_
     have hcz74 := blk_cell BK380.out
     have hcz74_1 : w73.cell? ⟨gb380, 1, none⟩ = some (.bool a0_1) := (blk_cell BK380.out 1).trans rfl
     have hcz74_2 : w73.cell? ⟨gb380, 2, none⟩ = some (.slice (some ad389) l0_2.length c0_2) := (blk_cell BK380.out 2).trans rfl
     have hfz74 := blk_frozen BK380.out
     have hfz74_1 := blk_frozen BK380.out 1
     have hfz74_2 := blk_frozen BK380.out 2
     have p393 : 0 ≤ (t388 : Int) := DT
     have q393 : t388 < (l0_2.length : Int) := DT
     obtain ⟨ad393, e393, hx393_0, hx393_1, hx393_2, hx393_3⟩ := at_T60 HR0_2.out t388 p393 q393
     obtain rfl : ad389 = ad393 := (by injection e393)
     replace hx393_0 := CX HB.out hx393_0
     replace hx393_1 := CX HB.out hx393_1
     replace hx393_2 := CX HB.out hx393_2
     replace hx393_3 := CX HB.out hx393_3
     replace p393 := eq_true p393
     replace q393 := eq_true q393
     have hsz0 : ((rd_T60 l0_2 t388).f2).size ≠ 0 := by
      intro h_
      apply c41
      rw [ByteArray.toList_eq]
      exact List.eq_nil_of_length_eq_zero (by rw [Array.length_toList]; exact h_)
     obtain ⟨ix, hix⟩ : ∃ ix : Nat, Int.tmod a3 (((rd_T60 l0_2 t388).f2).size : Int) = (ix : Int) := ⟨(Int.tmod a3 (((rd_T60 l0_2 t388).f2).size : Int)).toNat, by
      have h1_ : 0 ≤ a3 := by have := of_decide_eq_false c23b0; omega
      have := Int.tmod_nonneg (((rd_T60 l0_2 t388).f2).size : Int) h1_
      omega⟩
     have hixlt : ix < ((rd_T60 l0_2 t388).f2).size := by
      have := Int.tmod_lt_of_pos a3 (show (0 : Int) < (((rd_T60 l0_2 t388).f2).size : Int) by omega)
      omega
     replace HTF := AM (show tf = flipT ((rd_T60 l0_2 t388).f2) ix by rw [HTF.out, hix]; rfl)
     have hcv := Lib.run_convert_string_bytes (P := Try.prog) (w73.drewN nd) 9 22 5 ((rd_T60 l0_2 t388).f2) Try.underlying9 Try.underlying22 Try.underlying5
     have HBY := AM (below_bytes (w73.drewN nd) 5 ((rd_T60 l0_2 t388).f2))
     have HU0 := AM (Buf.new (w73.drewN nd) 5 ((rd_T60 l0_2 t388).f2))
     generalize bytesWorld (w73.drewN nd) 5 ((rd_T60 l0_2 t388).f2) = W1 at hcv HBY HU0
     generalize grownCap (w73.drewN nd) ((rd_T60 l0_2 t388).f2).size 0 5 = cp at hcv
     have hsz1 : ((((rd_T60 l0_2 t388).f2).size : Int) == 0) = false := by rw [beq_eq_false_iff_ne]; omega
     have HIX := AM hixlt
     have hsz2 : ((((rd_T60 l0_2 t388).f2).size : Int) = 0) = False := eq_false (by omega)
     have hsz3 : ((rd_T60 l0_2 t388).f2) ≠ ByteArray.empty := by intro h_; apply hsz0; rw [h_]; rfl
     clear hixlt
     go_wp2
     clear hcv
     obtain ⟨hc, hf⟩ := HU0.out ix HIX.out
     replace hc : W1.cell? ⟨w73.heap.size, ix, none⟩ = some (.int .u8 (btN ((rd_T60 l0_2 t388).f2) ix)) := hc
     replace hf : W1.frozen? ⟨w73.heap.size, ix, none⟩ = false := hf
     have hix4 : (ix : Int) < (((rd_T60 l0_2 t388).f2).size : Int) := by have := HIX.out; omega
     obtain ⟨W2, hW2⟩ : ∃ W2, W2 = (W1.setCell ⟨w73.heap.size, ix, none⟩ (.int .u8 (Go.bits .xor .u8 (btN ((rd_T60 l0_2 t388).f2) ix) 1))).drew := ⟨_, rfl⟩
     have HU2 := AM (show Buf W2 w73.heap.size ((rd_T60 l0_2 t388).f2).size (fun j => if j = ix then xB (btN ((rd_T60 l0_2 t388).f2) j) 1 else btN ((rd_T60 l0_2 t388).f2) j) from hW2 ▸ Buf.drew (HU0.out.set ix _ _ (by show (if ix = ix then _ else _) = _; rw [if_pos rfl]; rfl) (fun j hj => if_neg hj)))
     have hb := (show Below (w73.drewN nd).heap.size (w73.drewN nd) W2 from hW2 ▸ (HBY.out.setCell (p := ⟨w73.heap.size, ix, none⟩) (Nat.le_refl _) _).drew)
     replace BK380 := AM (KB BK380.out hb)
     replace BK381 := AM (KB BK381.out hb)
     replace BK387 := AM (KB BK387.out hb)
     replace HO386 := AM (Kd.R_below (RR HO386.out) hb)
     replace HB := AM (below_step (BB3 HB.out GE380.out GE381.out GE387.out) hb)
     clear hb HU0 HBY
     have HW2 := AM hW2
     clear hW2
     have mixed : Try.prog.follows .mixedOrders = true := by kernel_rfl
     have u22 := Try.underlying22
     go_wp2_with fail
     go_big_region_o
     rw [← HW2.out]
     have hcv2 : (convert 22 9 (.slice (some ⟨w73.heap.size, 0, none⟩) ((rd_T60 l0_2 t388).f2).size cp)).run Try.prog W2 = .ok (.string tf) W2 := by
      rw [HTF.out]
      exact HU2.out.conv 22 5 Try.underlying22 Try.underlying5 cp 9 Try.underlying9
     clear mixed hc hf hix hix4 hsz1 hsz2 hsz3 hsz0 HU2
     have hcz75 := blk_cell BK387.out
     have hcz75_1 : W2.cell? ⟨gb387, 1, none⟩ = some (.bool t383) := (blk_cell BK387.out 1).trans rfl
     have hcz75_2 : W2.cell? ⟨gb387, 2, none⟩ = some (.slice Ao70 t384.length co70) := (blk_cell BK387.out 2).trans rfl
     have hfz75 := blk_frozen BK387.out
     have hfz75_1 := blk_frozen BK387.out 1
     have hfz75_2 := blk_frozen BK387.out 2
     have p60 : 0 ≤ (t388 : Int) := DT
     have q60 : (t388 : Int) < ((t384.length : Int) : Int) := DT
     obtain ⟨go60, co60, eo60, gb60, gl60, cl60, HG60⟩ := Kd.R_form HO386.out (by omega)
     (first | cases eo60 | (injection eo60 with ea_ en_ ec_; (first | subst ea_ | (injection ea_ with ea_; subst ea_)); subst ec_; clear en_))
     have GB60 := AM gb60
     have GG60 := AM HG60
     clear gb60 gl60 HG60
     obtain ⟨ce60, hcl60, hM60, hcc60, hfr60⟩ := Kd.R_elem HO386.out z60 (t388 : Int) p60 q60
     obtain rfl := k60_openM hM60
     have hx60_0 : W2.cell? ⟨go60, (t388 : Int).toNat * 4, none⟩ = some (.int .i64 ((rd_T60 t384 t388).f0)) := hcc60 0 _ rfl
     have hx60_1 : W2.cell? ⟨go60, (t388 : Int).toNat * 4 + 1, none⟩ = some (.int .i64 ((rd_T60 t384 t388).f1)) := hcc60 1 _ rfl
     have hx60_2 : W2.cell? ⟨go60, (t388 : Int).toNat * 4 + 2, none⟩ = some (.string ((rd_T60 t384 t388).f2)) := hcc60 2 _ rfl
     have hx60_3 : W2.cell? ⟨go60, (t388 : Int).toNat * 4 + 3, none⟩ = some (.int .i64 ((rd_T60 t384 t388).f3)) := hcc60 3 _ rfl
     have hf60_0 : W2.frozen? ⟨go60, (t388 : Int).toNat * 4, none⟩ = false := hfr60 0
     have hf60_1 : W2.frozen? ⟨go60, (t388 : Int).toNat * 4 + 1, none⟩ = false := hfr60 1
     have hf60_2 : W2.frozen? ⟨go60, (t388 : Int).toNat * 4 + 2, none⟩ = false := hfr60 2
     have hf60_3 : W2.frozen? ⟨go60, (t388 : Int).toNat * 4 + 3, none⟩ = false := hfr60 3
     clear hcl60 hcc60 hfr60 hM60
     replace p60 := eq_true p60
     replace q60 := eq_true q60
     have HX76 := AM (show Kd.R k60 60 W2 w.heap.size (fun _ => True) (.slice (some ⟨go60, 0, none⟩) t384.length co70) t384 from (RR HO386.out))
     obtain ⟨ce76, hcl76, hM76, hcc76, hfr76⟩ := Kd.R_elem HX76.out z60 (t388 : Int) DT (by have h_ : (t388 : Int) < ((t384.length : Int) : Int) := DT; first | exact h_ | (have e_ := (Kd.R_reads' HO386.out).1; omega) | simpa using h_)
     obtain rfl := k60_openM hM76
     have HP76 := Kd.R_seg HX76.out (t388 : Int) DT (by have h_ : (t388 : Int) < ((t384.length : Int) : Int) := DT; first | exact h_ | (have e_ := (Kd.R_reads' HO386.out).1; omega) | simpa using h_) (seg := [.string tf]) (j := 2) hcl76 hcc76 (show 3 ≤ 4 from by decide) (x' := (⟨(rd_T60 t384 t388).f0, (rd_T60 t384 t388).f1, tf, (rd_T60 t384 t388).f3⟩ : S60)) (k60_mkM _ _ _ (⟨(rd_T60 t384 t388).f0, (rd_T60 t384 t388).f1, tf, (rd_T60 t384 t388).f3⟩ : S60) ) (fun _ hk => hk)
     have hx76_2 := hcc76 2 _ rfl
     (try simp only [show (k60).sz = 4 from rfl, Nat.mul_one, Nat.add_zero] at hx76_2)
     have hf76_2 := hfr76 2
     (try simp only [show (k60).sz = 4 from rfl, Nat.mul_one, Nat.add_zero] at hf76_2)
     clear hcl76 hcc76 hfr76 hM76
     try go_wp2_with (first | ((with_reducible refine gate_store (t := 9) (p := 78) rfl ?_); refine store_event (t := 9) (p := 78) (v := ?vo_w77) (w1 := (W2.setCell ⟨go60, (t388 : Int).toNat * 4 + 2, none⟩ (.string tf))) ?hg ?ho ?hn ?hr ?_; (case ho => rfl); (case hg => rfl); (case hn => rfl); (case hr => first | (go_simp; done) | (go_simp; rfl)); intro w77 hw; have hg : W2.grownBy w77 (some go60) := (by rw [hw]; exact HP76.2); have hp_ : Kd.R k60 60 w77 w.heap.size (fun _ => True) (.slice (some ⟨go60, 0, none⟩) t384.length co70) y394 := (by rw [hw, Ny394.out]; exact HP76.1); clear HP76; have n0_ := AM (blk_grown (g := gb380) (o := .cells #[.int .i64 a0_0, .bool a0_1, .slice (some ad389) l0_2.length c0_2] 35 (0, 0)) (BD BK380.out) hg (Kd.R_ne HO386.out BK380.out (by decide))); have n1_ := AM (blk_grown (g := gb381) (o := .cells #[.int .i64 0, .bool false, .slice none 0 0] 35 (0, 0)) (BD BK381.out) hg (Kd.R_ne HO386.out BK381.out (by decide))); have n2_ := AM (hp_); have n3_ := AM (blk_grown (g := gb387) (o := .cells #[.int .i64 t382, .bool t383, .slice (some ⟨go60, 0, none⟩) t384.length co70] 35 (0, 0)) (BD BK387.out) hg (Kd.R_ne HO386.out BK387.out (by decide))); have n4_ := AM ((by rw [hw]; exact below_set (HB.out) GB60.out : Below w.heap.size w w77)); clear BK380; clear BK381; clear HO386; clear BK387; clear HB; have BK380 := n0_; have BK381 := n1_; have HO386 := n2_; have BK387 := n3_; have HB := n4_; clear n0_ n1_ n2_ n3_ n4_; clear hg hw hp_; have hcz78 := blk_cell BK387.out; have hfz78 := blk_frozen BK387.out; have hcz79 := blk_cell BK381.out; have hfz79 := blk_frozen BK381.out))
     refine bodyPost_ret (results_ct rfl _ _ gb381 35 #[.int .i64 t382, .bool t383, .slice (some ⟨go60, 0, none⟩) t384.length co70] (0, 0) _ rfl (by refine BD ?_; refine blk_put (cs := #[.int .i64 t382, .bool t383, .slice none 0 0]) ?_ 2 _ rfl; refine BD ?_; refine blk_put (cs := #[.int .i64 t382, .bool false, .slice none 0 0]) ?_ 1 _ rfl; refine BD ?_; refine blk_put (cs := #[.int .i64 0, .bool false, .slice none 0 0]) ?_ 0 _ rfl; refine BD ?_; exact BK381.out) Try.underlying35 rfl (by kernel_rfl)) rfl ?_
     exact ⟨_, ER, by (with_reducible repeat (first | apply Kd.R_alloc | apply Kd.R_drewN | apply Kd.R_drew)); exact Kd.R_mono (Kd.R_far (p := ⟨gb381, 2, none⟩) (Kd.R_far (p := ⟨gb381, 1, none⟩) (Kd.R_far (p := ⟨gb381, 0, none⟩) (Kd.R_types HO386.out BK381.out (by decide)) (fun _ hk => hk.2) (.int .i64 t382)) (fun _ hk => hk.2) (.bool t383)) (fun _ hk => hk.2) (.slice (some ⟨go60, 0, none⟩) t384.length co70)) (fun _ hk => trivial), (BB3 HB.out GE380.out GE381.out GE387.out)⟩
    ·rw [if_neg c58] at H
     have c58b0 : (((rd_T60 l0_2 t388).f3) == t392) = false := beq_eq_false_iff_ne.mpr c58
     have c58b1 : (((rd_T60 l0_2 t388).f3) != t392) = true := bne_iff_ne.mpr c58
     simp only [Option.some.injEq, Prod.mk.injEq] at H
     obtain ⟨rfl, rfl, rfl, rfl⟩ := H
     go_enter Try.func53, Try.ntmps53
     try go_wp2_with (first | ((with_reducible refine gate_dst (N := 4) rfl ?_); refine BX 4 #[.int .i64 a0_0, .bool a0_1, .slice A0_2 l0_2.length c0_2] 35 ?_; intro gb380 hg w80 hbox hb; have BK380 := AM (hbox); have GW380 : Aside0 (w.heap.size ≤ gb380) := WG hg (BB HB.out); have GE380 := GW380; replace HB := AM (below_step (BB HB.out) hb); clear hb hbox hg) | ((with_reducible refine gate_dst (N := 8) rfl ?_); refine BX 8 #[.int .i64 0, .bool false, .slice none 0 0] 35 ?_; intro gb381 hg w81 hbox hb; have BK381 := AM (hbox); have GW381 : Aside0 (w.heap.size ≤ gb381) := WG hg (BB1 HB.out GE380.out); have GE381 := GW381; have NB380_381 := NL BK380.out hg; have NB381_380 := NG BK380.out hg; replace BK380 := AM (KB BK380.out hb); replace HB := AM (below_step (BB1 HB.out GE380.out) hb); clear hb hbox hg; have hnb82 := NB380_381.out; have hnc82 := NB381_380.out; have hcz83 := blk_cell BK380.out; have hfz83 := blk_frozen BK380.out) | ((with_reducible refine gate_callee (f := 79) rfl ?_); refine GL (some 14) rfl rfl Try.func79 #[.agg #[.int .i64 a0_0, .bool a0_1, .slice A0_2 l0_2.length c0_2]] rfl ?_; (with_reducible refine (spec_l14Copy.calls a0_0 a0_1 _ _ l0_2 t382 t383 t384 _ ?side1 ?side2 A5.out).mono ?_); (case side1 => exact CC (Kd.C_below HR0_2.out HB.out)); (case side2 => exact HC0_2.out); rintro e w84 ⟨v385, rfl, ho0, hb⟩; refine ⟨_, rfl, ?_⟩; have HO386 := AM (Kd.R_lower ho0 (below_size (BB2 HB.out GE380.out GE381.out))); replace BK380 := AM (KB BK380.out hb); replace BK381 := AM (KB BK381.out hb); replace HB := AM (below_step (BB2 HB.out GE380.out GE381.out) hb); (try clear hb); (try clear ho0)) | ((with_reducible refine gate_dst (N := 10) rfl ?_); refine BX 10 #[.int .i64 0, .bool false, .slice none 0 0] 35 ?_; intro gb387 hg w85 hbox hb; have BK387 := AM (hbox); have GW387 : Aside0 (w.heap.size ≤ gb387) := WG hg (BB2 HB.out GE380.out GE381.out); have GE387 := GW387; have NB380_387 := NL BK380.out hg; have NB387_380 := NG BK380.out hg; have NB381_387 := NL BK381.out hg; have NB387_381 := NG BK381.out hg; replace HO386 := AM (Kd.R_below (RR HO386.out) hb); replace BK380 := AM (KB BK380.out hb); replace BK381 := AM (KB BK381.out hb); replace HB := AM (below_step (BB2 HB.out GE380.out GE381.out) hb); clear hb hbox hg; have hnb86 := NB387_380.out; have hnc86 := NB380_387.out; have hnb87 := NB387_381.out; have hnc87 := NB381_387.out; have hcz88 := blk_cell BK387.out; have hfz88 := blk_frozen BK387.out; obtain ⟨Ao89, co89, eo89⟩ := Kd.R_slice HO386.out; subst eo89; have hcz90 := blk_cell BK380.out; have hfz90 := blk_frozen BK380.out) | ((with_reducible refine gate_callee (f := 28) rfl ?_); refine GL (some 18) rfl rfl Try.func28 #[.agg #[.int .i64 a0_0, .bool a0_1, .slice A0_2 l0_2.length c0_2], .int .i64 a1, .int .i64 a2] rfl ?_; (with_reducible refine (spec_l14At.calls k a0_0 a0_1 _ _ l0_2 a1 a2 t388 _ ?side1 ?side2 A6.out).mono ?_); (case side1 => exact Kd.C_below HR0_2.out (BB3 HB.out GE380.out GE381.out GE387.out)); (case side2 => exact HC0_2.out); rintro e w91 ⟨rfl, hb⟩; refine ⟨_, rfl, ?_⟩; have n0_ := AM (Kd.R_below (by (with_reducible repeat (first | apply Kd.R_alloc | apply Kd.R_drewN | apply Kd.R_drew)); exact (Kd.R_mono (Kd.R_far (p := ⟨gb387, 2, none⟩) (Kd.R_far (p := ⟨gb387, 1, none⟩) (Kd.R_far (p := ⟨gb387, 0, none⟩) (Kd.R_types HO386.out BK387.out (by decide)) (fun _ hk => hk.2) (.int .i64 t382)) (fun _ hk => hk.2) (.bool t383)) (fun _ hk => hk.2) (.slice Ao89 t384.length co89)) (fun _ h_ => h_.1))) hb); have n1_ := AM (blk_below (g := gb380) (o := .cells #[.int .i64 a0_0, .bool a0_1, .slice A0_2 l0_2.length c0_2] 35 (0, 0)) (by refine BD ?_; refine blk_far ?_ NB380_387.out _; refine BD ?_; refine blk_far ?_ NB380_387.out _; refine BD ?_; refine blk_far ?_ NB380_387.out _; refine BD ?_; exact BK380.out) hb); have n2_ := AM (blk_below (g := gb381) (o := .cells #[.int .i64 0, .bool false, .slice none 0 0] 35 (0, 0)) (by refine BD ?_; refine blk_far ?_ NB381_387.out _; refine BD ?_; refine blk_far ?_ NB381_387.out _; refine BD ?_; refine blk_far ?_ NB381_387.out _; refine BD ?_; exact BK381.out) hb); have n3_ := AM (blk_below (g := gb387) (o := .cells #[.int .i64 t382, .bool t383, .slice Ao89 t384.length co89] 35 (0, 0)) (by refine BD ?_; refine blk_put (cs := #[.int .i64 t382, .bool t383, .slice none 0 0]) ?_ 2 _ rfl; refine BD ?_; refine blk_put (cs := #[.int .i64 t382, .bool false, .slice none 0 0]) ?_ 1 _ rfl; refine BD ?_; refine blk_put (cs := #[.int .i64 0, .bool false, .slice none 0 0]) ?_ 0 _ rfl; refine BD ?_; exact BK387.out) hb); have n4_ := AM (below_step (BB3 HB.out GE380.out GE381.out GE387.out) hb); clear HO386; clear BK380; clear BK381; clear BK387; clear HB; have HO386 := n0_; have BK380 := n1_; have BK381 := n2_; have BK387 := n3_; have HB := n4_; clear n0_ n1_ n2_ n3_ n4_; (try clear hb)))
     replace HO386 := AM (Kd.R_drew HO386.out); replace BK380 := AM (blk_drew BK380.out); replace BK381 := AM (blk_drew BK381.out); replace BK387 := AM (blk_drew BK387.out); replace HB := AM (below_drew1 HB.out)
     have p389 : 0 ≤ (t388 : Int) := DT
     have q389 : t388 < (l0_2.length : Int) := DT
     obtain ⟨ad389, e389, hx389_0, hx389_1, hx389_2, hx389_3⟩ := at_T60 HR0_2.out t388 p389 q389
     have hw389_3 := hx389_3
     have hw389_2 := hx389_2
     have hw389_1 := hx389_1
     have hw389_0 := hx389_0
     cases e389
     replace hx389_0 := CX HB.out hx389_0
     replace hx389_1 := CX HB.out hx389_1
     replace hx389_2 := CX HB.out hx389_2
     replace hx389_3 := CX HB.out hx389_3
     replace p389 := eq_true p389
     replace q389 := eq_true q389
     have p390 : 0 ≤ (t388 : Int) := DT
     have q390 : t388 < (l0_2.length : Int) := DT
     obtain ⟨ad390, e390, hx390_0, hx390_1, hx390_2, hx390_3⟩ := at_T60 HR0_2.out t388 p390 q390
     have hw390_3 := hx390_3
     have hw390_2 := hx390_2
     have hw390_1 := hx390_1
     have hw390_0 := hx390_0
     obtain rfl : ad389 = ad390 := (by injection e390)
     replace hx390_0 := CX HB.out hx390_0
     replace hx390_1 := CX HB.out hx390_1
     replace hx390_2 := CX HB.out hx390_2
     replace hx390_3 := CX HB.out hx390_3
     replace p390 := eq_true p390
     replace q390 := eq_true q390
     have p391 : 0 ≤ (t388 : Int) := DT
     have q391 : t388 < (l0_2.length : Int) := DT
     obtain ⟨ad391, e391, hx391_0, hx391_1, hx391_2, hx391_3⟩ := at_T60 HR0_2.out t388 p391 q391
     have hw391_3 := hx391_3
     have hw391_2 := hx391_2
     have hw391_1 := hx391_1
     have hw391_0 := hx391_0
     obtain rfl : ad389 = ad391 := (by injection e391)
     replace hx391_0 := CX HB.out hx391_0
     replace hx391_1 := CX HB.out hx391_1
     replace hx391_2 := CX HB.out hx391_2
     replace hx391_3 := CX HB.out hx391_3
     replace p391 := eq_true p391
     replace q391 := eq_true q391
     refine start_ (n := 31) (S := fun w' => w'.cell? ⟨gb380, 0, none⟩ = some (.int .i64 a0_0) ∧ w'.cell? ⟨gb380, 1, none⟩ = some (.bool a0_1) ∧ w'.cell? ⟨gb380, 2, none⟩ = some (.slice (some ad389) l0_2.length c0_2) ∧ w'.cell? (ad389.add ((t388).toNat * 4)) = some (.int .i64 ((rd_T60 l0_2 t388).f0)) ∧ w'.cell? ⟨(ad389.add ((t388).toNat * 4)).block, (ad389.add ((t388).toNat * 4)).off + 1, none⟩ = some (.int .i64 ((rd_T60 l0_2 t388).f1)) ∧ w'.cell? ⟨(ad389.add ((t388).toNat * 4)).block, (ad389.add ((t388).toNat * 4)).off + 2, none⟩ = some (.string ((rd_T60 l0_2 t388).f2)) ∧ w'.cell? ⟨(ad389.add ((t388).toNat * 4)).block, (ad389.add ((t388).toNat * 4)).off + 3, none⟩ = some (.int .i64 ((rd_T60 l0_2 t388).f3)) ∧ w'.cell? (ad389.add ((t388).toNat * 4)) = some (.int .i64 ((rd_T60 l0_2 t388).f0)) ∧ w'.cell? ⟨(ad389.add ((t388).toNat * 4)).block, (ad389.add ((t388).toNat * 4)).off + 1, none⟩ = some (.int .i64 ((rd_T60 l0_2 t388).f1)) ∧ w'.cell? ⟨(ad389.add ((t388).toNat * 4)).block, (ad389.add ((t388).toNat * 4)).off + 2, none⟩ = some (.string ((rd_T60 l0_2 t388).f2)) ∧ w'.cell? ⟨(ad389.add ((t388).toNat * 4)).block, (ad389.add ((t388).toNat * 4)).off + 3, none⟩ = some (.int .i64 ((rd_T60 l0_2 t388).f3)) ∧ w'.cell? (ad389.add ((t388).toNat * 4)) = some (.int .i64 ((rd_T60 l0_2 t388).f0)) ∧ w'.cell? ⟨(ad389.add ((t388).toNat * 4)).block, (ad389.add ((t388).toNat * 4)).off + 1, none⟩ = some (.int .i64 ((rd_T60 l0_2 t388).f1)) ∧ w'.cell? ⟨(ad389.add ((t388).toNat * 4)).block, (ad389.add ((t388).toNat * 4)).off + 2, none⟩ = some (.string ((rd_T60 l0_2 t388).f2)) ∧ w'.cell? ⟨(ad389.add ((t388).toNat * 4)).block, (ad389.add ((t388).toNat * 4)).off + 3, none⟩ = some (.int .i64 ((rd_T60 l0_2 t388).f3))) (ds := []) (.replicate 31 false) (by kernel_rfl) rfl rfl ⟨(blk_cell BK380.out 0).trans rfl, (blk_cell BK380.out 1).trans rfl, (blk_cell BK380.out 2).trans rfl, (CX HB.out hw389_0), (CX HB.out hw389_1), (CX HB.out hw389_2), (CX HB.out hw389_3), (CX HB.out hw390_0), (CX HB.out hw390_1), (CX HB.out hw390_2), (CX HB.out hw390_3), (CX HB.out hw391_0), (CX HB.out hw391_1), (CX HB.out hw391_2), (CX HB.out hw391_3)⟩ (fun hHeld => ?_); refine with_tabW spec_Spoil.tab3 spec_Spoil.bits3 (fun HT_ HW_ => ?_)
     generalize w91.drew = w92 at HO386 BK380 BK381 BK387 HB hx389_0 hx389_1 hx389_2 hx389_3 hx390_0 hx390_1 hx390_2 hx390_3 hx391_0 hx391_1 hx391_2 hx391_3 hHeld ⊢
     refine PH 0 19 HT_.out ?_
     refine PH 1 20 HT_.out ?_
     refine PH 2 21 HT_.out ?_
     refine PH 3 22 HT_.out ?_
     refine PH 4 23 HT_.out ?_
     refine PH 5 24 HT_.out ?_
     refine PH 6 25 HT_.out ?_
     refine PH 7 26 HT_.out ?_
     refine PH 9 28 HT_.out ?_
     refine TH 8 27 HT_.out HW_.out hHeld ?_
     refine PH 10 29 HT_.out ?_
     refine PH 11 30 HT_.out ?_
     refine TH 12 31 HT_.out HW_.out hHeld ?_
     refine PH 13 32 HT_.out ?_
     refine PH 14 33 HT_.out ?_
     refine PH 15 34 HT_.out ?_
     refine PH 16 35 HT_.out ?_
     refine PH 18 37 HT_.out ?_
     refine PH 22 41 HT_.out ?_
     refine PH 24 43 HT_.out ?_
     refine TH 17 36 HT_.out HW_.out hHeld ?_
     refine PH 19 38 HT_.out ?_
     refine PH 20 39 HT_.out ?_
     refine TH 21 40 HT_.out HW_.out hHeld ?_
     refine TH 23 42 HT_.out HW_.out hHeld ?_
     refine PH 25 44 HT_.out ?_
     refine PH 26 45 HT_.out ?_
     refine TH 27 46 HT_.out HW_.out hHeld ?_
     refine OH 28 (some 47) HT_.out (fun K hK => ?_)
     refine GO Try.func29 #[.string ((rd_T60 l0_2 t388).f2)] ?_
     with_reducible refine (spec_SumText.calls k ((rd_T60 l0_2 t388).f2) t392 _ A57.out).mono ?_
     rintro e w' ⟨rfl, ⟨nd, rfl⟩⟩
     refine ⟨_, rfl, ?_⟩
     refine hK.out _ _ ⟨(blk_cell BK380.out 0).trans rfl, (blk_cell BK380.out 1).trans rfl, (blk_cell BK380.out 2).trans rfl, (CX HB.out hw389_0), (CX HB.out hw389_1), (CX HB.out hw389_2), (CX HB.out hw389_3), (CX HB.out hw390_0), (CX HB.out hw390_1), (CX HB.out hw390_2), (CX HB.out hw390_3), (CX HB.out hw391_0), (CX HB.out hw391_1), (CX HB.out hw391_2), (CX HB.out hw391_3)⟩ (fun hHeld => ?_)
     clear hK K
     refine NM 47 ?_
     refine PH 29 48 HT_.out ?_
     refine PH 30 49 HT_.out ?_
     refine done_ (done_of HT_.out (by kernel_rfl)) ?_
     have hcz93 := blk_cell BK387.out
     have hcz93_1 : w92.cell? ⟨gb387, 1, none⟩ = some (.bool t383) := (blk_cell BK387.out 1).trans rfl
     have hcz93_2 : w92.cell? ⟨gb387, 2, none⟩ = some (.slice Ao89 t384.length co89) := (blk_cell BK387.out 2).trans rfl
     have hfz93 := blk_frozen BK387.out
     have hfz93_1 := blk_frozen BK387.out 1
     have hfz93_2 := blk_frozen BK387.out 2
     have hcz94 := blk_cell BK381.out
     have hcz94_1 : w92.cell? ⟨gb381, 1, none⟩ = some (.bool false) := (blk_cell BK381.out 1).trans rfl
     have hcz94_2 : w92.cell? ⟨gb381, 2, none⟩ = some (.slice none 0 0) := (blk_cell BK381.out 2).trans rfl
     have hfz94 := blk_frozen BK381.out
     have hfz94_1 := blk_frozen BK381.out 1
     have hfz94_2 := blk_frozen BK381.out 2
     try go_wp2
     refine bodyPost_ret (results_ct rfl _ _ gb381 35 #[.int .i64 t382, .bool t383, .slice Ao89 t384.length co89] (0, 0) _ rfl (by refine BD ?_; refine blk_put (cs := #[.int .i64 t382, .bool t383, .slice none 0 0]) ?_ 2 _ rfl; refine BD ?_; refine blk_put (cs := #[.int .i64 t382, .bool false, .slice none 0 0]) ?_ 1 _ rfl; refine BD ?_; refine blk_put (cs := #[.int .i64 0, .bool false, .slice none 0 0]) ?_ 0 _ rfl; refine BD ?_; exact BK381.out) Try.underlying35 rfl (by kernel_rfl)) rfl ?_
     exact ⟨_, ER, by (with_reducible repeat (first | apply Kd.R_alloc | apply Kd.R_drewN | apply Kd.R_drew)); exact Kd.R_mono (Kd.R_far (p := ⟨gb381, 2, none⟩) (Kd.R_far (p := ⟨gb381, 1, none⟩) (Kd.R_far (p := ⟨gb381, 0, none⟩) (Kd.R_types HO386.out BK381.out (by decide)) (fun _ hk => hk.2) (.int .i64 t382)) (fun _ hk => hk.2) (.bool t383)) (fun _ hk => hk.2) (.slice Ao89 t384.length co89)) (fun _ hk => trivial), (BB3 HB.out GE380.out GE381.out GE387.out)⟩

end Go.Proofs.Ytaejgompckpmfaa.Pr
namespace Go.Proofs.Ytaejgompckpmfaa.Pr
open Go.RowKit Go.Proofs.YtaejgompckpmfaaW.PrintWords Go.Proofs.YtaejgompckpmfaaW.PrintLast Go.Proofs.YtaejgompckpmfaaW.PrintMore
attribute [local go_sem] max2_int min2_int max_two min_two max_three min_three max_four min_four
def spec_l01Below.f (s0_0 : List Int) (s0_1 : Int) (s0_2 : Int) (a1 : Int) : Option (Int × Int × Int) := if a1 ≤ 0 then (some (0, s0_1, s0_2)) else (if a1 ≤ 256 then ((spec_l01Byte.f s0_0 s0_1 s0_2).bind fun bt102 => (if a1 = 0 then (none) else (some (Int.tmod bt102.1 a1, bt102.2.1, bt102.2.2)))) else ((spec_l01Byte.f s0_0 s0_1 s0_2).bind fun bt105 => ((spec_l01Byte.f s0_0 bt105.2.1 bt105.2.2).bind fun bt108 => ((spec_l01Byte.f s0_0 bt108.2.1 bt108.2.2).bind fun bt111 => ((spec_l01Byte.f s0_0 bt111.2.1 bt111.2.2).bind fun bt114 => (if a1 = 0 then (none) else (some (Int.tmod (wrap64 ((wrap64 ((wrap64 ((wrap64 (bt105.1 * 16777216)) + (wrap64 (bt108.1 * 65536)))) + (wrap64 (bt111.1 * 256)))) + bt114.1)) a1, bt114.2.1, bt114.2.2))))))))
set_option maxHeartbeats 8000000 in
set_option maxRecDepth 100000 in
theorem spec_l01Below.calls (g : Nat) (s0_0 : List Int) (s0_1 : Int) (s0_2 : Int) (a1 : Int) (r1 : Int) (r2 : Int) (r3 : Int) (w0 w : World) (hI : IsS81 w0 w g s0_0 s0_1 s0_2) (hB : Below w0.heap.size w0 w) (h : spec_l01Below.f s0_0 s0_1 s0_2 a1 = some (r1, r2, r3)) :
  Calls Try.prog 32 #[.pointer (some ⟨g, 0, none⟩), .int .i64 a1] w fun e w' => e = .returned (.int .i64 r1) ∧ IsS81 w0 w' g s0_0 r2 r3 ∧ Below w0.heap.size w0 w' ∧ KeepBut w w' g none := by
 have HI0 := AM hI
 have HK := AM (KeepBut.refl w g none)
 have HL := AM hB.size
 clear hI
 have HW0 := AM hB.size
 have HB := AM hB
 clear hB
 have H : (if a1 ≤ 0 then (some (0, s0_1, s0_2)) else (if a1 ≤ 256 then ((spec_l01Byte.f s0_0 s0_1 s0_2).bind fun bt102 => (if a1 = 0 then (none) else (some (Int.tmod bt102.1 a1, bt102.2.1, bt102.2.2)))) else ((spec_l01Byte.f s0_0 s0_1 s0_2).bind fun bt105 => ((spec_l01Byte.f s0_0 bt105.2.1 bt105.2.2).bind fun bt108 => ((spec_l01Byte.f s0_0 bt108.2.1 bt108.2.2).bind fun bt111 => ((spec_l01Byte.f s0_0 bt111.2.1 bt111.2.2).bind fun bt114 => (if a1 = 0 then (none) else (some (Int.tmod (wrap64 ((wrap64 ((wrap64 ((wrap64 (bt105.1 * 16777216)) + (wrap64 (bt108.1 * 65536)))) + (wrap64 (bt111.1 * 256)))) + bt114.1)) a1, bt114.2.1, bt114.2.2))))))))) = some (r1, r2, r3) := h
 clear h
 by_cases c3 : a1 ≤ 0
 ·rw [if_pos c3] at H
  have c3b0 := decide_eq_true c3
  clear c3
  simp only [Option.some.injEq, Prod.mk.injEq] at H
  obtain ⟨rfl, rfl, rfl⟩ := H
  go_enter Try.func32, Try.ntmps32
  go_wp2
  go_ret
  exact ⟨ER, (II81 HI0.out), (BB1 HB.out (IsS81.ge HI0.out)), (KK HK.out)⟩
 ·rw [if_neg c3] at H
  have c3b0 := decide_eq_false c3
  clear c3
  by_cases c4 : a1 ≤ 256
  ·rw [if_pos c4] at H
   have c4b0 := decide_eq_true c4
   clear c4
   replace H := Option.bind_eq_some_iff.mp H
   obtain ⟨⟨t102, t103, t104⟩, A50, H⟩ := H
   replace H : (if a1 = 0 then (none) else (some (Int.tmod t102 a1, t103, t104))) = some (r1, r2, r3) := H
   have A5 := AM A50
   clear A50
   by_cases c6 : a1 = 0
   ·rw [if_pos c6] at H
    exact absurd H (by simp)
   ·rw [if_neg c6] at H
    have c6b0 : (a1 == 0) = false := beq_eq_false_iff_ne.mpr c6
    have c6b1 : (a1 != 0) = true := bne_iff_ne.mpr c6
    simp only [Option.some.injEq, Prod.mk.injEq] at H
    obtain ⟨rfl, rfl, rfl⟩ := H
    go_enter Try.func32, Try.ntmps32
    go_wp2_with (first | ((with_reducible refine gate_callee (f := 31) rfl ?_); refine GL (some 14) rfl rfl Try.func31 #[.pointer (some ⟨g, 0, none⟩)] rfl ?_; (with_reducible refine (spec_l01Byte.calls g s0_0 s0_1 s0_2 t102 t103 t104 w0 _ ?side1 ?side2 A5.out).mono ?_); (case side1 => exact II81 HI0.out); (case side2 => exact BB1 HB.out (IsS81.ge HI0.out)); rintro e w7 ⟨rfl, hi, hb, hk⟩; refine ⟨_, rfl, ?_⟩; replace HK := AM (KeepBut.trans (KK HK.out) hk (.inl rfl)); replace HB := AM (hb); replace HI0 := AM (hi); (try clear hb); (try clear hk); (try clear hi)))
    go_ret
    exact ⟨ER, (II81 HI0.out), (BB1 HB.out (IsS81.ge HI0.out)), (KK HK.out)⟩
  ·rw [if_neg c4] at H
   have c4b0 := decide_eq_false c4
   clear c4
   replace H := Option.bind_eq_some_iff.mp H
   obtain ⟨⟨t105, t106, t107⟩, A80, H⟩ := H
   replace H : ((spec_l01Byte.f s0_0 t106 t107).bind fun bt108 => ((spec_l01Byte.f s0_0 bt108.2.1 bt108.2.2).bind fun bt111 => ((spec_l01Byte.f s0_0 bt111.2.1 bt111.2.2).bind fun bt114 => (if a1 = 0 then (none) else (some (Int.tmod (wrap64 ((wrap64 ((wrap64 ((wrap64 (t105 * 16777216)) + (wrap64 (bt108.1 * 65536)))) + (wrap64 (bt111.1 * 256)))) + bt114.1)) a1, bt114.2.1, bt114.2.2)))))) = some (r1, r2, r3) := H
   have A8 := AM A80
   clear A80
   replace H := Option.bind_eq_some_iff.mp H
   obtain ⟨⟨t108, t109, t110⟩, A90, H⟩ := H
   replace H : ((spec_l01Byte.f s0_0 t109 t110).bind fun bt111 => ((spec_l01Byte.f s0_0 bt111.2.1 bt111.2.2).bind fun bt114 => (if a1 = 0 then (none) else (some (Int.tmod (wrap64 ((wrap64 ((wrap64 ((wrap64 (t105 * 16777216)) + (wrap64 (t108 * 65536)))) + (wrap64 (bt111.1 * 256)))) + bt114.1)) a1, bt114.2.1, bt114.2.2))))) = some (r1, r2, r3) := H
   have A9 := AM A90
   clear A90
   replace H := Option.bind_eq_some_iff.mp H
   obtain ⟨⟨t111, t112, t113⟩, A100, H⟩ := H
   replace H : ((spec_l01Byte.f s0_0 t112 t113).bind fun bt114 => (if a1 = 0 then (none) else (some (Int.tmod (wrap64 ((wrap64 ((wrap64 ((wrap64 (t105 * 16777216)) + (wrap64 (t108 * 65536)))) + (wrap64 (t111 * 256)))) + bt114.1)) a1, bt114.2.1, bt114.2.2)))) = some (r1, r2, r3) := H
   have A10 := AM A100
   clear A100
   replace H := Option.bind_eq_some_iff.mp H
   obtain ⟨⟨t114, t115, t116⟩, A110, H⟩ := H
   replace H : (if a1 = 0 then (none) else (some (Int.tmod (wrap64 ((wrap64 ((wrap64 ((wrap64 (t105 * 16777216)) + (wrap64 (t108 * 65536)))) + (wrap64 (t111 * 256)))) + t114)) a1, t115, t116))) = some (r1, r2, r3) := H
   have A11 := AM A110
   clear A110
   by_cases c12 : a1 = 0
   ·rw [if_pos c12] at H
    exact absurd H (by simp)
   ·rw [if_neg c12] at H
    have c12b0 : (a1 == 0) = false := beq_eq_false_iff_ne.mpr c12
    have c12b1 : (a1 != 0) = true := bne_iff_ne.mpr c12
    simp only [Option.some.injEq, Prod.mk.injEq] at H
    obtain ⟨rfl, rfl, rfl⟩ := H
    go_enter Try.func32, Try.ntmps32
    go_wp2_with (first | ((with_reducible refine gate_callee (f := 31) rfl ?_); refine GL (some 18) rfl rfl Try.func31 #[.pointer (some ⟨g, 0, none⟩)] rfl ?_; (with_reducible refine (spec_l01Byte.calls g s0_0 s0_1 s0_2 t105 t106 t107 w0 _ ?side1 ?side2 A8.out).mono ?_); (case side1 => exact II81 HI0.out); (case side2 => exact BB1 HB.out (IsS81.ge HI0.out)); rintro e w13 ⟨rfl, hi, hb, hk⟩; refine ⟨_, rfl, ?_⟩; replace HK := AM (KeepBut.trans (KK HK.out) hk (.inl rfl)); replace HB := AM (hb); replace HI0 := AM (hi); (try clear hb); (try clear hk); (try clear hi)) | ((with_reducible refine gate_callee (f := 31) rfl ?_); refine GL (some 20) rfl rfl Try.func31 #[.pointer (some ⟨g, 0, none⟩)] rfl ?_; (with_reducible refine (spec_l01Byte.calls g s0_0 t106 t107 t108 t109 t110 w0 _ ?side1 ?side2 A9.out).mono ?_); (case side1 => exact II81 HI0.out); (case side2 => exact BB1 HB.out (IsS81.ge HI0.out)); rintro e w14 ⟨rfl, hi, hb, hk⟩; refine ⟨_, rfl, ?_⟩; replace HK := AM (KeepBut.trans (KK HK.out) hk (.inl rfl)); replace HB := AM (hb); replace HI0 := AM (hi); (try clear hb); (try clear hk); (try clear hi)) | ((with_reducible refine gate_callee (f := 31) rfl ?_); refine GL (some 22) rfl rfl Try.func31 #[.pointer (some ⟨g, 0, none⟩)] rfl ?_; (with_reducible refine (spec_l01Byte.calls g s0_0 t109 t110 t111 t112 t113 w0 _ ?side1 ?side2 A10.out).mono ?_); (case side1 => exact II81 HI0.out); (case side2 => exact BB1 HB.out (IsS81.ge HI0.out)); rintro e w15 ⟨rfl, hi, hb, hk⟩; refine ⟨_, rfl, ?_⟩; replace HK := AM (KeepBut.trans (KK HK.out) hk (.inl rfl)); replace HB := AM (hb); replace HI0 := AM (hi); (try clear hb); (try clear hk); (try clear hi)) | ((with_reducible refine gate_callee (f := 31) rfl ?_); refine GL (some 24) rfl rfl Try.func31 #[.pointer (some ⟨g, 0, none⟩)] rfl ?_; (with_reducible refine (spec_l01Byte.calls g s0_0 t112 t113 t114 t115 t116 w0 _ ?side1 ?side2 A11.out).mono ?_); (case side1 => exact II81 HI0.out); (case side2 => exact BB1 HB.out (IsS81.ge HI0.out)); rintro e w16 ⟨rfl, hi, hb, hk⟩; refine ⟨_, rfl, ?_⟩; replace HK := AM (KeepBut.trans (KK HK.out) hk (.inl rfl)); replace HB := AM (hb); replace HI0 := AM (hi); (try clear hb); (try clear hk); (try clear hi)))
    go_ret
    exact ⟨ER, (II81 HI0.out), (BB1 HB.out (IsS81.ge HI0.out)), (KK HK.out)⟩

def spec_l01Once.f (s0_0 : List Int) (s0_1 : Int) (s0_2 : Int) (a1 : Int) : Option (Bool × Int × Int) := (spec_l01Below.f s0_0 s0_1 s0_2 a1).bind fun bt117 => (some ((bt117.1 == 0), bt117.2.1, bt117.2.2))
set_option maxHeartbeats 8000000 in
set_option maxRecDepth 100000 in
theorem spec_l01Once.calls (g : Nat) (s0_0 : List Int) (s0_1 : Int) (s0_2 : Int) (a1 : Int) (r1 : Bool) (r2 : Int) (r3 : Int) (w0 w : World) (hI : IsS81 w0 w g s0_0 s0_1 s0_2) (hB : Below w0.heap.size w0 w) (h : spec_l01Once.f s0_0 s0_1 s0_2 a1 = some (r1, r2, r3)) :
  Calls Try.prog 49 #[.pointer (some ⟨g, 0, none⟩), .int .i64 a1] w fun e w' => e = .returned (.bool r1) ∧ IsS81 w0 w' g s0_0 r2 r3 ∧ Below w0.heap.size w0 w' ∧ KeepBut w w' g none := by
 have HI0 := AM hI
 have HK := AM (KeepBut.refl w g none)
 have HL := AM hB.size
 clear hI
 have HW0 := AM hB.size
 have HB := AM hB
 clear hB
 have H : ((spec_l01Below.f s0_0 s0_1 s0_2 a1).bind fun bt117 => (some ((bt117.1 == 0), bt117.2.1, bt117.2.2))) = some (r1, r2, r3) := h
 clear h
 replace H := Option.bind_eq_some_iff.mp H
 obtain ⟨⟨t117, t118, t119⟩, A30, H⟩ := H
 replace H : (some ((t117 == 0), t118, t119)) = some (r1, r2, r3) := H
 have A3 := AM A30
 clear A30
 simp only [Option.some.injEq, Prod.mk.injEq] at H
 obtain ⟨rfl, rfl, rfl⟩ := H
 go_enter Try.func49, Try.ntmps49
 go_wp2_with (first | ((with_reducible refine gate_callee (f := 32) rfl ?_); refine GL (some 7) rfl rfl Try.func32 #[.pointer (some ⟨g, 0, none⟩), .int .i64 a1] rfl ?_; (with_reducible refine (spec_l01Below.calls g s0_0 s0_1 s0_2 a1 t117 t118 t119 w0 _ ?side1 ?side2 A3.out).mono ?_); (case side1 => exact II81 HI0.out); (case side2 => exact BB1 HB.out (IsS81.ge HI0.out)); rintro e w4 ⟨rfl, hi, hb, hk⟩; refine ⟨_, rfl, ?_⟩; replace HK := AM (KeepBut.trans (KK HK.out) hk (.inl rfl)); replace HB := AM (hb); replace HI0 := AM (hi); (try clear hb); (try clear hk); (try clear hi)))
 go_ret
 exact ⟨ER, (II81 HI0.out), (BB1 HB.out (IsS81.ge HI0.out)), (KK HK.out)⟩

mutual
def spec_l01Text.j0 : Nat → Int → List Int → Int → Int → Option (ByteArray × Int × Int)
 | 0, _, _, _, _ => none
 | k + 1, x1, x1000, x1001, x1002 => spec_l01Text.l0 k x1 (([] : List Int)) 0 x1000 x1001 x1002
def spec_l01Text.l0 : Nat → Int → List Int → Int → List Int → Int → Int → Option (ByteArray × Int × Int)
 | 0, _, _, _, _, _, _ => none
 | k + 1, x1, x5, x6, x1000, x1001, x1002 => if x6 < x1 then ((spec_l01Byte.f x1000 x1001 x1002).bind fun bt123 => (if x5.length < 140737488355328 then (spec_l01Text.l0 k x1 (x5 ++ [(bt123.1) % 256]) (wrap64 (x6 + 1)) x1000 bt123.2.1 bt123.2.2) else (none))) else (some (strOfNums x5, x1001, x1002))
end
def spec_l01Text.f (k : Nat) (s0_0 : List Int) (s0_1 : Int) (s0_2 : Int) (a1 : Int) : Option (ByteArray × Int × Int) := if a1 > 5000 then (spec_l01Text.j0 k 5000 s0_0 s0_1 s0_2) else (spec_l01Text.j0 k a1 s0_0 s0_1 s0_2)
set_option maxHeartbeats 8000000 in
set_option maxRecDepth 100000 in
theorem spec_l01Text.calls (k : Nat) (g : Nat) (s0_0 : List Int) (s0_1 : Int) (s0_2 : Int) (a1 : Int) (r1 : ByteArray) (r2 : Int) (r3 : Int) (w0 w : World) (hI : IsS81 w0 w g s0_0 s0_1 s0_2) (hB : Below w0.heap.size w0 w) (h : spec_l01Text.f k s0_0 s0_1 s0_2 a1 = some (r1, r2, r3)) :
  Calls Try.prog 50 #[.pointer (some ⟨g, 0, none⟩), .int .i64 a1] w fun e w' => e = .returned (.string r1) ∧ IsS81 w0 w' g s0_0 r2 r3 ∧ Below w0.heap.size w0 w' ∧ KeepBut w w' g none := by
 have HI0 := AM hI
 have HK := AM (KeepBut.refl w g none)
 have HL := AM hB.size
 clear hI
 have HW0 := AM hB.size
 have HB := AM hB
 clear hB
 have H : (if a1 > 5000 then (spec_l01Text.j0 k 5000 s0_0 s0_1 s0_2) else (spec_l01Text.j0 k a1 s0_0 s0_1 s0_2)) = some (r1, r2, r3) := h
 clear h
 have HC3 := AM H
 clear H
 go_enter Try.func50, Try.ntmps50
 go_upto_if 8 with (fail)
 go_cut [1] (fun v1 wc => ∃ (kq : Nat) (x1_2 : Int), v1 = .int .i64 x1_2 ∧ Aside0 (spec_l01Text.j0 kq x1_2 s0_0 s0_1 s0_2 = some (r1, r2, r3)) ∧ Aside0 (kq ≤ k) ∧ Aside0 (IsS81 w0 wc g s0_0 s0_1 s0_2) ∧ Aside0 (KeepBut w wc g none) ∧ Aside0 (Below w0.heap.size w0 wc))
 case first =>
  have H := HC3.out
  clear HC3
  by_cases c4 : a1 > 5000
  ·rw [if_pos c4] at H
   have c4b0 := decide_eq_true c4
   clear c4
   (first | rw [c4b0] | (simp only [i64_w, i32_w]; rw [c4b0]) | skip)
   have H' := AM H
   clear H
   go_wp2
   go_meet
   case rel => exact ⟨_, (5000), FR, H', ⟨by first | omega | exact Nat.le_refl _⟩, ⟨(II81 HI0.out)⟩, ⟨(KK HK.out)⟩, ⟨(BB1 HB.out (IsS81.ge HI0.out))⟩⟩
  ·rw [if_neg c4] at H
   have c4b0 := decide_eq_false c4
   clear c4
   (first | rw [c4b0] | (simp only [i64_w, i32_w]; rw [c4b0]) | skip)
   have H' := AM H
   clear H
   go_wp2
   go_meet
   case rel => exact ⟨_, (a1), FR, H', ⟨by first | omega | exact Nat.le_refl _⟩, ⟨(II81 HI0.out)⟩, ⟨(KK HK.out)⟩, ⟨(BB1 HB.out (IsS81.ge HI0.out))⟩⟩
 case rest =>
  clear HC3
  try clear p2
  try clear c4
  try clear c4b0
  obtain ⟨kq, x1_2, rfl, HA, HJ2, HI0, HK, HB⟩ := hcut
  cases kq with
  | zero => exact absurd HA.out (by simp [spec_l01Text.j0])
  | succ kj2 =>
   have H := HA.out
   clear HA
   simp only [spec_l01Text.j0] at H
   obtain ⟨y120, hy120⟩ : ∃ y_ : List Int, y_ = (([] : List Int)) := ⟨_, rfl⟩
   replace H : (spec_l01Text.l0 kj2 x1_2 y120 0 s0_0 s0_1 s0_2) = some (r1, r2, r3) := by first | (rw [hy120]; first | with_reducible exact H | with_reducible exact OB H) | with_reducible exact OB H | with_reducible exact H | (rw [hy120]; exact H) | exact H
   have Ny120 := AM hy120
   clear hy120
   have H' := AM H
   clear H
   go_wp2_with (first | ((with_reducible refine gate_dst (N := 9) rfl ?_); refine Kd.R_lit (Kd.int .u8) _ 5 ?hg (N := 9) ?hd (xs := ([] : List Int)) (inner := []) (ok := fun _ => True) (okp := fun _ => True) ?hr ?hp (fun _ hk => hk) trivial (Below.refl _ _) (Nat.le_refl _) (by simp) ?_; (case hd => rfl); (case hg => rfl); (case hr => first | (go_simp; done) | (go_simp; rfl)); (case hp => exact (Reps.none _ _)); intro v121 w5 ho6 hb hg_ hnew_; clear hg_ hnew_; (first | rw [← Ny120.out] at ho6 | (simp only [Int.reduceToNat] at ho6; rw [← Ny120.out] at ho6)); have HO122 := AM (Kd.R_lower ho6 (keep_size (w := w) (g := g) (row := none) (KK HK.out))); replace HK := AM (KeepBut.trans (KK HK.out) (KeepBut.of_below hb g none) (.inl rfl)); replace HB := AM (below_step ((BB1 HB.out (IsS81.ge HI0.out))) hb); replace HI0 := AM (IsS81.below (II81 HI0.out) hb); clear hb ho6))
   go_loopg [5, 6] kj2 (fun kq v5 v6 w' => ∃ (x5_2 : List Int) (x6_2 : Int) (x1001_2 : Int) (x1002_2 : Int), v6 = .int .i64 x6_2 ∧ Aside0 (spec_l01Text.l0 kq x1_2 x5_2 x6_2 s0_0 x1001_2 x1002_2 = some (r1, r2, r3)) ∧ Aside0 (kq ≤ kj2) ∧ Aside0 (Kd.R (Kd.int .u8) 5 w' w.heap.size (fun _ => True) v5 x5_2) ∧ Aside0 (IsS81 w0 w' g s0_0 x1001_2 x1002_2) ∧ Aside0 (KeepBut w w' g none) ∧ Aside0 (Below w0.heap.size w0 w'))
   case atStart => exact ⟨(y120), (0), (s0_1), (s0_2), FR, H', ⟨Nat.le_refl _⟩, ⟨(RR HO122.out)⟩, ⟨(II81 HI0.out)⟩, ⟨(KK HK.out)⟩, ⟨(BB1 HB.out (IsS81.ge HI0.out))⟩⟩
   case round =>
    clear H'
    try clear p2
    try clear c4
    try clear c4b0
    try clear c5
    try clear p2
    obtain ⟨x5_2, x6_2, x1001_2, x1002_2, rfl, HA, HK2, HO_5, HI0, HK, HB⟩ := hrel
    cases gk with
    | zero => exact absurd HA.out (by simp [spec_l01Text.l0])
    | succ k2 =>
     have H := HA.out
     clear HA
     simp only [spec_l01Text.l0] at H
     by_cases c7 : x6_2 < x1_2
     ·rw [if_pos c7] at H
      have c7b0 := decide_eq_true c7
      clear c7
      replace H := Option.bind_eq_some_iff.mp H
      obtain ⟨⟨t123, t124, t125⟩, A80, H⟩ := H
      replace H : (if x5_2.length < 140737488355328 then (spec_l01Text.l0 k2 x1_2 (x5_2 ++ [(t123) % 256]) (wrap64 (x6_2 + 1)) s0_0 t124 t125) else (none)) = some (r1, r2, r3) := H
      have A8 := AM A80
      clear A80
      by_cases c9 : x5_2.length < 140737488355328
      rotate_left
      ·rw [if_neg c9] at H; exact absurd H (by simp)
      rw [if_pos c9] at H
      have LMc9 := AM c9
      clear c9
      obtain ⟨y126, hy126⟩ : ∃ y_ : List Int, y_ = (x5_2 ++ [(t123) % 256]) := ⟨_, rfl⟩
      replace H : (spec_l01Text.l0 k2 x1_2 y126 (wrap64 (x6_2 + 1)) s0_0 t124 t125) = some (r1, r2, r3) := by first | (rw [hy126]; first | with_reducible exact H | with_reducible exact OB H) | with_reducible exact OB H | with_reducible exact H | (rw [hy126]; exact H) | exact H
      have Ny126 := AM hy126
      clear hy126
      have H' := AM H
      clear H
      go_wp2_with (first | ((with_reducible refine gate_callee (f := 31) rfl ?_); refine GL (some 17) rfl rfl Try.func31 #[.pointer (some ⟨g, 0, none⟩)] rfl ?_; (with_reducible refine (spec_l01Byte.calls g s0_0 x1001_2 x1002_2 t123 t124 t125 w0 _ ?side1 ?side2 A8.out).mono ?_); (case side1 => exact II81 HI0.out); (case side2 => exact BB1 HB.out (IsS81.ge HI0.out)); rintro e w10 ⟨rfl, hi, hb, hk⟩; refine ⟨_, rfl, ?_⟩; replace HO_5 := AM (Kd.R_mono (Kd.R_keep (IsS81.apart (show IsS81 w0 _ g s0_0 x1001_2 x1002_2 from (II81 HI0.out)) (RR HO_5.out) (by decide)) hk (fun _ h => h.2)) (fun _ h => h.1)); replace HK := AM (KeepBut.trans (KK HK.out) hk (.inl rfl)); replace HB := AM (hb); replace HI0 := AM (hi); (try clear hb); (try clear hk); (try clear hi)) | ((with_reducible refine gate_builtin (b := .append) (xs := #[.tmp 15, .tmp 19]) rfl ?_); at_builtin; refine Kd.R_append (Kd.int .u8) w.heap.size rfl (.tmp 15) (.tmp 19) 22 5 (.int .u8 0) 1 rfl Try.underlying22 info5 rfl (by decide) (by omega) u5 x5_2 ((t123) % 256) [.int .u8 ((t123) % 256)] (fun _ => True) (fun _ => False) rfl rfl ?aP (fun _ hk => hk.elim) ?aF ?aO (Below.refl _ _) ?aS ?aL ?_; (case aP => exact rfl); (case aF => exact (fun _ _ => trivial)); (case aO => exact (RR HO_5.out)); (case aS => exact (keep_size (w := w) (g := g) (row := none) (KK HK.out))); (case aL => have := LMc9.out; omega); intro v127 w11 ho hb hg hat; rw [← Ny126.out] at ho; have HO128 := AM (ho); replace HB := AM (below_weaken ((BB1 HB.out (IsS81.ge HI0.out))) HL.out hb); replace HI0 := AM (IsS81.grown (II81 HI0.out) hg (IsS81.own_ne HI0.out HO_5.out (by decide))); replace HK := AM (KeepBut.trans (KK HK.out) (KeepBut.of_grown hg g) (Kd.R_base2 HO_5.out)); clear HO_5; clear ho hb hg hat))
      go_roundg k2
      case measure => have := HJ2.out; have := HK2.out; omega
      case rel => exact ⟨(y126), (wrap64 (x6_2 + 1)), (t124), (t125), FR, H', ⟨by have := HJ2.out; have := HK2.out; omega⟩, ⟨(RR HO128.out)⟩, ⟨(II81 HI0.out)⟩, ⟨(KK HK.out)⟩, ⟨(BB1 HB.out (IsS81.ge HI0.out))⟩⟩
     ·rw [if_neg c7] at H
      have c7b0 := decide_eq_false c7
      clear c7
      simp only [Option.some.injEq, Prod.mk.injEq] at H
      obtain ⟨rfl, rfl, rfl⟩ := H
      have hcv12 := own_string (P := Try.prog) Try.underlying22 Try.underlying5 Try.underlying9 (Kd.own_of_R HO_5.out)
      go_wp2
      go_ret
      exact ⟨ER, (II81 HI0.out), (BB1 HB.out (IsS81.ge HI0.out)), (KK HK.out)⟩

def spec_l14Ahead.f (a0_0 : Int) (a0_1 : Int) (a0_2 : ByteArray) (a0_3 : Int) (a1_0 : Int) (a1_1 : Int) (a1_2 : ByteArray) (a1_3 : Int) : Option (Bool) := if a0_0 < a1_0 then (some true) else (if a0_0 = a1_0 then (some (decide (a0_1 < a1_1))) else (some false))
set_option maxHeartbeats 8000000 in
set_option maxRecDepth 100000 in
theorem spec_l14Ahead.calls (a0_0 : Int) (a0_1 : Int) (a0_2 : ByteArray) (a0_3 : Int) (a1_0 : Int) (a1_1 : Int) (a1_2 : ByteArray) (a1_3 : Int) (r : Bool) (w : World) (h : spec_l14Ahead.f a0_0 a0_1 a0_2 a0_3 a1_0 a1_1 a1_2 a1_3 = some r) :
  Calls Try.prog 81 #[.agg #[.int .i64 a0_0, .int .i64 a0_1, .string a0_2, .int .i64 a0_3], .agg #[.int .i64 a1_0, .int .i64 a1_1, .string a1_2, .int .i64 a1_3]] w fun e w' => e = .returned (.bool r) ∧ Below w.heap.size w w' := by
 have hu60 := Try.underlying60
 have HB := AM (Below.refl w.heap.size w)
 have H : (if a0_0 < a1_0 then (some true) else (if a0_0 = a1_0 then (some (decide (a0_1 < a1_1))) else (some false))) = some r := h
 clear h
 by_cases c3 : a0_0 < a1_0
 ·rw [if_pos c3] at H
  have c3b0 := decide_eq_true c3
  clear c3
  obtain rfl := Option.some.inj H
  go_enter Try.func81, Try.ntmps81
  go_wp2_with (first | ((with_reducible refine gate_dst (N := 2) rfl ?_); refine BX 2 #[.int .i64 a0_0, .int .i64 a0_1, .string a0_2, .int .i64 a0_3] 60 ?_; intro gb142 hg w4 hbox hb; have BK142 := AM (hbox); have GW142 : Aside0 (w.heap.size ≤ gb142) := WG hg (BB HB.out); have GE142 := GW142; replace HB := AM (below_step (BB HB.out) hb); clear hb hbox hg) | ((with_reducible refine gate_dst (N := 3) rfl ?_); refine BX 3 #[.int .i64 a1_0, .int .i64 a1_1, .string a1_2, .int .i64 a1_3] 60 ?_; intro gb143 hg w5 hbox hb; have BK143 := AM (hbox); have GW143 : Aside0 (w.heap.size ≤ gb143) := WG hg (BB1 HB.out GE142.out); have GE143 := GW143; have NB142_143 := NL BK142.out hg; have NB143_142 := NG BK142.out hg; replace BK142 := AM (KB BK142.out hb); replace HB := AM (below_step (BB1 HB.out GE142.out) hb); clear hb hbox hg; have hnb6 := NB142_143.out; have hnc6 := NB143_142.out; have hcz7 := blk_cell BK142.out; have hfz7 := blk_frozen BK142.out; have hcz8 := blk_cell BK143.out; have hfz8 := blk_frozen BK143.out))
  go_ret
  exact ⟨ER, (BB2 HB.out GE142.out GE143.out)⟩
 ·rw [if_neg c3] at H
  have c3b0 := decide_eq_false c3
  clear c3
  by_cases c9 : a0_0 = a1_0
  ·rw [if_pos c9] at H
   have c9b0 : (a0_0 == a1_0) = true := beq_iff_eq.mpr c9
   have c9b1 : (a0_0 != a1_0) = false := bne_eq_false_iff_eq.mpr c9
   clear c9
   obtain rfl := Option.some.inj H
   go_enter Try.func81, Try.ntmps81
   go_wp2_with (first | ((with_reducible refine gate_dst (N := 2) rfl ?_); refine BX 2 #[.int .i64 a0_0, .int .i64 a0_1, .string a0_2, .int .i64 a0_3] 60 ?_; intro gb142 hg w10 hbox hb; have BK142 := AM (hbox); have GW142 : Aside0 (w.heap.size ≤ gb142) := WG hg (BB HB.out); have GE142 := GW142; replace HB := AM (below_step (BB HB.out) hb); clear hb hbox hg) | ((with_reducible refine gate_dst (N := 3) rfl ?_); refine BX 3 #[.int .i64 a1_0, .int .i64 a1_1, .string a1_2, .int .i64 a1_3] 60 ?_; intro gb143 hg w11 hbox hb; have BK143 := AM (hbox); have GW143 : Aside0 (w.heap.size ≤ gb143) := WG hg (BB1 HB.out GE142.out); have GE143 := GW143; have NB142_143 := NL BK142.out hg; have NB143_142 := NG BK142.out hg; replace BK142 := AM (KB BK142.out hb); replace HB := AM (below_step (BB1 HB.out GE142.out) hb); clear hb hbox hg; have hnb12 := NB142_143.out; have hnc12 := NB143_142.out; have hcz13 := blk_cell BK142.out; have hfz13 := blk_frozen BK142.out; have hcz14 := blk_cell BK143.out; have hfz14 := blk_frozen BK143.out))
   go_ret
   exact ⟨ER, (BB2 HB.out GE142.out GE143.out)⟩
  ·rw [if_neg c9] at H
   have c9b0 : (a0_0 == a1_0) = false := beq_eq_false_iff_ne.mpr c9
   have c9b1 : (a0_0 != a1_0) = true := bne_iff_ne.mpr c9
   obtain rfl := Option.some.inj H
   go_enter Try.func81, Try.ntmps81
   go_wp2_with (first | ((with_reducible refine gate_dst (N := 2) rfl ?_); refine BX 2 #[.int .i64 a0_0, .int .i64 a0_1, .string a0_2, .int .i64 a0_3] 60 ?_; intro gb142 hg w15 hbox hb; have BK142 := AM (hbox); have GW142 : Aside0 (w.heap.size ≤ gb142) := WG hg (BB HB.out); have GE142 := GW142; replace HB := AM (below_step (BB HB.out) hb); clear hb hbox hg) | ((with_reducible refine gate_dst (N := 3) rfl ?_); refine BX 3 #[.int .i64 a1_0, .int .i64 a1_1, .string a1_2, .int .i64 a1_3] 60 ?_; intro gb143 hg w16 hbox hb; have BK143 := AM (hbox); have GW143 : Aside0 (w.heap.size ≤ gb143) := WG hg (BB1 HB.out GE142.out); have GE143 := GW143; have NB142_143 := NL BK142.out hg; have NB143_142 := NG BK142.out hg; replace BK142 := AM (KB BK142.out hb); replace HB := AM (below_step (BB1 HB.out GE142.out) hb); clear hb hbox hg; have hnb17 := NB142_143.out; have hnc17 := NB143_142.out; have hcz18 := blk_cell BK142.out; have hfz18 := blk_frozen BK142.out; have hcz19 := blk_cell BK143.out; have hfz19 := blk_frozen BK143.out))
   go_ret
   exact ⟨ER, (BB2 HB.out GE142.out GE143.out)⟩

def spec_l01In.f (a0 : Int) (a1 : Int) (a2 : Int) : Option (Bool) := if a0 ≥ a1 then (some (decide (a0 ≤ a2))) else (some false)
set_option maxHeartbeats 8000000 in
set_option maxRecDepth 100000 in
theorem spec_l01In.calls (a0 : Int) (a1 : Int) (a2 : Int) (r : Bool) (w : World) (h : spec_l01In.f a0 a1 a2 = some r) :
  Calls Try.prog 107 #[.int .i64 a0, .int .i64 a1, .int .i64 a2] w fun e w' => e = .returned (.bool r) ∧ Drawn0 w w' := by
 have H : (if a0 ≥ a1 then (some (decide (a0 ≤ a2))) else (some false)) = some r := h
 clear h
 by_cases c4 : a0 ≥ a1
 ·rw [if_pos c4] at H
  have c4b0 := decide_eq_true c4
  clear c4
  obtain rfl := Option.some.inj H
  go_enter Try.func107, Try.ntmps107
  go_wp2
  go_ret
  exact ⟨FR, by repeat (first | exact Drawn0.refl _ | apply Drawn0.step)⟩
 ·rw [if_neg c4] at H
  have c4b0 := decide_eq_false c4
  clear c4
  obtain rfl := Option.some.inj H
  go_enter Try.func107, Try.ntmps107
  go_wp2
  go_ret
  exact ⟨FR, by repeat (first | exact Drawn0.refl _ | apply Drawn0.step)⟩

def spec_HostOk.l0 : Nat → Int → Int → Bool → List (S60) → Option (Bool)
 | 0, _, _, _, _ => none
 | k + 1, x3, x145000, x145001, x145002 => if x3 < (x145002.length : Int) then (if 0 ≤ x3 then ((spec_l01In.f ((rd_T60 x145002 x3).f0) 1 100000).bind fun t148 => (if t148 = true then ((spec_l01In.f ((rd_T60 x145002 x3).f1) 0 5).bind fun t149 => (if t149 = true then (if (((rd_T60 x145002 x3).f2).size : Int) > 200 then (some false) else ((spec_l01In.f ((rd_T60 x145002 x3).f3) 0 4294967295).bind fun t150 => (if t150 = true then (if x3 > 0 then (if 0 ≤ (wrap64 (x3 - 1)) then (if (wrap64 (x3 - 1)) < (x145002.length : Int) then ((spec_l14Ahead.f ((rd_T60 x145002 (wrap64 (x3 - 1))).f0) ((rd_T60 x145002 (wrap64 (x3 - 1))).f1) ((rd_T60 x145002 (wrap64 (x3 - 1))).f2) ((rd_T60 x145002 (wrap64 (x3 - 1))).f3) ((rd_T60 x145002 x3).f0) ((rd_T60 x145002 x3).f1) ((rd_T60 x145002 x3).f2) ((rd_T60 x145002 x3).f3)).bind fun t152 => (if t152 = true then (spec_HostOk.l0 k (wrap64 (x3 + 1)) x145000 x145001 x145002) else (some false))) else (none)) else (none)) else (spec_HostOk.l0 k (wrap64 (x3 + 1)) x145000 x145001 x145002)) else (some false)))) else (some false))) else (some false))) else (none)) else ((spec_l01In.f x145000 1 7).bind fun t145 => (some t145))
def spec_HostOk.f (k : Nat) (a0_0 : Int) (a0_1 : Bool) (l0_2 : List (S60)) : Option (Bool) := spec_HostOk.l0 k 0 a0_0 a0_1 l0_2
def spec_HostOk.T5 : Bool × List (List Nat × List Nat) := (true, [([], []), ([0], [0]), ([1], [1]), ([2], [2]), ([3, 2], [3]), ([4], [4]), ([5, 4], [4, 5]), ([6, 4, 4], [4, 6]), ([7, 4], [4, 7]), ([4, 8], [4, 8]), ([9, 7], [9]), ([10], [10]), ([11, 10], [10, 11]), ([12, 10], [10, 12]), ([13, 10], [10, 13]), ([10, 14], [10, 14]), ([15, 10], [15]), ([16], [16]), ([17, 16], [16, 17]), ([18, 16, 16], [16, 18]), ([19, 16], [16, 19]), ([16, 20], [16, 20]), ([21, 19], [21]), ([22], [22]), ([23, 22], [22, 23]), ([24, 22, 22], [22, 24]), ([25], [25]), ([26, 25], [25, 26]), ([25], [25]), ([28, 25], [25, 28]), ([27, 29, 25], [25, 27, 29]), ([30, 25], [25, 30]), ([25], [25]), ([31, 32, 25, 25], [25, 31, 32]), ([33, 25], [25, 33]), ([25, 34, 22], [22, 25, 34]), ([22, 35], [22, 35])])
def spec_HostOk.B5 : List Nat := [0, 1, 3, 7, 15, 31, 63, 127, 255, 511, 1023, 2047, 4095, 8191, 16383, 32767, 65535, 131071, 262143, 524287, 1048575, 2097151, 4194303, 8388607, 16777215, 33554431, 67108863, 134217727, 67108863, 335544319, 1073741823, 2147483647, 67108863, 8589934591, 17179869183, 34359738367, 68719476735]
theorem spec_HostOk.tab5 : rtab .any (opsOf Try.f82 5) = spec_HostOk.T5 := by kernel_rfl
theorem spec_HostOk.bits5 : waitsOk spec_HostOk.T5.2 spec_HostOk.B5 = true := by kernel_rfl
set_option maxHeartbeats 8000000 in
set_option maxRecDepth 100000 in
theorem spec_HostOk.calls (k : Nat) (a0_0 : Int) (a0_1 : Bool) (A0_2 : Option Addr) (c0_2 : Nat) (l0_2 : List (S60)) (r : Bool) (w : World) (hr0_2 : Kd.C k60 w A0_2 l0_2.length l0_2) (hc0_2 : l0_2.length ≤ c0_2) (h : spec_HostOk.f k a0_0 a0_1 l0_2 = some r) :
  Calls Try.prog 82 #[.agg #[.int .i64 a0_0, .bool a0_1, .slice A0_2 l0_2.length c0_2]] w fun e w' => e = .returned (.bool r) ∧ Below w.heap.size w w' := by
 have hu35 := Try.underlying35
 have hu60 := Try.underlying60
 have HR0_2 := AM hr0_2
 have HC0_2 := AM hc0_2
 clear hr0_2 hc0_2
 have HB := AM (Below.refl w.heap.size w)
 have H : (spec_HostOk.l0 k 0 a0_0 a0_1 l0_2) = some r := h
 clear h
 have H' := AM H
 clear H
 go_enter Try.func82, Try.ntmps82
 go_wp2_with (first | ((with_reducible refine gate_dst (N := 1) rfl ?_); (try (refine gate_guard (by rfl) ?_; dsimp only)); refine BX 1 #[.int .i64 a0_0, .bool a0_1, .slice A0_2 l0_2.length c0_2] 35 ?_; intro gb144 hg w2 hbox hb; have BK144 := AM (hbox); have GW144 : Aside0 (w.heap.size ≤ gb144) := WG hg (BB HB.out); have GE144 := GW144; replace HB := AM (below_step (BB HB.out) hb); clear hb hbox hg))
 go_loopg [3] k (fun kq v3 w' => ∃ (x3_1 : Int), v3 = .int .i64 x3_1 ∧ Aside0 (spec_HostOk.l0 kq x3_1 a0_0 a0_1 l0_2 = some r) ∧ Aside0 (kq ≤ k) ∧ Aside0 (w'.heap[gb144]? = some (.cells #[.int .i64 a0_0, .bool a0_1, (.slice A0_2 l0_2.length c0_2)] 35 (0, 0))) ∧ Aside0 (Below w.heap.size w w'))
 case atStart => exact ⟨(0), FR, H', ⟨Nat.le_refl _⟩, ⟨by refine BD ?_; exact BK144.out⟩, ⟨(BB1 HB.out GE144.out)⟩⟩
 case round =>
  clear H'
  try clear p2
  obtain ⟨x3_1, rfl, HA, HK1, BK144, HB⟩ := hrel
  cases gk with
  | zero => exact absurd HA.out (by simp [spec_HostOk.l0])
  | succ k1 =>
   have H := HA.out
   clear HA
   simp only [spec_HostOk.l0] at H
   by_cases c3 : x3_1 < (l0_2.length : Int)
   ·rw [if_pos c3] at H
    have c3b0 := decide_eq_true c3
    clear c3
    by_cases c4 : 0 ≤ x3_1
    rotate_left
    ·rw [if_neg c4] at H; exact absurd H (by simp)
    rw [if_pos c4] at H
    have c4b0 := decide_eq_true c4
    clear c4
    replace H := Option.bind_eq_some_iff.mp H
    obtain ⟨t148, A50, H⟩ := H
    replace H : (if t148 = true then ((spec_l01In.f ((rd_T60 l0_2 x3_1).f1) 0 5).bind fun t149 => (if t149 = true then (if (((rd_T60 l0_2 x3_1).f2).size : Int) > 200 then (some false) else ((spec_l01In.f ((rd_T60 l0_2 x3_1).f3) 0 4294967295).bind fun t150 => (if t150 = true then (if x3_1 > 0 then (if 0 ≤ (wrap64 (x3_1 - 1)) then (if (wrap64 (x3_1 - 1)) < (l0_2.length : Int) then ((spec_l14Ahead.f ((rd_T60 l0_2 (wrap64 (x3_1 - 1))).f0) ((rd_T60 l0_2 (wrap64 (x3_1 - 1))).f1) ((rd_T60 l0_2 (wrap64 (x3_1 - 1))).f2) ((rd_T60 l0_2 (wrap64 (x3_1 - 1))).f3) ((rd_T60 l0_2 x3_1).f0) ((rd_T60 l0_2 x3_1).f1) ((rd_T60 l0_2 x3_1).f2) ((rd_T60 l0_2 x3_1).f3)).bind fun t152 => (if t152 = true then (spec_HostOk.l0 k1 (wrap64 (x3_1 + 1)) a0_0 a0_1 l0_2) else (some false))) else (none)) else (none)) else (spec_HostOk.l0 k1 (wrap64 (x3_1 + 1)) a0_0 a0_1 l0_2)) else (some false)))) else (some false))) else (some false)) = some r := H
    have A5 := AM A50
    clear A50
    by_cases c6 : t148 = true
    ·subst c6
     have H1 : ((spec_l01In.f ((rd_T60 l0_2 x3_1).f1) 0 5).bind fun t149 => (if t149 = true then (if (((rd_T60 l0_2 x3_1).f2).size : Int) > 200 then (some false) else ((spec_l01In.f ((rd_T60 l0_2 x3_1).f3) 0 4294967295).bind fun t150 => (if t150 = true then (if x3_1 > 0 then (if 0 ≤ (wrap64 (x3_1 - 1)) then (if (wrap64 (x3_1 - 1)) < (l0_2.length : Int) then ((spec_l14Ahead.f ((rd_T60 l0_2 (wrap64 (x3_1 - 1))).f0) ((rd_T60 l0_2 (wrap64 (x3_1 - 1))).f1) ((rd_T60 l0_2 (wrap64 (x3_1 - 1))).f2) ((rd_T60 l0_2 (wrap64 (x3_1 - 1))).f3) ((rd_T60 l0_2 x3_1).f0) ((rd_T60 l0_2 x3_1).f1) ((rd_T60 l0_2 x3_1).f2) ((rd_T60 l0_2 x3_1).f3)).bind fun t152 => (if t152 = true then (spec_HostOk.l0 k1 (wrap64 (x3_1 + 1)) a0_0 a0_1 l0_2) else (some false))) else (none)) else (none)) else (spec_HostOk.l0 k1 (wrap64 (x3_1 + 1)) a0_0 a0_1 l0_2)) else (some false)))) else (some false))) = some r := by rw [if_pos rfl] at H; exact H
     clear H
     have H := H1
     clear H1
     replace H := Option.bind_eq_some_iff.mp H
     obtain ⟨t149, A70, H⟩ := H
     replace H : (if t149 = true then (if (((rd_T60 l0_2 x3_1).f2).size : Int) > 200 then (some false) else ((spec_l01In.f ((rd_T60 l0_2 x3_1).f3) 0 4294967295).bind fun t150 => (if t150 = true then (if x3_1 > 0 then (if 0 ≤ (wrap64 (x3_1 - 1)) then (if (wrap64 (x3_1 - 1)) < (l0_2.length : Int) then ((spec_l14Ahead.f ((rd_T60 l0_2 (wrap64 (x3_1 - 1))).f0) ((rd_T60 l0_2 (wrap64 (x3_1 - 1))).f1) ((rd_T60 l0_2 (wrap64 (x3_1 - 1))).f2) ((rd_T60 l0_2 (wrap64 (x3_1 - 1))).f3) ((rd_T60 l0_2 x3_1).f0) ((rd_T60 l0_2 x3_1).f1) ((rd_T60 l0_2 x3_1).f2) ((rd_T60 l0_2 x3_1).f3)).bind fun t152 => (if t152 = true then (spec_HostOk.l0 k1 (wrap64 (x3_1 + 1)) a0_0 a0_1 l0_2) else (some false))) else (none)) else (none)) else (spec_HostOk.l0 k1 (wrap64 (x3_1 + 1)) a0_0 a0_1 l0_2)) else (some false)))) else (some false)) = some r := H
     have A7 := AM A70
     clear A70
     by_cases c8 : t149 = true
     ·subst c8
      have H1 : (if (((rd_T60 l0_2 x3_1).f2).size : Int) > 200 then (some false) else ((spec_l01In.f ((rd_T60 l0_2 x3_1).f3) 0 4294967295).bind fun t150 => (if t150 = true then (if x3_1 > 0 then (if 0 ≤ (wrap64 (x3_1 - 1)) then (if (wrap64 (x3_1 - 1)) < (l0_2.length : Int) then ((spec_l14Ahead.f ((rd_T60 l0_2 (wrap64 (x3_1 - 1))).f0) ((rd_T60 l0_2 (wrap64 (x3_1 - 1))).f1) ((rd_T60 l0_2 (wrap64 (x3_1 - 1))).f2) ((rd_T60 l0_2 (wrap64 (x3_1 - 1))).f3) ((rd_T60 l0_2 x3_1).f0) ((rd_T60 l0_2 x3_1).f1) ((rd_T60 l0_2 x3_1).f2) ((rd_T60 l0_2 x3_1).f3)).bind fun t152 => (if t152 = true then (spec_HostOk.l0 k1 (wrap64 (x3_1 + 1)) a0_0 a0_1 l0_2) else (some false))) else (none)) else (none)) else (spec_HostOk.l0 k1 (wrap64 (x3_1 + 1)) a0_0 a0_1 l0_2)) else (some false)))) = some r := by rw [if_pos rfl] at H; exact H
      clear H
      have H := H1
      clear H1
      by_cases c9 : (((rd_T60 l0_2 x3_1).f2).size : Int) > 200
      ·rw [if_pos c9] at H
       have c9b0 := decide_eq_true c9
       have c9b1 : decide (200 < ((rd_T60 l0_2 x3_1).f2).size) = true := decide_eq_true (by omega)
       clear c9
       obtain rfl := Option.some.inj H
       have hcz10 := blk_cell BK144.out
       have hcz10_1 : wr.cell? ⟨gb144, 1, none⟩ = some (.bool a0_1) := (blk_cell BK144.out 1).trans rfl
       have hcz10_2 : wr.cell? ⟨gb144, 2, none⟩ = some (.slice A0_2 l0_2.length c0_2) := (blk_cell BK144.out 2).trans rfl
       have hfz10 := blk_frozen BK144.out
       have hfz10_1 := blk_frozen BK144.out 1
       have hfz10_2 := blk_frozen BK144.out 2
       have p146 : 0 ≤ (x3_1 : Int) := DT
       have q146 : x3_1 < (l0_2.length : Int) := DT
       obtain ⟨ad146, e146, hx146_0, hx146_1, hx146_2, hx146_3⟩ := at_T60 HR0_2.out x3_1 p146 q146
       cases e146
       replace hx146_0 := CX HB.out hx146_0
       replace hx146_1 := CX HB.out hx146_1
       replace hx146_2 := CX HB.out hx146_2
       replace hx146_3 := CX HB.out hx146_3
       replace p146 := eq_true p146
       replace q146 := eq_true q146
       try go_wp2_with (first | ((with_reducible refine gate_dst (N := 4) rfl ?_); (try (refine gate_guard (by rfl) ?_; dsimp only)); refine BX 4 #[.int .i64 0, .int .i64 0, .string (⟨#[]⟩ : ByteArray), .int .i64 0] 60 ?_; intro gb147 hg w11 hbox hb; have BK147 := AM (hbox); have GW147 : Aside0 (w.heap.size ≤ gb147) := WG hg (BB1 HB.out GE144.out); have GE147 := GW147; have NB144_147 := NL BK144.out hg; have NB147_144 := NG BK144.out hg; replace BK144 := AM (KB BK144.out hb); replace HB := AM (below_step (BB1 HB.out GE144.out) hb); clear hb hbox hg; have hnb12 := NB147_144.out; have hnc12 := NB144_147.out; have hcz13 := blk_cell BK147.out; have hfz13 := blk_frozen BK147.out))
       obtain ⟨w14, hw_⟩ : ∃ w_, w_ = ((((w11.setCell ⟨gb147, 0, none⟩ (.int .i64 ((rd_T60 l0_2 x3_1).f0))).setCell ⟨gb147, 1, none⟩ (.int .i64 ((rd_T60 l0_2 x3_1).f1))).setCell ⟨gb147, 2, none⟩ (.string ((rd_T60 l0_2 x3_1).f2))).setCell ⟨gb147, 3, none⟩ (.int .i64 ((rd_T60 l0_2 x3_1).f3))) := ⟨_, rfl⟩
       rw [← hw_]
       have n0_ : Aside0 (w14.heap[gb144]? = some (.cells #[.int .i64 a0_0, .bool a0_1, .slice (some ad146) l0_2.length c0_2] 35 (0, 0))) := ⟨by rw [hw_]; refine BD ?_; refine blk_far ?_ NB144_147.out _; refine BD ?_; refine blk_far ?_ NB144_147.out _; refine BD ?_; refine blk_far ?_ NB144_147.out _; refine BD ?_; refine blk_far ?_ NB144_147.out _; refine BD ?_; exact BK144.out⟩
       have n1_ : Aside0 (w14.heap[gb147]? = some (.cells #[.int .i64 ((rd_T60 l0_2 x3_1).f0), .int .i64 ((rd_T60 l0_2 x3_1).f1), .string ((rd_T60 l0_2 x3_1).f2), .int .i64 ((rd_T60 l0_2 x3_1).f3)] 60 (0, 0))) := ⟨by rw [hw_]; refine BD ?_; refine blk_put (cs := #[.int .i64 ((rd_T60 l0_2 x3_1).f0), .int .i64 ((rd_T60 l0_2 x3_1).f1), .string ((rd_T60 l0_2 x3_1).f2), .int .i64 0]) ?_ 3 _ rfl; refine BD ?_; refine blk_put (cs := #[.int .i64 ((rd_T60 l0_2 x3_1).f0), .int .i64 ((rd_T60 l0_2 x3_1).f1), .string (⟨#[]⟩ : ByteArray), .int .i64 0]) ?_ 2 _ rfl; refine BD ?_; refine blk_put (cs := #[.int .i64 ((rd_T60 l0_2 x3_1).f0), .int .i64 0, .string (⟨#[]⟩ : ByteArray), .int .i64 0]) ?_ 1 _ rfl; refine BD ?_; refine blk_put (cs := #[.int .i64 0, .int .i64 0, .string (⟨#[]⟩ : ByteArray), .int .i64 0]) ?_ 0 _ rfl; refine BD ?_; exact BK147.out⟩
       have n2_ : Aside0 (Below w.heap.size w w14) := ⟨by rw [hw_]; exact (BB2 HB.out GE144.out GE147.out)⟩
       (try clear BK144)
       (try clear BK147)
       (try clear HB)
       clear hw_
       have BK144 := n0_
       have BK147 := n1_
       have HB := n2_
       clear n0_ n1_ n2_
       replace BK144 := AM (blk_drew BK144.out); replace BK147 := AM (blk_drew BK147.out); replace HB := AM (below_drew1 HB.out)
       refine start_ (n := 37) (S := fun w' => w'.cell? ⟨gb147, 0, none⟩ = some (.int .i64 ((rd_T60 l0_2 x3_1).f0)) ∧ w'.cell? ⟨gb147, 1, none⟩ = some (.int .i64 ((rd_T60 l0_2 x3_1).f1)) ∧ w'.cell? ⟨gb147, 2, none⟩ = some (.string ((rd_T60 l0_2 x3_1).f2)) ∧ w'.cell? ⟨gb147, 3, none⟩ = some (.int .i64 ((rd_T60 l0_2 x3_1).f3))) (ds := []) (.replicate 37 false) (by kernel_rfl) rfl rfl ⟨(blk_cell BK147.out 0).trans rfl, (blk_cell BK147.out 1).trans rfl, (blk_cell BK147.out 2).trans rfl, (blk_cell BK147.out 3).trans rfl⟩ (fun hHeld => ?_); refine with_tabW spec_HostOk.tab5 spec_HostOk.bits5 (fun HT_ HW_ => ?_)
       generalize w14.drew = w15 at BK144 BK147 HB hHeld ⊢
       refine PH 0 17 HT_.out ?_
       refine TH 1 18 HT_.out HW_.out hHeld ?_
       refine OH 2 (some 19) HT_.out (fun K hK => ?_)
       refine GO Try.func107 #[.int .i64 ((rd_T60 l0_2 x3_1).f0), .int .i64 1, .int .i64 100000] ?_
       with_reducible refine (spec_l01In.calls ((rd_T60 l0_2 x3_1).f0) 1 100000 true _ A5.out).mono ?_
       rintro e w' ⟨rfl, ⟨nd, rfl⟩⟩
       refine ⟨_, rfl, ?_⟩
       refine hK.out _ _ ⟨(blk_cell BK147.out 0).trans rfl, (blk_cell BK147.out 1).trans rfl, (blk_cell BK147.out 2).trans rfl, (blk_cell BK147.out 3).trans rfl⟩ (fun hHeld => ?_)
       clear hK K
       refine NM 19 ?_
       refine PH 3 20 HT_.out ?_
       refine PH 4 21 HT_.out ?_
       refine PH 5 22 HT_.out ?_
       refine TH 6 23 HT_.out HW_.out hHeld ?_
       refine OH 7 (some 24) HT_.out (fun K hK => ?_)
       refine GO Try.func107 #[.int .i64 ((rd_T60 l0_2 x3_1).f1), .int .i64 0, .int .i64 5] ?_
       with_reducible refine (spec_l01In.calls ((rd_T60 l0_2 x3_1).f1) 0 5 true _ A7.out).mono ?_
       rintro e w' ⟨rfl, ⟨nd, rfl⟩⟩
       refine ⟨_, rfl, ?_⟩
       refine hK.out _ _ ⟨(blk_cell BK147.out 0).trans rfl, (blk_cell BK147.out 1).trans rfl, (blk_cell BK147.out 2).trans rfl, (blk_cell BK147.out 3).trans rfl⟩ (fun hHeld => ?_)
       clear hK K
       refine NM 24 ?_
       refine PH 8 25 HT_.out ?_
       refine PH 9 26 HT_.out ?_
       refine PH 10 27 HT_.out ?_
       refine PH 11 28 HT_.out ?_
       refine TH 12 29 HT_.out HW_.out hHeld ?_
       refine PH 13 30 HT_.out ?_
       refine PH 14 31 HT_.out ?_
       refine PH 15 32 HT_.out ?_
       refine PH 16 33 HT_.out ?_
       refine PO 17 34 HT_.out ?_
       refine PO 18 35 HT_.out ?_
       refine PO 19 36 HT_.out ?_
       refine PO 20 37 HT_.out ?_
       refine PH 21 38 HT_.out ?_
       refine PH 22 39 HT_.out ?_
       refine PO 23 40 HT_.out ?_
       refine PO 24 41 HT_.out ?_
       refine PO 25 42 HT_.out ?_
       refine PO 26 43 HT_.out ?_
       refine PO 27 44 HT_.out ?_
       refine PO 28 45 HT_.out ?_
       refine PO 29 46 HT_.out ?_
       refine PO 30 47 HT_.out ?_
       refine PO 31 48 HT_.out ?_
       refine PO 32 49 HT_.out ?_
       refine PO 33 50 HT_.out ?_
       refine PO 34 51 HT_.out ?_
       refine PO 35 52 HT_.out ?_
       refine PH 36 53 HT_.out ?_
       refine done_ (done_of HT_.out (by kernel_rfl)) ?_
       try go_wp2
       go_ret
       exact ⟨ER, (BB2 HB.out GE144.out GE147.out)⟩
      ·rw [if_neg c9] at H
       have c9b0 := decide_eq_false c9
       have c9b1 : decide (200 < ((rd_T60 l0_2 x3_1).f2).size) = false := decide_eq_false (by omega)
       clear c9
       replace H := Option.bind_eq_some_iff.mp H
       obtain ⟨t150, A160, H⟩ := H
       replace H : (if t150 = true then (if x3_1 > 0 then (if 0 ≤ (wrap64 (x3_1 - 1)) then (if (wrap64 (x3_1 - 1)) < (l0_2.length : Int) then ((spec_l14Ahead.f ((rd_T60 l0_2 (wrap64 (x3_1 - 1))).f0) ((rd_T60 l0_2 (wrap64 (x3_1 - 1))).f1) ((rd_T60 l0_2 (wrap64 (x3_1 - 1))).f2) ((rd_T60 l0_2 (wrap64 (x3_1 - 1))).f3) ((rd_T60 l0_2 x3_1).f0) ((rd_T60 l0_2 x3_1).f1) ((rd_T60 l0_2 x3_1).f2) ((rd_T60 l0_2 x3_1).f3)).bind fun t152 => (if t152 = true then (spec_HostOk.l0 k1 (wrap64 (x3_1 + 1)) a0_0 a0_1 l0_2) else (some false))) else (none)) else (none)) else (spec_HostOk.l0 k1 (wrap64 (x3_1 + 1)) a0_0 a0_1 l0_2)) else (some false)) = some r := H
       have A16 := AM A160
       clear A160
       by_cases c17 : t150 = true
       ·subst c17
        have H1 : (if x3_1 > 0 then (if 0 ≤ (wrap64 (x3_1 - 1)) then (if (wrap64 (x3_1 - 1)) < (l0_2.length : Int) then ((spec_l14Ahead.f ((rd_T60 l0_2 (wrap64 (x3_1 - 1))).f0) ((rd_T60 l0_2 (wrap64 (x3_1 - 1))).f1) ((rd_T60 l0_2 (wrap64 (x3_1 - 1))).f2) ((rd_T60 l0_2 (wrap64 (x3_1 - 1))).f3) ((rd_T60 l0_2 x3_1).f0) ((rd_T60 l0_2 x3_1).f1) ((rd_T60 l0_2 x3_1).f2) ((rd_T60 l0_2 x3_1).f3)).bind fun t152 => (if t152 = true then (spec_HostOk.l0 k1 (wrap64 (x3_1 + 1)) a0_0 a0_1 l0_2) else (some false))) else (none)) else (none)) else (spec_HostOk.l0 k1 (wrap64 (x3_1 + 1)) a0_0 a0_1 l0_2)) = some r := by rw [if_pos rfl] at H; exact H
        clear H
        have H := H1
        clear H1
        by_cases c18 : x3_1 > 0
        ·rw [if_pos c18] at H
         have c18b0 := decide_eq_true c18
         clear c18
         obtain ⟨ji19, hji19⟩ : ∃ j_ : Int, (wrap64 (x3_1 - 1)) = j_ := ⟨_, rfl⟩
         replace H : (if 0 ≤ (ji19) then (if (ji19) < (l0_2.length : Int) then ((spec_l14Ahead.f ((rd_T60 l0_2 (ji19)).f0) ((rd_T60 l0_2 (ji19)).f1) ((rd_T60 l0_2 (ji19)).f2) ((rd_T60 l0_2 (ji19)).f3) ((rd_T60 l0_2 x3_1).f0) ((rd_T60 l0_2 x3_1).f1) ((rd_T60 l0_2 x3_1).f2) ((rd_T60 l0_2 x3_1).f3)).bind fun t152 => (if t152 = true then (spec_HostOk.l0 k1 (wrap64 (x3_1 + 1)) a0_0 a0_1 l0_2) else (some false))) else (none)) else (none)) = some r := by first | (rw [hji19] at H; exact H) | (simp only [hji19] at H ⊢; exact H)
         (try rw [hji19] at A5)
         (try rw [hji19] at A7)
         (try rw [hji19] at A16)
         have hji19w : (IntKind.i64.wrap (x3_1 - 1)) = ji19 := (i64_w _).trans hji19
         by_cases c20 : 0 ≤ (ji19)
         rotate_left
         ·rw [if_neg c20] at H; exact absurd H (by simp)
         rw [if_pos c20] at H
         have c20b0 := decide_eq_true c20
         clear c20
         by_cases c21 : (ji19) < (l0_2.length : Int)
         rotate_left
         ·rw [if_neg c21] at H; exact absurd H (by simp)
         rw [if_pos c21] at H
         have c21b0 := decide_eq_true c21
         clear c21
         replace H := Option.bind_eq_some_iff.mp H
         obtain ⟨t152, A220, H⟩ := H
         replace H : (if t152 = true then (spec_HostOk.l0 k1 (wrap64 (x3_1 + 1)) a0_0 a0_1 l0_2) else (some false)) = some r := H
         have A22 := AM A220
         clear A220
         by_cases c23 : t152 = true
         ·subst c23
          have H1 : (spec_HostOk.l0 k1 (wrap64 (x3_1 + 1)) a0_0 a0_1 l0_2) = some r := by rw [if_pos rfl] at H; exact H
          clear H
          have H := H1
          clear H1
          have H' := AM H
          clear H
          have hcz24 := blk_cell BK144.out
          have hcz24_1 : wr.cell? ⟨gb144, 1, none⟩ = some (.bool a0_1) := (blk_cell BK144.out 1).trans rfl
          have hcz24_2 : wr.cell? ⟨gb144, 2, none⟩ = some (.slice A0_2 l0_2.length c0_2) := (blk_cell BK144.out 2).trans rfl
          have hfz24 := blk_frozen BK144.out
          have hfz24_1 := blk_frozen BK144.out 1
          have hfz24_2 := blk_frozen BK144.out 2
          have p146 : 0 ≤ (x3_1 : Int) := DT
          have q146 : x3_1 < (l0_2.length : Int) := DT
          obtain ⟨ad146, e146, hx146_0, hx146_1, hx146_2, hx146_3⟩ := at_T60 HR0_2.out x3_1 p146 q146
          cases e146
          replace hx146_0 := CX HB.out hx146_0
          replace hx146_1 := CX HB.out hx146_1
          replace hx146_2 := CX HB.out hx146_2
          replace hx146_3 := CX HB.out hx146_3
          replace p146 := eq_true p146
          replace q146 := eq_true q146
          try go_wp2_with (first | ((with_reducible refine gate_dst (N := 4) rfl ?_); (try (refine gate_guard (by rfl) ?_; dsimp only)); refine BX 4 #[.int .i64 0, .int .i64 0, .string (⟨#[]⟩ : ByteArray), .int .i64 0] 60 ?_; intro gb147 hg w25 hbox hb; have BK147 := AM (hbox); have GW147 : Aside0 (w.heap.size ≤ gb147) := WG hg (BB1 HB.out GE144.out); have GE147 := GW147; have NB144_147 := NL BK144.out hg; have NB147_144 := NG BK144.out hg; replace BK144 := AM (KB BK144.out hb); replace HB := AM (below_step (BB1 HB.out GE144.out) hb); clear hb hbox hg; have hnb26 := NB147_144.out; have hnc26 := NB144_147.out; have hcz27 := blk_cell BK147.out; have hfz27 := blk_frozen BK147.out))
          obtain ⟨w28, hw_⟩ : ∃ w_, w_ = ((((w25.setCell ⟨gb147, 0, none⟩ (.int .i64 ((rd_T60 l0_2 x3_1).f0))).setCell ⟨gb147, 1, none⟩ (.int .i64 ((rd_T60 l0_2 x3_1).f1))).setCell ⟨gb147, 2, none⟩ (.string ((rd_T60 l0_2 x3_1).f2))).setCell ⟨gb147, 3, none⟩ (.int .i64 ((rd_T60 l0_2 x3_1).f3))) := ⟨_, rfl⟩
          rw [← hw_]
          have n0_ : Aside0 (w28.heap[gb144]? = some (.cells #[.int .i64 a0_0, .bool a0_1, .slice (some ad146) l0_2.length c0_2] 35 (0, 0))) := ⟨by rw [hw_]; refine BD ?_; refine blk_far ?_ NB144_147.out _; refine BD ?_; refine blk_far ?_ NB144_147.out _; refine BD ?_; refine blk_far ?_ NB144_147.out _; refine BD ?_; refine blk_far ?_ NB144_147.out _; refine BD ?_; exact BK144.out⟩
          have n1_ : Aside0 (w28.heap[gb147]? = some (.cells #[.int .i64 ((rd_T60 l0_2 x3_1).f0), .int .i64 ((rd_T60 l0_2 x3_1).f1), .string ((rd_T60 l0_2 x3_1).f2), .int .i64 ((rd_T60 l0_2 x3_1).f3)] 60 (0, 0))) := ⟨by rw [hw_]; refine BD ?_; refine blk_put (cs := #[.int .i64 ((rd_T60 l0_2 x3_1).f0), .int .i64 ((rd_T60 l0_2 x3_1).f1), .string ((rd_T60 l0_2 x3_1).f2), .int .i64 0]) ?_ 3 _ rfl; refine BD ?_; refine blk_put (cs := #[.int .i64 ((rd_T60 l0_2 x3_1).f0), .int .i64 ((rd_T60 l0_2 x3_1).f1), .string (⟨#[]⟩ : ByteArray), .int .i64 0]) ?_ 2 _ rfl; refine BD ?_; refine blk_put (cs := #[.int .i64 ((rd_T60 l0_2 x3_1).f0), .int .i64 0, .string (⟨#[]⟩ : ByteArray), .int .i64 0]) ?_ 1 _ rfl; refine BD ?_; refine blk_put (cs := #[.int .i64 0, .int .i64 0, .string (⟨#[]⟩ : ByteArray), .int .i64 0]) ?_ 0 _ rfl; refine BD ?_; exact BK147.out⟩
          have n2_ : Aside0 (Below w.heap.size w w28) := ⟨by rw [hw_]; exact (BB2 HB.out GE144.out GE147.out)⟩
          (try clear BK144)
          (try clear BK147)
          (try clear HB)
          clear hw_
          have BK144 := n0_
          have BK147 := n1_
          have HB := n2_
          clear n0_ n1_ n2_
          replace BK144 := AM (blk_drew BK144.out); replace BK147 := AM (blk_drew BK147.out); replace HB := AM (below_drew1 HB.out)
          have p151 : 0 ≤ ((ji19) : Int) := DT
          have q151 : (ji19) < (l0_2.length : Int) := DT
          obtain ⟨ad151, e151, hx151_0, hx151_1, hx151_2, hx151_3⟩ := at_T60 HR0_2.out (ji19) p151 q151
          have hw151_3 := hx151_3
          have hw151_2 := hx151_2
          have hw151_1 := hx151_1
          have hw151_0 := hx151_0
          obtain rfl : ad146 = ad151 := (by injection e151)
          replace hx151_0 := CX HB.out hx151_0
          replace hx151_1 := CX HB.out hx151_1
          replace hx151_2 := CX HB.out hx151_2
          replace hx151_3 := CX HB.out hx151_3
          replace p151 := eq_true p151
          replace q151 := eq_true q151
          refine start_ (n := 37) (S := fun w' => w'.cell? ⟨gb147, 0, none⟩ = some (.int .i64 ((rd_T60 l0_2 x3_1).f0)) ∧ w'.cell? ⟨gb147, 1, none⟩ = some (.int .i64 ((rd_T60 l0_2 x3_1).f1)) ∧ w'.cell? ⟨gb147, 2, none⟩ = some (.string ((rd_T60 l0_2 x3_1).f2)) ∧ w'.cell? ⟨gb147, 3, none⟩ = some (.int .i64 ((rd_T60 l0_2 x3_1).f3)) ∧ w'.cell? ⟨gb144, 0, none⟩ = some (.int .i64 a0_0) ∧ w'.cell? ⟨gb144, 1, none⟩ = some (.bool a0_1) ∧ w'.cell? ⟨gb144, 2, none⟩ = some (.slice (some ad146) l0_2.length c0_2) ∧ w'.cell? (ad146.add (((ji19)).toNat * 4)) = some (.int .i64 ((rd_T60 l0_2 (ji19)).f0)) ∧ w'.cell? ⟨(ad146.add (((ji19)).toNat * 4)).block, (ad146.add (((ji19)).toNat * 4)).off + 1, none⟩ = some (.int .i64 ((rd_T60 l0_2 (ji19)).f1)) ∧ w'.cell? ⟨(ad146.add (((ji19)).toNat * 4)).block, (ad146.add (((ji19)).toNat * 4)).off + 2, none⟩ = some (.string ((rd_T60 l0_2 (ji19)).f2)) ∧ w'.cell? ⟨(ad146.add (((ji19)).toNat * 4)).block, (ad146.add (((ji19)).toNat * 4)).off + 3, none⟩ = some (.int .i64 ((rd_T60 l0_2 (ji19)).f3))) (ds := []) (.replicate 37 false) (by kernel_rfl) rfl rfl ⟨(blk_cell BK147.out 0).trans rfl, (blk_cell BK147.out 1).trans rfl, (blk_cell BK147.out 2).trans rfl, (blk_cell BK147.out 3).trans rfl, (blk_cell BK144.out 0).trans rfl, (blk_cell BK144.out 1).trans rfl, (blk_cell BK144.out 2).trans rfl, (CX HB.out hw151_0), (CX HB.out hw151_1), (CX HB.out hw151_2), (CX HB.out hw151_3)⟩ (fun hHeld => ?_); refine with_tabW spec_HostOk.tab5 spec_HostOk.bits5 (fun HT_ HW_ => ?_)
          generalize w28.drew = w29 at BK144 BK147 HB hx151_0 hx151_1 hx151_2 hx151_3 hHeld ⊢
          refine PH 0 17 HT_.out ?_
          refine TH 1 18 HT_.out HW_.out hHeld ?_
          refine OH 2 (some 19) HT_.out (fun K hK => ?_)
          refine GO Try.func107 #[.int .i64 ((rd_T60 l0_2 x3_1).f0), .int .i64 1, .int .i64 100000] ?_
          with_reducible refine (spec_l01In.calls ((rd_T60 l0_2 x3_1).f0) 1 100000 true _ A5.out).mono ?_
          rintro e w' ⟨rfl, ⟨nd, rfl⟩⟩
          refine ⟨_, rfl, ?_⟩
          refine hK.out _ _ ⟨(blk_cell BK147.out 0).trans rfl, (blk_cell BK147.out 1).trans rfl, (blk_cell BK147.out 2).trans rfl, (blk_cell BK147.out 3).trans rfl, (blk_cell BK144.out 0).trans rfl, (blk_cell BK144.out 1).trans rfl, (blk_cell BK144.out 2).trans rfl, (CX HB.out hw151_0), (CX HB.out hw151_1), (CX HB.out hw151_2), (CX HB.out hw151_3)⟩ (fun hHeld => ?_)
          clear hK K
          refine NM 19 ?_
          refine PH 3 20 HT_.out ?_
          refine PH 4 21 HT_.out ?_
          refine PH 5 22 HT_.out ?_
          refine TH 6 23 HT_.out HW_.out hHeld ?_
          refine OH 7 (some 24) HT_.out (fun K hK => ?_)
          refine GO Try.func107 #[.int .i64 ((rd_T60 l0_2 x3_1).f1), .int .i64 0, .int .i64 5] ?_
          with_reducible refine (spec_l01In.calls ((rd_T60 l0_2 x3_1).f1) 0 5 true _ A7.out).mono ?_
          rintro e w' ⟨rfl, ⟨nd, rfl⟩⟩
          refine ⟨_, rfl, ?_⟩
          refine hK.out _ _ ⟨(blk_cell BK147.out 0).trans rfl, (blk_cell BK147.out 1).trans rfl, (blk_cell BK147.out 2).trans rfl, (blk_cell BK147.out 3).trans rfl, (blk_cell BK144.out 0).trans rfl, (blk_cell BK144.out 1).trans rfl, (blk_cell BK144.out 2).trans rfl, (CX HB.out hw151_0), (CX HB.out hw151_1), (CX HB.out hw151_2), (CX HB.out hw151_3)⟩ (fun hHeld => ?_)
          clear hK K
          refine NM 24 ?_
          refine PH 8 25 HT_.out ?_
          refine PH 9 26 HT_.out ?_
          refine PH 10 27 HT_.out ?_
          refine PH 11 28 HT_.out ?_
          refine TH 12 29 HT_.out HW_.out hHeld ?_
          refine PH 13 30 HT_.out ?_
          refine PH 14 31 HT_.out ?_
          refine PH 15 32 HT_.out ?_
          refine PH 16 33 HT_.out ?_
          refine PH 17 34 HT_.out ?_
          refine TH 18 35 HT_.out HW_.out hHeld ?_
          refine OH 19 (some 36) HT_.out (fun K hK => ?_)
          refine GO Try.func107 #[.int .i64 ((rd_T60 l0_2 x3_1).f3), .int .i64 0, .int .i64 4294967295] ?_
          with_reducible refine (spec_l01In.calls ((rd_T60 l0_2 x3_1).f3) 0 4294967295 true _ A16.out).mono ?_
          rintro e w' ⟨rfl, ⟨nd, rfl⟩⟩
          refine ⟨_, rfl, ?_⟩
          refine hK.out _ _ ⟨(blk_cell BK147.out 0).trans rfl, (blk_cell BK147.out 1).trans rfl, (blk_cell BK147.out 2).trans rfl, (blk_cell BK147.out 3).trans rfl, (blk_cell BK144.out 0).trans rfl, (blk_cell BK144.out 1).trans rfl, (blk_cell BK144.out 2).trans rfl, (CX HB.out hw151_0), (CX HB.out hw151_1), (CX HB.out hw151_2), (CX HB.out hw151_3)⟩ (fun hHeld => ?_)
          clear hK K
          refine NM 36 ?_
          refine PH 20 37 HT_.out ?_
          refine PH 21 38 HT_.out ?_
          refine PH 22 39 HT_.out ?_
          refine PH 23 40 HT_.out ?_
          refine PH 24 41 HT_.out ?_
          refine PH 25 42 HT_.out ?_
          refine PH 26 43 HT_.out ?_
          refine PH 28 45 HT_.out ?_
          refine PH 29 46 HT_.out ?_
          refine TH 27 44 HT_.out HW_.out hHeld ?_
          refine PH 30 47 HT_.out ?_
          refine TH 31 48 HT_.out HW_.out hHeld ?_
          refine TH 32 49 HT_.out HW_.out hHeld ?_
          refine OH 33 (some 50) HT_.out (fun K hK => ?_)
          refine goes_ Try.func81 (by kernel_rfl) rfl #[.agg #[.int .i64 ((rd_T60 l0_2 (ji19)).f0), .int .i64 ((rd_T60 l0_2 (ji19)).f1), .string ((rd_T60 l0_2 (ji19)).f2), .int .i64 ((rd_T60 l0_2 (ji19)).f3)], .agg #[.int .i64 ((rd_T60 l0_2 x3_1).f0), .int .i64 ((rd_T60 l0_2 x3_1).f1), .string ((rd_T60 l0_2 x3_1).f2), .int .i64 ((rd_T60 l0_2 x3_1).f3)]] (by rfl) rfl rfl (by (try simp only [List.map_toArray, List.map_cons, List.map_nil]); first | done | (simp only [hji19]; rfl) | rfl | (simp only [List.length_drop, List.length_take]; rfl)) ?_
          with_reducible refine (spec_l14Ahead.calls ((rd_T60 l0_2 (ji19)).f0) ((rd_T60 l0_2 (ji19)).f1) ((rd_T60 l0_2 (ji19)).f2) ((rd_T60 l0_2 (ji19)).f3) ((rd_T60 l0_2 x3_1).f0) ((rd_T60 l0_2 x3_1).f1) ((rd_T60 l0_2 x3_1).f2) ((rd_T60 l0_2 x3_1).f3) true _ A22.out).mono ?_
          rintro e w30 ⟨rfl, hb⟩
          refine ⟨_, rfl, ?_⟩
          replace BK144 := AM (KB BK144.out hb); replace BK147 := AM (KB BK147.out hb); replace HB := AM (below_step (BB2 HB.out GE144.out GE147.out) hb)
          (try clear hb)
          (try clear hb2)
          (try clear hk)
          (try clear hi)
          refine hK.out _ _ ⟨(blk_cell BK147.out 0).trans rfl, (blk_cell BK147.out 1).trans rfl, (blk_cell BK147.out 2).trans rfl, (blk_cell BK147.out 3).trans rfl, (blk_cell BK144.out 0).trans rfl, (blk_cell BK144.out 1).trans rfl, (blk_cell BK144.out 2).trans rfl, (CX HB.out hw151_0), (CX HB.out hw151_1), (CX HB.out hw151_2), (CX HB.out hw151_3)⟩ (fun hHeld => ?_)
          clear hK K
          refine NM 50 ?_
          refine PH 34 51 HT_.out ?_
          refine PH 35 52 HT_.out ?_
          refine PH 36 53 HT_.out ?_
          refine done_ (done_of HT_.out (by kernel_rfl)) ?_
          try go_wp2
          go_roundg k1
          case measure => have := HK1.out; omega
          case rel => exact ⟨(wrap64 (x3_1 + 1)), FR, H', ⟨by have := HK1.out; omega⟩, ⟨by refine BD ?_; exact BK144.out⟩, ⟨(BB2 HB.out GE144.out GE147.out)⟩⟩
         ·replace c23 := Bool.eq_false_iff.mpr c23
          subst c23
          have H1 : (some false) = some r := by rw [if_neg (show ¬ (false = true) by decide)] at H; exact H
          clear H
          have H := H1
          clear H1
          obtain rfl := Option.some.inj H
          have hcz31 := blk_cell BK144.out
          have hcz31_1 : wr.cell? ⟨gb144, 1, none⟩ = some (.bool a0_1) := (blk_cell BK144.out 1).trans rfl
          have hcz31_2 : wr.cell? ⟨gb144, 2, none⟩ = some (.slice A0_2 l0_2.length c0_2) := (blk_cell BK144.out 2).trans rfl
          have hfz31 := blk_frozen BK144.out
          have hfz31_1 := blk_frozen BK144.out 1
          have hfz31_2 := blk_frozen BK144.out 2
          have p146 : 0 ≤ (x3_1 : Int) := DT
          have q146 : x3_1 < (l0_2.length : Int) := DT
          obtain ⟨ad146, e146, hx146_0, hx146_1, hx146_2, hx146_3⟩ := at_T60 HR0_2.out x3_1 p146 q146
          cases e146
          replace hx146_0 := CX HB.out hx146_0
          replace hx146_1 := CX HB.out hx146_1
          replace hx146_2 := CX HB.out hx146_2
          replace hx146_3 := CX HB.out hx146_3
          replace p146 := eq_true p146
          replace q146 := eq_true q146
          try go_wp2_with (first | ((with_reducible refine gate_dst (N := 4) rfl ?_); (try (refine gate_guard (by rfl) ?_; dsimp only)); refine BX 4 #[.int .i64 0, .int .i64 0, .string (⟨#[]⟩ : ByteArray), .int .i64 0] 60 ?_; intro gb147 hg w32 hbox hb; have BK147 := AM (hbox); have GW147 : Aside0 (w.heap.size ≤ gb147) := WG hg (BB1 HB.out GE144.out); have GE147 := GW147; have NB144_147 := NL BK144.out hg; have NB147_144 := NG BK144.out hg; replace BK144 := AM (KB BK144.out hb); replace HB := AM (below_step (BB1 HB.out GE144.out) hb); clear hb hbox hg; have hnb33 := NB147_144.out; have hnc33 := NB144_147.out; have hcz34 := blk_cell BK147.out; have hfz34 := blk_frozen BK147.out))
          obtain ⟨w35, hw_⟩ : ∃ w_, w_ = ((((w32.setCell ⟨gb147, 0, none⟩ (.int .i64 ((rd_T60 l0_2 x3_1).f0))).setCell ⟨gb147, 1, none⟩ (.int .i64 ((rd_T60 l0_2 x3_1).f1))).setCell ⟨gb147, 2, none⟩ (.string ((rd_T60 l0_2 x3_1).f2))).setCell ⟨gb147, 3, none⟩ (.int .i64 ((rd_T60 l0_2 x3_1).f3))) := ⟨_, rfl⟩
          rw [← hw_]
          have n0_ : Aside0 (w35.heap[gb144]? = some (.cells #[.int .i64 a0_0, .bool a0_1, .slice (some ad146) l0_2.length c0_2] 35 (0, 0))) := ⟨by rw [hw_]; refine BD ?_; refine blk_far ?_ NB144_147.out _; refine BD ?_; refine blk_far ?_ NB144_147.out _; refine BD ?_; refine blk_far ?_ NB144_147.out _; refine BD ?_; refine blk_far ?_ NB144_147.out _; refine BD ?_; exact BK144.out⟩
          have n1_ : Aside0 (w35.heap[gb147]? = some (.cells #[.int .i64 ((rd_T60 l0_2 x3_1).f0), .int .i64 ((rd_T60 l0_2 x3_1).f1), .string ((rd_T60 l0_2 x3_1).f2), .int .i64 ((rd_T60 l0_2 x3_1).f3)] 60 (0, 0))) := ⟨by rw [hw_]; refine BD ?_; refine blk_put (cs := #[.int .i64 ((rd_T60 l0_2 x3_1).f0), .int .i64 ((rd_T60 l0_2 x3_1).f1), .string ((rd_T60 l0_2 x3_1).f2), .int .i64 0]) ?_ 3 _ rfl; refine BD ?_; refine blk_put (cs := #[.int .i64 ((rd_T60 l0_2 x3_1).f0), .int .i64 ((rd_T60 l0_2 x3_1).f1), .string (⟨#[]⟩ : ByteArray), .int .i64 0]) ?_ 2 _ rfl; refine BD ?_; refine blk_put (cs := #[.int .i64 ((rd_T60 l0_2 x3_1).f0), .int .i64 0, .string (⟨#[]⟩ : ByteArray), .int .i64 0]) ?_ 1 _ rfl; refine BD ?_; refine blk_put (cs := #[.int .i64 0, .int .i64 0, .string (⟨#[]⟩ : ByteArray), .int .i64 0]) ?_ 0 _ rfl; refine BD ?_; exact BK147.out⟩
          have n2_ : Aside0 (Below w.heap.size w w35) := ⟨by rw [hw_]; exact (BB2 HB.out GE144.out GE147.out)⟩
          (try clear BK144)
          (try clear BK147)
          (try clear HB)
          clear hw_
          have BK144 := n0_
          have BK147 := n1_
          have HB := n2_
          clear n0_ n1_ n2_
          replace BK144 := AM (blk_drew BK144.out); replace BK147 := AM (blk_drew BK147.out); replace HB := AM (below_drew1 HB.out)
          have p151 : 0 ≤ ((ji19) : Int) := DT
          have q151 : (ji19) < (l0_2.length : Int) := DT
          obtain ⟨ad151, e151, hx151_0, hx151_1, hx151_2, hx151_3⟩ := at_T60 HR0_2.out (ji19) p151 q151
          have hw151_3 := hx151_3
          have hw151_2 := hx151_2
          have hw151_1 := hx151_1
          have hw151_0 := hx151_0
          obtain rfl : ad146 = ad151 := (by injection e151)
          replace hx151_0 := CX HB.out hx151_0
          replace hx151_1 := CX HB.out hx151_1
          replace hx151_2 := CX HB.out hx151_2
          replace hx151_3 := CX HB.out hx151_3
          replace p151 := eq_true p151
          replace q151 := eq_true q151
          refine start_ (n := 37) (S := fun w' => w'.cell? ⟨gb147, 0, none⟩ = some (.int .i64 ((rd_T60 l0_2 x3_1).f0)) ∧ w'.cell? ⟨gb147, 1, none⟩ = some (.int .i64 ((rd_T60 l0_2 x3_1).f1)) ∧ w'.cell? ⟨gb147, 2, none⟩ = some (.string ((rd_T60 l0_2 x3_1).f2)) ∧ w'.cell? ⟨gb147, 3, none⟩ = some (.int .i64 ((rd_T60 l0_2 x3_1).f3)) ∧ w'.cell? ⟨gb144, 0, none⟩ = some (.int .i64 a0_0) ∧ w'.cell? ⟨gb144, 1, none⟩ = some (.bool a0_1) ∧ w'.cell? ⟨gb144, 2, none⟩ = some (.slice (some ad146) l0_2.length c0_2) ∧ w'.cell? (ad146.add (((ji19)).toNat * 4)) = some (.int .i64 ((rd_T60 l0_2 (ji19)).f0)) ∧ w'.cell? ⟨(ad146.add (((ji19)).toNat * 4)).block, (ad146.add (((ji19)).toNat * 4)).off + 1, none⟩ = some (.int .i64 ((rd_T60 l0_2 (ji19)).f1)) ∧ w'.cell? ⟨(ad146.add (((ji19)).toNat * 4)).block, (ad146.add (((ji19)).toNat * 4)).off + 2, none⟩ = some (.string ((rd_T60 l0_2 (ji19)).f2)) ∧ w'.cell? ⟨(ad146.add (((ji19)).toNat * 4)).block, (ad146.add (((ji19)).toNat * 4)).off + 3, none⟩ = some (.int .i64 ((rd_T60 l0_2 (ji19)).f3))) (ds := []) (.replicate 37 false) (by kernel_rfl) rfl rfl ⟨(blk_cell BK147.out 0).trans rfl, (blk_cell BK147.out 1).trans rfl, (blk_cell BK147.out 2).trans rfl, (blk_cell BK147.out 3).trans rfl, (blk_cell BK144.out 0).trans rfl, (blk_cell BK144.out 1).trans rfl, (blk_cell BK144.out 2).trans rfl, (CX HB.out hw151_0), (CX HB.out hw151_1), (CX HB.out hw151_2), (CX HB.out hw151_3)⟩ (fun hHeld => ?_); refine with_tabW spec_HostOk.tab5 spec_HostOk.bits5 (fun HT_ HW_ => ?_)
          generalize w35.drew = w36 at BK144 BK147 HB hx151_0 hx151_1 hx151_2 hx151_3 hHeld ⊢
          refine PH 0 17 HT_.out ?_
          refine TH 1 18 HT_.out HW_.out hHeld ?_
          refine OH 2 (some 19) HT_.out (fun K hK => ?_)
          refine GO Try.func107 #[.int .i64 ((rd_T60 l0_2 x3_1).f0), .int .i64 1, .int .i64 100000] ?_
          with_reducible refine (spec_l01In.calls ((rd_T60 l0_2 x3_1).f0) 1 100000 true _ A5.out).mono ?_
          rintro e w' ⟨rfl, ⟨nd, rfl⟩⟩
          refine ⟨_, rfl, ?_⟩
          refine hK.out _ _ ⟨(blk_cell BK147.out 0).trans rfl, (blk_cell BK147.out 1).trans rfl, (blk_cell BK147.out 2).trans rfl, (blk_cell BK147.out 3).trans rfl, (blk_cell BK144.out 0).trans rfl, (blk_cell BK144.out 1).trans rfl, (blk_cell BK144.out 2).trans rfl, (CX HB.out hw151_0), (CX HB.out hw151_1), (CX HB.out hw151_2), (CX HB.out hw151_3)⟩ (fun hHeld => ?_)
          clear hK K
          refine NM 19 ?_
          refine PH 3 20 HT_.out ?_
          refine PH 4 21 HT_.out ?_
          refine PH 5 22 HT_.out ?_
          refine TH 6 23 HT_.out HW_.out hHeld ?_
          refine OH 7 (some 24) HT_.out (fun K hK => ?_)
          refine GO Try.func107 #[.int .i64 ((rd_T60 l0_2 x3_1).f1), .int .i64 0, .int .i64 5] ?_
          with_reducible refine (spec_l01In.calls ((rd_T60 l0_2 x3_1).f1) 0 5 true _ A7.out).mono ?_
          rintro e w' ⟨rfl, ⟨nd, rfl⟩⟩
          refine ⟨_, rfl, ?_⟩
          refine hK.out _ _ ⟨(blk_cell BK147.out 0).trans rfl, (blk_cell BK147.out 1).trans rfl, (blk_cell BK147.out 2).trans rfl, (blk_cell BK147.out 3).trans rfl, (blk_cell BK144.out 0).trans rfl, (blk_cell BK144.out 1).trans rfl, (blk_cell BK144.out 2).trans rfl, (CX HB.out hw151_0), (CX HB.out hw151_1), (CX HB.out hw151_2), (CX HB.out hw151_3)⟩ (fun hHeld => ?_)
          clear hK K
          refine NM 24 ?_
          refine PH 8 25 HT_.out ?_
          refine PH 9 26 HT_.out ?_
          refine PH 10 27 HT_.out ?_
          refine PH 11 28 HT_.out ?_
          refine TH 12 29 HT_.out HW_.out hHeld ?_
          refine PH 13 30 HT_.out ?_
          refine PH 14 31 HT_.out ?_
          refine PH 15 32 HT_.out ?_
          refine PH 16 33 HT_.out ?_
          refine PH 17 34 HT_.out ?_
          refine TH 18 35 HT_.out HW_.out hHeld ?_
          refine OH 19 (some 36) HT_.out (fun K hK => ?_)
          refine GO Try.func107 #[.int .i64 ((rd_T60 l0_2 x3_1).f3), .int .i64 0, .int .i64 4294967295] ?_
          with_reducible refine (spec_l01In.calls ((rd_T60 l0_2 x3_1).f3) 0 4294967295 true _ A16.out).mono ?_
          rintro e w' ⟨rfl, ⟨nd, rfl⟩⟩
          refine ⟨_, rfl, ?_⟩
          refine hK.out _ _ ⟨(blk_cell BK147.out 0).trans rfl, (blk_cell BK147.out 1).trans rfl, (blk_cell BK147.out 2).trans rfl, (blk_cell BK147.out 3).trans rfl, (blk_cell BK144.out 0).trans rfl, (blk_cell BK144.out 1).trans rfl, (blk_cell BK144.out 2).trans rfl, (CX HB.out hw151_0), (CX HB.out hw151_1), (CX HB.out hw151_2), (CX HB.out hw151_3)⟩ (fun hHeld => ?_)
          clear hK K
          refine NM 36 ?_
          refine PH 20 37 HT_.out ?_
          refine PH 21 38 HT_.out ?_
          refine PH 22 39 HT_.out ?_
          refine PH 23 40 HT_.out ?_
          refine PH 24 41 HT_.out ?_
          refine PH 25 42 HT_.out ?_
          refine PH 26 43 HT_.out ?_
          refine PH 28 45 HT_.out ?_
          refine PH 29 46 HT_.out ?_
          refine TH 27 44 HT_.out HW_.out hHeld ?_
          refine PH 30 47 HT_.out ?_
          refine TH 31 48 HT_.out HW_.out hHeld ?_
          refine TH 32 49 HT_.out HW_.out hHeld ?_
          refine OH 33 (some 50) HT_.out (fun K hK => ?_)
          refine goes_ Try.func81 (by kernel_rfl) rfl #[.agg #[.int .i64 ((rd_T60 l0_2 (ji19)).f0), .int .i64 ((rd_T60 l0_2 (ji19)).f1), .string ((rd_T60 l0_2 (ji19)).f2), .int .i64 ((rd_T60 l0_2 (ji19)).f3)], .agg #[.int .i64 ((rd_T60 l0_2 x3_1).f0), .int .i64 ((rd_T60 l0_2 x3_1).f1), .string ((rd_T60 l0_2 x3_1).f2), .int .i64 ((rd_T60 l0_2 x3_1).f3)]] (by rfl) rfl rfl (by (try simp only [List.map_toArray, List.map_cons, List.map_nil]); first | done | (simp only [hji19]; rfl) | rfl | (simp only [List.length_drop, List.length_take]; rfl)) ?_
          with_reducible refine (spec_l14Ahead.calls ((rd_T60 l0_2 (ji19)).f0) ((rd_T60 l0_2 (ji19)).f1) ((rd_T60 l0_2 (ji19)).f2) ((rd_T60 l0_2 (ji19)).f3) ((rd_T60 l0_2 x3_1).f0) ((rd_T60 l0_2 x3_1).f1) ((rd_T60 l0_2 x3_1).f2) ((rd_T60 l0_2 x3_1).f3) false _ A22.out).mono ?_
          rintro e w37 ⟨rfl, hb⟩
          refine ⟨_, rfl, ?_⟩
          replace BK144 := AM (KB BK144.out hb); replace BK147 := AM (KB BK147.out hb); replace HB := AM (below_step (BB2 HB.out GE144.out GE147.out) hb)
          (try clear hb)
          (try clear hb2)
          (try clear hk)
          (try clear hi)
          refine hK.out _ _ ⟨(blk_cell BK147.out 0).trans rfl, (blk_cell BK147.out 1).trans rfl, (blk_cell BK147.out 2).trans rfl, (blk_cell BK147.out 3).trans rfl, (blk_cell BK144.out 0).trans rfl, (blk_cell BK144.out 1).trans rfl, (blk_cell BK144.out 2).trans rfl, (CX HB.out hw151_0), (CX HB.out hw151_1), (CX HB.out hw151_2), (CX HB.out hw151_3)⟩ (fun hHeld => ?_)
          clear hK K
          refine NM 50 ?_
          refine PH 34 51 HT_.out ?_
          refine PH 35 52 HT_.out ?_
          refine PH 36 53 HT_.out ?_
          refine done_ (done_of HT_.out (by kernel_rfl)) ?_
          try go_wp2
          go_ret
          exact ⟨by first | rfl | (simp [errW_none, errW_some] <;> rfl) | (simp only [← hji19]; first | rfl | (simp [errW_none, errW_some] <;> rfl)) | (simp [*, errW_none, errW_some] <;> rfl), (BB2 HB.out GE144.out GE147.out)⟩
        ·rw [if_neg c18] at H
         have c18b0 := decide_eq_false c18
         clear c18
         have H' := AM H
         clear H
         have hcz38 := blk_cell BK144.out
         have hcz38_1 : wr.cell? ⟨gb144, 1, none⟩ = some (.bool a0_1) := (blk_cell BK144.out 1).trans rfl
         have hcz38_2 : wr.cell? ⟨gb144, 2, none⟩ = some (.slice A0_2 l0_2.length c0_2) := (blk_cell BK144.out 2).trans rfl
         have hfz38 := blk_frozen BK144.out
         have hfz38_1 := blk_frozen BK144.out 1
         have hfz38_2 := blk_frozen BK144.out 2
         have p146 : 0 ≤ (x3_1 : Int) := DT
         have q146 : x3_1 < (l0_2.length : Int) := DT
         obtain ⟨ad146, e146, hx146_0, hx146_1, hx146_2, hx146_3⟩ := at_T60 HR0_2.out x3_1 p146 q146
         cases e146
         replace hx146_0 := CX HB.out hx146_0
         replace hx146_1 := CX HB.out hx146_1
         replace hx146_2 := CX HB.out hx146_2
         replace hx146_3 := CX HB.out hx146_3
         replace p146 := eq_true p146
         replace q146 := eq_true q146
         try go_wp2_with (first | ((with_reducible refine gate_dst (N := 4) rfl ?_); (try (refine gate_guard (by rfl) ?_; dsimp only)); refine BX 4 #[.int .i64 0, .int .i64 0, .string (⟨#[]⟩ : ByteArray), .int .i64 0] 60 ?_; intro gb147 hg w39 hbox hb; have BK147 := AM (hbox); have GW147 : Aside0 (w.heap.size ≤ gb147) := WG hg (BB1 HB.out GE144.out); have GE147 := GW147; have NB144_147 := NL BK144.out hg; have NB147_144 := NG BK144.out hg; replace BK144 := AM (KB BK144.out hb); replace HB := AM (below_step (BB1 HB.out GE144.out) hb); clear hb hbox hg; have hnb40 := NB147_144.out; have hnc40 := NB144_147.out; have hcz41 := blk_cell BK147.out; have hfz41 := blk_frozen BK147.out))
         obtain ⟨w42, hw_⟩ : ∃ w_, w_ = ((((w39.setCell ⟨gb147, 0, none⟩ (.int .i64 ((rd_T60 l0_2 x3_1).f0))).setCell ⟨gb147, 1, none⟩ (.int .i64 ((rd_T60 l0_2 x3_1).f1))).setCell ⟨gb147, 2, none⟩ (.string ((rd_T60 l0_2 x3_1).f2))).setCell ⟨gb147, 3, none⟩ (.int .i64 ((rd_T60 l0_2 x3_1).f3))) := ⟨_, rfl⟩
         rw [← hw_]
         have n0_ : Aside0 (w42.heap[gb144]? = some (.cells #[.int .i64 a0_0, .bool a0_1, .slice (some ad146) l0_2.length c0_2] 35 (0, 0))) := ⟨by rw [hw_]; refine BD ?_; refine blk_far ?_ NB144_147.out _; refine BD ?_; refine blk_far ?_ NB144_147.out _; refine BD ?_; refine blk_far ?_ NB144_147.out _; refine BD ?_; refine blk_far ?_ NB144_147.out _; refine BD ?_; exact BK144.out⟩
         have n1_ : Aside0 (w42.heap[gb147]? = some (.cells #[.int .i64 ((rd_T60 l0_2 x3_1).f0), .int .i64 ((rd_T60 l0_2 x3_1).f1), .string ((rd_T60 l0_2 x3_1).f2), .int .i64 ((rd_T60 l0_2 x3_1).f3)] 60 (0, 0))) := ⟨by rw [hw_]; refine BD ?_; refine blk_put (cs := #[.int .i64 ((rd_T60 l0_2 x3_1).f0), .int .i64 ((rd_T60 l0_2 x3_1).f1), .string ((rd_T60 l0_2 x3_1).f2), .int .i64 0]) ?_ 3 _ rfl; refine BD ?_; refine blk_put (cs := #[.int .i64 ((rd_T60 l0_2 x3_1).f0), .int .i64 ((rd_T60 l0_2 x3_1).f1), .string (⟨#[]⟩ : ByteArray), .int .i64 0]) ?_ 2 _ rfl; refine BD ?_; refine blk_put (cs := #[.int .i64 ((rd_T60 l0_2 x3_1).f0), .int .i64 0, .string (⟨#[]⟩ : ByteArray), .int .i64 0]) ?_ 1 _ rfl; refine BD ?_; refine blk_put (cs := #[.int .i64 0, .int .i64 0, .string (⟨#[]⟩ : ByteArray), .int .i64 0]) ?_ 0 _ rfl; refine BD ?_; exact BK147.out⟩
         have n2_ : Aside0 (Below w.heap.size w w42) := ⟨by rw [hw_]; exact (BB2 HB.out GE144.out GE147.out)⟩
         (try clear BK144)
         (try clear BK147)
         (try clear HB)
         clear hw_
         have BK144 := n0_
         have BK147 := n1_
         have HB := n2_
         clear n0_ n1_ n2_
         replace BK144 := AM (blk_drew BK144.out); replace BK147 := AM (blk_drew BK147.out); replace HB := AM (below_drew1 HB.out)
         refine start_ (n := 37) (S := fun w' => w'.cell? ⟨gb147, 0, none⟩ = some (.int .i64 ((rd_T60 l0_2 x3_1).f0)) ∧ w'.cell? ⟨gb147, 1, none⟩ = some (.int .i64 ((rd_T60 l0_2 x3_1).f1)) ∧ w'.cell? ⟨gb147, 2, none⟩ = some (.string ((rd_T60 l0_2 x3_1).f2)) ∧ w'.cell? ⟨gb147, 3, none⟩ = some (.int .i64 ((rd_T60 l0_2 x3_1).f3))) (ds := []) (.replicate 37 false) (by kernel_rfl) rfl rfl ⟨(blk_cell BK147.out 0).trans rfl, (blk_cell BK147.out 1).trans rfl, (blk_cell BK147.out 2).trans rfl, (blk_cell BK147.out 3).trans rfl⟩ (fun hHeld => ?_); refine with_tabW spec_HostOk.tab5 spec_HostOk.bits5 (fun HT_ HW_ => ?_)
         generalize w42.drew = w43 at BK144 BK147 HB hHeld ⊢
         refine PH 0 17 HT_.out ?_
         refine TH 1 18 HT_.out HW_.out hHeld ?_
         refine OH 2 (some 19) HT_.out (fun K hK => ?_)
         refine GO Try.func107 #[.int .i64 ((rd_T60 l0_2 x3_1).f0), .int .i64 1, .int .i64 100000] ?_
         with_reducible refine (spec_l01In.calls ((rd_T60 l0_2 x3_1).f0) 1 100000 true _ A5.out).mono ?_
         rintro e w' ⟨rfl, ⟨nd, rfl⟩⟩
         refine ⟨_, rfl, ?_⟩
         refine hK.out _ _ ⟨(blk_cell BK147.out 0).trans rfl, (blk_cell BK147.out 1).trans rfl, (blk_cell BK147.out 2).trans rfl, (blk_cell BK147.out 3).trans rfl⟩ (fun hHeld => ?_)
         clear hK K
         refine NM 19 ?_
         refine PH 3 20 HT_.out ?_
         refine PH 4 21 HT_.out ?_
         refine PH 5 22 HT_.out ?_
         refine TH 6 23 HT_.out HW_.out hHeld ?_
         refine OH 7 (some 24) HT_.out (fun K hK => ?_)
         refine GO Try.func107 #[.int .i64 ((rd_T60 l0_2 x3_1).f1), .int .i64 0, .int .i64 5] ?_
         with_reducible refine (spec_l01In.calls ((rd_T60 l0_2 x3_1).f1) 0 5 true _ A7.out).mono ?_
         rintro e w' ⟨rfl, ⟨nd, rfl⟩⟩
         refine ⟨_, rfl, ?_⟩
         refine hK.out _ _ ⟨(blk_cell BK147.out 0).trans rfl, (blk_cell BK147.out 1).trans rfl, (blk_cell BK147.out 2).trans rfl, (blk_cell BK147.out 3).trans rfl⟩ (fun hHeld => ?_)
         clear hK K
         refine NM 24 ?_
         refine PH 8 25 HT_.out ?_
         refine PH 9 26 HT_.out ?_
         refine PH 10 27 HT_.out ?_
         refine PH 11 28 HT_.out ?_
         refine TH 12 29 HT_.out HW_.out hHeld ?_
         refine PH 13 30 HT_.out ?_
         refine PH 14 31 HT_.out ?_
         refine PH 15 32 HT_.out ?_
         refine PH 16 33 HT_.out ?_
         refine PH 17 34 HT_.out ?_
         refine TH 18 35 HT_.out HW_.out hHeld ?_
         refine OH 19 (some 36) HT_.out (fun K hK => ?_)
         refine GO Try.func107 #[.int .i64 ((rd_T60 l0_2 x3_1).f3), .int .i64 0, .int .i64 4294967295] ?_
         with_reducible refine (spec_l01In.calls ((rd_T60 l0_2 x3_1).f3) 0 4294967295 true _ A16.out).mono ?_
         rintro e w' ⟨rfl, ⟨nd, rfl⟩⟩
         refine ⟨_, rfl, ?_⟩
         refine hK.out _ _ ⟨(blk_cell BK147.out 0).trans rfl, (blk_cell BK147.out 1).trans rfl, (blk_cell BK147.out 2).trans rfl, (blk_cell BK147.out 3).trans rfl⟩ (fun hHeld => ?_)
         clear hK K
         refine NM 36 ?_
         refine PH 20 37 HT_.out ?_
         refine PH 21 38 HT_.out ?_
         refine PH 22 39 HT_.out ?_
         refine PH 23 40 HT_.out ?_
         refine PH 24 41 HT_.out ?_
         refine PH 25 42 HT_.out ?_
         refine PO 26 43 HT_.out ?_
         refine PO 27 44 HT_.out ?_
         refine PO 28 45 HT_.out ?_
         refine PO 29 46 HT_.out ?_
         refine PO 30 47 HT_.out ?_
         refine PO 31 48 HT_.out ?_
         refine PO 32 49 HT_.out ?_
         refine PO 33 50 HT_.out ?_
         refine PO 34 51 HT_.out ?_
         refine PH 35 52 HT_.out ?_
         refine PH 36 53 HT_.out ?_
         refine done_ (done_of HT_.out (by kernel_rfl)) ?_
         try go_wp2
         go_roundg k1
         case measure => have := HK1.out; omega
         case rel => exact ⟨(wrap64 (x3_1 + 1)), FR, H', ⟨by have := HK1.out; omega⟩, ⟨by refine BD ?_; exact BK144.out⟩, ⟨(BB2 HB.out GE144.out GE147.out)⟩⟩
       ·replace c17 := Bool.eq_false_iff.mpr c17
        subst c17
        have H1 : (some false) = some r := by rw [if_neg (show ¬ (false = true) by decide)] at H; exact H
        clear H
        have H := H1
        clear H1
        obtain rfl := Option.some.inj H
        have hcz44 := blk_cell BK144.out
        have hcz44_1 : wr.cell? ⟨gb144, 1, none⟩ = some (.bool a0_1) := (blk_cell BK144.out 1).trans rfl
        have hcz44_2 : wr.cell? ⟨gb144, 2, none⟩ = some (.slice A0_2 l0_2.length c0_2) := (blk_cell BK144.out 2).trans rfl
        have hfz44 := blk_frozen BK144.out
        have hfz44_1 := blk_frozen BK144.out 1
        have hfz44_2 := blk_frozen BK144.out 2
        have p146 : 0 ≤ (x3_1 : Int) := DT
        have q146 : x3_1 < (l0_2.length : Int) := DT
        obtain ⟨ad146, e146, hx146_0, hx146_1, hx146_2, hx146_3⟩ := at_T60 HR0_2.out x3_1 p146 q146
        cases e146
        replace hx146_0 := CX HB.out hx146_0
        replace hx146_1 := CX HB.out hx146_1
        replace hx146_2 := CX HB.out hx146_2
        replace hx146_3 := CX HB.out hx146_3
        replace p146 := eq_true p146
        replace q146 := eq_true q146
        try go_wp2_with (first | ((with_reducible refine gate_dst (N := 4) rfl ?_); (try (refine gate_guard (by rfl) ?_; dsimp only)); refine BX 4 #[.int .i64 0, .int .i64 0, .string (⟨#[]⟩ : ByteArray), .int .i64 0] 60 ?_; intro gb147 hg w45 hbox hb; have BK147 := AM (hbox); have GW147 : Aside0 (w.heap.size ≤ gb147) := WG hg (BB1 HB.out GE144.out); have GE147 := GW147; have NB144_147 := NL BK144.out hg; have NB147_144 := NG BK144.out hg; replace BK144 := AM (KB BK144.out hb); replace HB := AM (below_step (BB1 HB.out GE144.out) hb); clear hb hbox hg; have hnb46 := NB147_144.out; have hnc46 := NB144_147.out; have hcz47 := blk_cell BK147.out; have hfz47 := blk_frozen BK147.out))
        obtain ⟨w48, hw_⟩ : ∃ w_, w_ = ((((w45.setCell ⟨gb147, 0, none⟩ (.int .i64 ((rd_T60 l0_2 x3_1).f0))).setCell ⟨gb147, 1, none⟩ (.int .i64 ((rd_T60 l0_2 x3_1).f1))).setCell ⟨gb147, 2, none⟩ (.string ((rd_T60 l0_2 x3_1).f2))).setCell ⟨gb147, 3, none⟩ (.int .i64 ((rd_T60 l0_2 x3_1).f3))) := ⟨_, rfl⟩
        rw [← hw_]
        have n0_ : Aside0 (w48.heap[gb144]? = some (.cells #[.int .i64 a0_0, .bool a0_1, .slice (some ad146) l0_2.length c0_2] 35 (0, 0))) := ⟨by rw [hw_]; refine BD ?_; refine blk_far ?_ NB144_147.out _; refine BD ?_; refine blk_far ?_ NB144_147.out _; refine BD ?_; refine blk_far ?_ NB144_147.out _; refine BD ?_; refine blk_far ?_ NB144_147.out _; refine BD ?_; exact BK144.out⟩
        have n1_ : Aside0 (w48.heap[gb147]? = some (.cells #[.int .i64 ((rd_T60 l0_2 x3_1).f0), .int .i64 ((rd_T60 l0_2 x3_1).f1), .string ((rd_T60 l0_2 x3_1).f2), .int .i64 ((rd_T60 l0_2 x3_1).f3)] 60 (0, 0))) := ⟨by rw [hw_]; refine BD ?_; refine blk_put (cs := #[.int .i64 ((rd_T60 l0_2 x3_1).f0), .int .i64 ((rd_T60 l0_2 x3_1).f1), .string ((rd_T60 l0_2 x3_1).f2), .int .i64 0]) ?_ 3 _ rfl; refine BD ?_; refine blk_put (cs := #[.int .i64 ((rd_T60 l0_2 x3_1).f0), .int .i64 ((rd_T60 l0_2 x3_1).f1), .string (⟨#[]⟩ : ByteArray), .int .i64 0]) ?_ 2 _ rfl; refine BD ?_; refine blk_put (cs := #[.int .i64 ((rd_T60 l0_2 x3_1).f0), .int .i64 0, .string (⟨#[]⟩ : ByteArray), .int .i64 0]) ?_ 1 _ rfl; refine BD ?_; refine blk_put (cs := #[.int .i64 0, .int .i64 0, .string (⟨#[]⟩ : ByteArray), .int .i64 0]) ?_ 0 _ rfl; refine BD ?_; exact BK147.out⟩
        have n2_ : Aside0 (Below w.heap.size w w48) := ⟨by rw [hw_]; exact (BB2 HB.out GE144.out GE147.out)⟩
        (try clear BK144)
        (try clear BK147)
        (try clear HB)
        clear hw_
        have BK144 := n0_
        have BK147 := n1_
        have HB := n2_
        clear n0_ n1_ n2_
        replace BK144 := AM (blk_drew BK144.out); replace BK147 := AM (blk_drew BK147.out); replace HB := AM (below_drew1 HB.out)
        refine start_ (n := 37) (S := fun w' => w'.cell? ⟨gb147, 0, none⟩ = some (.int .i64 ((rd_T60 l0_2 x3_1).f0)) ∧ w'.cell? ⟨gb147, 1, none⟩ = some (.int .i64 ((rd_T60 l0_2 x3_1).f1)) ∧ w'.cell? ⟨gb147, 2, none⟩ = some (.string ((rd_T60 l0_2 x3_1).f2)) ∧ w'.cell? ⟨gb147, 3, none⟩ = some (.int .i64 ((rd_T60 l0_2 x3_1).f3))) (ds := []) (.replicate 37 false) (by kernel_rfl) rfl rfl ⟨(blk_cell BK147.out 0).trans rfl, (blk_cell BK147.out 1).trans rfl, (blk_cell BK147.out 2).trans rfl, (blk_cell BK147.out 3).trans rfl⟩ (fun hHeld => ?_); refine with_tabW spec_HostOk.tab5 spec_HostOk.bits5 (fun HT_ HW_ => ?_)
        generalize w48.drew = w49 at BK144 BK147 HB hHeld ⊢
        refine PH 0 17 HT_.out ?_
        refine TH 1 18 HT_.out HW_.out hHeld ?_
        refine OH 2 (some 19) HT_.out (fun K hK => ?_)
        refine GO Try.func107 #[.int .i64 ((rd_T60 l0_2 x3_1).f0), .int .i64 1, .int .i64 100000] ?_
        with_reducible refine (spec_l01In.calls ((rd_T60 l0_2 x3_1).f0) 1 100000 true _ A5.out).mono ?_
        rintro e w' ⟨rfl, ⟨nd, rfl⟩⟩
        refine ⟨_, rfl, ?_⟩
        refine hK.out _ _ ⟨(blk_cell BK147.out 0).trans rfl, (blk_cell BK147.out 1).trans rfl, (blk_cell BK147.out 2).trans rfl, (blk_cell BK147.out 3).trans rfl⟩ (fun hHeld => ?_)
        clear hK K
        refine NM 19 ?_
        refine PH 3 20 HT_.out ?_
        refine PH 4 21 HT_.out ?_
        refine PH 5 22 HT_.out ?_
        refine TH 6 23 HT_.out HW_.out hHeld ?_
        refine OH 7 (some 24) HT_.out (fun K hK => ?_)
        refine GO Try.func107 #[.int .i64 ((rd_T60 l0_2 x3_1).f1), .int .i64 0, .int .i64 5] ?_
        with_reducible refine (spec_l01In.calls ((rd_T60 l0_2 x3_1).f1) 0 5 true _ A7.out).mono ?_
        rintro e w' ⟨rfl, ⟨nd, rfl⟩⟩
        refine ⟨_, rfl, ?_⟩
        refine hK.out _ _ ⟨(blk_cell BK147.out 0).trans rfl, (blk_cell BK147.out 1).trans rfl, (blk_cell BK147.out 2).trans rfl, (blk_cell BK147.out 3).trans rfl⟩ (fun hHeld => ?_)
        clear hK K
        refine NM 24 ?_
        refine PH 8 25 HT_.out ?_
        refine PH 9 26 HT_.out ?_
        refine PH 10 27 HT_.out ?_
        refine PH 11 28 HT_.out ?_
        refine TH 12 29 HT_.out HW_.out hHeld ?_
        refine PH 13 30 HT_.out ?_
        refine PH 14 31 HT_.out ?_
        refine PH 15 32 HT_.out ?_
        refine PH 16 33 HT_.out ?_
        refine PH 17 34 HT_.out ?_
        refine TH 18 35 HT_.out HW_.out hHeld ?_
        refine OH 19 (some 36) HT_.out (fun K hK => ?_)
        refine GO Try.func107 #[.int .i64 ((rd_T60 l0_2 x3_1).f3), .int .i64 0, .int .i64 4294967295] ?_
        with_reducible refine (spec_l01In.calls ((rd_T60 l0_2 x3_1).f3) 0 4294967295 false _ A16.out).mono ?_
        rintro e w' ⟨rfl, ⟨nd, rfl⟩⟩
        refine ⟨_, rfl, ?_⟩
        refine hK.out _ _ ⟨(blk_cell BK147.out 0).trans rfl, (blk_cell BK147.out 1).trans rfl, (blk_cell BK147.out 2).trans rfl, (blk_cell BK147.out 3).trans rfl⟩ (fun hHeld => ?_)
        clear hK K
        refine NM 36 ?_
        refine PH 20 37 HT_.out ?_
        refine PH 21 38 HT_.out ?_
        refine PH 22 39 HT_.out ?_
        refine PO 23 40 HT_.out ?_
        refine PO 24 41 HT_.out ?_
        refine PO 25 42 HT_.out ?_
        refine PO 26 43 HT_.out ?_
        refine PO 27 44 HT_.out ?_
        refine PO 28 45 HT_.out ?_
        refine PO 29 46 HT_.out ?_
        refine PO 30 47 HT_.out ?_
        refine PO 31 48 HT_.out ?_
        refine PO 32 49 HT_.out ?_
        refine PO 33 50 HT_.out ?_
        refine PO 34 51 HT_.out ?_
        refine PO 35 52 HT_.out ?_
        refine PH 36 53 HT_.out ?_
        refine done_ (done_of HT_.out (by kernel_rfl)) ?_
        try go_wp2
        go_ret
        exact ⟨ER, (BB2 HB.out GE144.out GE147.out)⟩
     ·replace c8 := Bool.eq_false_iff.mpr c8
      subst c8
      have H1 : (some false) = some r := by rw [if_neg (show ¬ (false = true) by decide)] at H; exact H
      clear H
      have H := H1
      clear H1
      obtain rfl := Option.some.inj H
      have hcz50 := blk_cell BK144.out
      have hcz50_1 : wr.cell? ⟨gb144, 1, none⟩ = some (.bool a0_1) := (blk_cell BK144.out 1).trans rfl
      have hcz50_2 : wr.cell? ⟨gb144, 2, none⟩ = some (.slice A0_2 l0_2.length c0_2) := (blk_cell BK144.out 2).trans rfl
      have hfz50 := blk_frozen BK144.out
      have hfz50_1 := blk_frozen BK144.out 1
      have hfz50_2 := blk_frozen BK144.out 2
      have p146 : 0 ≤ (x3_1 : Int) := DT
      have q146 : x3_1 < (l0_2.length : Int) := DT
      obtain ⟨ad146, e146, hx146_0, hx146_1, hx146_2, hx146_3⟩ := at_T60 HR0_2.out x3_1 p146 q146
      cases e146
      replace hx146_0 := CX HB.out hx146_0
      replace hx146_1 := CX HB.out hx146_1
      replace hx146_2 := CX HB.out hx146_2
      replace hx146_3 := CX HB.out hx146_3
      replace p146 := eq_true p146
      replace q146 := eq_true q146
      try go_wp2_with (first | ((with_reducible refine gate_dst (N := 4) rfl ?_); (try (refine gate_guard (by rfl) ?_; dsimp only)); refine BX 4 #[.int .i64 0, .int .i64 0, .string (⟨#[]⟩ : ByteArray), .int .i64 0] 60 ?_; intro gb147 hg w51 hbox hb; have BK147 := AM (hbox); have GW147 : Aside0 (w.heap.size ≤ gb147) := WG hg (BB1 HB.out GE144.out); have GE147 := GW147; have NB144_147 := NL BK144.out hg; have NB147_144 := NG BK144.out hg; replace BK144 := AM (KB BK144.out hb); replace HB := AM (below_step (BB1 HB.out GE144.out) hb); clear hb hbox hg; have hnb52 := NB147_144.out; have hnc52 := NB144_147.out; have hcz53 := blk_cell BK147.out; have hfz53 := blk_frozen BK147.out))
      obtain ⟨w54, hw_⟩ : ∃ w_, w_ = ((((w51.setCell ⟨gb147, 0, none⟩ (.int .i64 ((rd_T60 l0_2 x3_1).f0))).setCell ⟨gb147, 1, none⟩ (.int .i64 ((rd_T60 l0_2 x3_1).f1))).setCell ⟨gb147, 2, none⟩ (.string ((rd_T60 l0_2 x3_1).f2))).setCell ⟨gb147, 3, none⟩ (.int .i64 ((rd_T60 l0_2 x3_1).f3))) := ⟨_, rfl⟩
      rw [← hw_]
      have n0_ : Aside0 (w54.heap[gb144]? = some (.cells #[.int .i64 a0_0, .bool a0_1, .slice (some ad146) l0_2.length c0_2] 35 (0, 0))) := ⟨by rw [hw_]; refine BD ?_; refine blk_far ?_ NB144_147.out _; refine BD ?_; refine blk_far ?_ NB144_147.out _; refine BD ?_; refine blk_far ?_ NB144_147.out _; refine BD ?_; refine blk_far ?_ NB144_147.out _; refine BD ?_; exact BK144.out⟩
      have n1_ : Aside0 (w54.heap[gb147]? = some (.cells #[.int .i64 ((rd_T60 l0_2 x3_1).f0), .int .i64 ((rd_T60 l0_2 x3_1).f1), .string ((rd_T60 l0_2 x3_1).f2), .int .i64 ((rd_T60 l0_2 x3_1).f3)] 60 (0, 0))) := ⟨by rw [hw_]; refine BD ?_; refine blk_put (cs := #[.int .i64 ((rd_T60 l0_2 x3_1).f0), .int .i64 ((rd_T60 l0_2 x3_1).f1), .string ((rd_T60 l0_2 x3_1).f2), .int .i64 0]) ?_ 3 _ rfl; refine BD ?_; refine blk_put (cs := #[.int .i64 ((rd_T60 l0_2 x3_1).f0), .int .i64 ((rd_T60 l0_2 x3_1).f1), .string (⟨#[]⟩ : ByteArray), .int .i64 0]) ?_ 2 _ rfl; refine BD ?_; refine blk_put (cs := #[.int .i64 ((rd_T60 l0_2 x3_1).f0), .int .i64 0, .string (⟨#[]⟩ : ByteArray), .int .i64 0]) ?_ 1 _ rfl; refine BD ?_; refine blk_put (cs := #[.int .i64 0, .int .i64 0, .string (⟨#[]⟩ : ByteArray), .int .i64 0]) ?_ 0 _ rfl; refine BD ?_; exact BK147.out⟩
      have n2_ : Aside0 (Below w.heap.size w w54) := ⟨by rw [hw_]; exact (BB2 HB.out GE144.out GE147.out)⟩
      (try clear BK144)
      (try clear BK147)
      (try clear HB)
      clear hw_
      have BK144 := n0_
      have BK147 := n1_
      have HB := n2_
      clear n0_ n1_ n2_
      replace BK144 := AM (blk_drew BK144.out); replace BK147 := AM (blk_drew BK147.out); replace HB := AM (below_drew1 HB.out)
      refine start_ (n := 37) (S := fun w' => w'.cell? ⟨gb147, 0, none⟩ = some (.int .i64 ((rd_T60 l0_2 x3_1).f0)) ∧ w'.cell? ⟨gb147, 1, none⟩ = some (.int .i64 ((rd_T60 l0_2 x3_1).f1)) ∧ w'.cell? ⟨gb147, 2, none⟩ = some (.string ((rd_T60 l0_2 x3_1).f2)) ∧ w'.cell? ⟨gb147, 3, none⟩ = some (.int .i64 ((rd_T60 l0_2 x3_1).f3))) (ds := []) (.replicate 37 false) (by kernel_rfl) rfl rfl ⟨(blk_cell BK147.out 0).trans rfl, (blk_cell BK147.out 1).trans rfl, (blk_cell BK147.out 2).trans rfl, (blk_cell BK147.out 3).trans rfl⟩ (fun hHeld => ?_); refine with_tabW spec_HostOk.tab5 spec_HostOk.bits5 (fun HT_ HW_ => ?_)
      generalize w54.drew = w55 at BK144 BK147 HB hHeld ⊢
      refine PH 0 17 HT_.out ?_
      refine TH 1 18 HT_.out HW_.out hHeld ?_
      refine OH 2 (some 19) HT_.out (fun K hK => ?_)
      refine GO Try.func107 #[.int .i64 ((rd_T60 l0_2 x3_1).f0), .int .i64 1, .int .i64 100000] ?_
      with_reducible refine (spec_l01In.calls ((rd_T60 l0_2 x3_1).f0) 1 100000 true _ A5.out).mono ?_
      rintro e w' ⟨rfl, ⟨nd, rfl⟩⟩
      refine ⟨_, rfl, ?_⟩
      refine hK.out _ _ ⟨(blk_cell BK147.out 0).trans rfl, (blk_cell BK147.out 1).trans rfl, (blk_cell BK147.out 2).trans rfl, (blk_cell BK147.out 3).trans rfl⟩ (fun hHeld => ?_)
      clear hK K
      refine NM 19 ?_
      refine PH 3 20 HT_.out ?_
      refine PH 4 21 HT_.out ?_
      refine PH 5 22 HT_.out ?_
      refine TH 6 23 HT_.out HW_.out hHeld ?_
      refine OH 7 (some 24) HT_.out (fun K hK => ?_)
      refine GO Try.func107 #[.int .i64 ((rd_T60 l0_2 x3_1).f1), .int .i64 0, .int .i64 5] ?_
      with_reducible refine (spec_l01In.calls ((rd_T60 l0_2 x3_1).f1) 0 5 false _ A7.out).mono ?_
      rintro e w' ⟨rfl, ⟨nd, rfl⟩⟩
      refine ⟨_, rfl, ?_⟩
      refine hK.out _ _ ⟨(blk_cell BK147.out 0).trans rfl, (blk_cell BK147.out 1).trans rfl, (blk_cell BK147.out 2).trans rfl, (blk_cell BK147.out 3).trans rfl⟩ (fun hHeld => ?_)
      clear hK K
      refine NM 24 ?_
      refine PH 8 25 HT_.out ?_
      refine PH 9 26 HT_.out ?_
      refine PH 10 27 HT_.out ?_
      refine PO 11 28 HT_.out ?_
      refine PO 12 29 HT_.out ?_
      refine PO 13 30 HT_.out ?_
      refine PO 14 31 HT_.out ?_
      refine PH 15 32 HT_.out ?_
      refine PH 16 33 HT_.out ?_
      refine PO 17 34 HT_.out ?_
      refine PO 18 35 HT_.out ?_
      refine PO 19 36 HT_.out ?_
      refine PO 20 37 HT_.out ?_
      refine PH 21 38 HT_.out ?_
      refine PH 22 39 HT_.out ?_
      refine PO 23 40 HT_.out ?_
      refine PO 24 41 HT_.out ?_
      refine PO 25 42 HT_.out ?_
      refine PO 26 43 HT_.out ?_
      refine PO 27 44 HT_.out ?_
      refine PO 28 45 HT_.out ?_
      refine PO 29 46 HT_.out ?_
      refine PO 30 47 HT_.out ?_
      refine PO 31 48 HT_.out ?_
      refine PO 32 49 HT_.out ?_
      refine PO 33 50 HT_.out ?_
      refine PO 34 51 HT_.out ?_
      refine PO 35 52 HT_.out ?_
      refine PH 36 53 HT_.out ?_
      refine done_ (done_of HT_.out (by kernel_rfl)) ?_
      try go_wp2
      go_ret
      exact ⟨ER, (BB2 HB.out GE144.out GE147.out)⟩
    ·replace c6 := Bool.eq_false_iff.mpr c6
     subst c6
     have H1 : (some false) = some r := by rw [if_neg (show ¬ (false = true) by decide)] at H; exact H
     clear H
     have H := H1
     clear H1
     obtain rfl := Option.some.inj H
     have hcz56 := blk_cell BK144.out
     have hcz56_1 : wr.cell? ⟨gb144, 1, none⟩ = some (.bool a0_1) := (blk_cell BK144.out 1).trans rfl
     have hcz56_2 : wr.cell? ⟨gb144, 2, none⟩ = some (.slice A0_2 l0_2.length c0_2) := (blk_cell BK144.out 2).trans rfl
     have hfz56 := blk_frozen BK144.out
     have hfz56_1 := blk_frozen BK144.out 1
     have hfz56_2 := blk_frozen BK144.out 2
     have p146 : 0 ≤ (x3_1 : Int) := DT
     have q146 : x3_1 < (l0_2.length : Int) := DT
     obtain ⟨ad146, e146, hx146_0, hx146_1, hx146_2, hx146_3⟩ := at_T60 HR0_2.out x3_1 p146 q146
     cases e146
     replace hx146_0 := CX HB.out hx146_0
     replace hx146_1 := CX HB.out hx146_1
     replace hx146_2 := CX HB.out hx146_2
     replace hx146_3 := CX HB.out hx146_3
     replace p146 := eq_true p146
     replace q146 := eq_true q146
     try go_wp2_with (first | ((with_reducible refine gate_dst (N := 4) rfl ?_); (try (refine gate_guard (by rfl) ?_; dsimp only)); refine BX 4 #[.int .i64 0, .int .i64 0, .string (⟨#[]⟩ : ByteArray), .int .i64 0] 60 ?_; intro gb147 hg w57 hbox hb; have BK147 := AM (hbox); have GW147 : Aside0 (w.heap.size ≤ gb147) := WG hg (BB1 HB.out GE144.out); have GE147 := GW147; have NB144_147 := NL BK144.out hg; have NB147_144 := NG BK144.out hg; replace BK144 := AM (KB BK144.out hb); replace HB := AM (below_step (BB1 HB.out GE144.out) hb); clear hb hbox hg; have hnb58 := NB147_144.out; have hnc58 := NB144_147.out; have hcz59 := blk_cell BK147.out; have hfz59 := blk_frozen BK147.out))
     obtain ⟨w60, hw_⟩ : ∃ w_, w_ = ((((w57.setCell ⟨gb147, 0, none⟩ (.int .i64 ((rd_T60 l0_2 x3_1).f0))).setCell ⟨gb147, 1, none⟩ (.int .i64 ((rd_T60 l0_2 x3_1).f1))).setCell ⟨gb147, 2, none⟩ (.string ((rd_T60 l0_2 x3_1).f2))).setCell ⟨gb147, 3, none⟩ (.int .i64 ((rd_T60 l0_2 x3_1).f3))) := ⟨_, rfl⟩
     rw [← hw_]
     have n0_ : Aside0 (w60.heap[gb144]? = some (.cells #[.int .i64 a0_0, .bool a0_1, .slice (some ad146) l0_2.length c0_2] 35 (0, 0))) := ⟨by rw [hw_]; refine BD ?_; refine blk_far ?_ NB144_147.out _; refine BD ?_; refine blk_far ?_ NB144_147.out _; refine BD ?_; refine blk_far ?_ NB144_147.out _; refine BD ?_; refine blk_far ?_ NB144_147.out _; refine BD ?_; exact BK144.out⟩
     have n1_ : Aside0 (w60.heap[gb147]? = some (.cells #[.int .i64 ((rd_T60 l0_2 x3_1).f0), .int .i64 ((rd_T60 l0_2 x3_1).f1), .string ((rd_T60 l0_2 x3_1).f2), .int .i64 ((rd_T60 l0_2 x3_1).f3)] 60 (0, 0))) := ⟨by rw [hw_]; refine BD ?_; refine blk_put (cs := #[.int .i64 ((rd_T60 l0_2 x3_1).f0), .int .i64 ((rd_T60 l0_2 x3_1).f1), .string ((rd_T60 l0_2 x3_1).f2), .int .i64 0]) ?_ 3 _ rfl; refine BD ?_; refine blk_put (cs := #[.int .i64 ((rd_T60 l0_2 x3_1).f0), .int .i64 ((rd_T60 l0_2 x3_1).f1), .string (⟨#[]⟩ : ByteArray), .int .i64 0]) ?_ 2 _ rfl; refine BD ?_; refine blk_put (cs := #[.int .i64 ((rd_T60 l0_2 x3_1).f0), .int .i64 0, .string (⟨#[]⟩ : ByteArray), .int .i64 0]) ?_ 1 _ rfl; refine BD ?_; refine blk_put (cs := #[.int .i64 0, .int .i64 0, .string (⟨#[]⟩ : ByteArray), .int .i64 0]) ?_ 0 _ rfl; refine BD ?_; exact BK147.out⟩
     have n2_ : Aside0 (Below w.heap.size w w60) := ⟨by rw [hw_]; exact (BB2 HB.out GE144.out GE147.out)⟩
     (try clear BK144)
     (try clear BK147)
     (try clear HB)
     clear hw_
     have BK144 := n0_
     have BK147 := n1_
     have HB := n2_
     clear n0_ n1_ n2_
     replace BK144 := AM (blk_drew BK144.out); replace BK147 := AM (blk_drew BK147.out); replace HB := AM (below_drew1 HB.out)
     refine start_ (n := 37) (S := fun w' => w'.cell? ⟨gb147, 0, none⟩ = some (.int .i64 ((rd_T60 l0_2 x3_1).f0)) ∧ w'.cell? ⟨gb147, 1, none⟩ = some (.int .i64 ((rd_T60 l0_2 x3_1).f1)) ∧ w'.cell? ⟨gb147, 2, none⟩ = some (.string ((rd_T60 l0_2 x3_1).f2)) ∧ w'.cell? ⟨gb147, 3, none⟩ = some (.int .i64 ((rd_T60 l0_2 x3_1).f3))) (ds := []) (.replicate 37 false) (by kernel_rfl) rfl rfl ⟨(blk_cell BK147.out 0).trans rfl, (blk_cell BK147.out 1).trans rfl, (blk_cell BK147.out 2).trans rfl, (blk_cell BK147.out 3).trans rfl⟩ (fun hHeld => ?_); refine with_tabW spec_HostOk.tab5 spec_HostOk.bits5 (fun HT_ HW_ => ?_)
     generalize w60.drew = w61 at BK144 BK147 HB hHeld ⊢
     refine PH 0 17 HT_.out ?_
     refine TH 1 18 HT_.out HW_.out hHeld ?_
     refine OH 2 (some 19) HT_.out (fun K hK => ?_)
     refine GO Try.func107 #[.int .i64 ((rd_T60 l0_2 x3_1).f0), .int .i64 1, .int .i64 100000] ?_
     with_reducible refine (spec_l01In.calls ((rd_T60 l0_2 x3_1).f0) 1 100000 false _ A5.out).mono ?_
     rintro e w' ⟨rfl, ⟨nd, rfl⟩⟩
     refine ⟨_, rfl, ?_⟩
     refine hK.out _ _ ⟨(blk_cell BK147.out 0).trans rfl, (blk_cell BK147.out 1).trans rfl, (blk_cell BK147.out 2).trans rfl, (blk_cell BK147.out 3).trans rfl⟩ (fun hHeld => ?_)
     clear hK K
     refine NM 19 ?_
     refine PH 3 20 HT_.out ?_
     refine PH 4 21 HT_.out ?_
     refine PO 5 22 HT_.out ?_
     refine PO 6 23 HT_.out ?_
     refine PO 7 24 HT_.out ?_
     refine PO 8 25 HT_.out ?_
     refine PH 9 26 HT_.out ?_
     refine PH 10 27 HT_.out ?_
     refine PO 11 28 HT_.out ?_
     refine PO 12 29 HT_.out ?_
     refine PO 13 30 HT_.out ?_
     refine PO 14 31 HT_.out ?_
     refine PH 15 32 HT_.out ?_
     refine PH 16 33 HT_.out ?_
     refine PO 17 34 HT_.out ?_
     refine PO 18 35 HT_.out ?_
     refine PO 19 36 HT_.out ?_
     refine PO 20 37 HT_.out ?_
     refine PH 21 38 HT_.out ?_
     refine PH 22 39 HT_.out ?_
     refine PO 23 40 HT_.out ?_
     refine PO 24 41 HT_.out ?_
     refine PO 25 42 HT_.out ?_
     refine PO 26 43 HT_.out ?_
     refine PO 27 44 HT_.out ?_
     refine PO 28 45 HT_.out ?_
     refine PO 29 46 HT_.out ?_
     refine PO 30 47 HT_.out ?_
     refine PO 31 48 HT_.out ?_
     refine PO 32 49 HT_.out ?_
     refine PO 33 50 HT_.out ?_
     refine PO 34 51 HT_.out ?_
     refine PO 35 52 HT_.out ?_
     refine PH 36 53 HT_.out ?_
     refine done_ (done_of HT_.out (by kernel_rfl)) ?_
     try go_wp2
     go_ret
     exact ⟨ER, (BB2 HB.out GE144.out GE147.out)⟩
   ·rw [if_neg c3] at H
    have c3b0 := decide_eq_false c3
    clear c3
    replace H := Option.bind_eq_some_iff.mp H
    obtain ⟨t145, A620, H⟩ := H
    replace H : (some t145) = some r := H
    have A62 := AM A620
    clear A620
    obtain rfl := Option.some.inj H
    have hcz63 := blk_cell BK144.out
    have hcz63_1 : wr.cell? ⟨gb144, 1, none⟩ = some (.bool a0_1) := (blk_cell BK144.out 1).trans rfl
    have hcz63_2 : wr.cell? ⟨gb144, 2, none⟩ = some (.slice A0_2 l0_2.length c0_2) := (blk_cell BK144.out 2).trans rfl
    have hfz63 := blk_frozen BK144.out
    have hfz63_1 := blk_frozen BK144.out 1
    have hfz63_2 := blk_frozen BK144.out 2
    go_wp2_with (first | ((with_reducible refine gate_callee (f := 107) rfl ?_); refine GL (some 56) rfl rfl Try.func107 #[.int .i64 a0_0, .int .i64 1, .int .i64 7] rfl ?_; (with_reducible refine (spec_l01In.calls a0_0 1 7 t145 _ A62.out).mono ?_); rintro e w' ⟨rfl, ⟨nd, rfl⟩⟩; refine ⟨_, rfl, ?_⟩))
    go_ret
    exact ⟨ER, (BB1 HB.out GE144.out)⟩

end Go.Proofs.Ytaejgompckpmfaa.Pr
