/- A part of the proof of the law FnExactEventOk: its texts, one behind the other. -/
import Derived.ArgAppend
import Derived.Below
import Derived.BigQuiet
import Derived.BigRegion
import Derived.ChangeAlike
import Derived.Deep.AppendLies
import Derived.Deep.CutBlock
import Derived.Deep.DeepCutAuto
import Derived.Deep.Draws
import Derived.Deep.LoopGhost
import Derived.Deep.OwnRows
import Derived.Deep.QuietTactic
import Derived.Deep.RegionHeld3
import Derived.KernelRfl
import Derived.Laws.BitsLemmas
import Derived.Laws.BytesArg
import Derived.Laws.IdiomCopy
import Derived.Laws.MakeOwn
import Derived.Laws.OwnMore
import Derived.Laws.Rows
import Derived.Laws.Slices
import Derived.Laws.Strings
import Derived.Lib.AppendStr
import Derived.Lib.ConvBytes
import Derived.Maps.AppendAt
import Derived.OrdersHeld
import Derived.OwnWalk
import Derived.RegionTactic
import Derived.RowKit
import Derived.RowKit3
import Derived.Tactics
import Derived.Test.YtfgnaneajonapaaDoorProg
import Derived.WalkKit
import Derived.WideLaws
import Derived.Test.YtfgnaneajonapaaDoorBFnExactEventOk1
namespace Go.Proofs.YtfgnaneajonapaaDoor.Evs
open Go.RowKit Go.Proofs.YtfgnaneajonapaaDoorW.PrintWords
theorem ev_some {α : Type} (r : α) : Ev (fun _ => some r) r := Ev.now r
theorem ev_pos {α : Type} {c : Prop} [Decidable c] {f g : Nat → Option α} {r : α} (h : c) (k : Ev f r) : Ev (fun n => if c then f n else g n) r := by
  simpa [h] using k
theorem ev_neg {α : Type} {c : Prop} [Decidable c] {f g : Nat → Option α} {r : α} (h : ¬ c) (k : Ev g r) : Ev (fun n => if c then f n else g n) r := by
  simpa [h] using k
theorem ev_bind {α β : Type} {g : Nat → Option α} {f : Nat → α → Option β} {a : α} {r : β} (h : Ev g a) (k : Ev (fun n => f n a) r) : Ev (fun n => (g n).bind (f n)) r := Ev.bind h k
theorem ev_call {α β : Type} {g : Option α} {f : Nat → α → Option β} {a : α} {r : β} (h : g = some a) (k : Ev (fun n => f n a) r) : Ev (fun n => g.bind (f n)) r := by
  subst h
  exact k
theorem ev_eq {α : Type} {g : Nat → Option α} {r s : α} (h : Ev g r) (e : r = s) : Ev g s := e ▸ h
theorem ev_step {α : Type} {g f : Nat → Option α} {r : α} (h : ∀ k, g (k + 1) = f k) (k : Ev f r) : Ev g r := Ev.step h k
theorem ev_rounds {α : Type} {g : Nat → Option α} {r : α} (h : Ev g r) : ∃ k, g k = some r := h.rounds
theorem ev_const {α : Type} {g : Option α} {r : α} (h : g = some r) : Ev (fun _ => g) r := ⟨0, fun _ _ => h⟩

def SzEv (g : Nat → Option Int) (left w : Int) : Prop := ∃ r, Ev g r ∧ (r = -1 ∨ (0 ≤ r ∧ r + w = left))
theorem sz_done {left : Int} (h : 0 ≤ left) : SzEv (fun _ => some left) left 0 := ⟨left, ev_some _, .inr ⟨h, by omega⟩⟩
theorem sz_eq {g : Nat → Option Int} {left w w' : Int} (h : SzEv g left w) (e : w = w') : SzEv g left w' := e ▸ h
theorem sz_call {g : Nat → Option Int} {F : Nat → Int → Option Int} {left w1 w2 : Int} (h : SzEv g left w1) (k : ∀ l, 0 ≤ l → l + w1 = left → SzEv (fun n => F n l) l w2) :
    SzEv (fun n => (g n).bind fun t => if t < 0 then some (-1) else F n t) left (w1 + w2) := by
  obtain ⟨r, hE, hr⟩ := h
  rcases hr with rfl | ⟨h0, hr⟩
  · exact ⟨-1, ev_bind hE (ev_pos (by omega) (ev_some _)), .inl rfl⟩
  · obtain ⟨s, hS, hs⟩ := k r h0 hr
    exact ⟨s, ev_bind hE (ev_neg (by omega) hS), by omega⟩
theorem sz_str {G : Nat → Option Int} {left n w2 : Int} (k : 0 ≤ left - n → SzEv G (left - n) w2) : SzEv (fun m => if left - n < 0 then some (-1) else G m) left (n + w2) := by
  by_cases c : left - n < 0
  · exact ⟨-1, ev_pos c (ev_some _), .inl rfl⟩
  · obtain ⟨s, hS, hs⟩ := k (by omega)
    exact ⟨s, ev_neg c hS, by omega⟩
theorem wrap_succ {i : Int} (h0 : 0 ≤ i) (h1 : i < 9223372036854775807) : wrap64 (i + 1) = i + 1 := by unfold wrap64; omega
theorem wrap_in {i : Int} (h0 : -9223372036854775808 ≤ i) (h1 : i ≤ 9223372036854775807) : wrap64 i = i := by unfold wrap64; omega
theorem getD_mid' {α : Type} (p s : List α) (x d : α) (i : Int) (hi : i = (p.length : Int)) : (p ++ x :: s).getD i.toNat d = x := by
  subst hi
  simp [List.getD]
theorem set_mid {α : Type} (p s : List α) (x y : α) (i : Int) (hi : i = (p.length : Int)) : (p ++ x :: s).set i.toNat y = p ++ y :: s := by
  subst hi
  simp
end Go.Proofs.YtfgnaneajonapaaDoor.Evs

namespace Go.Proofs.YtfgnaneajonapaaDoor.Pr
open Go.RowKit Go.Proofs.YtfgnaneajonapaaDoorW.PrintWords Go.Proofs.YtfgnaneajonapaaDoorW.PrintLast Go.Proofs.YtfgnaneajonapaaDoorW.PrintMore
attribute [local go_sem] max2_int min2_int max_two min_two max_three min_three max_four min_four
set_option linter.unusedVariables false
set_option linter.unusedSimpArgs false
def errW : Option Int → Value
  | none => .nilIface
  | some c => .iface 0 (.int .i64 c)
theorem errW_none : errW none = .nilIface := rfl
theorem errW_some (c : Int) : errW (some c) = .iface 0 (.int .i64 c) := rfl

theorem CC {p q : Prop} (h : q) (f : q → p := by intro h_; repeat (first | exact h_ | (with_reducible refine Kd.C_alloc ?_ _) | (with_reducible refine Kd.C_drewN ?_ _) | (with_reducible refine Kd.C_drew ?_))) : p := f h
theorem BB {p q : Prop} (h : q) (f : q → p := by intro h_; repeat (first | (with_reducible first | exact h_ | apply below_alloc | apply pw_below_drewN | apply below_drew1) | exact h_)) : p := f h
theorem BB1 {p q q1 : Prop} (h : q) (h1 : q1) (f : q → q1 → p := by intro h_ g1_; repeat (first | (with_reducible first | exact h_ | apply below_alloc | apply pw_below_drewN | apply below_drew1 | refine below_set ?_ g1_) | exact h_)) : p := f h h1
theorem BB2 {p q q1 q2 : Prop} (h : q) (h1 : q1) (h2 : q2) (f : q → q1 → q2 → p := by intro h_ g1_ g2_; repeat (first | (with_reducible first | exact h_ | apply below_alloc | apply pw_below_drewN | apply below_drew1 | refine below_set ?_ g1_ | refine below_set ?_ g2_) | exact h_)) : p := f h h1 h2
theorem BB3 {p q q1 q2 q3 : Prop} (h : q) (h1 : q1) (h2 : q2) (h3 : q3) (f : q → q1 → q2 → q3 → p := by intro h_ g1_ g2_ g3_; repeat (first | (with_reducible first | exact h_ | apply below_alloc | apply pw_below_drewN | apply below_drew1 | refine below_set ?_ g1_ | refine below_set ?_ g2_ | refine below_set ?_ g3_) | exact h_)) : p := f h h1 h2 h3
theorem RR {p q : Prop} (h : q) (f : q → p := by intro h_; (with_reducible repeat (first | apply Kd.R_alloc | apply Kd.R_drewN | apply Kd.R_drew)); exact h_) : p := f h
theorem FR {p : Prop} (h : p := by first | rfl | (simp; done) | (simp [*]; done)) : p := h
theorem ER {p : Prop} (h : p := by first | rfl | (simp [errW_none, errW_some] <;> rfl) | (simp [*, errW_none, errW_some] <;> rfl)) : p := h
theorem DT {p : Prop} [Decidable p] (h : decide p = true := by first | (with_reducible assumption) | assumption) : p := of_decide_eq_true h
theorem KB {w W w1 : World} {g : Nat} {o : Obj} (h : w.heap[g]? = some o) (hb : Below W.heap.size W w1) (f : w.heap[g]? = some o → W.heap[g]? = some o := by intro h_; (with_reducible repeat (first | refine blk_drewN ?_ _ | refine blk_drew ?_ | refine blk_alloc ?_ _)); exact h_) : w1.heap[g]? = some o := blk_below (f h) hb
theorem NL {w W : World} {g g' : Nat} {o : Obj} (h : w.heap[g]? = some o) (hg : g' = W.heap.size) (f : w.heap[g]? = some o → W.heap[g]? = some o := by intro h_; (with_reducible repeat (first | refine blk_drewN ?_ _ | refine blk_drew ?_ | refine blk_alloc ?_ _)); exact h_) : Aside0 (g ≠ g') := ⟨by rw [hg]; exact Nat.ne_of_lt (blk_lt (f h))⟩
theorem NG {w W : World} {g g' : Nat} {o : Obj} (h : w.heap[g]? = some o) (hg : g' = W.heap.size) (f : w.heap[g]? = some o → W.heap[g]? = some o := by intro h_; (with_reducible repeat (first | refine blk_drewN ?_ _ | refine blk_drew ?_ | refine blk_alloc ?_ _)); exact h_) : Aside0 (g' ≠ g) := ⟨by rw [hg]; exact Nat.ne_of_gt (blk_lt (f h))⟩
theorem WG {w W : World} {g : Nat} (hg : g = W.heap.size) (h : Below w.heap.size w W) : Aside0 (w.heap.size ≤ g) := ⟨by rw [hg]; exact below_size h⟩
theorem BX {P : Program} {ops : Array Oper} {Q : Exit → Act → World → Prop} {rest : List Oper} {o : Oper} {a : Act} {W : World} (N : Tmp) (cs : Array Value) (t : TypeId)
    (h : ∀ g, g = W.heap.size → ∀ w1, w1.heap[g]? = some (.cells cs t (0, 0)) → Below W.heap.size W w1 → wpList P ops Q rest (a.put o.dst (.pointer (some ⟨g, 0, none⟩))) w1)
    (hd : o.dst = some N := by rfl) (hg : o.guard = none := by rfl) (hr : (execOp a.eval o).run P W = .ok (.value (.pointer (some ⟨W.heap.size, 0, none⟩))) (W.alloc (.cells cs t (0, 0))) := by first | (go_simp; done) | (go_simp; rfl)) : wpList P ops Q (o :: rest) a W := box_event hg hd hr h
theorem GL {P : Program} {ops : Array Oper} {Q : Exit → Act → World → Prop} {rest : List Oper} {oi : Oper} {a : Act} {w : World} (N : Option Tmp) (hd : oi.dst = N) (hg : oi.guard = none) {f : FuncId} {fn : Func} {os_ : Array Operand} {ts : Array TypeId} (hf : P.funcs[f]? = some fn) (args : Array Value)
    (hop : oi.op = .call { callee := .value (.func f), args := os_, argTypes := ts }) (h : Calls P f args w fun e w' => ∃ v, e = .returned v ∧ wpList P ops Q rest (a.put N v) w')
    (hname : (fn.name == "runtime.NumGoroutine") = false := by kernel_rfl) (hb : fn.body.isSome = true := by rfl) (hargs : os_.map a.eval = args := by (try simp only [List.map_toArray, List.map_cons, List.map_nil]); first | done | rfl | (simp only [List.length_drop, List.length_take]; rfl)) : wpList P ops Q (oi :: rest) a w :=
  goesL_ N hd hg hf hname hb args hop hargs h

theorem info3 : (Tryd.prog.info? 3).map (fun i => (i.zero, i.size, i.bytes)) = some (some (.int .i64 0), 1, 8) := by kernel_rfl
theorem info9 : (Tryd.prog.info? 9).map (fun i => (i.zero, i.size, i.bytes)) = some (some (.string ⟨#[]⟩), 1, 16) := by kernel_rfl
structure S33 where
  f0 : Int
  f1 : Int
  f2 : ByteArray
  f3 : ByteArray
  f4 : ByteArray
  f5 : Int
structure S30 where
  f0 : Int
  f1 : Int
  f2 : ByteArray
  f3 : ByteArray
  f4 : ByteArray
  f5 : Int
def k30 : Kd S30 := Kd.iso (Kd.pair (Kd.int .i64) (Kd.pair (Kd.int .i64) (Kd.pair Kd.string (Kd.pair Kd.string (Kd.pair Kd.string (Kd.int .i64)))))) (fun x : S30 => (x.f0, x.f1, x.f2, x.f3, x.f4, x.f5))
structure S38 where
  f0 : Int
  f1 : S30
  f2 : Int
  f3 : Int
  f4 : Bool
  f5 : (List Int)
def k38 : Kd S38 := Kd.iso (Kd.pair (Kd.int .i64) (Kd.pair k30 (Kd.pair (Kd.int .i64) (Kd.pair (Kd.int .i64) (Kd.pair Kd.bool (Kd.slice 3 (Kd.int .i64))))))) (fun x : S38 => (x.f0, x.f1, x.f2, x.f3, x.f4, x.f5))
structure S42 where
  f0 : Int
  f1 : S33
  f2 : Int
  f3 : Int
  f4 : Bool
  f5 : (List Int)
end Go.Proofs.YtfgnaneajonapaaDoor.Pr

namespace Go.Proofs.YtfgnaneajonapaaDoor.Pr
open Go.RowKit Go.Proofs.YtfgnaneajonapaaDoorW.PrintWords Go.Proofs.YtfgnaneajonapaaDoorW.PrintLast Go.Proofs.YtfgnaneajonapaaDoorW.PrintMore
attribute [local go_sem] max2_int min2_int max_two min_two max_three min_three max_four min_four
set_option linter.unusedVariables false
set_option linter.unusedSimpArgs false
def laws_szAsk.f (a0_0 : Int) (a0_1 : Int) (a0_2 : ByteArray) (a0_3 : ByteArray) (a0_4 : ByteArray) (a0_5 : Int) (a1 : Int) : Option (Int) := if (wrap64 (a1 - (a0_2.size : Int))) < 0 then (some (-1)) else (if (wrap64 ((wrap64 (a1 - (a0_2.size : Int))) - (a0_3.size : Int))) < 0 then (some (-1)) else (if (wrap64 ((wrap64 ((wrap64 (a1 - (a0_2.size : Int))) - (a0_3.size : Int))) - (a0_4.size : Int))) < 0 then (some (-1)) else (some (wrap64 ((wrap64 ((wrap64 (a1 - (a0_2.size : Int))) - (a0_3.size : Int))) - (a0_4.size : Int))))))
set_option maxHeartbeats 8000000 in
set_option maxRecDepth 100000 in
theorem laws_szAsk.calls (a0_0 : Int) (a0_1 : Int) (a0_2 : ByteArray) (a0_3 : ByteArray) (a0_4 : ByteArray) (a0_5 : Int) (a1 : Int) (r : Int) (w : World) (h : laws_szAsk.f a0_0 a0_1 a0_2 a0_3 a0_4 a0_5 a1 = some r) :
    Calls Tryd.prog 12 #[.agg #[.int .i64 a0_0, .int .i64 a0_1, .string a0_2, .string a0_3, .string a0_4, .int .i64 a0_5], .int .i64 a1] w fun e w' => e = .returned (.int .i64 r) ∧ Below w.heap.size w w' := by
  have hu30 := Tryd.underlying30
  have HB := Aside0.mk (Below.refl w.heap.size w)
  have H : (if (wrap64 (a1 - (a0_2.size : Int))) < 0 then (some (-1)) else (if (wrap64 ((wrap64 (a1 - (a0_2.size : Int))) - (a0_3.size : Int))) < 0 then (some (-1)) else (if (wrap64 ((wrap64 ((wrap64 (a1 - (a0_2.size : Int))) - (a0_3.size : Int))) - (a0_4.size : Int))) < 0 then (some (-1)) else (some (wrap64 ((wrap64 ((wrap64 (a1 - (a0_2.size : Int))) - (a0_3.size : Int))) - (a0_4.size : Int))))))) = some r := h
  clear h
  by_cases c3 : (wrap64 (a1 - (a0_2.size : Int))) < 0
  · rw [if_pos c3] at H
    have c3b0 : decide ((wrap64 (a1 - (a0_2.size : Int))) < 0) = true := decide_eq_true c3
    clear c3
    obtain rfl := Option.some.inj H
    go_enter Tryd.func12, Tryd.ntmps12
    go_wp2_with (first | ((with_reducible refine gate_dst (N := 2) rfl ?_); refine BX 2 #[.int .i64 a0_0, .int .i64 a0_1, .string a0_2, .string a0_3, .string a0_4, .int .i64 a0_5] 30 ?_; intro gb183 hg w4 hbox hb; have BK183 := Aside0.mk (hbox); have GW183 : Aside0 (w.heap.size ≤ gb183) := WG hg (BB HB.out); have GE183 := GW183; replace HB := Aside0.mk (below_step (BB HB.out) hb); clear hb hbox hg; have hcz5 := blk_cell BK183.out; have hfz5 := blk_frozen BK183.out))
    go_ret
    exact ⟨ER, (BB1 HB.out GE183.out)⟩
  · rw [if_neg c3] at H
    have c3b0 : decide ((wrap64 (a1 - (a0_2.size : Int))) < 0) = false := decide_eq_false c3
    clear c3
    by_cases c6 : (wrap64 ((wrap64 (a1 - (a0_2.size : Int))) - (a0_3.size : Int))) < 0
    · rw [if_pos c6] at H
      have c6b0 : decide ((wrap64 ((wrap64 (a1 - (a0_2.size : Int))) - (a0_3.size : Int))) < 0) = true := decide_eq_true c6
      clear c6
      obtain rfl := Option.some.inj H
      go_enter Tryd.func12, Tryd.ntmps12
      go_wp2_with (first | ((with_reducible refine gate_dst (N := 2) rfl ?_); refine BX 2 #[.int .i64 a0_0, .int .i64 a0_1, .string a0_2, .string a0_3, .string a0_4, .int .i64 a0_5] 30 ?_; intro gb183 hg w7 hbox hb; have BK183 := Aside0.mk (hbox); have GW183 : Aside0 (w.heap.size ≤ gb183) := WG hg (BB HB.out); have GE183 := GW183; replace HB := Aside0.mk (below_step (BB HB.out) hb); clear hb hbox hg; have hcz8 := blk_cell BK183.out; have hfz8 := blk_frozen BK183.out))
      go_ret
      exact ⟨ER, (BB1 HB.out GE183.out)⟩
    · rw [if_neg c6] at H
      have c6b0 : decide ((wrap64 ((wrap64 (a1 - (a0_2.size : Int))) - (a0_3.size : Int))) < 0) = false := decide_eq_false c6
      clear c6
      by_cases c9 : (wrap64 ((wrap64 ((wrap64 (a1 - (a0_2.size : Int))) - (a0_3.size : Int))) - (a0_4.size : Int))) < 0
      · rw [if_pos c9] at H
        have c9b0 : decide ((wrap64 ((wrap64 ((wrap64 (a1 - (a0_2.size : Int))) - (a0_3.size : Int))) - (a0_4.size : Int))) < 0) = true := decide_eq_true c9
        clear c9
        obtain rfl := Option.some.inj H
        go_enter Tryd.func12, Tryd.ntmps12
        go_wp2_with (first | ((with_reducible refine gate_dst (N := 2) rfl ?_); refine BX 2 #[.int .i64 a0_0, .int .i64 a0_1, .string a0_2, .string a0_3, .string a0_4, .int .i64 a0_5] 30 ?_; intro gb183 hg w10 hbox hb; have BK183 := Aside0.mk (hbox); have GW183 : Aside0 (w.heap.size ≤ gb183) := WG hg (BB HB.out); have GE183 := GW183; replace HB := Aside0.mk (below_step (BB HB.out) hb); clear hb hbox hg; have hcz11 := blk_cell BK183.out; have hfz11 := blk_frozen BK183.out))
        go_ret
        exact ⟨ER, (BB1 HB.out GE183.out)⟩
      · rw [if_neg c9] at H
        have c9b0 : decide ((wrap64 ((wrap64 ((wrap64 (a1 - (a0_2.size : Int))) - (a0_3.size : Int))) - (a0_4.size : Int))) < 0) = false := decide_eq_false c9
        clear c9
        obtain rfl := Option.some.inj H
        go_enter Tryd.func12, Tryd.ntmps12
        go_wp2_with (first | ((with_reducible refine gate_dst (N := 2) rfl ?_); refine BX 2 #[.int .i64 a0_0, .int .i64 a0_1, .string a0_2, .string a0_3, .string a0_4, .int .i64 a0_5] 30 ?_; intro gb183 hg w12 hbox hb; have BK183 := Aside0.mk (hbox); have GW183 : Aside0 (w.heap.size ≤ gb183) := WG hg (BB HB.out); have GE183 := GW183; replace HB := Aside0.mk (below_step (BB HB.out) hb); clear hb hbox hg; have hcz13 := blk_cell BK183.out; have hfz13 := blk_frozen BK183.out))
        go_ret
        exact ⟨ER, (BB1 HB.out GE183.out)⟩

end Go.Proofs.YtfgnaneajonapaaDoor.Pr

namespace Go.Proofs.YtfgnaneajonapaaDoor.Pr
open Go.RowKit Go.Proofs.YtfgnaneajonapaaDoorW.PrintWords Go.Proofs.YtfgnaneajonapaaDoorW.PrintLast Go.Proofs.YtfgnaneajonapaaDoorW.PrintMore
attribute [local go_sem] max2_int min2_int max_two min_two max_three min_three max_four min_four
set_option linter.unusedVariables false
set_option linter.unusedSimpArgs false
def laws_toAsk.f (a0_0 : Int) (a0_1 : Int) (a0_2 : ByteArray) (a0_3 : ByteArray) (a0_4 : ByteArray) (a0_5 : Int) : Option (Int × Int × ByteArray × ByteArray × ByteArray × Int) := some (a0_0, a0_1, a0_2, a0_3, a0_4, a0_5)
set_option maxHeartbeats 8000000 in
set_option maxRecDepth 100000 in
theorem laws_toAsk.calls (a0_0 : Int) (a0_1 : Int) (a0_2 : ByteArray) (a0_3 : ByteArray) (a0_4 : ByteArray) (a0_5 : Int) (r1 : Int) (r2 : Int) (r3 : ByteArray) (r4 : ByteArray) (r5 : ByteArray) (r6 : Int) (w : World) (h : laws_toAsk.f a0_0 a0_1 a0_2 a0_3 a0_4 a0_5 = some (r1, r2, r3, r4, r5, r6)) :
    Calls Tryd.prog 14 #[.agg #[.int .i64 a0_0, .int .i64 a0_1, .string a0_2, .string a0_3, .string a0_4, .int .i64 a0_5]] w fun e w' => e = .returned (.agg #[.int .i64 r1, .int .i64 r2, .string r3, .string r4, .string r5, .int .i64 r6]) ∧ Below w.heap.size w w' := by
  have hu30 := Tryd.underlying30
  have hu33 := Tryd.underlying33
  have HB := Aside0.mk (Below.refl w.heap.size w)
  have H : (some (a0_0, a0_1, a0_2, a0_3, a0_4, a0_5)) = some (r1, r2, r3, r4, r5, r6) := h
  clear h
  simp only [Option.some.injEq, Prod.mk.injEq] at H
  obtain ⟨rfl, rfl, rfl, rfl, rfl, rfl⟩ := H
  go_enter Tryd.func14, Tryd.ntmps14
  go_wp2_with (first | ((with_reducible refine gate_dst (N := 1) rfl ?_); refine BX 1 #[.int .i64 a0_0, .int .i64 a0_1, .string a0_2, .string a0_3, .string a0_4, .int .i64 a0_5] 30 ?_; intro gb205 hg w2 hbox hb; have BK205 := Aside0.mk (hbox); have GW205 : Aside0 (w.heap.size ≤ gb205) := WG hg (BB HB.out); have GE205 := GW205; replace HB := Aside0.mk (below_step (BB HB.out) hb); clear hb hbox hg) | ((with_reducible refine gate_dst (N := 2) rfl ?_); refine BX 2 #[.int .i64 0, .int .i64 0, .string (⟨#[]⟩ : ByteArray), .string (⟨#[]⟩ : ByteArray), .string (⟨#[]⟩ : ByteArray), .int .i64 0] 33 ?_; intro gb206 hg w3 hbox hb; have BK206 := Aside0.mk (hbox); have GW206 : Aside0 (w.heap.size ≤ gb206) := WG hg (BB1 HB.out GE205.out); have GE206 := GW206; have NB205_206 := NL BK205.out hg; have NB206_205 := NG BK205.out hg; replace BK205 := Aside0.mk (KB BK205.out hb); replace HB := Aside0.mk (below_step (BB1 HB.out GE205.out) hb); clear hb hbox hg) | ((with_reducible refine gate_dst (N := 3) rfl ?_); refine BX 3 #[.int .i64 0, .int .i64 0, .string (⟨#[]⟩ : ByteArray), .string (⟨#[]⟩ : ByteArray), .string (⟨#[]⟩ : ByteArray), .int .i64 0] 33 ?_; intro gb207 hg w4 hbox hb; have BK207 := Aside0.mk (hbox); have GW207 : Aside0 (w.heap.size ≤ gb207) := WG hg (BB2 HB.out GE205.out GE206.out); have GE207 := GW207; have NB205_207 := NL BK205.out hg; have NB207_205 := NG BK205.out hg; have NB206_207 := NL BK206.out hg; have NB207_206 := NG BK206.out hg; replace BK205 := Aside0.mk (KB BK205.out hb); replace BK206 := Aside0.mk (KB BK206.out hb); replace HB := Aside0.mk (below_step (BB2 HB.out GE205.out GE206.out) hb); clear hb hbox hg; have hnb5 := NB205_206.out; have hnc5 := NB206_205.out; have hnb6 := NB205_207.out; have hnc6 := NB207_205.out; have hcz7 := blk_cell BK205.out; have hfz7 := blk_frozen BK205.out; have hnb8 := NB207_206.out; have hnc8 := NB206_207.out; have hcz9 := blk_cell BK207.out; have hfz9 := blk_frozen BK207.out; have hcz10 := blk_cell BK206.out; have hfz10 := blk_frozen BK206.out))
  refine bodyPost_ret (results_cell_row rfl _ _ gb206 33 #[.int .i64 a0_0, .int .i64 a0_1, .string a0_2, .string a0_3, .string a0_4, .int .i64 a0_5] (0, 0) _ rfl (by (with_reducible repeat (first | refine blk_drewN ?_ _ | refine blk_drew ?_ | refine blk_alloc ?_ _)); refine blk_put (cs := #[.int .i64 a0_0, .int .i64 a0_1, .string a0_2, .string a0_3, .string a0_4, .int .i64 0]) ?_ 5 _ rfl; (with_reducible repeat (first | refine blk_drewN ?_ _ | refine blk_drew ?_ | refine blk_alloc ?_ _)); refine blk_put (cs := #[.int .i64 a0_0, .int .i64 a0_1, .string a0_2, .string a0_3, .string (⟨#[]⟩ : ByteArray), .int .i64 0]) ?_ 4 _ rfl; (with_reducible repeat (first | refine blk_drewN ?_ _ | refine blk_drew ?_ | refine blk_alloc ?_ _)); refine blk_put (cs := #[.int .i64 a0_0, .int .i64 a0_1, .string a0_2, .string (⟨#[]⟩ : ByteArray), .string (⟨#[]⟩ : ByteArray), .int .i64 0]) ?_ 3 _ rfl; (with_reducible repeat (first | refine blk_drewN ?_ _ | refine blk_drew ?_ | refine blk_alloc ?_ _)); refine blk_put (cs := #[.int .i64 a0_0, .int .i64 a0_1, .string (⟨#[]⟩ : ByteArray), .string (⟨#[]⟩ : ByteArray), .string (⟨#[]⟩ : ByteArray), .int .i64 0]) ?_ 2 _ rfl; (with_reducible repeat (first | refine blk_drewN ?_ _ | refine blk_drew ?_ | refine blk_alloc ?_ _)); refine blk_put (cs := #[.int .i64 a0_0, .int .i64 0, .string (⟨#[]⟩ : ByteArray), .string (⟨#[]⟩ : ByteArray), .string (⟨#[]⟩ : ByteArray), .int .i64 0]) ?_ 1 _ rfl; (with_reducible repeat (first | refine blk_drewN ?_ _ | refine blk_drew ?_ | refine blk_alloc ?_ _)); refine blk_put (cs := #[.int .i64 0, .int .i64 0, .string (⟨#[]⟩ : ByteArray), .string (⟨#[]⟩ : ByteArray), .string (⟨#[]⟩ : ByteArray), .int .i64 0]) ?_ 0 _ rfl; (with_reducible repeat (first | refine blk_drewN ?_ _ | refine blk_drew ?_ | refine blk_alloc ?_ _)); refine blk_far ?_ NB206_207.out _; (with_reducible repeat (first | refine blk_drewN ?_ _ | refine blk_drew ?_ | refine blk_alloc ?_ _)); refine blk_far ?_ NB206_207.out _; (with_reducible repeat (first | refine blk_drewN ?_ _ | refine blk_drew ?_ | refine blk_alloc ?_ _)); refine blk_far ?_ NB206_207.out _; (with_reducible repeat (first | refine blk_drewN ?_ _ | refine blk_drew ?_ | refine blk_alloc ?_ _)); refine blk_far ?_ NB206_207.out _; (with_reducible repeat (first | refine blk_drewN ?_ _ | refine blk_drew ?_ | refine blk_alloc ?_ _)); refine blk_far ?_ NB206_207.out _; (with_reducible repeat (first | refine blk_drewN ?_ _ | refine blk_drew ?_ | refine blk_alloc ?_ _)); refine blk_far ?_ NB206_207.out _; (with_reducible repeat (first | refine blk_drewN ?_ _ | refine blk_drew ?_ | refine blk_alloc ?_ _)); exact BK206.out) Tryd.underlying33 rfl (by kernel_rfl)) rfl ?_
  exact ⟨ER, (BB3 HB.out GE205.out GE206.out GE207.out)⟩

end Go.Proofs.YtfgnaneajonapaaDoor.Pr

namespace Go.Proofs.YtfgnaneajonapaaDoor.Pr
open Go.RowKit Go.Proofs.YtfgnaneajonapaaDoorW.PrintWords Go.Proofs.YtfgnaneajonapaaDoorW.PrintLast Go.Proofs.YtfgnaneajonapaaDoorW.PrintMore
attribute [local go_sem] max2_int min2_int max_two min_two max_three min_three max_four min_four
set_option linter.unusedVariables false
set_option linter.unusedSimpArgs false
def laws_eqAsk.f (a0_0 : Int) (a0_1 : Int) (a0_2 : ByteArray) (a0_3 : ByteArray) (a0_4 : ByteArray) (a0_5 : Int) (a1_0 : Int) (a1_1 : Int) (a1_2 : ByteArray) (a1_3 : ByteArray) (a1_4 : ByteArray) (a1_5 : Int) : Option (Bool) := if a0_0 = a1_0 then (if a0_1 = a1_1 then (if a0_2.toList = a1_2.toList then (if a0_3.toList = a1_3.toList then (if a0_4.toList = a1_4.toList then (if a0_5 = a1_5 then (some true) else (some false)) else (some false)) else (some false)) else (some false)) else (some false)) else (some false)
set_option maxHeartbeats 8000000 in
set_option maxRecDepth 100000 in
theorem laws_eqAsk.calls (a0_0 : Int) (a0_1 : Int) (a0_2 : ByteArray) (a0_3 : ByteArray) (a0_4 : ByteArray) (a0_5 : Int) (a1_0 : Int) (a1_1 : Int) (a1_2 : ByteArray) (a1_3 : ByteArray) (a1_4 : ByteArray) (a1_5 : Int) (r : Bool) (w : World) (h : laws_eqAsk.f a0_0 a0_1 a0_2 a0_3 a0_4 a0_5 a1_0 a1_1 a1_2 a1_3 a1_4 a1_5 = some r) (hr_ : Aside0 (r = true) := by exact ⟨rfl⟩) :
    Calls Tryd.prog 38 #[.agg #[.int .i64 a0_0, .int .i64 a0_1, .string a0_2, .string a0_3, .string a0_4, .int .i64 a0_5], .agg #[.int .i64 a1_0, .int .i64 a1_1, .string a1_2, .string a1_3, .string a1_4, .int .i64 a1_5]] w fun e w' => e = .returned (.bool r) ∧ Below w.heap.size w w' := by
  have hu33 := Tryd.underlying33
  have HB := Aside0.mk (Below.refl w.heap.size w)
  have H : (if a0_0 = a1_0 then (if a0_1 = a1_1 then (if a0_2.toList = a1_2.toList then (if a0_3.toList = a1_3.toList then (if a0_4.toList = a1_4.toList then (if a0_5 = a1_5 then (some true) else (some false)) else (some false)) else (some false)) else (some false)) else (some false)) else (some false)) = some r := h
  clear h
  by_cases c3 : a0_0 = a1_0
  · rw [if_pos c3] at H
    have c3b0 : (a0_0 == a1_0) = true := beq_iff_eq.mpr c3
    have c3b1 : (a0_0 != a1_0) = false := bne_eq_false_iff_eq.mpr c3
    clear c3
    by_cases c4 : a0_1 = a1_1
    · rw [if_pos c4] at H
      have c4b0 : (a0_1 == a1_1) = true := beq_iff_eq.mpr c4
      have c4b1 : (a0_1 != a1_1) = false := bne_eq_false_iff_eq.mpr c4
      clear c4
      by_cases c5 : a0_2.toList = a1_2.toList
      · rw [if_pos c5] at H
        have c5b0 : (a0_2.toList == a1_2.toList) = true := beq_iff_eq.mpr c5
        have c5b1 : (a0_2.toList != a1_2.toList) = false := bne_eq_false_iff_eq.mpr c5
        clear c5
        by_cases c6 : a0_3.toList = a1_3.toList
        · rw [if_pos c6] at H
          have c6b0 : (a0_3.toList == a1_3.toList) = true := beq_iff_eq.mpr c6
          have c6b1 : (a0_3.toList != a1_3.toList) = false := bne_eq_false_iff_eq.mpr c6
          clear c6
          by_cases c7 : a0_4.toList = a1_4.toList
          · rw [if_pos c7] at H
            have c7b0 : (a0_4.toList == a1_4.toList) = true := beq_iff_eq.mpr c7
            have c7b1 : (a0_4.toList != a1_4.toList) = false := bne_eq_false_iff_eq.mpr c7
            clear c7
            by_cases c8 : a0_5 = a1_5
            · rw [if_pos c8] at H
              have c8b0 : (a0_5 == a1_5) = true := beq_iff_eq.mpr c8
              have c8b1 : (a0_5 != a1_5) = false := bne_eq_false_iff_eq.mpr c8
              clear c8
              obtain rfl := Option.some.inj H
              go_enter Tryd.func38, Tryd.ntmps38
              go_wp2_with (first | ((with_reducible refine gate_dst (N := 2) rfl ?_); refine BX 2 #[.int .i64 a0_0, .int .i64 a0_1, .string a0_2, .string a0_3, .string a0_4, .int .i64 a0_5] 33 ?_; intro gb287 hg w9 hbox hb; have BK287 := Aside0.mk (hbox); have GW287 : Aside0 (w.heap.size ≤ gb287) := WG hg (BB HB.out); have GE287 := GW287; replace HB := Aside0.mk (below_step (BB HB.out) hb); clear hb hbox hg) | ((with_reducible refine gate_dst (N := 3) rfl ?_); refine BX 3 #[.int .i64 a1_0, .int .i64 a1_1, .string a1_2, .string a1_3, .string a1_4, .int .i64 a1_5] 33 ?_; intro gb288 hg w10 hbox hb; have BK288 := Aside0.mk (hbox); have GW288 : Aside0 (w.heap.size ≤ gb288) := WG hg (BB1 HB.out GE287.out); have GE288 := GW288; have NB287_288 := NL BK287.out hg; have NB288_287 := NG BK287.out hg; replace BK287 := Aside0.mk (KB BK287.out hb); replace HB := Aside0.mk (below_step (BB1 HB.out GE287.out) hb); clear hb hbox hg; have hnb11 := NB287_288.out; have hnc11 := NB288_287.out; have hcz12 := blk_cell BK287.out; have hfz12 := blk_frozen BK287.out; have hcz13 := blk_cell BK288.out; have hfz13 := blk_frozen BK288.out))
              go_ret
              exact ⟨ER, (BB2 HB.out GE287.out GE288.out)⟩
            · rw [if_neg c8] at H
              have c8b0 : (a0_5 == a1_5) = false := beq_eq_false_iff_ne.mpr c8
              have c8b1 : (a0_5 != a1_5) = true := bne_iff_ne.mpr c8
              exact absurd ((Option.some.inj H).trans hr_.out) (by decide)
          · rw [if_neg c7] at H
            have c7b0 : (a0_4.toList == a1_4.toList) = false := beq_eq_false_iff_ne.mpr c7
            have c7b1 : (a0_4.toList != a1_4.toList) = true := bne_iff_ne.mpr c7
            exact absurd ((Option.some.inj H).trans hr_.out) (by decide)
        · rw [if_neg c6] at H
          have c6b0 : (a0_3.toList == a1_3.toList) = false := beq_eq_false_iff_ne.mpr c6
          have c6b1 : (a0_3.toList != a1_3.toList) = true := bne_iff_ne.mpr c6
          exact absurd ((Option.some.inj H).trans hr_.out) (by decide)
      · rw [if_neg c5] at H
        have c5b0 : (a0_2.toList == a1_2.toList) = false := beq_eq_false_iff_ne.mpr c5
        have c5b1 : (a0_2.toList != a1_2.toList) = true := bne_iff_ne.mpr c5
        exact absurd ((Option.some.inj H).trans hr_.out) (by decide)
    · rw [if_neg c4] at H
      have c4b0 : (a0_1 == a1_1) = false := beq_eq_false_iff_ne.mpr c4
      have c4b1 : (a0_1 != a1_1) = true := bne_iff_ne.mpr c4
      exact absurd ((Option.some.inj H).trans hr_.out) (by decide)
  · rw [if_neg c3] at H
    have c3b0 : (a0_0 == a1_0) = false := beq_eq_false_iff_ne.mpr c3
    have c3b1 : (a0_0 != a1_0) = true := bne_iff_ne.mpr c3
    exact absurd ((Option.some.inj H).trans hr_.out) (by decide)

end Go.Proofs.YtfgnaneajonapaaDoor.Pr

namespace Go.Proofs.YtfgnaneajonapaaDoor.Lw
open Go.RowKit Go.Proofs.YtfgnaneajonapaaDoorW.PrintWords Go.Proofs.YtfgnaneajonapaaDoor.Pr Go.Proofs.YtfgnaneajonapaaDoor.Evs
set_option linter.unusedVariables false
abbrev LAsk := S30
abbrev ImAsk := S33
def lnAsk (x : ImAsk) : Prop := True
def wtAsk (x : LAsk) : Nat := x.f2.size + x.f3.size + x.f4.size
def okAsk (x : LAsk) : Prop := x.f2.size ≤ maxLen ∧ x.f3.size ≤ maxLen ∧ x.f4.size ≤ maxLen
def toAsk (x : LAsk) : ImAsk := ⟨x.f0, x.f1, x.f2, x.f3, x.f4, x.f5⟩
theorem szAsk_ev (x : LAsk) (left : Int) (h0 : 0 ≤ left) (h1 : left ≤ 1048576) (hx : okAsk x) : ∃ r, laws_szAsk.f (x.f0) (x.f1) (x.f2) (x.f3) (x.f4) (x.f5) left = some r ∧ (r = -1 ∨ (0 ≤ r ∧ r + wtAsk x = left)) := by
  unfold okAsk maxLen at hx
  unfold laws_szAsk.f wtAsk
  have e0 : wrap64 (left - (x.f2.size : Int)) = left - (x.f2.size : Int) := wrap_in (by omega) (by omega)
  simp only [e0]
  by_cases c0 : left - (x.f2.size : Int) < 0
  · exact ⟨-1, by simp only [if_pos c0], .inl rfl⟩
  have e1 : wrap64 (left - (x.f2.size : Int) - (x.f3.size : Int)) = left - (x.f2.size : Int) - (x.f3.size : Int) := wrap_in (by omega) (by omega)
  simp only [e0, e1]
  by_cases c1 : left - (x.f2.size : Int) - (x.f3.size : Int) < 0
  · exact ⟨-1, by simp only [if_pos c1, if_neg c0], .inl rfl⟩
  have e2 : wrap64 (left - (x.f2.size : Int) - (x.f3.size : Int) - (x.f4.size : Int)) = left - (x.f2.size : Int) - (x.f3.size : Int) - (x.f4.size : Int) := wrap_in (by omega) (by omega)
  simp only [e0, e1, e2]
  by_cases c2 : left - (x.f2.size : Int) - (x.f3.size : Int) - (x.f4.size : Int) < 0
  · exact ⟨-1, by simp only [if_pos c2, if_neg c0, if_neg c1], .inl rfl⟩
  exact ⟨left - (x.f2.size : Int) - (x.f3.size : Int) - (x.f4.size : Int), by simp only [if_neg c0, if_neg c1, if_neg c2], .inr ⟨by omega, by omega⟩⟩
theorem toAsk_ev (x : LAsk) : Ev (fun k => laws_toAsk.f (x.f0) (x.f1) (x.f2) (x.f3) (x.f4) (x.f5)) ((toAsk x).f0, (toAsk x).f1, (toAsk x).f2, (toAsk x).f3, (toAsk x).f4, (toAsk x).f5) := ev_const rfl
theorem eqAsk_refl (x : ImAsk) : laws_eqAsk.f (x.f0) (x.f1) (x.f2) (x.f3) (x.f4) (x.f5) (x.f0) (x.f1) (x.f2) (x.f3) (x.f4) (x.f5) = some true := by unfold laws_eqAsk.f; simp
def bdAsk (x : ImAsk) : Prop := (x.f2.size ≤ 1048576) ∧ (x.f3.size ≤ 1048576) ∧ (x.f4.size ≤ 1048576)
theorem bd_toAsk (x : LAsk) (h : wtAsk x ≤ 1048576) : bdAsk (toAsk x) := by
  unfold wtAsk at h
  exact ⟨(show x.f2.size ≤ 1048576 by omega), (show x.f3.size ≤ 1048576 by omega), (show x.f4.size ≤ 1048576 by omega)⟩
theorem ln_bdAsk {x : ImAsk} (h : bdAsk x) : lnAsk x := trivial
end Go.Proofs.YtfgnaneajonapaaDoor.Lw

namespace Go.Proofs.YtfgnaneajonapaaDoor.Pr
open Go.RowKit Go.Proofs.YtfgnaneajonapaaDoorW.PrintWords Go.Proofs.YtfgnaneajonapaaDoorW.PrintLast Go.Proofs.YtfgnaneajonapaaDoorW.PrintMore
attribute [local go_sem] max2_int min2_int max_two min_two max_three min_three max_four min_four
set_option linter.unusedVariables false
set_option linter.unusedSimpArgs false
def laws_szIntS.f (l0 : List Int) (a1 : Int) : Option (Int) := if (wrap64 (a1 - (l0.length : Int))) < 0 then (some (-1)) else (some (wrap64 (a1 - (l0.length : Int))))
set_option maxHeartbeats 8000000 in
set_option maxRecDepth 100000 in
theorem laws_szIntS.calls (A0 : Option Addr) (c0 : Nat) (l0 : List Int) (a1 : Int) (r : Int) (w : World) (hr0 : Kd.C (Kd.int .i64) w A0 l0.length l0) (hc0 : l0.length ≤ c0) (h : laws_szIntS.f l0 a1 = some r) :
    Calls Tryd.prog 36 #[.slice A0 l0.length c0, .int .i64 a1] w fun e w' => e = .returned (.int .i64 r) ∧ Drawn0 w w' := by
  have HR0 := Aside0.mk hr0
  have HC0 := Aside0.mk hc0
  clear hr0 hc0
  have H : (if (wrap64 (a1 - (l0.length : Int))) < 0 then (some (-1)) else (some (wrap64 (a1 - (l0.length : Int))))) = some r := h
  clear h
  by_cases c3 : (wrap64 (a1 - (l0.length : Int))) < 0
  · rw [if_pos c3] at H
    have c3b0 : decide ((wrap64 (a1 - (l0.length : Int))) < 0) = true := decide_eq_true c3
    clear c3
    obtain rfl := Option.some.inj H
    go_enter Tryd.func36, Tryd.ntmps36
    go_wp2
    go_ret
    exact ⟨FR, by repeat (first | exact Drawn0.refl _ | apply Drawn0.step)⟩
  · rw [if_neg c3] at H
    have c3b0 : decide ((wrap64 (a1 - (l0.length : Int))) < 0) = false := decide_eq_false c3
    clear c3
    obtain rfl := Option.some.inj H
    go_enter Tryd.func36, Tryd.ntmps36
    go_wp2
    go_ret
    exact ⟨FR, by repeat (first | exact Drawn0.refl _ | apply Drawn0.step)⟩

end Go.Proofs.YtfgnaneajonapaaDoor.Pr

namespace Go.Proofs.YtfgnaneajonapaaDoor.Pr
open Go.RowKit Go.Proofs.YtfgnaneajonapaaDoorW.PrintWords Go.Proofs.YtfgnaneajonapaaDoorW.PrintLast Go.Proofs.YtfgnaneajonapaaDoorW.PrintMore
attribute [local go_sem] max2_int min2_int max_two min_two max_three min_three max_four min_four
set_option linter.unusedVariables false
set_option linter.unusedSimpArgs false
def laws_toIntS.l0 : Nat → List Int → List Int → Int → Option (List Int)
  | 0, _, _, _ => none
  | k + 1, x0, x3, x4 => if x4 < (x0.length : Int) then (if 0 ≤ x4 then (if x4 < (x3.length : Int) then (laws_toIntS.l0 k x0 (x3.set (x4 : Int).toNat (rd x0 x4)) (wrap64 (x4 + 1))) else (none)) else (none)) else (some x3)
def laws_toIntS.f (k : Nat) (l0 : List Int) : Option (List Int) := if 0 ≤ (l0.length : Int) then (if ((l0.length : Int) : Int).toNat ≤ 35184372088832 then (laws_toIntS.l0 k l0 (List.replicate ((l0.length : Int) : Int).toNat 0) 0) else (none)) else (none)
set_option maxHeartbeats 8000000 in
set_option maxRecDepth 100000 in
theorem laws_toIntS.calls (k : Nat) (A0 : Option Addr) (c0 : Nat) (l0 : List Int) (r : List Int) (w : World) (hr0 : Kd.C (Kd.int .i64) w A0 l0.length l0) (hc0 : l0.length ≤ c0) (h : laws_toIntS.f k l0 = some r) :
    Calls Tryd.prog 37 #[.slice A0 l0.length c0] w fun e w' => ∃ v0_ : Value, e = .returned (v0_) ∧ Kd.R (Kd.int .i64) 3 w' w.heap.size (fun _ => True) v0_ r ∧ Below w.heap.size w w' := by
  have HR0 := Aside0.mk hr0
  have HC0 := Aside0.mk hc0
  clear hr0 hc0
  have HB := Aside0.mk (Below.refl w.heap.size w)
  have H : (if 0 ≤ (l0.length : Int) then (if ((l0.length : Int) : Int).toNat ≤ 35184372088832 then (laws_toIntS.l0 k l0 (List.replicate ((l0.length : Int) : Int).toNat 0) 0) else (none)) else (none)) = some r := h
  clear h
  by_cases c2 : 0 ≤ (l0.length : Int)
  · rw [if_pos c2] at H
    have c2b0 := eq_true c2
    have c2b1 : decide (0 ≤ (l0.length : Int)) = true := decide_eq_true c2
    clear c2
    by_cases c3 : ((l0.length : Int) : Int).toNat ≤ 35184372088832
    · rw [if_pos c3] at H
      have c3b0 := eq_true c3
      have c3b1 : decide (((l0.length : Int) : Int).toNat ≤ 35184372088832) = true := decide_eq_true c3
      clear c3
      obtain ⟨y265, hy265⟩ : ∃ y_ : List Int, y_ = (List.replicate ((l0.length : Int) : Int).toNat 0) := ⟨_, rfl⟩
      replace H : (laws_toIntS.l0 k l0 y265 0) = some r := by first | (rw [hy265]; with_reducible exact H) | (have H2_ := (Option.bind_some _ _).symm.trans H; rw [hy265]; with_reducible exact H2_) | (have H2_ := (Option.bind_some _ _).symm.trans H; with_reducible exact H2_) | with_reducible exact H | (rw [hy265]; exact H) | exact H
      have Ny265 := Aside0.mk hy265
      clear hy265
      have H' := Aside0.mk H
      clear H
      go_enter Tryd.func37, Tryd.ntmps37
      go_wp2_with (first | ((with_reducible refine gate_dst (N := 7) rfl ?_); refine Kd.R_make (Kd.int .i64) _ 3 rfl (N := 7) rfl 36 _ _ rfl (l0.length : Int) rfl rfl Tryd.underlying36 (.int .i64 0) 8 info3 rfl (by decide) (by omega) 0 (ok := fun _ => True) (okp := fun _ => True) rfl (fun _ hk => hk) trivial DT (Nat.le_trans (Nat.mul_le_mul_right _ (DT : (l0.length : Int).toNat ≤ 35184372088832)) (by omega)) (Below.refl _ _) (Nat.le_refl _) ?_; intro v266 w4 ho5 hb hg_ hnew_; clear hg_ hnew_; (first | rw [← Ny265.out] at ho5 | (simp only [Int.reduceToNat] at ho5; rw [← Ny265.out] at ho5)); have HO267 := Aside0.mk (Kd.R_lower ho5 (below_size (BB HB.out))); replace HB := Aside0.mk (below_step (BB HB.out) hb); clear hb ho5))
      go_loopg [4] k (fun kq v4 w' => ∃ (x3_1 : List Int) (x4_1 : Int), v4 = .int .i64 x4_1 ∧ Aside0 (laws_toIntS.l0 kq l0 x3_1 x4_1 = some r) ∧ Aside0 (kq ≤ k) ∧ Aside0 (Kd.R (Kd.int .i64) 3 w' w.heap.size (fun _ => True) v266 x3_1) ∧ Aside0 (Below w.heap.size w w'))
      case atStart => exact ⟨(y265), (0), FR, H', ⟨Nat.le_refl _⟩, ⟨(RR HO267.out)⟩, ⟨(BB HB.out)⟩⟩
      case round =>
        clear H'
        try clear c2
        try clear c2b0
        try clear c2b1
        try clear p2
        try clear c3
        try clear c3b0
        try clear c3b1
        obtain ⟨x3_1, x4_1, rfl, HA, HK1, HO_3, HB⟩ := hrel
        cases gk with
        | zero => exact absurd HA.out (by simp [laws_toIntS.l0])
        | succ k1 =>
          have H := HA.out
          clear HA
          simp only [laws_toIntS.l0] at H
          by_cases c6 : x4_1 < (l0.length : Int)
          · rw [if_pos c6] at H
            have c6b0 : decide (x4_1 < (l0.length : Int)) = true := decide_eq_true c6
            clear c6
            by_cases c7 : 0 ≤ x4_1
            · rw [if_pos c7] at H
              have c7b0 : decide (0 ≤ x4_1) = true := decide_eq_true c7
              clear c7
              by_cases c8 : x4_1 < (x3_1.length : Int)
              · rw [if_pos c8] at H
                have c8b0 : decide (x4_1 < (x3_1.length : Int)) = true := decide_eq_true c8
                clear c8
                obtain ⟨y269, hy269⟩ : ∃ y_ : List Int, y_ = (x3_1.set (x4_1 : Int).toNat (rd l0 x4_1)) := ⟨_, rfl⟩
                replace H : (laws_toIntS.l0 k1 l0 y269 (wrap64 (x4_1 + 1))) = some r := by first | (rw [hy269]; with_reducible exact H) | (have H2_ := (Option.bind_some _ _).symm.trans H; rw [hy269]; with_reducible exact H2_) | (have H2_ := (Option.bind_some _ _).symm.trans H; with_reducible exact H2_) | with_reducible exact H | (rw [hy269]; exact H) | exact H
                have Ny269 := Aside0.mk hy269
                clear hy269
                have H' := Aside0.mk H
                clear H
                have p268 : 0 ≤ (x4_1 : Int) := DT
                have q268 : x4_1 < (l0.length : Int) := DT
                obtain ⟨ad268, e268, hx268_0⟩ := Kd.at_int HR0.out x4_1 p268 q268
                cases e268
                replace hx268_0 := (HB.out.cell (World.block_lt_of_cell? w _ hx268_0)).trans hx268_0
                replace p268 := eq_true p268
                replace q268 := eq_true q268
                have p9 : 0 ≤ (x4_1 : Int) := DT
                have q9 : (x4_1 : Int) < ((x3_1.length : Int) : Int) := DT
                obtain ⟨go9, co9, eo9, gb9, gl9, cl9, HG9⟩ := Kd.R_form HO_3.out (by omega)
                (first | cases eo9 | (injection eo9 with ea_ en_ ec_; (first | subst ea_ | (injection ea_ with ea_; subst ea_)); subst ec_; clear en_))
                have GB9 := Aside0.mk gb9
                have GG9 := Aside0.mk HG9
                clear gb9 gl9 HG9
                obtain ⟨hx9_0, hf9_0⟩ := Kd.R_celln 0 HO_3.out (x4_1 : Int) p9 q9
                replace p9 := eq_true p9
                replace q9 := eq_true q9
                have HP10 := Kd.R_putg HO_3.out (x4_1 : Int) (rd l0 x4_1)
                go_wp2_with (first | ((with_reducible refine gate_store (t := 3) (p := 20) rfl ?_); refine store_event (t := 3) (p := 20) (v := ?vo_w11) (w1 := (wr.setCell ⟨go9, (x4_1 : Int).toNat, none⟩ (.int .i64 (rd l0 x4_1)))) ?hg ?ho ?hn ?hr ?_; (case ho => rfl); (case hg => rfl); (case hn => rfl); (case hr => first | (go_simp; done) | (go_simp; rfl)); intro w11 hw; have hg : wr.grownBy w11 (some go9) := (by rw [hw]; exact HP10.2); have hp_ : Kd.R (Kd.int .i64) 3 w11 w.heap.size (fun _ => True) (.slice (some ⟨go9, 0, none⟩) x3_1.length co9) y269 := (by rw [hw, Ny269.out]; exact HP10.1); clear HP10; have n0_ := Aside0.mk (hp_); have n1_ := Aside0.mk ((by rw [hw]; exact below_set (HB.out) GB9.out : Below w.heap.size w w11)); clear HO_3; clear HB; have HO_3 := n0_; have HB := n1_; clear n0_ n1_; clear hg hw hp_))
                go_roundg k1
                case measure => have := HK1.out; omega
                case rel => exact ⟨(y269), (wrap64 (x4_1 + 1)), FR, H', ⟨by have := HK1.out; omega⟩, ⟨(RR HO_3.out)⟩, ⟨(BB HB.out)⟩⟩
              · rw [if_neg c8] at H
                exact absurd H (by simp)
            · rw [if_neg c7] at H
              exact absurd H (by simp)
          · rw [if_neg c6] at H
            have c6b0 : decide (x4_1 < (l0.length : Int)) = false := decide_eq_false c6
            clear c6
            obtain rfl := Option.some.inj H
            go_wp2
            go_ret
            exact ⟨_, ER, by (with_reducible repeat (first | apply Kd.R_alloc | apply Kd.R_drewN | apply Kd.R_drew)); exact HO_3.out, (BB HB.out)⟩
    · rw [if_neg c3] at H
      exact absurd H (by simp)
  · rw [if_neg c2] at H
    exact absurd H (by simp)

end Go.Proofs.YtfgnaneajonapaaDoor.Pr

namespace Go.Proofs.YtfgnaneajonapaaDoor.Pr
open Go.RowKit Go.Proofs.YtfgnaneajonapaaDoorW.PrintWords Go.Proofs.YtfgnaneajonapaaDoorW.PrintLast Go.Proofs.YtfgnaneajonapaaDoorW.PrintMore
attribute [local go_sem] max2_int min2_int max_two min_two max_three min_three max_four min_four
set_option linter.unusedVariables false
set_option linter.unusedSimpArgs false
def laws_eqIntS.l0 : Nat → List Int → List Int → Int → Option (Bool)
  | 0, _, _, _ => none
  | k + 1, x0, x1, x5 => if x5 < (x0.length : Int) then (if 0 ≤ x5 then (if x5 < (x1.length : Int) then (if (rd x0 x5) = (rd x1 x5) then (laws_eqIntS.l0 k x0 x1 (wrap64 (x5 + 1))) else (some false)) else (none)) else (none)) else (some true)
def laws_eqIntS.f (k : Nat) (l0 : List Int) (l1 : List Int) : Option (Bool) := if (l0.length : Int) = (l1.length : Int) then (laws_eqIntS.l0 k l0 l1 0) else (some false)
set_option maxHeartbeats 8000000 in
set_option maxRecDepth 100000 in
theorem laws_eqIntS.calls (k : Nat) (A0 : Option Addr) (c0 : Nat) (l0 : List Int) (A1 : Option Addr) (c1 : Nat) (l1 : List Int) (r : Bool) (w : World) (hr0 : Kd.C (Kd.int .i64) w A0 l0.length l0) (hc0 : l0.length ≤ c0) (hr1 : Kd.C (Kd.int .i64) w A1 l1.length l1) (hc1 : l1.length ≤ c1) (h : laws_eqIntS.f k l0 l1 = some r) (hr_ : Aside0 (r = true) := by exact ⟨rfl⟩) :
    Calls Tryd.prog 39 #[.slice A0 l0.length c0, .slice A1 l1.length c1] w fun e w' => e = .returned (.bool r) ∧ Drawn0 w w' := by
  have HR0 := Aside0.mk hr0
  have HC0 := Aside0.mk hc0
  clear hr0 hc0
  have HR1 := Aside0.mk hr1
  have HC1 := Aside0.mk hc1
  clear hr1 hc1
  have H : (if (l0.length : Int) = (l1.length : Int) then (laws_eqIntS.l0 k l0 l1 0) else (some false)) = some r := h
  clear h
  by_cases c3 : (l0.length : Int) = (l1.length : Int)
  · rw [if_pos c3] at H
    have c3b0 : ((l0.length : Int) == (l1.length : Int)) = true := beq_iff_eq.mpr c3
    have c3b1 : ((l0.length : Int) != (l1.length : Int)) = false := bne_eq_false_iff_eq.mpr c3
    have c3b2 : (l0.length == l1.length) = true := by first | simpa using c3 | (simp at c3 ⊢; omega)
    clear c3
    have H' := Aside0.mk H
    clear H
    go_enter Tryd.func39, Tryd.ntmps39
    go_wp2
    repeat (go_quiet (fail); try go_wp2)
    go_loopg [5] k (fun kq v5 w' => ∃ (x5_1 : Int), v5 = .int .i64 x5_1 ∧ Aside0 (laws_eqIntS.l0 kq l0 l1 x5_1 = some r) ∧ Aside0 (kq ≤ k) ∧ Drawn0 w w')
    case atStart => exact ⟨(0), FR, H', ⟨Nat.le_refl _⟩, by repeat (first | exact Drawn0.refl _ | apply Drawn0.step)⟩
    case round =>
      clear H'
      try clear c1
      try clear p2
      try clear c3
      try clear c3b0
      try clear c3b1
      try clear c3b2
      obtain ⟨x5_1, rfl, HA, HK1, ⟨m1, rfl⟩⟩ := hrel
      cases gk with
      | zero => exact absurd HA.out (by simp [laws_eqIntS.l0])
      | succ k1 =>
        have H := HA.out
        clear HA
        simp only [laws_eqIntS.l0] at H
        by_cases c4 : x5_1 < (l0.length : Int)
        · rw [if_pos c4] at H
          have c4b0 : decide (x5_1 < (l0.length : Int)) = true := decide_eq_true c4
          clear c4
          by_cases c5 : 0 ≤ x5_1
          · rw [if_pos c5] at H
            have c5b0 : decide (0 ≤ x5_1) = true := decide_eq_true c5
            clear c5
            by_cases c6 : x5_1 < (l1.length : Int)
            · rw [if_pos c6] at H
              have c6b0 : decide (x5_1 < (l1.length : Int)) = true := decide_eq_true c6
              clear c6
              by_cases c7 : (rd l0 x5_1) = (rd l1 x5_1)
              · rw [if_pos c7] at H
                have c7b0 : ((rd l0 x5_1) == (rd l1 x5_1)) = true := beq_iff_eq.mpr c7
                have c7b1 : ((rd l0 x5_1) != (rd l1 x5_1)) = false := bne_eq_false_iff_eq.mpr c7
                clear c7
                have H' := Aside0.mk H
                clear H
                have p289 : 0 ≤ (x5_1 : Int) := DT
                have q289 : x5_1 < (l0.length : Int) := DT
                obtain ⟨ad289, e289, hx289_0⟩ := Kd.at_int HR0.out x5_1 p289 q289
                cases e289
                replace p289 := eq_true p289
                replace q289 := eq_true q289
                have p290 : 0 ≤ (x5_1 : Int) := DT
                have q290 : x5_1 < (l1.length : Int) := DT
                obtain ⟨ad290, e290, hx290_0⟩ := Kd.at_int HR1.out x5_1 p290 q290
                cases e290
                replace p290 := eq_true p290
                replace q290 := eq_true q290
                go_wp2
                repeat (go_quiet (fail); try go_wp2)
                go_roundg k1
                case measure => have := HK1.out; omega
                case rel => exact ⟨(wrap64 (x5_1 + 1)), FR, H', ⟨by have := HK1.out; omega⟩, by repeat (first | exact Drawn0.refl _ | apply Drawn0.step)⟩
              · rw [if_neg c7] at H
                have c7b0 : ((rd l0 x5_1) == (rd l1 x5_1)) = false := beq_eq_false_iff_ne.mpr c7
                have c7b1 : ((rd l0 x5_1) != (rd l1 x5_1)) = true := bne_iff_ne.mpr c7
                exact absurd ((Option.some.inj H).trans hr_.out) (by decide)
            · rw [if_neg c6] at H
              exact absurd H (by simp)
          · rw [if_neg c5] at H
            exact absurd H (by simp)
        · rw [if_neg c4] at H
          have c4b0 : decide (x5_1 < (l0.length : Int)) = false := decide_eq_false c4
          clear c4
          obtain rfl := Option.some.inj H
          go_wp2
          repeat (go_quiet (fail); try go_wp2)
          go_ret
          exact ⟨FR, by repeat (first | exact Drawn0.refl _ | apply Drawn0.step)⟩
  · rw [if_neg c3] at H
    have c3b0 : ((l0.length : Int) == (l1.length : Int)) = false := beq_eq_false_iff_ne.mpr c3
    have c3b1 : ((l0.length : Int) != (l1.length : Int)) = true := bne_iff_ne.mpr c3
    have c3b2 : (l0.length == l1.length) = false := by first | simpa using c3 | (simp at c3 ⊢; omega)
    exact absurd ((Option.some.inj H).trans hr_.out) (by decide)

end Go.Proofs.YtfgnaneajonapaaDoor.Pr

namespace Go.Proofs.YtfgnaneajonapaaDoor.Lw
open Go.RowKit Go.Proofs.YtfgnaneajonapaaDoorW.PrintWords Go.Proofs.YtfgnaneajonapaaDoor.Pr Go.Proofs.YtfgnaneajonapaaDoor.Evs
set_option linter.unusedVariables false
theorem rdInt (p s : List Int) (x : Int) : rd (p ++ x :: s) (p.length : Int) = x := by unfold rd; exact getD_mid' p s x _ _ rfl
def wtIntS (l : List Int) : Nat := l.length
theorem wtIntS_len (l : List Int) : l.length ≤ wtIntS l := Nat.le_refl _
theorem szIntS_ev (l : List Int) (hl : l.length ≤ maxLen) (ho : ∀ x ∈ l, True) (left : Int) (h0 : 0 ≤ left) (h1 : left ≤ 1048576) : SzEv (fun k => laws_szIntS.f l left) left (wtIntS l) := by
  unfold laws_szIntS.f wtIntS
  unfold maxLen at hl
  rw [wrap_in (i := left - (l.length : Int)) (by omega) (by omega)]
  exact sz_eq (sz_str (w2 := (0 : Int)) (fun g => sz_done g)) (by omega)
theorem toIntS_loop (s : List Int) : ∀ (p : List Int), p.length + s.length < 9223372036854775807 →
    Ev (fun k => laws_toIntS.l0 k (p ++ s) (p ++ List.replicate s.length 0) (p.length : Int)) (p ++ s) := by
  induction s with
  | nil => intro p hl; exact ev_step (fun k => laws_toIntS.l0.eq_2 _ _ _ k) (ev_neg (by simp) (ev_eq (ev_some _) (by simp)))
  | cons x s ih =>
    intro p hl
    simp at hl
    refine ev_step (fun k => laws_toIntS.l0.eq_2 _ _ _ k) (ev_pos (by simp; omega) (ev_pos (by omega) (ev_pos (by simp; omega) ?_)))
    rw [wrap_succ (by omega) (by omega)]
    have h := ih (p ++ [x]) (by simp; omega)
    have e : (p ++ List.replicate (x :: s).length 0).set ((p.length : Int)).toNat x = (p ++ [x]) ++ List.replicate s.length 0 := by
      rw [List.length_cons, List.replicate_succ, set_mid _ _ _ _ _ rfl]
      simp
    simp only [rdInt, e]
    simpa using h
theorem toIntS_ev (l : List Int) (hl : wtIntS l ≤ 1048576) : Ev (fun k => laws_toIntS.f k l) l := by
  have hw := wtIntS_len l
  unfold laws_toIntS.f
  refine ev_pos (by omega) (ev_pos (by omega) ?_)
  have h := toIntS_loop l [] (by simp; omega)
  simpa using h
theorem eqIntS_loop (s : List Int) : ∀ (p : List Int), p.length + s.length < 9223372036854775807 → Ev (fun k => laws_eqIntS.l0 k (p ++ s) (p ++ s) (p.length : Int)) true := by
  induction s with
  | nil => intro p hl; exact ev_step (fun k => laws_eqIntS.l0.eq_2 _ _ _ k) (ev_neg (by simp) (ev_some _))
  | cons x s ih =>
    intro p hl
    simp at hl
    refine ev_step (fun k => laws_eqIntS.l0.eq_2 _ _ _ k) (ev_pos (by simp; omega) (ev_pos (by omega) (ev_pos (by simp; omega) ?_)))
    refine ev_pos (by first | rfl | simp) ?_
    rw [wrap_succ (by omega) (by omega)]
    simpa using ih (p ++ [x]) (by simp; omega)
theorem eqIntS_ev (l : List Int) (hl : l.length < 9223372036854775807) : Ev (fun k => laws_eqIntS.f k l l) true := by
  unfold laws_eqIntS.f
  refine ev_pos rfl ?_
  simpa using eqIntS_loop l [] (by simp; omega)
end Go.Proofs.YtfgnaneajonapaaDoor.Lw

namespace Go.Proofs.YtfgnaneajonapaaDoor.Pr
open Go.RowKit Go.Proofs.YtfgnaneajonapaaDoorW.PrintWords Go.Proofs.YtfgnaneajonapaaDoorW.PrintLast Go.Proofs.YtfgnaneajonapaaDoorW.PrintMore
attribute [local go_sem] max2_int min2_int max_two min_two max_three min_three max_four min_four
set_option linter.unusedVariables false
set_option linter.unusedSimpArgs false
def laws_szEvent.f (a0_0 : Int) (a0_1 : Int) (a0_2 : Int) (a0_3 : ByteArray) (a0_4 : ByteArray) (a0_5 : ByteArray) (a0_6 : Int) (a0_7 : Int) (a0_8 : Int) (a0_9 : Bool) (l0_10 : List Int) (a1 : Int) : Option (Int) := (laws_szAsk.f a0_1 a0_2 a0_3 a0_4 a0_5 a0_6 a1).bind fun t259 => (if t259 < 0 then (some (-1)) else ((laws_szIntS.f l0_10 t259).bind fun t260 => (if t260 < 0 then (some (-1)) else (some t260))))
set_option maxHeartbeats 8000000 in
set_option maxRecDepth 100000 in
theorem laws_szEvent.calls (a0_0 : Int) (a0_1 : Int) (a0_2 : Int) (a0_3 : ByteArray) (a0_4 : ByteArray) (a0_5 : ByteArray) (a0_6 : Int) (a0_7 : Int) (a0_8 : Int) (a0_9 : Bool) (A0_10 : Option Addr) (c0_10 : Nat) (l0_10 : List Int) (a1 : Int) (r : Int) (w : World) (hr0_10 : Kd.C (Kd.int .i64) w A0_10 l0_10.length l0_10) (hc0_10 : l0_10.length ≤ c0_10) (h : laws_szEvent.f a0_0 a0_1 a0_2 a0_3 a0_4 a0_5 a0_6 a0_7 a0_8 a0_9 l0_10 a1 = some r) :
    Calls Tryd.prog 16 #[.agg #[.int .i64 a0_0, .int .i64 a0_1, .int .i64 a0_2, .string a0_3, .string a0_4, .string a0_5, .int .i64 a0_6, .int .i64 a0_7, .int .i64 a0_8, .bool a0_9, .slice A0_10 l0_10.length c0_10], .int .i64 a1] w fun e w' => e = .returned (.int .i64 r) ∧ Below w.heap.size w w' := by
  have hu38 := Tryd.underlying38
  have hu30 := Tryd.underlying30
  have HR0_10 := Aside0.mk hr0_10
  have HC0_10 := Aside0.mk hc0_10
  clear hr0_10 hc0_10
  have HB := Aside0.mk (Below.refl w.heap.size w)
  have H : ((laws_szAsk.f a0_1 a0_2 a0_3 a0_4 a0_5 a0_6 a1).bind fun t259 => (if t259 < 0 then (some (-1)) else ((laws_szIntS.f l0_10 t259).bind fun t260 => (if t260 < 0 then (some (-1)) else (some t260))))) = some r := h
  clear h
  replace H := Option.bind_eq_some_iff.mp H
  obtain ⟨t259, A30, H⟩ := H
  replace H : (if t259 < 0 then (some (-1)) else ((laws_szIntS.f l0_10 t259).bind fun t260 => (if t260 < 0 then (some (-1)) else (some t260)))) = some r := H
  have A3 := Aside0.mk A30
  clear A30
  by_cases c4 : t259 < 0
  · rw [if_pos c4] at H
    have c4b0 : decide (t259 < 0) = true := decide_eq_true c4
    clear c4
    obtain rfl := Option.some.inj H
    go_enter Tryd.func16, Tryd.ntmps16
    go_wp2_with (first | ((with_reducible refine gate_dst (N := 2) rfl ?_); refine BX 2 #[.int .i64 a0_0, .int .i64 a0_1, .int .i64 a0_2, .string a0_3, .string a0_4, .string a0_5, .int .i64 a0_6, .int .i64 a0_7, .int .i64 a0_8, .bool a0_9, .slice A0_10 l0_10.length c0_10] 38 ?_; intro gb258 hg w5 hbox hb; have BK258 := Aside0.mk (hbox); have GW258 : Aside0 (w.heap.size ≤ gb258) := WG hg (BB HB.out); have GE258 := GW258; replace HB := Aside0.mk (below_step (BB HB.out) hb); clear hb hbox hg; have hcz6 := blk_cell BK258.out; have hfz6 := blk_frozen BK258.out) | ((with_reducible refine gate_callee (f := 12) rfl ?_); refine GL (some 8) rfl rfl Tryd.func12 #[.agg #[.int .i64 a0_1, .int .i64 a0_2, .string a0_3, .string a0_4, .string a0_5, .int .i64 a0_6], .int .i64 a1] rfl ?_; (with_reducible refine (laws_szAsk.calls a0_1 a0_2 a0_3 a0_4 a0_5 a0_6 a1 t259 _ A3.out).mono ?_); rintro e w7 ⟨rfl, hb⟩; refine ⟨_, rfl, ?_⟩; replace BK258 := Aside0.mk (KB BK258.out hb); replace HB := Aside0.mk (below_step (BB1 HB.out GE258.out) hb); (try clear hb)))
    go_ret
    exact ⟨ER, (BB1 HB.out GE258.out)⟩
  · rw [if_neg c4] at H
    have c4b0 : decide (t259 < 0) = false := decide_eq_false c4
    clear c4
    replace H := Option.bind_eq_some_iff.mp H
    obtain ⟨t260, A80, H⟩ := H
    replace H : (if t260 < 0 then (some (-1)) else (some t260)) = some r := H
    have A8 := Aside0.mk A80
    clear A80
    by_cases c9 : t260 < 0
    · rw [if_pos c9] at H
      have c9b0 : decide (t260 < 0) = true := decide_eq_true c9
      clear c9
      obtain rfl := Option.some.inj H
      go_enter Tryd.func16, Tryd.ntmps16
      go_wp2_with (first | ((with_reducible refine gate_dst (N := 2) rfl ?_); refine BX 2 #[.int .i64 a0_0, .int .i64 a0_1, .int .i64 a0_2, .string a0_3, .string a0_4, .string a0_5, .int .i64 a0_6, .int .i64 a0_7, .int .i64 a0_8, .bool a0_9, .slice A0_10 l0_10.length c0_10] 38 ?_; intro gb258 hg w10 hbox hb; have BK258 := Aside0.mk (hbox); have GW258 : Aside0 (w.heap.size ≤ gb258) := WG hg (BB HB.out); have GE258 := GW258; replace HB := Aside0.mk (below_step (BB HB.out) hb); clear hb hbox hg; have hcz11 := blk_cell BK258.out; have hfz11 := blk_frozen BK258.out) | ((with_reducible refine gate_callee (f := 12) rfl ?_); refine GL (some 8) rfl rfl Tryd.func12 #[.agg #[.int .i64 a0_1, .int .i64 a0_2, .string a0_3, .string a0_4, .string a0_5, .int .i64 a0_6], .int .i64 a1] rfl ?_; (with_reducible refine (laws_szAsk.calls a0_1 a0_2 a0_3 a0_4 a0_5 a0_6 a1 t259 _ A3.out).mono ?_); rintro e w12 ⟨rfl, hb⟩; refine ⟨_, rfl, ?_⟩; replace BK258 := Aside0.mk (KB BK258.out hb); replace HB := Aside0.mk (below_step (BB1 HB.out GE258.out) hb); (try clear hb); have hcz13 := blk_cell BK258.out; have hfz13 := blk_frozen BK258.out) | ((with_reducible refine gate_callee (f := 36) rfl ?_); refine GL (some 14) rfl rfl Tryd.func36 #[.slice A0_10 l0_10.length c0_10, .int .i64 t259] rfl ?_; (with_reducible refine (laws_szIntS.calls _ _ l0_10 t259 t260 _ ?side1 ?side2 A8.out).mono ?_); (case side1 => exact CC (Kd.C_below HR0_10.out HB.out)); (case side2 => exact HC0_10.out); rintro e w' ⟨rfl, ⟨nd, rfl⟩⟩; refine ⟨_, rfl, ?_⟩))
      go_ret
      exact ⟨ER, (BB1 HB.out GE258.out)⟩
    · rw [if_neg c9] at H
      have c9b0 : decide (t260 < 0) = false := decide_eq_false c9
      clear c9
      obtain rfl := Option.some.inj H
      go_enter Tryd.func16, Tryd.ntmps16
      go_wp2_with (first | ((with_reducible refine gate_dst (N := 2) rfl ?_); refine BX 2 #[.int .i64 a0_0, .int .i64 a0_1, .int .i64 a0_2, .string a0_3, .string a0_4, .string a0_5, .int .i64 a0_6, .int .i64 a0_7, .int .i64 a0_8, .bool a0_9, .slice A0_10 l0_10.length c0_10] 38 ?_; intro gb258 hg w14 hbox hb; have BK258 := Aside0.mk (hbox); have GW258 : Aside0 (w.heap.size ≤ gb258) := WG hg (BB HB.out); have GE258 := GW258; replace HB := Aside0.mk (below_step (BB HB.out) hb); clear hb hbox hg; have hcz15 := blk_cell BK258.out; have hfz15 := blk_frozen BK258.out) | ((with_reducible refine gate_callee (f := 12) rfl ?_); refine GL (some 8) rfl rfl Tryd.func12 #[.agg #[.int .i64 a0_1, .int .i64 a0_2, .string a0_3, .string a0_4, .string a0_5, .int .i64 a0_6], .int .i64 a1] rfl ?_; (with_reducible refine (laws_szAsk.calls a0_1 a0_2 a0_3 a0_4 a0_5 a0_6 a1 t259 _ A3.out).mono ?_); rintro e w16 ⟨rfl, hb⟩; refine ⟨_, rfl, ?_⟩; replace BK258 := Aside0.mk (KB BK258.out hb); replace HB := Aside0.mk (below_step (BB1 HB.out GE258.out) hb); (try clear hb); have hcz17 := blk_cell BK258.out; have hfz17 := blk_frozen BK258.out) | ((with_reducible refine gate_callee (f := 36) rfl ?_); refine GL (some 14) rfl rfl Tryd.func36 #[.slice A0_10 l0_10.length c0_10, .int .i64 t259] rfl ?_; (with_reducible refine (laws_szIntS.calls _ _ l0_10 t259 t260 _ ?side1 ?side2 A8.out).mono ?_); (case side1 => exact CC (Kd.C_below HR0_10.out HB.out)); (case side2 => exact HC0_10.out); rintro e w' ⟨rfl, ⟨nd, rfl⟩⟩; refine ⟨_, rfl, ?_⟩))
      go_ret
      exact ⟨ER, (BB1 HB.out GE258.out)⟩

end Go.Proofs.YtfgnaneajonapaaDoor.Pr

namespace Go.Proofs.YtfgnaneajonapaaDoor.Pr
open Go.RowKit Go.Proofs.YtfgnaneajonapaaDoorW.PrintWords Go.Proofs.YtfgnaneajonapaaDoorW.PrintLast Go.Proofs.YtfgnaneajonapaaDoorW.PrintMore
attribute [local go_sem] max2_int min2_int max_two min_two max_three min_three max_four min_four
set_option linter.unusedVariables false
set_option linter.unusedSimpArgs false
def laws_toEvent.f (k : Nat) (a0_0 : Int) (a0_1 : Int) (a0_2 : Int) (a0_3 : ByteArray) (a0_4 : ByteArray) (a0_5 : ByteArray) (a0_6 : Int) (a0_7 : Int) (a0_8 : Int) (a0_9 : Bool) (l0_10 : List Int) : Option (Int × Int × Int × ByteArray × ByteArray × ByteArray × Int × Int × Int × Bool × List Int) := (laws_toAsk.f a0_1 a0_2 a0_3 a0_4 a0_5 a0_6).bind fun bt273 => ((laws_toIntS.f k l0_10).bind fun t279 => (some (a0_0, bt273.1, bt273.2.1, bt273.2.2.1, bt273.2.2.2.1, bt273.2.2.2.2.1, bt273.2.2.2.2.2, a0_7, a0_8, a0_9, t279)))
set_option maxHeartbeats 8000000 in
set_option maxRecDepth 100000 in
theorem laws_toEvent.calls (k : Nat) (a0_0 : Int) (a0_1 : Int) (a0_2 : Int) (a0_3 : ByteArray) (a0_4 : ByteArray) (a0_5 : ByteArray) (a0_6 : Int) (a0_7 : Int) (a0_8 : Int) (a0_9 : Bool) (A0_10 : Option Addr) (c0_10 : Nat) (l0_10 : List Int) (r1 : Int) (r2 : Int) (r3 : Int) (r4 : ByteArray) (r5 : ByteArray) (r6 : ByteArray) (r7 : Int) (r8 : Int) (r9 : Int) (r10 : Bool) (r11 : List Int) (w : World) (hr0_10 : Kd.C (Kd.int .i64) w A0_10 l0_10.length l0_10) (hc0_10 : l0_10.length ≤ c0_10) (h : laws_toEvent.f k a0_0 a0_1 a0_2 a0_3 a0_4 a0_5 a0_6 a0_7 a0_8 a0_9 l0_10 = some (r1, r2, r3, r4, r5, r6, r7, r8, r9, r10, r11)) :
    Calls Tryd.prog 18 #[.agg #[.int .i64 a0_0, .int .i64 a0_1, .int .i64 a0_2, .string a0_3, .string a0_4, .string a0_5, .int .i64 a0_6, .int .i64 a0_7, .int .i64 a0_8, .bool a0_9, .slice A0_10 l0_10.length c0_10]] w fun e w' => ∃ v10_ : Value, e = .returned (.agg #[.int .i64 r1, .int .i64 r2, .int .i64 r3, .string r4, .string r5, .string r6, .int .i64 r7, .int .i64 r8, .int .i64 r9, .bool r10, v10_]) ∧ Kd.R (Kd.int .i64) 3 w' w.heap.size (fun _ => True) v10_ r11 ∧ Below w.heap.size w w' := by
  have hu38 := Tryd.underlying38
  have hu42 := Tryd.underlying42
  have hu30 := Tryd.underlying30
  have hu33 := Tryd.underlying33
  have HR0_10 := Aside0.mk hr0_10
  have HC0_10 := Aside0.mk hc0_10
  clear hr0_10 hc0_10
  have HB := Aside0.mk (Below.refl w.heap.size w)
  have H : ((laws_toAsk.f a0_1 a0_2 a0_3 a0_4 a0_5 a0_6).bind fun bt273 => ((laws_toIntS.f k l0_10).bind fun t279 => (some (a0_0, bt273.1, bt273.2.1, bt273.2.2.1, bt273.2.2.2.1, bt273.2.2.2.2.1, bt273.2.2.2.2.2, a0_7, a0_8, a0_9, t279)))) = some (r1, r2, r3, r4, r5, r6, r7, r8, r9, r10, r11) := h
  clear h
  replace H := Option.bind_eq_some_iff.mp H
  obtain ⟨⟨t273, t274, t275, t276, t277, t278⟩, A20, H⟩ := H
  replace H : ((laws_toIntS.f k l0_10).bind fun t279 => (some (a0_0, t273, t274, t275, t276, t277, t278, a0_7, a0_8, a0_9, t279))) = some (r1, r2, r3, r4, r5, r6, r7, r8, r9, r10, r11) := H
  have A2 := Aside0.mk A20
  clear A20
  replace H := Option.bind_eq_some_iff.mp H
  obtain ⟨t279, A30, H⟩ := H
  replace H : (some (a0_0, t273, t274, t275, t276, t277, t278, a0_7, a0_8, a0_9, t279)) = some (r1, r2, r3, r4, r5, r6, r7, r8, r9, r10, r11) := H
  have A3 := Aside0.mk A30
  clear A30
  simp only [Option.some.injEq, Prod.mk.injEq] at H
  obtain ⟨rfl, rfl, rfl, rfl, rfl, rfl, rfl, rfl, rfl, rfl, rfl⟩ := H
  go_enter Tryd.func18, Tryd.ntmps18
  go_wp2_with (first | ((with_reducible refine gate_dst (N := 1) rfl ?_); refine BX 1 #[.int .i64 a0_0, .int .i64 a0_1, .int .i64 a0_2, .string a0_3, .string a0_4, .string a0_5, .int .i64 a0_6, .int .i64 a0_7, .int .i64 a0_8, .bool a0_9, .slice A0_10 l0_10.length c0_10] 38 ?_; intro gb270 hg w4 hbox hb; have BK270 := Aside0.mk (hbox); have GW270 : Aside0 (w.heap.size ≤ gb270) := WG hg (BB HB.out); have GE270 := GW270; replace HB := Aside0.mk (below_step (BB HB.out) hb); clear hb hbox hg) | ((with_reducible refine gate_dst (N := 2) rfl ?_); refine BX 2 #[.int .i64 0, .int .i64 0, .int .i64 0, .string (⟨#[]⟩ : ByteArray), .string (⟨#[]⟩ : ByteArray), .string (⟨#[]⟩ : ByteArray), .int .i64 0, .int .i64 0, .int .i64 0, .bool false, .slice none 0 0] 42 ?_; intro gb271 hg w5 hbox hb; have BK271 := Aside0.mk (hbox); have GW271 : Aside0 (w.heap.size ≤ gb271) := WG hg (BB1 HB.out GE270.out); have GE271 := GW271; have NB270_271 := NL BK270.out hg; have NB271_270 := NG BK270.out hg; replace BK270 := Aside0.mk (KB BK270.out hb); replace HB := Aside0.mk (below_step (BB1 HB.out GE270.out) hb); clear hb hbox hg) | ((with_reducible refine gate_dst (N := 3) rfl ?_); refine BX 3 #[.int .i64 0, .int .i64 0, .int .i64 0, .string (⟨#[]⟩ : ByteArray), .string (⟨#[]⟩ : ByteArray), .string (⟨#[]⟩ : ByteArray), .int .i64 0, .int .i64 0, .int .i64 0, .bool false, .slice none 0 0] 42 ?_; intro gb272 hg w6 hbox hb; have BK272 := Aside0.mk (hbox); have GW272 : Aside0 (w.heap.size ≤ gb272) := WG hg (BB2 HB.out GE270.out GE271.out); have GE272 := GW272; have NB270_272 := NL BK270.out hg; have NB272_270 := NG BK270.out hg; have NB271_272 := NL BK271.out hg; have NB272_271 := NG BK271.out hg; replace BK270 := Aside0.mk (KB BK270.out hb); replace BK271 := Aside0.mk (KB BK271.out hb); replace HB := Aside0.mk (below_step (BB2 HB.out GE270.out GE271.out) hb); clear hb hbox hg; have hnb7 := NB270_271.out; have hnc7 := NB271_270.out; have hnb8 := NB270_272.out; have hnc8 := NB272_270.out; have hcz9 := blk_cell BK270.out; have hfz9 := blk_frozen BK270.out; have hnb10 := NB272_271.out; have hnc10 := NB271_272.out; have hcz11 := blk_cell BK272.out; have hfz11 := blk_frozen BK272.out) | ((with_reducible refine gate_callee (f := 14) rfl ?_); refine GL (some 9) rfl rfl Tryd.func14 #[.agg #[.int .i64 a0_1, .int .i64 a0_2, .string a0_3, .string a0_4, .string a0_5, .int .i64 a0_6]] rfl ?_; (with_reducible refine (laws_toAsk.calls a0_1 a0_2 a0_3 a0_4 a0_5 a0_6 t273 t274 t275 t276 t277 t278 _ A2.out).mono ?_); rintro e w12 ⟨rfl, hb⟩; refine ⟨_, rfl, ?_⟩; have n0_ := Aside0.mk (blk_below (g := gb270) (o := .cells #[.int .i64 a0_0, .int .i64 a0_1, .int .i64 a0_2, .string a0_3, .string a0_4, .string a0_5, .int .i64 a0_6, .int .i64 a0_7, .int .i64 a0_8, .bool a0_9, .slice A0_10 l0_10.length c0_10] 38 (0, 0)) (by (with_reducible repeat (first | refine blk_drewN ?_ _ | refine blk_drew ?_ | refine blk_alloc ?_ _)); refine blk_far ?_ NB270_272.out _; (with_reducible repeat (first | refine blk_drewN ?_ _ | refine blk_drew ?_ | refine blk_alloc ?_ _)); exact BK270.out) hb); have n1_ := Aside0.mk (blk_below (g := gb271) (o := .cells #[.int .i64 0, .int .i64 0, .int .i64 0, .string (⟨#[]⟩ : ByteArray), .string (⟨#[]⟩ : ByteArray), .string (⟨#[]⟩ : ByteArray), .int .i64 0, .int .i64 0, .int .i64 0, .bool false, .slice none 0 0] 42 (0, 0)) (by (with_reducible repeat (first | refine blk_drewN ?_ _ | refine blk_drew ?_ | refine blk_alloc ?_ _)); refine blk_far ?_ NB271_272.out _; (with_reducible repeat (first | refine blk_drewN ?_ _ | refine blk_drew ?_ | refine blk_alloc ?_ _)); exact BK271.out) hb); have n2_ := Aside0.mk (blk_below (g := gb272) (o := .cells #[.int .i64 a0_0, .int .i64 0, .int .i64 0, .string (⟨#[]⟩ : ByteArray), .string (⟨#[]⟩ : ByteArray), .string (⟨#[]⟩ : ByteArray), .int .i64 0, .int .i64 0, .int .i64 0, .bool false, .slice none 0 0] 42 (0, 0)) (by (with_reducible repeat (first | refine blk_drewN ?_ _ | refine blk_drew ?_ | refine blk_alloc ?_ _)); refine blk_put (cs := #[.int .i64 0, .int .i64 0, .int .i64 0, .string (⟨#[]⟩ : ByteArray), .string (⟨#[]⟩ : ByteArray), .string (⟨#[]⟩ : ByteArray), .int .i64 0, .int .i64 0, .int .i64 0, .bool false, .slice none 0 0]) ?_ 0 _ rfl; (with_reducible repeat (first | refine blk_drewN ?_ _ | refine blk_drew ?_ | refine blk_alloc ?_ _)); exact BK272.out) hb); have n3_ := Aside0.mk (below_step (BB3 HB.out GE270.out GE271.out GE272.out) hb); clear BK270; clear BK271; clear BK272; clear HB; have BK270 := n0_; have BK271 := n1_; have BK272 := n2_; have HB := n3_; clear n0_ n1_ n2_ n3_; (try clear hb); have hcz13 := blk_cell BK272.out; have hfz13 := blk_frozen BK272.out; have hcz14 := blk_cell BK270.out; have hfz14 := blk_frozen BK270.out) | ((with_reducible refine gate_callee (f := 37) rfl ?_); refine GL (some 22) rfl rfl Tryd.func37 #[.slice A0_10 l0_10.length c0_10] rfl ?_; (with_reducible refine (laws_toIntS.calls k _ _ l0_10 t279 _ ?side1 ?side2 A3.out).mono ?_); (case side1 => exact Kd.C_below HR0_10.out (BB3 HB.out GE270.out GE271.out GE272.out)); (case side2 => exact HC0_10.out); rintro e w15 ⟨v280, rfl, ho0, hb⟩; refine ⟨_, rfl, ?_⟩; have n0_ := Aside0.mk (Kd.R_lower ho0 (below_size (BB3 HB.out GE270.out GE271.out GE272.out))); have n1_ := Aside0.mk (blk_below (g := gb270) (o := .cells #[.int .i64 a0_0, .int .i64 a0_1, .int .i64 a0_2, .string a0_3, .string a0_4, .string a0_5, .int .i64 a0_6, .int .i64 a0_7, .int .i64 a0_8, .bool a0_9, .slice A0_10 l0_10.length c0_10] 38 (0, 0)) (by (with_reducible repeat (first | refine blk_drewN ?_ _ | refine blk_drew ?_ | refine blk_alloc ?_ _)); refine blk_far ?_ NB270_272.out _; (with_reducible repeat (first | refine blk_drewN ?_ _ | refine blk_drew ?_ | refine blk_alloc ?_ _)); refine blk_far ?_ NB270_272.out _; (with_reducible repeat (first | refine blk_drewN ?_ _ | refine blk_drew ?_ | refine blk_alloc ?_ _)); refine blk_far ?_ NB270_272.out _; (with_reducible repeat (first | refine blk_drewN ?_ _ | refine blk_drew ?_ | refine blk_alloc ?_ _)); refine blk_far ?_ NB270_272.out _; (with_reducible repeat (first | refine blk_drewN ?_ _ | refine blk_drew ?_ | refine blk_alloc ?_ _)); refine blk_far ?_ NB270_272.out _; (with_reducible repeat (first | refine blk_drewN ?_ _ | refine blk_drew ?_ | refine blk_alloc ?_ _)); refine blk_far ?_ NB270_272.out _; (with_reducible repeat (first | refine blk_drewN ?_ _ | refine blk_drew ?_ | refine blk_alloc ?_ _)); refine blk_far ?_ NB270_272.out _; (with_reducible repeat (first | refine blk_drewN ?_ _ | refine blk_drew ?_ | refine blk_alloc ?_ _)); refine blk_far ?_ NB270_272.out _; (with_reducible repeat (first | refine blk_drewN ?_ _ | refine blk_drew ?_ | refine blk_alloc ?_ _)); refine blk_far ?_ NB270_272.out _; (with_reducible repeat (first | refine blk_drewN ?_ _ | refine blk_drew ?_ | refine blk_alloc ?_ _)); exact BK270.out) hb); have n2_ := Aside0.mk (blk_below (g := gb271) (o := .cells #[.int .i64 0, .int .i64 0, .int .i64 0, .string (⟨#[]⟩ : ByteArray), .string (⟨#[]⟩ : ByteArray), .string (⟨#[]⟩ : ByteArray), .int .i64 0, .int .i64 0, .int .i64 0, .bool false, .slice none 0 0] 42 (0, 0)) (by (with_reducible repeat (first | refine blk_drewN ?_ _ | refine blk_drew ?_ | refine blk_alloc ?_ _)); refine blk_far ?_ NB271_272.out _; (with_reducible repeat (first | refine blk_drewN ?_ _ | refine blk_drew ?_ | refine blk_alloc ?_ _)); refine blk_far ?_ NB271_272.out _; (with_reducible repeat (first | refine blk_drewN ?_ _ | refine blk_drew ?_ | refine blk_alloc ?_ _)); refine blk_far ?_ NB271_272.out _; (with_reducible repeat (first | refine blk_drewN ?_ _ | refine blk_drew ?_ | refine blk_alloc ?_ _)); refine blk_far ?_ NB271_272.out _; (with_reducible repeat (first | refine blk_drewN ?_ _ | refine blk_drew ?_ | refine blk_alloc ?_ _)); refine blk_far ?_ NB271_272.out _; (with_reducible repeat (first | refine blk_drewN ?_ _ | refine blk_drew ?_ | refine blk_alloc ?_ _)); refine blk_far ?_ NB271_272.out _; (with_reducible repeat (first | refine blk_drewN ?_ _ | refine blk_drew ?_ | refine blk_alloc ?_ _)); refine blk_far ?_ NB271_272.out _; (with_reducible repeat (first | refine blk_drewN ?_ _ | refine blk_drew ?_ | refine blk_alloc ?_ _)); refine blk_far ?_ NB271_272.out _; (with_reducible repeat (first | refine blk_drewN ?_ _ | refine blk_drew ?_ | refine blk_alloc ?_ _)); refine blk_far ?_ NB271_272.out _; (with_reducible repeat (first | refine blk_drewN ?_ _ | refine blk_drew ?_ | refine blk_alloc ?_ _)); exact BK271.out) hb); have n3_ := Aside0.mk (blk_below (g := gb272) (o := .cells #[.int .i64 a0_0, .int .i64 t273, .int .i64 t274, .string t275, .string t276, .string t277, .int .i64 t278, .int .i64 a0_7, .int .i64 a0_8, .bool a0_9, .slice none 0 0] 42 (0, 0)) (by (with_reducible repeat (first | refine blk_drewN ?_ _ | refine blk_drew ?_ | refine blk_alloc ?_ _)); refine blk_put (cs := #[.int .i64 a0_0, .int .i64 t273, .int .i64 t274, .string t275, .string t276, .string t277, .int .i64 t278, .int .i64 a0_7, .int .i64 a0_8, .bool false, .slice none 0 0]) ?_ 9 _ rfl; (with_reducible repeat (first | refine blk_drewN ?_ _ | refine blk_drew ?_ | refine blk_alloc ?_ _)); refine blk_put (cs := #[.int .i64 a0_0, .int .i64 t273, .int .i64 t274, .string t275, .string t276, .string t277, .int .i64 t278, .int .i64 a0_7, .int .i64 0, .bool false, .slice none 0 0]) ?_ 8 _ rfl; (with_reducible repeat (first | refine blk_drewN ?_ _ | refine blk_drew ?_ | refine blk_alloc ?_ _)); refine blk_put (cs := #[.int .i64 a0_0, .int .i64 t273, .int .i64 t274, .string t275, .string t276, .string t277, .int .i64 t278, .int .i64 0, .int .i64 0, .bool false, .slice none 0 0]) ?_ 7 _ rfl; (with_reducible repeat (first | refine blk_drewN ?_ _ | refine blk_drew ?_ | refine blk_alloc ?_ _)); refine blk_put (cs := #[.int .i64 a0_0, .int .i64 t273, .int .i64 t274, .string t275, .string t276, .string t277, .int .i64 0, .int .i64 0, .int .i64 0, .bool false, .slice none 0 0]) ?_ 6 _ rfl; (with_reducible repeat (first | refine blk_drewN ?_ _ | refine blk_drew ?_ | refine blk_alloc ?_ _)); refine blk_put (cs := #[.int .i64 a0_0, .int .i64 t273, .int .i64 t274, .string t275, .string t276, .string (⟨#[]⟩ : ByteArray), .int .i64 0, .int .i64 0, .int .i64 0, .bool false, .slice none 0 0]) ?_ 5 _ rfl; (with_reducible repeat (first | refine blk_drewN ?_ _ | refine blk_drew ?_ | refine blk_alloc ?_ _)); refine blk_put (cs := #[.int .i64 a0_0, .int .i64 t273, .int .i64 t274, .string t275, .string (⟨#[]⟩ : ByteArray), .string (⟨#[]⟩ : ByteArray), .int .i64 0, .int .i64 0, .int .i64 0, .bool false, .slice none 0 0]) ?_ 4 _ rfl; (with_reducible repeat (first | refine blk_drewN ?_ _ | refine blk_drew ?_ | refine blk_alloc ?_ _)); refine blk_put (cs := #[.int .i64 a0_0, .int .i64 t273, .int .i64 t274, .string (⟨#[]⟩ : ByteArray), .string (⟨#[]⟩ : ByteArray), .string (⟨#[]⟩ : ByteArray), .int .i64 0, .int .i64 0, .int .i64 0, .bool false, .slice none 0 0]) ?_ 3 _ rfl; (with_reducible repeat (first | refine blk_drewN ?_ _ | refine blk_drew ?_ | refine blk_alloc ?_ _)); refine blk_put (cs := #[.int .i64 a0_0, .int .i64 t273, .int .i64 0, .string (⟨#[]⟩ : ByteArray), .string (⟨#[]⟩ : ByteArray), .string (⟨#[]⟩ : ByteArray), .int .i64 0, .int .i64 0, .int .i64 0, .bool false, .slice none 0 0]) ?_ 2 _ rfl; (with_reducible repeat (first | refine blk_drewN ?_ _ | refine blk_drew ?_ | refine blk_alloc ?_ _)); refine blk_put (cs := #[.int .i64 a0_0, .int .i64 0, .int .i64 0, .string (⟨#[]⟩ : ByteArray), .string (⟨#[]⟩ : ByteArray), .string (⟨#[]⟩ : ByteArray), .int .i64 0, .int .i64 0, .int .i64 0, .bool false, .slice none 0 0]) ?_ 1 _ rfl; (with_reducible repeat (first | refine blk_drewN ?_ _ | refine blk_drew ?_ | refine blk_alloc ?_ _)); exact BK272.out) hb); have n4_ := Aside0.mk (below_step (BB3 HB.out GE270.out GE271.out GE272.out) hb); clear BK270; clear BK271; clear BK272; clear HB; have HO281 := n0_; have BK270 := n1_; have BK271 := n2_; have BK272 := n3_; have HB := n4_; clear n0_ n1_ n2_ n3_ n4_; (try clear hb); (try clear ho0); obtain ⟨Ao16, co16, eo16⟩ := Kd.R_slice HO281.out; subst eo16; have hcz17 := blk_cell BK272.out; have hfz17 := blk_frozen BK272.out; have hcz18 := blk_cell BK271.out; have hfz18 := blk_frozen BK271.out))
  refine bodyPost_ret (results_cell_row rfl _ _ gb271 42 #[.int .i64 a0_0, .int .i64 t273, .int .i64 t274, .string t275, .string t276, .string t277, .int .i64 t278, .int .i64 a0_7, .int .i64 a0_8, .bool a0_9, .slice Ao16 t279.length co16] (0, 0) _ rfl (by (with_reducible repeat (first | refine blk_drewN ?_ _ | refine blk_drew ?_ | refine blk_alloc ?_ _)); refine blk_put (cs := #[.int .i64 a0_0, .int .i64 t273, .int .i64 t274, .string t275, .string t276, .string t277, .int .i64 t278, .int .i64 a0_7, .int .i64 a0_8, .bool a0_9, .slice none 0 0]) ?_ 10 _ rfl; (with_reducible repeat (first | refine blk_drewN ?_ _ | refine blk_drew ?_ | refine blk_alloc ?_ _)); refine blk_put (cs := #[.int .i64 a0_0, .int .i64 t273, .int .i64 t274, .string t275, .string t276, .string t277, .int .i64 t278, .int .i64 a0_7, .int .i64 a0_8, .bool false, .slice none 0 0]) ?_ 9 _ rfl; (with_reducible repeat (first | refine blk_drewN ?_ _ | refine blk_drew ?_ | refine blk_alloc ?_ _)); refine blk_put (cs := #[.int .i64 a0_0, .int .i64 t273, .int .i64 t274, .string t275, .string t276, .string t277, .int .i64 t278, .int .i64 a0_7, .int .i64 0, .bool false, .slice none 0 0]) ?_ 8 _ rfl; (with_reducible repeat (first | refine blk_drewN ?_ _ | refine blk_drew ?_ | refine blk_alloc ?_ _)); refine blk_put (cs := #[.int .i64 a0_0, .int .i64 t273, .int .i64 t274, .string t275, .string t276, .string t277, .int .i64 t278, .int .i64 0, .int .i64 0, .bool false, .slice none 0 0]) ?_ 7 _ rfl; (with_reducible repeat (first | refine blk_drewN ?_ _ | refine blk_drew ?_ | refine blk_alloc ?_ _)); refine blk_put (cs := #[.int .i64 a0_0, .int .i64 t273, .int .i64 t274, .string t275, .string t276, .string t277, .int .i64 0, .int .i64 0, .int .i64 0, .bool false, .slice none 0 0]) ?_ 6 _ rfl; (with_reducible repeat (first | refine blk_drewN ?_ _ | refine blk_drew ?_ | refine blk_alloc ?_ _)); refine blk_put (cs := #[.int .i64 a0_0, .int .i64 t273, .int .i64 t274, .string t275, .string t276, .string (⟨#[]⟩ : ByteArray), .int .i64 0, .int .i64 0, .int .i64 0, .bool false, .slice none 0 0]) ?_ 5 _ rfl; (with_reducible repeat (first | refine blk_drewN ?_ _ | refine blk_drew ?_ | refine blk_alloc ?_ _)); refine blk_put (cs := #[.int .i64 a0_0, .int .i64 t273, .int .i64 t274, .string t275, .string (⟨#[]⟩ : ByteArray), .string (⟨#[]⟩ : ByteArray), .int .i64 0, .int .i64 0, .int .i64 0, .bool false, .slice none 0 0]) ?_ 4 _ rfl; (with_reducible repeat (first | refine blk_drewN ?_ _ | refine blk_drew ?_ | refine blk_alloc ?_ _)); refine blk_put (cs := #[.int .i64 a0_0, .int .i64 t273, .int .i64 t274, .string (⟨#[]⟩ : ByteArray), .string (⟨#[]⟩ : ByteArray), .string (⟨#[]⟩ : ByteArray), .int .i64 0, .int .i64 0, .int .i64 0, .bool false, .slice none 0 0]) ?_ 3 _ rfl; (with_reducible repeat (first | refine blk_drewN ?_ _ | refine blk_drew ?_ | refine blk_alloc ?_ _)); refine blk_put (cs := #[.int .i64 a0_0, .int .i64 t273, .int .i64 0, .string (⟨#[]⟩ : ByteArray), .string (⟨#[]⟩ : ByteArray), .string (⟨#[]⟩ : ByteArray), .int .i64 0, .int .i64 0, .int .i64 0, .bool false, .slice none 0 0]) ?_ 2 _ rfl; (with_reducible repeat (first | refine blk_drewN ?_ _ | refine blk_drew ?_ | refine blk_alloc ?_ _)); refine blk_put (cs := #[.int .i64 a0_0, .int .i64 0, .int .i64 0, .string (⟨#[]⟩ : ByteArray), .string (⟨#[]⟩ : ByteArray), .string (⟨#[]⟩ : ByteArray), .int .i64 0, .int .i64 0, .int .i64 0, .bool false, .slice none 0 0]) ?_ 1 _ rfl; (with_reducible repeat (first | refine blk_drewN ?_ _ | refine blk_drew ?_ | refine blk_alloc ?_ _)); refine blk_put (cs := #[.int .i64 0, .int .i64 0, .int .i64 0, .string (⟨#[]⟩ : ByteArray), .string (⟨#[]⟩ : ByteArray), .string (⟨#[]⟩ : ByteArray), .int .i64 0, .int .i64 0, .int .i64 0, .bool false, .slice none 0 0]) ?_ 0 _ rfl; (with_reducible repeat (first | refine blk_drewN ?_ _ | refine blk_drew ?_ | refine blk_alloc ?_ _)); refine blk_far ?_ NB271_272.out _; (with_reducible repeat (first | refine blk_drewN ?_ _ | refine blk_drew ?_ | refine blk_alloc ?_ _)); exact BK271.out) Tryd.underlying42 rfl (by kernel_rfl)) rfl ?_
  exact ⟨_, ER, by (with_reducible repeat (first | apply Kd.R_alloc | apply Kd.R_drewN | apply Kd.R_drew)); exact Kd.R_mono (Kd.R_far (p := ⟨gb271, 10, none⟩) (Kd.R_far (p := ⟨gb271, 9, none⟩) (Kd.R_far (p := ⟨gb271, 8, none⟩) (Kd.R_far (p := ⟨gb271, 7, none⟩) (Kd.R_far (p := ⟨gb271, 6, none⟩) (Kd.R_far (p := ⟨gb271, 5, none⟩) (Kd.R_far (p := ⟨gb271, 4, none⟩) (Kd.R_far (p := ⟨gb271, 3, none⟩) (Kd.R_far (p := ⟨gb271, 2, none⟩) (Kd.R_far (p := ⟨gb271, 1, none⟩) (Kd.R_far (p := ⟨gb271, 0, none⟩) (Kd.R_far (p := ⟨gb272, 10, none⟩) (Kd.R_types (Kd.R_types HO281.out BK272.out (by decide)) BK271.out (by decide)) (fun _ hk => hk.1.2) (.slice Ao16 t279.length co16)) (fun _ hk => hk.2) (.int .i64 a0_0)) (fun _ hk => hk.2) (.int .i64 t273)) (fun _ hk => hk.2) (.int .i64 t274)) (fun _ hk => hk.2) (.string t275)) (fun _ hk => hk.2) (.string t276)) (fun _ hk => hk.2) (.string t277)) (fun _ hk => hk.2) (.int .i64 t278)) (fun _ hk => hk.2) (.int .i64 a0_7)) (fun _ hk => hk.2) (.int .i64 a0_8)) (fun _ hk => hk.2) (.bool a0_9)) (fun _ hk => hk.2) (.slice Ao16 t279.length co16)) (fun _ hk => trivial), (BB3 HB.out GE270.out GE271.out GE272.out)⟩

end Go.Proofs.YtfgnaneajonapaaDoor.Pr

namespace Go.Proofs.YtfgnaneajonapaaDoor.Pr
open Go.RowKit Go.Proofs.YtfgnaneajonapaaDoorW.PrintWords Go.Proofs.YtfgnaneajonapaaDoorW.PrintLast Go.Proofs.YtfgnaneajonapaaDoorW.PrintMore
attribute [local go_sem] max2_int min2_int max_two min_two max_three min_three max_four min_four
set_option linter.unusedVariables false
set_option linter.unusedSimpArgs false
def laws_eqEvent.f (k : Nat) (a0_0 : Int) (a0_1 : Int) (a0_2 : Int) (a0_3 : ByteArray) (a0_4 : ByteArray) (a0_5 : ByteArray) (a0_6 : Int) (a0_7 : Int) (a0_8 : Int) (a0_9 : Bool) (l0_10 : List Int) (a1_0 : Int) (a1_1 : Int) (a1_2 : Int) (a1_3 : ByteArray) (a1_4 : ByteArray) (a1_5 : ByteArray) (a1_6 : Int) (a1_7 : Int) (a1_8 : Int) (a1_9 : Bool) (l1_10 : List Int) : Option (Bool) := if a0_0 = a1_0 then ((laws_eqAsk.f a0_1 a0_2 a0_3 a0_4 a0_5 a0_6 a1_1 a1_2 a1_3 a1_4 a1_5 a1_6).bind fun t293 => (if t293 = true then (if a0_7 = a1_7 then (if a0_8 = a1_8 then (if (a0_9 != a1_9) = true then (some false) else ((laws_eqIntS.f k l0_10 l1_10).bind fun t294 => (if t294 = true then (some true) else (some false)))) else (some false)) else (some false)) else (some false))) else (some false)
set_option maxHeartbeats 8000000 in
set_option maxRecDepth 100000 in
theorem laws_eqEvent.calls (k : Nat) (a0_0 : Int) (a0_1 : Int) (a0_2 : Int) (a0_3 : ByteArray) (a0_4 : ByteArray) (a0_5 : ByteArray) (a0_6 : Int) (a0_7 : Int) (a0_8 : Int) (a0_9 : Bool) (A0_10 : Option Addr) (c0_10 : Nat) (l0_10 : List Int) (a1_0 : Int) (a1_1 : Int) (a1_2 : Int) (a1_3 : ByteArray) (a1_4 : ByteArray) (a1_5 : ByteArray) (a1_6 : Int) (a1_7 : Int) (a1_8 : Int) (a1_9 : Bool) (A1_10 : Option Addr) (c1_10 : Nat) (l1_10 : List Int) (r : Bool) (w : World) (hr0_10 : Kd.C (Kd.int .i64) w A0_10 l0_10.length l0_10) (hc0_10 : l0_10.length ≤ c0_10) (hr1_10 : Kd.C (Kd.int .i64) w A1_10 l1_10.length l1_10) (hc1_10 : l1_10.length ≤ c1_10) (h : laws_eqEvent.f k a0_0 a0_1 a0_2 a0_3 a0_4 a0_5 a0_6 a0_7 a0_8 a0_9 l0_10 a1_0 a1_1 a1_2 a1_3 a1_4 a1_5 a1_6 a1_7 a1_8 a1_9 l1_10 = some r) (hr_ : Aside0 (r = true) := by exact ⟨rfl⟩) :
    Calls Tryd.prog 20 #[.agg #[.int .i64 a0_0, .int .i64 a0_1, .int .i64 a0_2, .string a0_3, .string a0_4, .string a0_5, .int .i64 a0_6, .int .i64 a0_7, .int .i64 a0_8, .bool a0_9, .slice A0_10 l0_10.length c0_10], .agg #[.int .i64 a1_0, .int .i64 a1_1, .int .i64 a1_2, .string a1_3, .string a1_4, .string a1_5, .int .i64 a1_6, .int .i64 a1_7, .int .i64 a1_8, .bool a1_9, .slice A1_10 l1_10.length c1_10]] w fun e w' => e = .returned (.bool r) ∧ Below w.heap.size w w' := by
  have hu42 := Tryd.underlying42
  have hu33 := Tryd.underlying33
  have HR0_10 := Aside0.mk hr0_10
  have HC0_10 := Aside0.mk hc0_10
  clear hr0_10 hc0_10
  have HR1_10 := Aside0.mk hr1_10
  have HC1_10 := Aside0.mk hc1_10
  clear hr1_10 hc1_10
  have HB := Aside0.mk (Below.refl w.heap.size w)
  have H : (if a0_0 = a1_0 then ((laws_eqAsk.f a0_1 a0_2 a0_3 a0_4 a0_5 a0_6 a1_1 a1_2 a1_3 a1_4 a1_5 a1_6).bind fun t293 => (if t293 = true then (if a0_7 = a1_7 then (if a0_8 = a1_8 then (if (a0_9 != a1_9) = true then (some false) else ((laws_eqIntS.f k l0_10 l1_10).bind fun t294 => (if t294 = true then (some true) else (some false)))) else (some false)) else (some false)) else (some false))) else (some false)) = some r := h
  clear h
  by_cases c3 : a0_0 = a1_0
  · rw [if_pos c3] at H
    have c3b0 : (a0_0 == a1_0) = true := beq_iff_eq.mpr c3
    have c3b1 : (a0_0 != a1_0) = false := bne_eq_false_iff_eq.mpr c3
    clear c3
    replace H := Option.bind_eq_some_iff.mp H
    obtain ⟨t293, A40, H⟩ := H
    replace H : (if t293 = true then (if a0_7 = a1_7 then (if a0_8 = a1_8 then (if (a0_9 != a1_9) = true then (some false) else ((laws_eqIntS.f k l0_10 l1_10).bind fun t294 => (if t294 = true then (some true) else (some false)))) else (some false)) else (some false)) else (some false)) = some r := H
    have A4 := Aside0.mk A40
    clear A40
    by_cases c5 : t293 = true
    · subst c5
      have H1 : (if a0_7 = a1_7 then (if a0_8 = a1_8 then (if (a0_9 != a1_9) = true then (some false) else ((laws_eqIntS.f k l0_10 l1_10).bind fun t294 => (if t294 = true then (some true) else (some false)))) else (some false)) else (some false)) = some r := by rw [if_pos rfl] at H; exact H
      clear H
      have H := H1
      clear H1
      by_cases c6 : a0_7 = a1_7
      · rw [if_pos c6] at H
        have c6b0 : (a0_7 == a1_7) = true := beq_iff_eq.mpr c6
        have c6b1 : (a0_7 != a1_7) = false := bne_eq_false_iff_eq.mpr c6
        clear c6
        by_cases c7 : a0_8 = a1_8
        · rw [if_pos c7] at H
          have c7b0 : (a0_8 == a1_8) = true := beq_iff_eq.mpr c7
          have c7b1 : (a0_8 != a1_8) = false := bne_eq_false_iff_eq.mpr c7
          clear c7
          by_cases c8 : (a0_9 != a1_9) = true
          · rw [if_pos c8] at H
            have c8b0 : (a0_9 != a1_9) = true := c8
            (try (have c8b1 : decide (a0_9 = a1_9) = false := by simpa using c8))
            (try (have c8b2 : (a0_9 == a1_9) = false := by simpa using c8))
            (try (have c8b3 : ¬ (a0_9 = a1_9) := by simpa using c8))
            clear c8
            exact absurd ((Option.some.inj H).trans hr_.out) (by decide)
          · rw [if_neg c8] at H
            have c8b0 : (a0_9 != a1_9) = false := by simpa using c8
            (try (have c8b1 : decide (a0_9 = a1_9) = true := by simpa using c8))
            (try (have c8b2 : (a0_9 == a1_9) = true := by simpa using c8))
            clear c8
            replace H := Option.bind_eq_some_iff.mp H
            obtain ⟨t294, A90, H⟩ := H
            replace H : (if t294 = true then (some true) else (some false)) = some r := H
            have A9 := Aside0.mk A90
            clear A90
            by_cases c10 : t294 = true
            · subst c10
              have H1 : (some true) = some r := by rw [if_pos rfl] at H; exact H
              clear H
              have H := H1
              clear H1
              obtain rfl := Option.some.inj H
              go_enter Tryd.func20, Tryd.ntmps20
              go_wp2_with (first | ((with_reducible refine gate_dst (N := 2) rfl ?_); refine BX 2 #[.int .i64 a0_0, .int .i64 a0_1, .int .i64 a0_2, .string a0_3, .string a0_4, .string a0_5, .int .i64 a0_6, .int .i64 a0_7, .int .i64 a0_8, .bool a0_9, .slice A0_10 l0_10.length c0_10] 42 ?_; intro gb291 hg w11 hbox hb; have BK291 := Aside0.mk (hbox); have GW291 : Aside0 (w.heap.size ≤ gb291) := WG hg (BB HB.out); have GE291 := GW291; replace HB := Aside0.mk (below_step (BB HB.out) hb); clear hb hbox hg) | ((with_reducible refine gate_dst (N := 3) rfl ?_); refine BX 3 #[.int .i64 a1_0, .int .i64 a1_1, .int .i64 a1_2, .string a1_3, .string a1_4, .string a1_5, .int .i64 a1_6, .int .i64 a1_7, .int .i64 a1_8, .bool a1_9, .slice A1_10 l1_10.length c1_10] 42 ?_; intro gb292 hg w12 hbox hb; have BK292 := Aside0.mk (hbox); have GW292 : Aside0 (w.heap.size ≤ gb292) := WG hg (BB1 HB.out GE291.out); have GE292 := GW292; have NB291_292 := NL BK291.out hg; have NB292_291 := NG BK291.out hg; replace BK291 := Aside0.mk (KB BK291.out hb); replace HB := Aside0.mk (below_step (BB1 HB.out GE291.out) hb); clear hb hbox hg; have hnb13 := NB291_292.out; have hnc13 := NB292_291.out; have hcz14 := blk_cell BK291.out; have hfz14 := blk_frozen BK291.out; have hcz15 := blk_cell BK292.out; have hfz15 := blk_frozen BK292.out) | ((with_reducible refine gate_callee (f := 38) rfl ?_); refine GL (some 14) rfl rfl Tryd.func38 #[.agg #[.int .i64 a0_1, .int .i64 a0_2, .string a0_3, .string a0_4, .string a0_5, .int .i64 a0_6], .agg #[.int .i64 a1_1, .int .i64 a1_2, .string a1_3, .string a1_4, .string a1_5, .int .i64 a1_6]] rfl ?_; (with_reducible refine (laws_eqAsk.calls a0_1 a0_2 a0_3 a0_4 a0_5 a0_6 a1_1 a1_2 a1_3 a1_4 a1_5 a1_6 true _ A4.out).mono ?_); rintro e w16 ⟨rfl, hb⟩; refine ⟨_, rfl, ?_⟩; replace BK291 := Aside0.mk (KB BK291.out hb); replace BK292 := Aside0.mk (KB BK292.out hb); replace HB := Aside0.mk (below_step (BB2 HB.out GE291.out GE292.out) hb); (try clear hb); have hcz17 := blk_cell BK291.out; have hfz17 := blk_frozen BK291.out; have hcz18 := blk_cell BK292.out; have hfz18 := blk_frozen BK292.out) | ((with_reducible refine gate_callee (f := 39) rfl ?_); refine GL (some 35) rfl rfl Tryd.func39 #[.slice A0_10 l0_10.length c0_10, .slice A1_10 l1_10.length c1_10] rfl ?_; (with_reducible refine (laws_eqIntS.calls k _ _ l0_10 _ _ l1_10 true _ ?side1 ?side2 ?side3 ?side4 A9.out).mono ?_); (case side1 => exact CC (Kd.C_below HR0_10.out HB.out)); (case side2 => exact HC0_10.out); (case side3 => exact CC (Kd.C_below HR1_10.out HB.out)); (case side4 => exact HC1_10.out); rintro e w' ⟨rfl, ⟨nd, rfl⟩⟩; refine ⟨_, rfl, ?_⟩))
              go_ret
              exact ⟨ER, (BB2 HB.out GE291.out GE292.out)⟩
            · replace c10 := Bool.eq_false_iff.mpr c10
              subst c10
              have H1 : (some false) = some r := by rw [if_neg (show ¬ (false = true) by decide)] at H; exact H
              clear H
              have H := H1
              clear H1
              exact absurd ((Option.some.inj H).trans hr_.out) (by decide)
        · rw [if_neg c7] at H
          have c7b0 : (a0_8 == a1_8) = false := beq_eq_false_iff_ne.mpr c7
          have c7b1 : (a0_8 != a1_8) = true := bne_iff_ne.mpr c7
          exact absurd ((Option.some.inj H).trans hr_.out) (by decide)
      · rw [if_neg c6] at H
        have c6b0 : (a0_7 == a1_7) = false := beq_eq_false_iff_ne.mpr c6
        have c6b1 : (a0_7 != a1_7) = true := bne_iff_ne.mpr c6
        exact absurd ((Option.some.inj H).trans hr_.out) (by decide)
    · replace c5 := Bool.eq_false_iff.mpr c5
      subst c5
      have H1 : (some false) = some r := by rw [if_neg (show ¬ (false = true) by decide)] at H; exact H
      clear H
      have H := H1
      clear H1
      exact absurd ((Option.some.inj H).trans hr_.out) (by decide)
  · rw [if_neg c3] at H
    have c3b0 : (a0_0 == a1_0) = false := beq_eq_false_iff_ne.mpr c3
    have c3b1 : (a0_0 != a1_0) = true := bne_iff_ne.mpr c3
    exact absurd ((Option.some.inj H).trans hr_.out) (by decide)

end Go.Proofs.YtfgnaneajonapaaDoor.Pr

namespace Go.Proofs.YtfgnaneajonapaaDoor.Lw
open Go.RowKit Go.Proofs.YtfgnaneajonapaaDoorW.PrintWords Go.Proofs.YtfgnaneajonapaaDoor.Pr Go.Proofs.YtfgnaneajonapaaDoor.Evs
set_option linter.unusedVariables false
abbrev LEvent := S38
abbrev ImEvent := S42
def wtEvent (x : LEvent) : Nat := (wtAsk x.f1) + (wtIntS x.f5)
def okEvent (x : LEvent) : Prop := okAsk x.f1 ∧ (x.f5.length ≤ maxLen ∧ ∀ y ∈ x.f5, True)
def toEvent (x : LEvent) : ImEvent := ⟨x.f0, (toAsk x.f1), x.f2, x.f3, x.f4, x.f5⟩
theorem szEvent_ev (x : LEvent) (left : Int) (h0 : 0 ≤ left) (h1 : left ≤ 1048576) (hx : okEvent x) : SzEv (fun k => laws_szEvent.f (x.f0) (x.f1.f0) (x.f1.f1) (x.f1.f2) (x.f1.f3) (x.f1.f4) (x.f1.f5) (x.f2) (x.f3) (x.f4) (x.f5) left) left (wtEvent x) := by
  unfold okEvent at hx
  unfold laws_szEvent.f wtEvent
  obtain ⟨hx0, hx1⟩ := hx
  skip
  refine sz_eq (sz_call (w1 := ((wtAsk x.f1 : Nat) : Int)) (w2 := (((wtIntS x.f5 : Nat) : Int) : Int)) (by obtain ⟨r_, a_, b_⟩ := szAsk_ev x.f1 (left) (by omega) (by omega) hx0; exact ⟨r_, ev_const a_, b_⟩) (fun l0 g0 e0 => ?_)) (by omega)
  refine sz_eq (sz_call (w1 := ((wtIntS x.f5 : Nat) : Int)) (w2 := (0 : Int)) (szIntS_ev x.f5 hx1.1 hx1.2 (l0) (by omega) (by omega)) (fun l1 g1 e1 => ?_)) (by omega)
  exact sz_done (by omega)
theorem toEvent_ev (x : LEvent) (hx : wtEvent x ≤ 1048576) : Ev (fun k => laws_toEvent.f k (x.f0) (x.f1.f0) (x.f1.f1) (x.f1.f2) (x.f1.f3) (x.f1.f4) (x.f1.f5) (x.f2) (x.f3) (x.f4) (x.f5)) ((toEvent x).f0, (toEvent x).f1.f0, (toEvent x).f1.f1, (toEvent x).f1.f2, (toEvent x).f1.f3, (toEvent x).f1.f4, (toEvent x).f1.f5, (toEvent x).f2, (toEvent x).f3, (toEvent x).f4, (toEvent x).f5) := by
  unfold wtEvent at hx
  unfold laws_toEvent.f
  refine ev_bind (toAsk_ev x.f1) ?_
  refine ev_bind (toIntS_ev x.f5 (by omega)) ?_
  exact ev_some _
def lnEvent (x : ImEvent) : Prop := (lnAsk x.f1) ∧ (x.f5.length < 9223372036854775000)
theorem eqEvent_refl (x : ImEvent) (hx : lnEvent x) : Ev (fun k => laws_eqEvent.f k (x.f0) (x.f1.f0) (x.f1.f1) (x.f1.f2) (x.f1.f3) (x.f1.f4) (x.f1.f5) (x.f2) (x.f3) (x.f4) (x.f5) (x.f0) (x.f1.f0) (x.f1.f1) (x.f1.f2) (x.f1.f3) (x.f1.f4) (x.f1.f5) (x.f2) (x.f3) (x.f4) (x.f5)) true := by
  unfold lnEvent at hx
  obtain ⟨h0, h1⟩ := hx
  unfold laws_eqEvent.f
  repeat (first | with_reducible exact ev_some _ | with_reducible refine ev_pos rfl ?_ | with_reducible refine ev_neg (by simp; done) ?_ | with_reducible refine ev_call (eqAsk_refl x.f1) ?_ | with_reducible refine ev_bind (eqIntS_ev x.f5 (by have := h1; omega)) ?_)
def bdEvent (x : ImEvent) : Prop := (bdAsk x.f1) ∧ (x.f5.length ≤ 1048576 ∧ ∀ y ∈ x.f5, True)
theorem bd_toEvent (x : LEvent) (h : wtEvent x ≤ 1048576) : bdEvent (toEvent x) := by
  unfold wtEvent at h
  exact ⟨bd_toAsk x.f1 (by omega), ⟨(show x.f5.length ≤ 1048576 by have := wtIntS_len x.f5; omega), fun _ _ => trivial⟩⟩
theorem ln_bdEvent {x : ImEvent} (h : bdEvent x) : lnEvent x := by
  unfold bdEvent at h
  obtain ⟨h1, h5⟩ := h
  exact ⟨ln_bdAsk h1, by have := h5.1; omega⟩
end Go.Proofs.YtfgnaneajonapaaDoor.Lw

namespace Go.Proofs.YtfgnaneajonapaaDoor.Pr
open Go.RowKit Go.Proofs.YtfgnaneajonapaaDoorW.PrintWords Go.Proofs.YtfgnaneajonapaaDoorW.PrintLast Go.Proofs.YtfgnaneajonapaaDoorW.PrintMore
set_option linter.unusedVariables false
set_option linter.unusedSimpArgs false
def spec_EditOf.f (a0_0 : Int) (a0_1 : Int) (a0_2 : ByteArray) (a0_3 : ByteArray) (a0_4 : ByteArray) (a0_5 : Int) : Option (Int × ByteArray × ByteArray × Int × Int) := if a0_0 = 1 then some (1, a0_2, (⟨#[]⟩ : ByteArray), 0, 0) else (if a0_0 = 2 then some (2, a0_2, (⟨#[]⟩ : ByteArray), 0, a0_1) else (if a0_0 = 3 then some (7, a0_2, (⟨#[]⟩ : ByteArray), (a0_4.size : Int), 0) else (if a0_0 = 4 then some (8, a0_2, (⟨#[]⟩ : ByteArray), 0, 0) else (if a0_0 = 5 then some (3, a0_2, (a0_3 : ByteArray), 0, 0) else (if a0_0 = 6 then some (4, a0_2, (⟨#[]⟩ : ByteArray), 0, 0) else (if a0_0 = 8 then some (5, a0_2, (⟨#[]⟩ : ByteArray), a0_5, 0) else (if a0_0 = 9 then some (6, a0_2, (⟨#[]⟩ : ByteArray), a0_5, 0) else (if a0_0 = 10 then some (9, a0_2, (⟨#[]⟩ : ByteArray), 0, a0_1) else (some (0, (⟨#[]⟩ : ByteArray), (⟨#[]⟩ : ByteArray), 0, 0))))))))))
set_option maxHeartbeats 4000000 in
set_option maxRecDepth 100000 in
theorem spec_EditOf_k0 (a0_0 : Int) (a0_1 : Int) (a0_2 : ByteArray) (a0_3 : ByteArray) (a0_4 : ByteArray) (a0_5 : Int) (w : World)  (h : (a0_0 == 1) = true) :
    Calls Tryd.prog 33 #[.agg #[.int .i64 a0_0, .int .i64 a0_1, .string a0_2, .string a0_3, .string a0_4, .int .i64 a0_5]] w fun e w' => e = .returned (.agg #[.int .i64 1, .string a0_2, .string ⟨#[]⟩, .int .i64 0, .int .i64 0]) ∧ Below w.heap.size w w' := by
  have hu33 := Tryd.underlying33
  have hu60 := Tryd.underlying60
  go_enter Tryd.func33, Tryd.ntmps33
  go_wp2
  refine bodyPost_ret (v := .agg #[.int .i64 1, .string a0_2, .string ⟨#[]⟩, .int .i64 0, .int .i64 0]) (by simp [results, Tryd.results33, go_sem]) rfl ⟨rfl, ?_⟩
  repeat (first | with_reducible exact Below.refl _ _ | apply below_alloc | apply pw_below_drewN | apply below_drew1 | refine below_set ?_ (by simp; try omega))
set_option maxHeartbeats 4000000 in
set_option maxRecDepth 100000 in
theorem spec_EditOf_k1 (a0_0 : Int) (a0_1 : Int) (a0_2 : ByteArray) (a0_3 : ByteArray) (a0_4 : ByteArray) (a0_5 : Int) (w : World) (n1 : (a0_0 == 1) = false) (h : (a0_0 == 2) = true) :
    Calls Tryd.prog 33 #[.agg #[.int .i64 a0_0, .int .i64 a0_1, .string a0_2, .string a0_3, .string a0_4, .int .i64 a0_5]] w fun e w' => e = .returned (.agg #[.int .i64 2, .string a0_2, .string ⟨#[]⟩, .int .i64 0, .int .i64 a0_1]) ∧ Below w.heap.size w w' := by
  have hu33 := Tryd.underlying33
  have hu60 := Tryd.underlying60
  go_enter Tryd.func33, Tryd.ntmps33
  go_wp2
  refine bodyPost_ret (v := .agg #[.int .i64 2, .string a0_2, .string ⟨#[]⟩, .int .i64 0, .int .i64 a0_1]) (by simp [results, Tryd.results33, go_sem]) rfl ⟨rfl, ?_⟩
  repeat (first | with_reducible exact Below.refl _ _ | apply below_alloc | apply pw_below_drewN | apply below_drew1 | refine below_set ?_ (by simp; try omega))
set_option maxHeartbeats 4000000 in
set_option maxRecDepth 100000 in
theorem spec_EditOf_k2 (a0_0 : Int) (a0_1 : Int) (a0_2 : ByteArray) (a0_3 : ByteArray) (a0_4 : ByteArray) (a0_5 : Int) (w : World) (n1 : (a0_0 == 1) = false) (n2 : (a0_0 == 2) = false) (h : (a0_0 == 3) = true) :
    Calls Tryd.prog 33 #[.agg #[.int .i64 a0_0, .int .i64 a0_1, .string a0_2, .string a0_3, .string a0_4, .int .i64 a0_5]] w fun e w' => e = .returned (.agg #[.int .i64 7, .string a0_2, .string ⟨#[]⟩, .int .i64 (a0_4.size : Int), .int .i64 0]) ∧ Below w.heap.size w w' := by
  have hu33 := Tryd.underlying33
  have hu60 := Tryd.underlying60
  go_enter Tryd.func33, Tryd.ntmps33
  go_wp2
  refine bodyPost_ret (v := .agg #[.int .i64 7, .string a0_2, .string ⟨#[]⟩, .int .i64 (a0_4.size : Int), .int .i64 0]) (by simp [results, Tryd.results33, go_sem]) rfl ⟨rfl, ?_⟩
  repeat (first | with_reducible exact Below.refl _ _ | apply below_alloc | apply pw_below_drewN | apply below_drew1 | refine below_set ?_ (by simp; try omega))
set_option maxHeartbeats 4000000 in
set_option maxRecDepth 100000 in
theorem spec_EditOf_k3 (a0_0 : Int) (a0_1 : Int) (a0_2 : ByteArray) (a0_3 : ByteArray) (a0_4 : ByteArray) (a0_5 : Int) (w : World) (n1 : (a0_0 == 1) = false) (n2 : (a0_0 == 2) = false) (n3 : (a0_0 == 3) = false) (h : (a0_0 == 4) = true) :
    Calls Tryd.prog 33 #[.agg #[.int .i64 a0_0, .int .i64 a0_1, .string a0_2, .string a0_3, .string a0_4, .int .i64 a0_5]] w fun e w' => e = .returned (.agg #[.int .i64 8, .string a0_2, .string ⟨#[]⟩, .int .i64 0, .int .i64 0]) ∧ Below w.heap.size w w' := by
  have hu33 := Tryd.underlying33
  have hu60 := Tryd.underlying60
  go_enter Tryd.func33, Tryd.ntmps33
  go_wp2
  refine bodyPost_ret (v := .agg #[.int .i64 8, .string a0_2, .string ⟨#[]⟩, .int .i64 0, .int .i64 0]) (by simp [results, Tryd.results33, go_sem]) rfl ⟨rfl, ?_⟩
  repeat (first | with_reducible exact Below.refl _ _ | apply below_alloc | apply pw_below_drewN | apply below_drew1 | refine below_set ?_ (by simp; try omega))
set_option maxHeartbeats 4000000 in
set_option maxRecDepth 100000 in
theorem spec_EditOf_k4 (a0_0 : Int) (a0_1 : Int) (a0_2 : ByteArray) (a0_3 : ByteArray) (a0_4 : ByteArray) (a0_5 : Int) (w : World) (n1 : (a0_0 == 1) = false) (n2 : (a0_0 == 2) = false) (n3 : (a0_0 == 3) = false) (n4 : (a0_0 == 4) = false) (h : (a0_0 == 5) = true) :
    Calls Tryd.prog 33 #[.agg #[.int .i64 a0_0, .int .i64 a0_1, .string a0_2, .string a0_3, .string a0_4, .int .i64 a0_5]] w fun e w' => e = .returned (.agg #[.int .i64 3, .string a0_2, .string a0_3, .int .i64 0, .int .i64 0]) ∧ Below w.heap.size w w' := by
  have hu33 := Tryd.underlying33
  have hu60 := Tryd.underlying60
  go_enter Tryd.func33, Tryd.ntmps33
  go_wp2
  refine bodyPost_ret (v := .agg #[.int .i64 3, .string a0_2, .string a0_3, .int .i64 0, .int .i64 0]) (by simp [results, Tryd.results33, go_sem]) rfl ⟨rfl, ?_⟩
  repeat (first | with_reducible exact Below.refl _ _ | apply below_alloc | apply pw_below_drewN | apply below_drew1 | refine below_set ?_ (by simp; try omega))
set_option maxHeartbeats 4000000 in
set_option maxRecDepth 100000 in
theorem spec_EditOf_k5 (a0_0 : Int) (a0_1 : Int) (a0_2 : ByteArray) (a0_3 : ByteArray) (a0_4 : ByteArray) (a0_5 : Int) (w : World) (n1 : (a0_0 == 1) = false) (n2 : (a0_0 == 2) = false) (n3 : (a0_0 == 3) = false) (n4 : (a0_0 == 4) = false) (n5 : (a0_0 == 5) = false) (h : (a0_0 == 6) = true) :
    Calls Tryd.prog 33 #[.agg #[.int .i64 a0_0, .int .i64 a0_1, .string a0_2, .string a0_3, .string a0_4, .int .i64 a0_5]] w fun e w' => e = .returned (.agg #[.int .i64 4, .string a0_2, .string ⟨#[]⟩, .int .i64 0, .int .i64 0]) ∧ Below w.heap.size w w' := by
  have hu33 := Tryd.underlying33
  have hu60 := Tryd.underlying60
  go_enter Tryd.func33, Tryd.ntmps33
  go_wp2
  refine bodyPost_ret (v := .agg #[.int .i64 4, .string a0_2, .string ⟨#[]⟩, .int .i64 0, .int .i64 0]) (by simp [results, Tryd.results33, go_sem]) rfl ⟨rfl, ?_⟩
  repeat (first | with_reducible exact Below.refl _ _ | apply below_alloc | apply pw_below_drewN | apply below_drew1 | refine below_set ?_ (by simp; try omega))
set_option maxHeartbeats 4000000 in
set_option maxRecDepth 100000 in
theorem spec_EditOf_k6 (a0_0 : Int) (a0_1 : Int) (a0_2 : ByteArray) (a0_3 : ByteArray) (a0_4 : ByteArray) (a0_5 : Int) (w : World) (n1 : (a0_0 == 1) = false) (n2 : (a0_0 == 2) = false) (n3 : (a0_0 == 3) = false) (n4 : (a0_0 == 4) = false) (n5 : (a0_0 == 5) = false) (n6 : (a0_0 == 6) = false) (h : (a0_0 == 8) = true) :
    Calls Tryd.prog 33 #[.agg #[.int .i64 a0_0, .int .i64 a0_1, .string a0_2, .string a0_3, .string a0_4, .int .i64 a0_5]] w fun e w' => e = .returned (.agg #[.int .i64 5, .string a0_2, .string ⟨#[]⟩, .int .i64 a0_5, .int .i64 0]) ∧ Below w.heap.size w w' := by
  have hu33 := Tryd.underlying33
  have hu60 := Tryd.underlying60
  go_enter Tryd.func33, Tryd.ntmps33
  go_wp2
  refine bodyPost_ret (v := .agg #[.int .i64 5, .string a0_2, .string ⟨#[]⟩, .int .i64 a0_5, .int .i64 0]) (by simp [results, Tryd.results33, go_sem]) rfl ⟨rfl, ?_⟩
  repeat (first | with_reducible exact Below.refl _ _ | apply below_alloc | apply pw_below_drewN | apply below_drew1 | refine below_set ?_ (by simp; try omega))
set_option maxHeartbeats 4000000 in
set_option maxRecDepth 100000 in
theorem spec_EditOf_k7 (a0_0 : Int) (a0_1 : Int) (a0_2 : ByteArray) (a0_3 : ByteArray) (a0_4 : ByteArray) (a0_5 : Int) (w : World) (n1 : (a0_0 == 1) = false) (n2 : (a0_0 == 2) = false) (n3 : (a0_0 == 3) = false) (n4 : (a0_0 == 4) = false) (n5 : (a0_0 == 5) = false) (n6 : (a0_0 == 6) = false) (n8 : (a0_0 == 8) = false) (h : (a0_0 == 9) = true) :
    Calls Tryd.prog 33 #[.agg #[.int .i64 a0_0, .int .i64 a0_1, .string a0_2, .string a0_3, .string a0_4, .int .i64 a0_5]] w fun e w' => e = .returned (.agg #[.int .i64 6, .string a0_2, .string ⟨#[]⟩, .int .i64 a0_5, .int .i64 0]) ∧ Below w.heap.size w w' := by
  have hu33 := Tryd.underlying33
  have hu60 := Tryd.underlying60
  go_enter Tryd.func33, Tryd.ntmps33
  go_wp2
  refine bodyPost_ret (v := .agg #[.int .i64 6, .string a0_2, .string ⟨#[]⟩, .int .i64 a0_5, .int .i64 0]) (by simp [results, Tryd.results33, go_sem]) rfl ⟨rfl, ?_⟩
  repeat (first | with_reducible exact Below.refl _ _ | apply below_alloc | apply pw_below_drewN | apply below_drew1 | refine below_set ?_ (by simp; try omega))
set_option maxHeartbeats 4000000 in
set_option maxRecDepth 100000 in
theorem spec_EditOf_k8 (a0_0 : Int) (a0_1 : Int) (a0_2 : ByteArray) (a0_3 : ByteArray) (a0_4 : ByteArray) (a0_5 : Int) (w : World) (n1 : (a0_0 == 1) = false) (n2 : (a0_0 == 2) = false) (n3 : (a0_0 == 3) = false) (n4 : (a0_0 == 4) = false) (n5 : (a0_0 == 5) = false) (n6 : (a0_0 == 6) = false) (n8 : (a0_0 == 8) = false) (n9 : (a0_0 == 9) = false) (h : (a0_0 == 10) = true) :
    Calls Tryd.prog 33 #[.agg #[.int .i64 a0_0, .int .i64 a0_1, .string a0_2, .string a0_3, .string a0_4, .int .i64 a0_5]] w fun e w' => e = .returned (.agg #[.int .i64 9, .string a0_2, .string ⟨#[]⟩, .int .i64 0, .int .i64 a0_1]) ∧ Below w.heap.size w w' := by
  have hu33 := Tryd.underlying33
  have hu60 := Tryd.underlying60
  go_enter Tryd.func33, Tryd.ntmps33
  go_wp2
  refine bodyPost_ret (v := .agg #[.int .i64 9, .string a0_2, .string ⟨#[]⟩, .int .i64 0, .int .i64 a0_1]) (by simp [results, Tryd.results33, go_sem]) rfl ⟨rfl, ?_⟩
  repeat (first | with_reducible exact Below.refl _ _ | apply below_alloc | apply pw_below_drewN | apply below_drew1 | refine below_set ?_ (by simp; try omega))
set_option maxHeartbeats 4000000 in
set_option maxRecDepth 100000 in
theorem spec_EditOf_k9 (a0_0 : Int) (a0_1 : Int) (a0_2 : ByteArray) (a0_3 : ByteArray) (a0_4 : ByteArray) (a0_5 : Int) (w : World) (n1 : (a0_0 == 1) = false) (n2 : (a0_0 == 2) = false) (n3 : (a0_0 == 3) = false) (n4 : (a0_0 == 4) = false) (n5 : (a0_0 == 5) = false) (n6 : (a0_0 == 6) = false) (n8 : (a0_0 == 8) = false) (n9 : (a0_0 == 9) = false) (n10 : (a0_0 == 10) = false) :
    Calls Tryd.prog 33 #[.agg #[.int .i64 a0_0, .int .i64 a0_1, .string a0_2, .string a0_3, .string a0_4, .int .i64 a0_5]] w fun e w' => e = .returned (.agg #[.int .i64 0, .string ⟨#[]⟩, .string ⟨#[]⟩, .int .i64 0, .int .i64 0]) ∧ Below w.heap.size w w' := by
  have hu33 := Tryd.underlying33
  have hu60 := Tryd.underlying60
  go_enter Tryd.func33, Tryd.ntmps33
  go_wp2
  refine bodyPost_ret (v := .agg #[.int .i64 0, .string ⟨#[]⟩, .string ⟨#[]⟩, .int .i64 0, .int .i64 0]) (by simp [results, Tryd.results33, go_sem]) rfl ⟨rfl, ?_⟩
  repeat (first | with_reducible exact Below.refl _ _ | apply below_alloc | apply pw_below_drewN | apply below_drew1 | refine below_set ?_ (by simp; try omega))
theorem spec_EditOf.calls (a0_0 : Int) (a0_1 : Int) (a0_2 : ByteArray) (a0_3 : ByteArray) (a0_4 : ByteArray) (a0_5 : Int) (r1 : Int) (r2 : ByteArray) (r3 : ByteArray) (r4 : Int) (r5 : Int) (w : World) (h : spec_EditOf.f a0_0 a0_1 a0_2 a0_3 a0_4 a0_5 = some (r1, r2, r3, r4, r5)) :
    Calls Tryd.prog 33 #[.agg #[.int .i64 a0_0, .int .i64 a0_1, .string a0_2, .string a0_3, .string a0_4, .int .i64 a0_5]] w fun e w' => e = .returned (.agg #[.int .i64 r1, .string r2, .string r3, .int .i64 r4, .int .i64 r5]) ∧ Below w.heap.size w w' := by
  unfold spec_EditOf.f at h
  by_cases c1 : a0_0 = 1
  · rw [if_pos c1] at h
    simp only [Option.some.injEq, Prod.mk.injEq] at h
    obtain ⟨rfl, rfl, rfl, rfl, rfl⟩ := h
    exact spec_EditOf_k0 _ _ _ _ _ _ _ (beq_iff_eq.mpr c1)
  rw [if_neg c1] at h
  by_cases c2 : a0_0 = 2
  · rw [if_pos c2] at h
    simp only [Option.some.injEq, Prod.mk.injEq] at h
    obtain ⟨rfl, rfl, rfl, rfl, rfl⟩ := h
    exact spec_EditOf_k1 _ _ _ _ _ _ _ (beq_eq_false_iff_ne.mpr c1) (beq_iff_eq.mpr c2)
  rw [if_neg c2] at h
  by_cases c3 : a0_0 = 3
  · rw [if_pos c3] at h
    simp only [Option.some.injEq, Prod.mk.injEq] at h
    obtain ⟨rfl, rfl, rfl, rfl, rfl⟩ := h
    exact spec_EditOf_k2 _ _ _ _ _ _ _ (beq_eq_false_iff_ne.mpr c1) (beq_eq_false_iff_ne.mpr c2) (beq_iff_eq.mpr c3)
  rw [if_neg c3] at h
  by_cases c4 : a0_0 = 4
  · rw [if_pos c4] at h
    simp only [Option.some.injEq, Prod.mk.injEq] at h
    obtain ⟨rfl, rfl, rfl, rfl, rfl⟩ := h
    exact spec_EditOf_k3 _ _ _ _ _ _ _ (beq_eq_false_iff_ne.mpr c1) (beq_eq_false_iff_ne.mpr c2) (beq_eq_false_iff_ne.mpr c3) (beq_iff_eq.mpr c4)
  rw [if_neg c4] at h
  by_cases c5 : a0_0 = 5
  · rw [if_pos c5] at h
    simp only [Option.some.injEq, Prod.mk.injEq] at h
    obtain ⟨rfl, rfl, rfl, rfl, rfl⟩ := h
    exact spec_EditOf_k4 _ _ _ _ _ _ _ (beq_eq_false_iff_ne.mpr c1) (beq_eq_false_iff_ne.mpr c2) (beq_eq_false_iff_ne.mpr c3) (beq_eq_false_iff_ne.mpr c4) (beq_iff_eq.mpr c5)
  rw [if_neg c5] at h
  by_cases c6 : a0_0 = 6
  · rw [if_pos c6] at h
    simp only [Option.some.injEq, Prod.mk.injEq] at h
    obtain ⟨rfl, rfl, rfl, rfl, rfl⟩ := h
    exact spec_EditOf_k5 _ _ _ _ _ _ _ (beq_eq_false_iff_ne.mpr c1) (beq_eq_false_iff_ne.mpr c2) (beq_eq_false_iff_ne.mpr c3) (beq_eq_false_iff_ne.mpr c4) (beq_eq_false_iff_ne.mpr c5) (beq_iff_eq.mpr c6)
  rw [if_neg c6] at h
  by_cases c8 : a0_0 = 8
  · rw [if_pos c8] at h
    simp only [Option.some.injEq, Prod.mk.injEq] at h
    obtain ⟨rfl, rfl, rfl, rfl, rfl⟩ := h
    exact spec_EditOf_k6 _ _ _ _ _ _ _ (beq_eq_false_iff_ne.mpr c1) (beq_eq_false_iff_ne.mpr c2) (beq_eq_false_iff_ne.mpr c3) (beq_eq_false_iff_ne.mpr c4) (beq_eq_false_iff_ne.mpr c5) (beq_eq_false_iff_ne.mpr c6) (beq_iff_eq.mpr c8)
  rw [if_neg c8] at h
  by_cases c9 : a0_0 = 9
  · rw [if_pos c9] at h
    simp only [Option.some.injEq, Prod.mk.injEq] at h
    obtain ⟨rfl, rfl, rfl, rfl, rfl⟩ := h
    exact spec_EditOf_k7 _ _ _ _ _ _ _ (beq_eq_false_iff_ne.mpr c1) (beq_eq_false_iff_ne.mpr c2) (beq_eq_false_iff_ne.mpr c3) (beq_eq_false_iff_ne.mpr c4) (beq_eq_false_iff_ne.mpr c5) (beq_eq_false_iff_ne.mpr c6) (beq_eq_false_iff_ne.mpr c8) (beq_iff_eq.mpr c9)
  rw [if_neg c9] at h
  by_cases c10 : a0_0 = 10
  · rw [if_pos c10] at h
    simp only [Option.some.injEq, Prod.mk.injEq] at h
    obtain ⟨rfl, rfl, rfl, rfl, rfl⟩ := h
    exact spec_EditOf_k8 _ _ _ _ _ _ _ (beq_eq_false_iff_ne.mpr c1) (beq_eq_false_iff_ne.mpr c2) (beq_eq_false_iff_ne.mpr c3) (beq_eq_false_iff_ne.mpr c4) (beq_eq_false_iff_ne.mpr c5) (beq_eq_false_iff_ne.mpr c6) (beq_eq_false_iff_ne.mpr c8) (beq_eq_false_iff_ne.mpr c9) (beq_iff_eq.mpr c10)
  rw [if_neg c10] at h
  simp only [Option.some.injEq, Prod.mk.injEq] at h
  obtain ⟨rfl, rfl, rfl, rfl, rfl⟩ := h
  exact spec_EditOf_k9 _ _ _ _ _ _ _ (beq_eq_false_iff_ne.mpr c1) (beq_eq_false_iff_ne.mpr c2) (beq_eq_false_iff_ne.mpr c3) (beq_eq_false_iff_ne.mpr c4) (beq_eq_false_iff_ne.mpr c5) (beq_eq_false_iff_ne.mpr c6) (beq_eq_false_iff_ne.mpr c8) (beq_eq_false_iff_ne.mpr c9) (beq_eq_false_iff_ne.mpr c10)
def impl_EditOf.f (a0_0 : Int) (a0_1 : Int) (a0_2 : ByteArray) (a0_3 : ByteArray) (a0_4 : ByteArray) (a0_5 : Int) : Option (Int × ByteArray × ByteArray × Int × Int) := if a0_0 = 1 then some (1, a0_2, (⟨#[]⟩ : ByteArray), 0, 0) else (if a0_0 = 2 then some (2, a0_2, (⟨#[]⟩ : ByteArray), 0, a0_1) else (if a0_0 = 3 then some (7, a0_2, (⟨#[]⟩ : ByteArray), (a0_4.size : Int), 0) else (if a0_0 = 4 then some (8, a0_2, (⟨#[]⟩ : ByteArray), 0, 0) else (if a0_0 = 5 then some (3, a0_2, (a0_3 : ByteArray), 0, 0) else (if a0_0 = 6 then some (4, a0_2, (⟨#[]⟩ : ByteArray), 0, 0) else (if a0_0 = 8 then some (5, a0_2, (⟨#[]⟩ : ByteArray), a0_5, 0) else (if a0_0 = 9 then some (6, a0_2, (⟨#[]⟩ : ByteArray), a0_5, 0) else (if a0_0 = 10 then some (9, a0_2, (⟨#[]⟩ : ByteArray), 0, a0_1) else (some (0, (⟨#[]⟩ : ByteArray), (⟨#[]⟩ : ByteArray), 0, 0))))))))))
set_option maxHeartbeats 4000000 in
set_option maxRecDepth 100000 in
theorem impl_EditOf_k0 (a0_0 : Int) (a0_1 : Int) (a0_2 : ByteArray) (a0_3 : ByteArray) (a0_4 : ByteArray) (a0_5 : Int) (w : World)  (h : (a0_0 == 1) = true) :
    Calls Tryd.prog 35 #[.agg #[.int .i64 a0_0, .int .i64 a0_1, .string a0_2, .string a0_3, .string a0_4, .int .i64 a0_5]] w fun e w' => e = .returned (.agg #[.int .i64 1, .string a0_2, .string ⟨#[]⟩, .int .i64 0, .int .i64 0]) ∧ Below w.heap.size w w' := by
  have hu33 := Tryd.underlying33
  have hu60 := Tryd.underlying60
  go_enter Tryd.func35, Tryd.ntmps35
  go_wp2
  refine bodyPost_ret (v := .agg #[.int .i64 1, .string a0_2, .string ⟨#[]⟩, .int .i64 0, .int .i64 0]) (by simp [results, Tryd.results35, go_sem]) rfl ⟨rfl, ?_⟩
  repeat (first | with_reducible exact Below.refl _ _ | apply below_alloc | apply pw_below_drewN | apply below_drew1 | refine below_set ?_ (by simp; try omega))
set_option maxHeartbeats 4000000 in
set_option maxRecDepth 100000 in
theorem impl_EditOf_k1 (a0_0 : Int) (a0_1 : Int) (a0_2 : ByteArray) (a0_3 : ByteArray) (a0_4 : ByteArray) (a0_5 : Int) (w : World) (n1 : (a0_0 == 1) = false) (h : (a0_0 == 2) = true) :
    Calls Tryd.prog 35 #[.agg #[.int .i64 a0_0, .int .i64 a0_1, .string a0_2, .string a0_3, .string a0_4, .int .i64 a0_5]] w fun e w' => e = .returned (.agg #[.int .i64 2, .string a0_2, .string ⟨#[]⟩, .int .i64 0, .int .i64 a0_1]) ∧ Below w.heap.size w w' := by
  have hu33 := Tryd.underlying33
  have hu60 := Tryd.underlying60
  go_enter Tryd.func35, Tryd.ntmps35
  go_wp2
  go_region
  all_goals (go_wp2)
  all_goals (refine bodyPost_ret (v := .agg #[.int .i64 2, .string a0_2, .string ⟨#[]⟩, .int .i64 0, .int .i64 a0_1]) (by simp [results, Tryd.results35, go_sem]) rfl ⟨rfl, ?_⟩)
  all_goals (repeat (first | with_reducible exact Below.refl _ _ | apply below_alloc | apply pw_below_drewN | apply below_drew1 | refine below_set ?_ (by simp; try omega)))
set_option maxHeartbeats 4000000 in
set_option maxRecDepth 100000 in
theorem impl_EditOf_k2 (a0_0 : Int) (a0_1 : Int) (a0_2 : ByteArray) (a0_3 : ByteArray) (a0_4 : ByteArray) (a0_5 : Int) (w : World) (n1 : (a0_0 == 1) = false) (n2 : (a0_0 == 2) = false) (h : (a0_0 == 3) = true) :
    Calls Tryd.prog 35 #[.agg #[.int .i64 a0_0, .int .i64 a0_1, .string a0_2, .string a0_3, .string a0_4, .int .i64 a0_5]] w fun e w' => e = .returned (.agg #[.int .i64 7, .string a0_2, .string ⟨#[]⟩, .int .i64 (a0_4.size : Int), .int .i64 0]) ∧ Below w.heap.size w w' := by
  have hu33 := Tryd.underlying33
  have hu60 := Tryd.underlying60
  go_enter Tryd.func35, Tryd.ntmps35
  go_wp2
  go_region
  all_goals (go_wp2)
  all_goals (refine bodyPost_ret (v := .agg #[.int .i64 7, .string a0_2, .string ⟨#[]⟩, .int .i64 (a0_4.size : Int), .int .i64 0]) (by simp [results, Tryd.results35, go_sem]) rfl ⟨rfl, ?_⟩)
  all_goals (repeat (first | with_reducible exact Below.refl _ _ | apply below_alloc | apply pw_below_drewN | apply below_drew1 | refine below_set ?_ (by simp; try omega)))
set_option maxHeartbeats 4000000 in
set_option maxRecDepth 100000 in
theorem impl_EditOf_k3 (a0_0 : Int) (a0_1 : Int) (a0_2 : ByteArray) (a0_3 : ByteArray) (a0_4 : ByteArray) (a0_5 : Int) (w : World) (n1 : (a0_0 == 1) = false) (n2 : (a0_0 == 2) = false) (n3 : (a0_0 == 3) = false) (h : (a0_0 == 4) = true) :
    Calls Tryd.prog 35 #[.agg #[.int .i64 a0_0, .int .i64 a0_1, .string a0_2, .string a0_3, .string a0_4, .int .i64 a0_5]] w fun e w' => e = .returned (.agg #[.int .i64 8, .string a0_2, .string ⟨#[]⟩, .int .i64 0, .int .i64 0]) ∧ Below w.heap.size w w' := by
  have hu33 := Tryd.underlying33
  have hu60 := Tryd.underlying60
  go_enter Tryd.func35, Tryd.ntmps35
  go_wp2
  refine bodyPost_ret (v := .agg #[.int .i64 8, .string a0_2, .string ⟨#[]⟩, .int .i64 0, .int .i64 0]) (by simp [results, Tryd.results35, go_sem]) rfl ⟨rfl, ?_⟩
  repeat (first | with_reducible exact Below.refl _ _ | apply below_alloc | apply pw_below_drewN | apply below_drew1 | refine below_set ?_ (by simp; try omega))
set_option maxHeartbeats 4000000 in
set_option maxRecDepth 100000 in
theorem impl_EditOf_k4 (a0_0 : Int) (a0_1 : Int) (a0_2 : ByteArray) (a0_3 : ByteArray) (a0_4 : ByteArray) (a0_5 : Int) (w : World) (n1 : (a0_0 == 1) = false) (n2 : (a0_0 == 2) = false) (n3 : (a0_0 == 3) = false) (n4 : (a0_0 == 4) = false) (h : (a0_0 == 5) = true) :
    Calls Tryd.prog 35 #[.agg #[.int .i64 a0_0, .int .i64 a0_1, .string a0_2, .string a0_3, .string a0_4, .int .i64 a0_5]] w fun e w' => e = .returned (.agg #[.int .i64 3, .string a0_2, .string a0_3, .int .i64 0, .int .i64 0]) ∧ Below w.heap.size w w' := by
  have hu33 := Tryd.underlying33
  have hu60 := Tryd.underlying60
  go_enter Tryd.func35, Tryd.ntmps35
  go_wp2
  go_region
  all_goals (go_wp2)
  all_goals (refine bodyPost_ret (v := .agg #[.int .i64 3, .string a0_2, .string a0_3, .int .i64 0, .int .i64 0]) (by simp [results, Tryd.results35, go_sem]) rfl ⟨rfl, ?_⟩)
  all_goals (repeat (first | with_reducible exact Below.refl _ _ | apply below_alloc | apply pw_below_drewN | apply below_drew1 | refine below_set ?_ (by simp; try omega)))
set_option maxHeartbeats 4000000 in
set_option maxRecDepth 100000 in
theorem impl_EditOf_k5 (a0_0 : Int) (a0_1 : Int) (a0_2 : ByteArray) (a0_3 : ByteArray) (a0_4 : ByteArray) (a0_5 : Int) (w : World) (n1 : (a0_0 == 1) = false) (n2 : (a0_0 == 2) = false) (n3 : (a0_0 == 3) = false) (n4 : (a0_0 == 4) = false) (n5 : (a0_0 == 5) = false) (h : (a0_0 == 6) = true) :
    Calls Tryd.prog 35 #[.agg #[.int .i64 a0_0, .int .i64 a0_1, .string a0_2, .string a0_3, .string a0_4, .int .i64 a0_5]] w fun e w' => e = .returned (.agg #[.int .i64 4, .string a0_2, .string ⟨#[]⟩, .int .i64 0, .int .i64 0]) ∧ Below w.heap.size w w' := by
  have hu33 := Tryd.underlying33
  have hu60 := Tryd.underlying60
  go_enter Tryd.func35, Tryd.ntmps35
  go_wp2
  refine bodyPost_ret (v := .agg #[.int .i64 4, .string a0_2, .string ⟨#[]⟩, .int .i64 0, .int .i64 0]) (by simp [results, Tryd.results35, go_sem]) rfl ⟨rfl, ?_⟩
  repeat (first | with_reducible exact Below.refl _ _ | apply below_alloc | apply pw_below_drewN | apply below_drew1 | refine below_set ?_ (by simp; try omega))
set_option maxHeartbeats 4000000 in
set_option maxRecDepth 100000 in
theorem impl_EditOf_k6 (a0_0 : Int) (a0_1 : Int) (a0_2 : ByteArray) (a0_3 : ByteArray) (a0_4 : ByteArray) (a0_5 : Int) (w : World) (n1 : (a0_0 == 1) = false) (n2 : (a0_0 == 2) = false) (n3 : (a0_0 == 3) = false) (n4 : (a0_0 == 4) = false) (n5 : (a0_0 == 5) = false) (n6 : (a0_0 == 6) = false) (h : (a0_0 == 8) = true) :
    Calls Tryd.prog 35 #[.agg #[.int .i64 a0_0, .int .i64 a0_1, .string a0_2, .string a0_3, .string a0_4, .int .i64 a0_5]] w fun e w' => e = .returned (.agg #[.int .i64 5, .string a0_2, .string ⟨#[]⟩, .int .i64 a0_5, .int .i64 0]) ∧ Below w.heap.size w w' := by
  have hu33 := Tryd.underlying33
  have hu60 := Tryd.underlying60
  go_enter Tryd.func35, Tryd.ntmps35
  go_wp2
  go_region
  all_goals (go_wp2)
  all_goals (refine bodyPost_ret (v := .agg #[.int .i64 5, .string a0_2, .string ⟨#[]⟩, .int .i64 a0_5, .int .i64 0]) (by simp [results, Tryd.results35, go_sem]) rfl ⟨rfl, ?_⟩)
  all_goals (repeat (first | with_reducible exact Below.refl _ _ | apply below_alloc | apply pw_below_drewN | apply below_drew1 | refine below_set ?_ (by simp; try omega)))
set_option maxHeartbeats 4000000 in
set_option maxRecDepth 100000 in
theorem impl_EditOf_k7 (a0_0 : Int) (a0_1 : Int) (a0_2 : ByteArray) (a0_3 : ByteArray) (a0_4 : ByteArray) (a0_5 : Int) (w : World) (n1 : (a0_0 == 1) = false) (n2 : (a0_0 == 2) = false) (n3 : (a0_0 == 3) = false) (n4 : (a0_0 == 4) = false) (n5 : (a0_0 == 5) = false) (n6 : (a0_0 == 6) = false) (n8 : (a0_0 == 8) = false) (h : (a0_0 == 9) = true) :
    Calls Tryd.prog 35 #[.agg #[.int .i64 a0_0, .int .i64 a0_1, .string a0_2, .string a0_3, .string a0_4, .int .i64 a0_5]] w fun e w' => e = .returned (.agg #[.int .i64 6, .string a0_2, .string ⟨#[]⟩, .int .i64 a0_5, .int .i64 0]) ∧ Below w.heap.size w w' := by
  have hu33 := Tryd.underlying33
  have hu60 := Tryd.underlying60
  go_enter Tryd.func35, Tryd.ntmps35
  go_wp2
  go_region
  all_goals (go_wp2)
  all_goals (refine bodyPost_ret (v := .agg #[.int .i64 6, .string a0_2, .string ⟨#[]⟩, .int .i64 a0_5, .int .i64 0]) (by simp [results, Tryd.results35, go_sem]) rfl ⟨rfl, ?_⟩)
  all_goals (repeat (first | with_reducible exact Below.refl _ _ | apply below_alloc | apply pw_below_drewN | apply below_drew1 | refine below_set ?_ (by simp; try omega)))
set_option maxHeartbeats 4000000 in
set_option maxRecDepth 100000 in
theorem impl_EditOf_k8 (a0_0 : Int) (a0_1 : Int) (a0_2 : ByteArray) (a0_3 : ByteArray) (a0_4 : ByteArray) (a0_5 : Int) (w : World) (n1 : (a0_0 == 1) = false) (n2 : (a0_0 == 2) = false) (n3 : (a0_0 == 3) = false) (n4 : (a0_0 == 4) = false) (n5 : (a0_0 == 5) = false) (n6 : (a0_0 == 6) = false) (n8 : (a0_0 == 8) = false) (n9 : (a0_0 == 9) = false) (h : (a0_0 == 10) = true) :
    Calls Tryd.prog 35 #[.agg #[.int .i64 a0_0, .int .i64 a0_1, .string a0_2, .string a0_3, .string a0_4, .int .i64 a0_5]] w fun e w' => e = .returned (.agg #[.int .i64 9, .string a0_2, .string ⟨#[]⟩, .int .i64 0, .int .i64 a0_1]) ∧ Below w.heap.size w w' := by
  have hu33 := Tryd.underlying33
  have hu60 := Tryd.underlying60
  go_enter Tryd.func35, Tryd.ntmps35
  go_wp2
  go_region
  all_goals (go_wp2)
  all_goals (refine bodyPost_ret (v := .agg #[.int .i64 9, .string a0_2, .string ⟨#[]⟩, .int .i64 0, .int .i64 a0_1]) (by simp [results, Tryd.results35, go_sem]) rfl ⟨rfl, ?_⟩)
  all_goals (repeat (first | with_reducible exact Below.refl _ _ | apply below_alloc | apply pw_below_drewN | apply below_drew1 | refine below_set ?_ (by simp; try omega)))
set_option maxHeartbeats 4000000 in
set_option maxRecDepth 100000 in
theorem impl_EditOf_k9 (a0_0 : Int) (a0_1 : Int) (a0_2 : ByteArray) (a0_3 : ByteArray) (a0_4 : ByteArray) (a0_5 : Int) (w : World) (n1 : (a0_0 == 1) = false) (n2 : (a0_0 == 2) = false) (n3 : (a0_0 == 3) = false) (n4 : (a0_0 == 4) = false) (n5 : (a0_0 == 5) = false) (n6 : (a0_0 == 6) = false) (n8 : (a0_0 == 8) = false) (n9 : (a0_0 == 9) = false) (n10 : (a0_0 == 10) = false) :
    Calls Tryd.prog 35 #[.agg #[.int .i64 a0_0, .int .i64 a0_1, .string a0_2, .string a0_3, .string a0_4, .int .i64 a0_5]] w fun e w' => e = .returned (.agg #[.int .i64 0, .string ⟨#[]⟩, .string ⟨#[]⟩, .int .i64 0, .int .i64 0]) ∧ Below w.heap.size w w' := by
  have hu33 := Tryd.underlying33
  have hu60 := Tryd.underlying60
  go_enter Tryd.func35, Tryd.ntmps35
  go_wp2
  refine bodyPost_ret (v := .agg #[.int .i64 0, .string ⟨#[]⟩, .string ⟨#[]⟩, .int .i64 0, .int .i64 0]) (by simp [results, Tryd.results35, go_sem]) rfl ⟨rfl, ?_⟩
  repeat (first | with_reducible exact Below.refl _ _ | apply below_alloc | apply pw_below_drewN | apply below_drew1 | refine below_set ?_ (by simp; try omega))
theorem impl_EditOf.calls (a0_0 : Int) (a0_1 : Int) (a0_2 : ByteArray) (a0_3 : ByteArray) (a0_4 : ByteArray) (a0_5 : Int) (r1 : Int) (r2 : ByteArray) (r3 : ByteArray) (r4 : Int) (r5 : Int) (w : World) (h : impl_EditOf.f a0_0 a0_1 a0_2 a0_3 a0_4 a0_5 = some (r1, r2, r3, r4, r5)) :
    Calls Tryd.prog 35 #[.agg #[.int .i64 a0_0, .int .i64 a0_1, .string a0_2, .string a0_3, .string a0_4, .int .i64 a0_5]] w fun e w' => e = .returned (.agg #[.int .i64 r1, .string r2, .string r3, .int .i64 r4, .int .i64 r5]) ∧ Below w.heap.size w w' := by
  unfold impl_EditOf.f at h
  by_cases c1 : a0_0 = 1
  · rw [if_pos c1] at h
    simp only [Option.some.injEq, Prod.mk.injEq] at h
    obtain ⟨rfl, rfl, rfl, rfl, rfl⟩ := h
    exact impl_EditOf_k0 _ _ _ _ _ _ _ (beq_iff_eq.mpr c1)
  rw [if_neg c1] at h
  by_cases c2 : a0_0 = 2
  · rw [if_pos c2] at h
    simp only [Option.some.injEq, Prod.mk.injEq] at h
    obtain ⟨rfl, rfl, rfl, rfl, rfl⟩ := h
    exact impl_EditOf_k1 _ _ _ _ _ _ _ (beq_eq_false_iff_ne.mpr c1) (beq_iff_eq.mpr c2)
  rw [if_neg c2] at h
  by_cases c3 : a0_0 = 3
  · rw [if_pos c3] at h
    simp only [Option.some.injEq, Prod.mk.injEq] at h
    obtain ⟨rfl, rfl, rfl, rfl, rfl⟩ := h
    exact impl_EditOf_k2 _ _ _ _ _ _ _ (beq_eq_false_iff_ne.mpr c1) (beq_eq_false_iff_ne.mpr c2) (beq_iff_eq.mpr c3)
  rw [if_neg c3] at h
  by_cases c4 : a0_0 = 4
  · rw [if_pos c4] at h
    simp only [Option.some.injEq, Prod.mk.injEq] at h
    obtain ⟨rfl, rfl, rfl, rfl, rfl⟩ := h
    exact impl_EditOf_k3 _ _ _ _ _ _ _ (beq_eq_false_iff_ne.mpr c1) (beq_eq_false_iff_ne.mpr c2) (beq_eq_false_iff_ne.mpr c3) (beq_iff_eq.mpr c4)
  rw [if_neg c4] at h
  by_cases c5 : a0_0 = 5
  · rw [if_pos c5] at h
    simp only [Option.some.injEq, Prod.mk.injEq] at h
    obtain ⟨rfl, rfl, rfl, rfl, rfl⟩ := h
    exact impl_EditOf_k4 _ _ _ _ _ _ _ (beq_eq_false_iff_ne.mpr c1) (beq_eq_false_iff_ne.mpr c2) (beq_eq_false_iff_ne.mpr c3) (beq_eq_false_iff_ne.mpr c4) (beq_iff_eq.mpr c5)
  rw [if_neg c5] at h
  by_cases c6 : a0_0 = 6
  · rw [if_pos c6] at h
    simp only [Option.some.injEq, Prod.mk.injEq] at h
    obtain ⟨rfl, rfl, rfl, rfl, rfl⟩ := h
    exact impl_EditOf_k5 _ _ _ _ _ _ _ (beq_eq_false_iff_ne.mpr c1) (beq_eq_false_iff_ne.mpr c2) (beq_eq_false_iff_ne.mpr c3) (beq_eq_false_iff_ne.mpr c4) (beq_eq_false_iff_ne.mpr c5) (beq_iff_eq.mpr c6)
  rw [if_neg c6] at h
  by_cases c8 : a0_0 = 8
  · rw [if_pos c8] at h
    simp only [Option.some.injEq, Prod.mk.injEq] at h
    obtain ⟨rfl, rfl, rfl, rfl, rfl⟩ := h
    exact impl_EditOf_k6 _ _ _ _ _ _ _ (beq_eq_false_iff_ne.mpr c1) (beq_eq_false_iff_ne.mpr c2) (beq_eq_false_iff_ne.mpr c3) (beq_eq_false_iff_ne.mpr c4) (beq_eq_false_iff_ne.mpr c5) (beq_eq_false_iff_ne.mpr c6) (beq_iff_eq.mpr c8)
  rw [if_neg c8] at h
  by_cases c9 : a0_0 = 9
  · rw [if_pos c9] at h
    simp only [Option.some.injEq, Prod.mk.injEq] at h
    obtain ⟨rfl, rfl, rfl, rfl, rfl⟩ := h
    exact impl_EditOf_k7 _ _ _ _ _ _ _ (beq_eq_false_iff_ne.mpr c1) (beq_eq_false_iff_ne.mpr c2) (beq_eq_false_iff_ne.mpr c3) (beq_eq_false_iff_ne.mpr c4) (beq_eq_false_iff_ne.mpr c5) (beq_eq_false_iff_ne.mpr c6) (beq_eq_false_iff_ne.mpr c8) (beq_iff_eq.mpr c9)
  rw [if_neg c9] at h
  by_cases c10 : a0_0 = 10
  · rw [if_pos c10] at h
    simp only [Option.some.injEq, Prod.mk.injEq] at h
    obtain ⟨rfl, rfl, rfl, rfl, rfl⟩ := h
    exact impl_EditOf_k8 _ _ _ _ _ _ _ (beq_eq_false_iff_ne.mpr c1) (beq_eq_false_iff_ne.mpr c2) (beq_eq_false_iff_ne.mpr c3) (beq_eq_false_iff_ne.mpr c4) (beq_eq_false_iff_ne.mpr c5) (beq_eq_false_iff_ne.mpr c6) (beq_eq_false_iff_ne.mpr c8) (beq_eq_false_iff_ne.mpr c9) (beq_iff_eq.mpr c10)
  rw [if_neg c10] at h
  simp only [Option.some.injEq, Prod.mk.injEq] at h
  obtain ⟨rfl, rfl, rfl, rfl, rfl⟩ := h
  exact impl_EditOf_k9 _ _ _ _ _ _ _ (beq_eq_false_iff_ne.mpr c1) (beq_eq_false_iff_ne.mpr c2) (beq_eq_false_iff_ne.mpr c3) (beq_eq_false_iff_ne.mpr c4) (beq_eq_false_iff_ne.mpr c5) (beq_eq_false_iff_ne.mpr c6) (beq_eq_false_iff_ne.mpr c8) (beq_eq_false_iff_ne.mpr c9) (beq_eq_false_iff_ne.mpr c10)
end Go.Proofs.YtfgnaneajonapaaDoor.Pr

namespace Go.Proofs.YtfgnaneajonapaaDoor.Pr
open Go.RowKit Go.Proofs.YtfgnaneajonapaaDoorW.PrintWords Go.Proofs.YtfgnaneajonapaaDoorW.PrintLast Go.Proofs.YtfgnaneajonapaaDoorW.PrintMore
attribute [local go_sem] max2_int min2_int max_two min_two max_three min_three max_four min_four
set_option linter.unusedVariables false
set_option linter.unusedSimpArgs false
def spec_l01In.f (a0 : Int) (a1 : Int) (a2 : Int) : Option (Bool) := if a0 ≥ a1 then (some (decide (a0 ≤ a2))) else (some false)
set_option maxHeartbeats 8000000 in
set_option maxRecDepth 100000 in
theorem spec_l01In.calls (a0 : Int) (a1 : Int) (a2 : Int) (r : Bool) (w : World) (h : spec_l01In.f a0 a1 a2 = some r) :
    Calls Tryd.prog 27 #[.int .i64 a0, .int .i64 a1, .int .i64 a2] w fun e w' => e = .returned (.bool r) ∧ Drawn0 w w' := by
  have H : (if a0 ≥ a1 then (some (decide (a0 ≤ a2))) else (some false)) = some r := h
  clear h
  by_cases c4 : a0 ≥ a1
  · rw [if_pos c4] at H
    have c4b0 : decide (a1 ≤ a0) = true := decide_eq_true c4
    clear c4
    obtain rfl := Option.some.inj H
    go_enter Tryd.func27, Tryd.ntmps27
    go_wp2
    go_ret
    exact ⟨FR, by repeat (first | exact Drawn0.refl _ | apply Drawn0.step)⟩
  · rw [if_neg c4] at H
    have c4b0 : decide (a1 ≤ a0) = false := decide_eq_false c4
    clear c4
    obtain rfl := Option.some.inj H
    go_enter Tryd.func27, Tryd.ntmps27
    go_wp2
    go_ret
    exact ⟨FR, by repeat (first | exact Drawn0.refl _ | apply Drawn0.step)⟩

end Go.Proofs.YtfgnaneajonapaaDoor.Pr

namespace Go.Proofs.YtfgnaneajonapaaDoor.Pr
open Go.RowKit Go.Proofs.YtfgnaneajonapaaDoorW.PrintWords Go.Proofs.YtfgnaneajonapaaDoorW.PrintLast Go.Proofs.YtfgnaneajonapaaDoorW.PrintMore
attribute [local go_sem] max2_int min2_int max_two min_two max_three min_three max_four min_four
set_option linter.unusedVariables false
set_option linter.unusedSimpArgs false
def spec_NameOk.l0 : Nat → ByteArray → Int → Option (Bool)
  | 0, _, _ => none
  | k + 1, x0, x3 => if x3 < (x0.size : Int) then (if 0 ≤ x3 then (if (bt x0 x3) < 97 then (if (bt x0 x3) < 48 then (some false) else (if (bt x0 x3) > 57 then (some false) else (spec_NameOk.l0 k x0 (wrap64 (x3 + 1))))) else (if (bt x0 x3) > 122 then (if (bt x0 x3) < 48 then (some false) else (if (bt x0 x3) > 57 then (some false) else (spec_NameOk.l0 k x0 (wrap64 (x3 + 1))))) else (spec_NameOk.l0 k x0 (wrap64 (x3 + 1))))) else (none)) else ((spec_l01In.f (x0.size : Int) 1 8).bind fun t104 => (some t104))
def spec_NameOk.f (k : Nat) (a0 : ByteArray) : Option (Bool) := spec_NameOk.l0 k a0 0
set_option maxHeartbeats 8000000 in
set_option maxRecDepth 100000 in
theorem spec_NameOk.calls (k : Nat) (a0 : ByteArray) (r : Bool) (w : World) (h : spec_NameOk.f k a0 = some r) :
    Calls Tryd.prog 58 #[.string a0] w fun e w' => e = .returned (.bool r) ∧ Drawn0 w w' := by
  have H : (spec_NameOk.l0 k a0 0) = some r := h
  clear h
  have H' := Aside0.mk H
  clear H
  go_enter Tryd.func58, Tryd.ntmps58
  go_wp2
  go_loopg [3] k (fun kq v3 w' => ∃ (x3_1 : Int), v3 = .int .i64 x3_1 ∧ Aside0 (spec_NameOk.l0 kq a0 x3_1 = some r) ∧ Aside0 (kq ≤ k) ∧ Drawn0 w w')
  case atStart => exact ⟨(0), FR, H', ⟨Nat.le_refl _⟩, by repeat (first | exact Drawn0.refl _ | apply Drawn0.step)⟩
  case round =>
    clear H'
    obtain ⟨x3_1, rfl, HA, HK1, ⟨m1, rfl⟩⟩ := hrel
    cases gk with
    | zero => exact absurd HA.out (by simp [spec_NameOk.l0])
    | succ k1 =>
      have H := HA.out
      clear HA
      simp only [spec_NameOk.l0] at H
      by_cases c2 : x3_1 < (a0.size : Int)
      · rw [if_pos c2] at H
        have c2b0 : decide (x3_1 < (a0.size : Int)) = true := decide_eq_true c2
        clear c2
        by_cases c3 : 0 ≤ x3_1
        · rw [if_pos c3] at H
          have c3b0 : decide (0 ≤ x3_1) = true := decide_eq_true c3
          clear c3
          by_cases c5 : (bt a0 x3_1) < 97
          · rw [if_pos c5] at H
            have c5b0 : decide ((bt a0 x3_1) < 97) = true := decide_eq_true c5
            clear c5
            by_cases c7 : (bt a0 x3_1) < 48
            · rw [if_pos c7] at H
              have c7b0 : decide ((bt a0 x3_1) < 48) = true := decide_eq_true c7
              clear c7
              obtain rfl := Option.some.inj H
              have p4 : 0 ≤ (x3_1 : Int) := DT
              have q4 : x3_1 < (a0.size : Int) := DT
              have hx4 := bt_at a0 x3_1
              replace p4 := eq_true p4
              replace q4 := eq_true q4
              have p6 : 0 ≤ (x3_1 : Int) := DT
              have q6 : x3_1 < (a0.size : Int) := DT
              have hx6 := bt_at a0 x3_1
              replace p6 := eq_true p6
              replace q6 := eq_true q6
              go_wp2
              go_ret
              exact ⟨FR, by repeat (first | exact Drawn0.refl _ | apply Drawn0.step)⟩
            · rw [if_neg c7] at H
              have c7b0 : decide ((bt a0 x3_1) < 48) = false := decide_eq_false c7
              clear c7
              by_cases c9 : (bt a0 x3_1) > 57
              · rw [if_pos c9] at H
                have c9b0 : decide (57 < (bt a0 x3_1)) = true := decide_eq_true c9
                clear c9
                obtain rfl := Option.some.inj H
                have p4 : 0 ≤ (x3_1 : Int) := DT
                have q4 : x3_1 < (a0.size : Int) := DT
                have hx4 := bt_at a0 x3_1
                replace p4 := eq_true p4
                replace q4 := eq_true q4
                have p6 : 0 ≤ (x3_1 : Int) := DT
                have q6 : x3_1 < (a0.size : Int) := DT
                have hx6 := bt_at a0 x3_1
                replace p6 := eq_true p6
                replace q6 := eq_true q6
                have p8 : 0 ≤ (x3_1 : Int) := DT
                have q8 : x3_1 < (a0.size : Int) := DT
                have hx8 := bt_at a0 x3_1
                replace p8 := eq_true p8
                replace q8 := eq_true q8
                go_wp2
                go_ret
                exact ⟨FR, by repeat (first | exact Drawn0.refl _ | apply Drawn0.step)⟩
              · rw [if_neg c9] at H
                have c9b0 : decide (57 < (bt a0 x3_1)) = false := decide_eq_false c9
                clear c9
                have H' := Aside0.mk H
                clear H
                have p4 : 0 ≤ (x3_1 : Int) := DT
                have q4 : x3_1 < (a0.size : Int) := DT
                have hx4 := bt_at a0 x3_1
                replace p4 := eq_true p4
                replace q4 := eq_true q4
                have p6 : 0 ≤ (x3_1 : Int) := DT
                have q6 : x3_1 < (a0.size : Int) := DT
                have hx6 := bt_at a0 x3_1
                replace p6 := eq_true p6
                replace q6 := eq_true q6
                have p8 : 0 ≤ (x3_1 : Int) := DT
                have q8 : x3_1 < (a0.size : Int) := DT
                have hx8 := bt_at a0 x3_1
                replace p8 := eq_true p8
                replace q8 := eq_true q8
                go_wp2
                go_roundg k1
                case measure => have := HK1.out; omega
                case rel => exact ⟨(wrap64 (x3_1 + 1)), FR, H', ⟨by have := HK1.out; omega⟩, by repeat (first | exact Drawn0.refl _ | apply Drawn0.step)⟩
          · rw [if_neg c5] at H
            have c5b0 : decide ((bt a0 x3_1) < 97) = false := decide_eq_false c5
            clear c5
            by_cases c11 : (bt a0 x3_1) > 122
            · rw [if_pos c11] at H
              have c11b0 : decide (122 < (bt a0 x3_1)) = true := decide_eq_true c11
              clear c11
              by_cases c13 : (bt a0 x3_1) < 48
              · rw [if_pos c13] at H
                have c13b0 : decide ((bt a0 x3_1) < 48) = true := decide_eq_true c13
                clear c13
                obtain rfl := Option.some.inj H
                have p4 : 0 ≤ (x3_1 : Int) := DT
                have q4 : x3_1 < (a0.size : Int) := DT
                have hx4 := bt_at a0 x3_1
                replace p4 := eq_true p4
                replace q4 := eq_true q4
                have p10 : 0 ≤ (x3_1 : Int) := DT
                have q10 : x3_1 < (a0.size : Int) := DT
                have hx10 := bt_at a0 x3_1
                replace p10 := eq_true p10
                replace q10 := eq_true q10
                have p12 : 0 ≤ (x3_1 : Int) := DT
                have q12 : x3_1 < (a0.size : Int) := DT
                have hx12 := bt_at a0 x3_1
                replace p12 := eq_true p12
                replace q12 := eq_true q12
                go_wp2
                go_ret
                exact ⟨FR, by repeat (first | exact Drawn0.refl _ | apply Drawn0.step)⟩
              · rw [if_neg c13] at H
                have c13b0 : decide ((bt a0 x3_1) < 48) = false := decide_eq_false c13
                clear c13
                by_cases c15 : (bt a0 x3_1) > 57
                · rw [if_pos c15] at H
                  have c15b0 : decide (57 < (bt a0 x3_1)) = true := decide_eq_true c15
                  clear c15
                  obtain rfl := Option.some.inj H
                  have p4 : 0 ≤ (x3_1 : Int) := DT
                  have q4 : x3_1 < (a0.size : Int) := DT
                  have hx4 := bt_at a0 x3_1
                  replace p4 := eq_true p4
                  replace q4 := eq_true q4
                  have p10 : 0 ≤ (x3_1 : Int) := DT
                  have q10 : x3_1 < (a0.size : Int) := DT
                  have hx10 := bt_at a0 x3_1
                  replace p10 := eq_true p10
                  replace q10 := eq_true q10
                  have p12 : 0 ≤ (x3_1 : Int) := DT
                  have q12 : x3_1 < (a0.size : Int) := DT
                  have hx12 := bt_at a0 x3_1
                  replace p12 := eq_true p12
                  replace q12 := eq_true q12
                  have p14 : 0 ≤ (x3_1 : Int) := DT
                  have q14 : x3_1 < (a0.size : Int) := DT
                  have hx14 := bt_at a0 x3_1
                  replace p14 := eq_true p14
                  replace q14 := eq_true q14
                  go_wp2
                  go_ret
                  exact ⟨FR, by repeat (first | exact Drawn0.refl _ | apply Drawn0.step)⟩
                · rw [if_neg c15] at H
                  have c15b0 : decide (57 < (bt a0 x3_1)) = false := decide_eq_false c15
                  clear c15
                  have H' := Aside0.mk H
                  clear H
                  have p4 : 0 ≤ (x3_1 : Int) := DT
                  have q4 : x3_1 < (a0.size : Int) := DT
                  have hx4 := bt_at a0 x3_1
                  replace p4 := eq_true p4
                  replace q4 := eq_true q4
                  have p10 : 0 ≤ (x3_1 : Int) := DT
                  have q10 : x3_1 < (a0.size : Int) := DT
                  have hx10 := bt_at a0 x3_1
                  replace p10 := eq_true p10
                  replace q10 := eq_true q10
                  have p12 : 0 ≤ (x3_1 : Int) := DT
                  have q12 : x3_1 < (a0.size : Int) := DT
                  have hx12 := bt_at a0 x3_1
                  replace p12 := eq_true p12
                  replace q12 := eq_true q12
                  have p14 : 0 ≤ (x3_1 : Int) := DT
                  have q14 : x3_1 < (a0.size : Int) := DT
                  have hx14 := bt_at a0 x3_1
                  replace p14 := eq_true p14
                  replace q14 := eq_true q14
                  go_wp2
                  go_roundg k1
                  case measure => have := HK1.out; omega
                  case rel => exact ⟨(wrap64 (x3_1 + 1)), FR, H', ⟨by have := HK1.out; omega⟩, by repeat (first | exact Drawn0.refl _ | apply Drawn0.step)⟩
            · rw [if_neg c11] at H
              have c11b0 : decide (122 < (bt a0 x3_1)) = false := decide_eq_false c11
              clear c11
              have H' := Aside0.mk H
              clear H
              have p4 : 0 ≤ (x3_1 : Int) := DT
              have q4 : x3_1 < (a0.size : Int) := DT
              have hx4 := bt_at a0 x3_1
              replace p4 := eq_true p4
              replace q4 := eq_true q4
              have p10 : 0 ≤ (x3_1 : Int) := DT
              have q10 : x3_1 < (a0.size : Int) := DT
              have hx10 := bt_at a0 x3_1
              replace p10 := eq_true p10
              replace q10 := eq_true q10
              go_wp2
              go_roundg k1
              case measure => have := HK1.out; omega
              case rel => exact ⟨(wrap64 (x3_1 + 1)), FR, H', ⟨by have := HK1.out; omega⟩, by repeat (first | exact Drawn0.refl _ | apply Drawn0.step)⟩
        · rw [if_neg c3] at H
          exact absurd H (by simp)
      · rw [if_neg c2] at H
        have c2b0 : decide (x3_1 < (a0.size : Int)) = false := decide_eq_false c2
        clear c2
        replace H := Option.bind_eq_some_iff.mp H
        obtain ⟨t104, A160, H⟩ := H
        replace H : (some t104) = some r := H
        have A16 := Aside0.mk A160
        clear A160
        obtain rfl := Option.some.inj H
        go_wp2_with (first | ((with_reducible refine gate_callee (f := 27) rfl ?_); refine GL (some 34) rfl rfl Tryd.func27 #[.int .i64 (a0.size : Int), .int .i64 1, .int .i64 8] rfl ?_; (with_reducible refine (spec_l01In.calls (a0.size : Int) 1 8 t104 _ A16.out).mono ?_); rintro e w' ⟨rfl, ⟨nd, rfl⟩⟩; refine ⟨_, rfl, ?_⟩))
        go_ret
        exact ⟨FR, by repeat (first | exact Drawn0.refl _ | apply Drawn0.step)⟩

end Go.Proofs.YtfgnaneajonapaaDoor.Pr

namespace Go.Proofs.YtfgnaneajonapaaDoor.Pr
open Go.RowKit Go.Proofs.YtfgnaneajonapaaDoorW.PrintWords Go.Proofs.YtfgnaneajonapaaDoorW.PrintLast Go.Proofs.YtfgnaneajonapaaDoorW.PrintMore
attribute [local go_sem] max2_int min2_int max_two min_two max_three min_three max_four min_four
set_option linter.unusedVariables false
set_option linter.unusedSimpArgs false
mutual
def spec_SplitPath.j0 : Nat → ByteArray → List ByteArray → Bool → Option (List ByteArray × Bool)
  | 0, _, _, _ => none
  | k + 1, x0, x4, x15 => if x15 = true then (some (x4, false)) else (if x0.toList = ([47] : List UInt8) then (some (x4, true)) else (spec_SplitPath.l0 k x0 x4 1 1))
def spec_SplitPath.l0 : Nat → ByteArray → List ByteArray → Int → Int → Option (List ByteArray × Bool)
  | 0, _, _, _, _ => none
  | k + 1, x0, x4, x5, x6 => if x6 ≤ (x0.size : Int) then (if x6 < (x0.size : Int) then (if 0 ≤ x6 then (spec_SplitPath.j2 k x0 x4 x5 x6 ((bt x0 x6) != 47)) else (none)) else (spec_SplitPath.j2 k x0 x4 x5 x6 false)) else (if (x4.length : Int) > 4 then (some ((([] : List ByteArray)), false)) else (some (x4, true)))
def spec_SplitPath.j2 : Nat → ByteArray → List ByteArray → Int → Int → Bool → Option (List ByteArray × Bool)
  | 0, _, _, _, _, _ => none
  | k + 1, x0, x4, x5, x6, x35 => if x35 = true then (spec_SplitPath.l0 k x0 x4 x5 (wrap64 (x6 + 1))) else (if 0 ≤ x5 then (if x5 ≤ x6 then (if x6 ≤ (x0.size : Int) then ((spec_NameOk.f k (x0.extract (x5 : Int).toNat (x6 : Int).toNat)).bind fun t111 => (if t111 = true then (if x4.length < 8796093022208 then (spec_SplitPath.l0 k x0 (x4 ++ [x0.extract (x5 : Int).toNat (x6 : Int).toNat]) (wrap64 (x6 + 1)) (wrap64 (x6 + 1))) else (none)) else (some ((([] : List ByteArray)), false)))) else (none)) else (none)) else (none))
end
def spec_SplitPath.f (k : Nat) (a0 : ByteArray) : Option (List ByteArray × Bool) := (some (([] : List ByteArray) : List ByteArray)).bind fun y105 => (if (a0.size : Int) = 0 then (spec_SplitPath.j0 k a0 y105 true) else (if 0 < (a0.size : Int) then (spec_SplitPath.j0 k a0 y105 ((bt a0 0) != 47)) else (none)))
set_option maxHeartbeats 8000000 in
set_option maxRecDepth 100000 in
theorem spec_SplitPath.calls (k : Nat) (a0 : ByteArray) (r1 : List ByteArray) (r2 : Bool) (w : World) (h : spec_SplitPath.f k a0 = some (r1, r2)) :
    Calls Tryd.prog 52 #[.string a0] w fun e w' => ∃ v0_ : Value, e = .returned (.tuple #[v0_, .bool r2]) ∧ Kd.R Kd.string 9 w' w.heap.size (fun _ => True) v0_ r1 ∧ Below w.heap.size w w' := by
  have HB := Aside0.mk (Below.refl w.heap.size w)
  have H : ((some (([] : List ByteArray) : List ByteArray)).bind fun y105 => (if (a0.size : Int) = 0 then (spec_SplitPath.j0 k a0 y105 true) else (if 0 < (a0.size : Int) then (spec_SplitPath.j0 k a0 y105 ((bt a0 0) != 47)) else (none)))) = some (r1, r2) := h
  clear h
  obtain ⟨y105, hy105⟩ : ∃ y_ : List ByteArray, y_ = (([] : List ByteArray)) := ⟨_, rfl⟩
  replace H : (if (a0.size : Int) = 0 then (spec_SplitPath.j0 k a0 y105 true) else (if 0 < (a0.size : Int) then (spec_SplitPath.j0 k a0 y105 ((bt a0 0) != 47)) else (none))) = some (r1, r2) := by first | (rw [hy105]; with_reducible exact H) | (have H2_ := (Option.bind_some _ _).symm.trans H; rw [hy105]; with_reducible exact H2_) | (have H2_ := (Option.bind_some _ _).symm.trans H; with_reducible exact H2_) | with_reducible exact H | (rw [hy105]; exact H) | exact H
  have Ny105 := Aside0.mk hy105
  clear hy105
  have HC2 := Aside0.mk H
  clear H
  go_enter Tryd.func52, Tryd.ntmps52
  go_upto_region 2 with (first | ((with_reducible refine gate_dst (N := 7) rfl ?_); refine Kd.R_lit Kd.string _ 9 ?hg (N := 7) ?hd (xs := ([] : List ByteArray)) (inner := []) (ok := fun _ => True) (okp := fun _ => True) ?hr ?hp (fun _ hk => hk) trivial (Below.refl _ _) (Nat.le_refl _) (by simp) ?_; (case hd => rfl); (case hg => rfl); (case hr => first | (go_simp; done) | (go_simp; rfl)); (case hp => exact (Reps.none _ _)); intro v106 w3 ho4 hb hg_ hnew_; clear hg_ hnew_; (first | rw [← Ny105.out] at ho4 | (simp only [Int.reduceToNat] at ho4; rw [← Ny105.out] at ho4)); have HO107 := Aside0.mk (Kd.R_lower ho4 (below_size (BB HB.out))); replace HB := Aside0.mk (below_step (BB HB.out) hb); clear hb ho4))
  (try simp only [Act.put, List.setIfInBounds_toArray, List.set_cons_zero, List.set_cons_succ])
  go_cut [15] (fun v15 wc => ∃ (kq : Nat) (x15_1 : Bool), v15 = .bool x15_1 ∧ Aside0 (spec_SplitPath.j0 kq a0 y105 x15_1 = some (r1, r2)) ∧ Aside0 (kq ≤ k) ∧ Aside0 (Kd.R Kd.string 9 wc w.heap.size (fun _ => True) v106 y105) ∧ Aside0 (Below w.heap.size w wc))
  case first =>
    have H := HC2.out
    clear HC2
    by_cases c5 : (a0.size : Int) = 0
    · rw [if_pos c5] at H
      have c5b0 : ((a0.size : Int) == 0) = true := beq_iff_eq.mpr c5
      have c5b1 : ((a0.size : Int) != 0) = false := bne_eq_false_iff_eq.mpr c5
      clear c5
      (first | rw [c5b0] | (simp only [i64_w, i32_w]; rw [c5b0]) | skip)
      have H' := Aside0.mk H
      clear H
      go_wp2
      go_meet
      case rel => exact ⟨_, (true), FR, H', ⟨by first | omega | exact Nat.le_refl _⟩, ⟨(RR HO107.out)⟩, ⟨(BB HB.out)⟩⟩
    · rw [if_neg c5] at H
      have c5b0 : ((a0.size : Int) == 0) = false := beq_eq_false_iff_ne.mpr c5
      have c5b1 : ((a0.size : Int) != 0) = true := bne_iff_ne.mpr c5
      (first | rw [c5b0] | (simp only [i64_w, i32_w]; rw [c5b0]) | skip)
      by_cases c6 : 0 < (a0.size : Int)
      · rw [if_pos c6] at H
        have c6b0 : decide (0 < (a0.size : Int)) = true := decide_eq_true c6
        have c6b1 : decide (0 < a0.size) = true := decide_eq_true (by omega)
        clear c6
        have H' := Aside0.mk H
        clear H
        have p7 : 0 ≤ (0 : Int) := (by omega)
        have q7 : 0 < a0.size := (by have : (0 : Int) < (a0.size : Int) := DT; omega)
        have hx7 : ∀ h : 0 < a0.size, ((a0[0]'h).toNat : Int) = bt a0 0 := bt_at a0 0
        clear p7
        have qi7 : (0 < (a0.size : Int)) = True := eq_true DT
        replace q7 := eq_true q7
        go_wp2
        go_meet
        case rel => exact ⟨_, (((bt a0 0) != 47)), FR, H', ⟨by first | omega | exact Nat.le_refl _⟩, ⟨(RR HO107.out)⟩, ⟨(BB HB.out)⟩⟩
      · rw [if_neg c6] at H
        exact absurd H (by simp)
  case rest =>
    clear HC2
    try clear p2
    try clear c5
    try clear c5b0
    try clear c5b1
    try clear c6
    try clear c6b0
    try clear c6b1
    try clear p7
    try clear q7
    try clear hx7
    try clear qi7
    try clear p7
    try clear q7
    obtain ⟨kq, x15_1, rfl, HA, HJ1, HO_4, HB⟩ := hcut
    cases kq with
    | zero => exact absurd HA.out (by simp [spec_SplitPath.j0])
    | succ kj1 =>
      have H := HA.out
      clear HA
      simp only [spec_SplitPath.j0] at H
      by_cases c8 : x15_1 = true
      · subst c8
        have H1 : (some (y105, false)) = some (r1, r2) := by rw [if_pos rfl] at H; exact H
        clear H
        have H := H1
        clear H1
        simp only [Option.some.injEq, Prod.mk.injEq] at H
        obtain ⟨rfl, rfl⟩ := H
        go_wp2
        go_ret2
        exact ⟨_, ER, by (with_reducible repeat (first | apply Kd.R_alloc | apply Kd.R_drewN | apply Kd.R_drew)); exact HO_4.out, (BB HB.out)⟩
      · replace c8 := Bool.eq_false_iff.mpr c8
        subst c8
        have H1 : (if a0.toList = ([47] : List UInt8) then (some (y105, true)) else (spec_SplitPath.l0 kj1 a0 y105 1 1)) = some (r1, r2) := by rw [if_neg (show ¬ (false = true) by decide)] at H; exact H
        clear H
        have H := H1
        clear H1
        by_cases c9 : a0.toList = ([47] : List UInt8)
        · rw [if_pos c9] at H
          have c9b0 : (a0.toList == ([47] : List UInt8)) = true := beq_iff_eq.mpr c9
          have c9b1 : (a0.toList != ([47] : List UInt8)) = false := bne_eq_false_iff_eq.mpr c9
          clear c9
          simp only [Option.some.injEq, Prod.mk.injEq] at H
          obtain ⟨rfl, rfl⟩ := H
          go_wp2
          go_ret2
          exact ⟨_, ER, by (with_reducible repeat (first | apply Kd.R_alloc | apply Kd.R_drewN | apply Kd.R_drew)); exact HO_4.out, (BB HB.out)⟩
        · rw [if_neg c9] at H
          have c9b0 : (a0.toList == ([47] : List UInt8)) = false := beq_eq_false_iff_ne.mpr c9
          have c9b1 : (a0.toList != ([47] : List UInt8)) = true := bne_iff_ne.mpr c9
          have H' := Aside0.mk H
          clear H
          go_wp2
          go_loopg [4, 5, 6] kj1 (fun kq v4 v5 v6 w' => ∃ (x4_2 : List ByteArray) (x5_2 : Int) (x6_2 : Int), v5 = .int .i64 x5_2 ∧ v6 = .int .i64 x6_2 ∧ Aside0 (spec_SplitPath.l0 kq a0 x4_2 x5_2 x6_2 = some (r1, r2)) ∧ Aside0 (kq ≤ kj1) ∧ Aside0 (Kd.R Kd.string 9 w' w.heap.size (fun _ => True) v4 x4_2) ∧ Aside0 (Below w.heap.size w w'))
          case atStart => exact ⟨(y105), (1), (1), FR, FR, H', ⟨Nat.le_refl _⟩, ⟨(RR HO_4.out)⟩, ⟨(BB HB.out)⟩⟩
          case round =>
            clear H'
            try clear p2
            try clear c5
            try clear c5b0
            try clear c5b1
            try clear c6
            try clear c6b0
            try clear c6b1
            try clear p7
            try clear q7
            try clear hx7
            try clear qi7
            try clear c8
            try clear c9
            try clear c9b0
            try clear c9b1
            try clear p2
            try clear p7
            try clear q7
            obtain ⟨x4_2, x5_2, x6_2, rfl, rfl, HA, HK2, HO_4, HB⟩ := hrel
            cases gk with
            | zero => exact absurd HA.out (by simp [spec_SplitPath.l0])
            | succ k2 =>
              have H := HA.out
              clear HA
              simp only [spec_SplitPath.l0] at H
              by_cases c10 : x6_2 ≤ (a0.size : Int)
              · rw [if_pos c10] at H
                have c10b0 : decide (x6_2 ≤ (a0.size : Int)) = true := decide_eq_true c10
                clear c10
                have HC11 := Aside0.mk H
                clear H
                go_upto_region 10 with (fail)
                go_cut [35] (fun v35 wc => ∃ (kq : Nat) (x35_10 : Bool), v35 = .bool x35_10 ∧ Aside0 (spec_SplitPath.j2 kq a0 x4_2 x5_2 x6_2 x35_10 = some (r1, r2)) ∧ Aside0 (kq ≤ k2) ∧ Aside0 (Kd.R Kd.string 9 wc w.heap.size (fun _ => True) u4 x4_2) ∧ Aside0 (Below w.heap.size w wc))
                case first =>
                  have H := HC11.out
                  clear HC11
                  by_cases c12 : x6_2 < (a0.size : Int)
                  · rw [if_pos c12] at H
                    have c12b0 : decide (x6_2 < (a0.size : Int)) = true := decide_eq_true c12
                    clear c12
                    (first | rw [c12b0] | (simp only [i64_w, i32_w]; rw [c12b0]) | skip)
                    by_cases c13 : 0 ≤ x6_2
                    · rw [if_pos c13] at H
                      have c13b0 : decide (0 ≤ x6_2) = true := decide_eq_true c13
                      clear c13
                      have H' := Aside0.mk H
                      clear H
                      have p14 : 0 ≤ (x6_2 : Int) := DT
                      have q14 : x6_2 < (a0.size : Int) := DT
                      have hx14 := bt_at a0 x6_2
                      replace p14 := eq_true p14
                      replace q14 := eq_true q14
                      go_wp2
                      go_meet
                      case rel => exact ⟨_, (((bt a0 x6_2) != 47)), FR, H', ⟨by have := HJ1.out; have := HK2.out; first | omega | exact Nat.le_refl _⟩, ⟨(RR HO_4.out)⟩, ⟨(BB HB.out)⟩⟩
                    · rw [if_neg c13] at H
                      exact absurd H (by simp)
                  · rw [if_neg c12] at H
                    have c12b0 : decide (x6_2 < (a0.size : Int)) = false := decide_eq_false c12
                    clear c12
                    (first | rw [c12b0] | (simp only [i64_w, i32_w]; rw [c12b0]) | skip)
                    have H' := Aside0.mk H
                    clear H
                    go_wp2
                    go_meet
                    case rel => exact ⟨_, (false), FR, H', ⟨by have := HJ1.out; have := HK2.out; first | omega | exact Nat.le_refl _⟩, ⟨(RR HO_4.out)⟩, ⟨(BB HB.out)⟩⟩
                case rest =>
                  clear HC11
                  try clear c1
                  try clear p1
                  try clear q1
                  try clear hx1
                  try clear p2
                  try clear c5
                  try clear c5b0
                  try clear c5b1
                  try clear c6
                  try clear c6b0
                  try clear c6b1
                  try clear p7
                  try clear q7
                  try clear hx7
                  try clear qi7
                  try clear c8
                  try clear c9
                  try clear c9b0
                  try clear c9b1
                  try clear c10
                  try clear c10b0
                  try clear c12
                  try clear c12b0
                  try clear c13
                  try clear c13b0
                  try clear p14
                  try clear q14
                  try clear hx14
                  try clear p14
                  try clear p2
                  try clear p7
                  try clear q14
                  try clear q7
                  obtain ⟨kq, x35_10, rfl, HA, HJ10, HO_4, HB⟩ := hcut
                  cases kq with
                  | zero => exact absurd HA.out (by simp [spec_SplitPath.j2])
                  | succ kj10 =>
                    have H := HA.out
                    clear HA
                    simp only [spec_SplitPath.j2] at H
                    by_cases c15 : x35_10 = true
                    · subst c15
                      have H1 : (spec_SplitPath.l0 kj10 a0 x4_2 x5_2 (wrap64 (x6_2 + 1))) = some (r1, r2) := by rw [if_pos rfl] at H; exact H
                      clear H
                      have H := H1
                      clear H1
                      have H' := Aside0.mk H
                      clear H
                      go_wp2
                      go_roundg kj10
                      case measure => have := HJ1.out; have := HK2.out; have := HJ10.out; omega
                      case rel => exact ⟨(x4_2), (x5_2), (wrap64 (x6_2 + 1)), FR, FR, H', ⟨by have := HJ1.out; have := HK2.out; have := HJ10.out; omega⟩, ⟨(RR HO_4.out)⟩, ⟨(BB HB.out)⟩⟩
                    · replace c15 := Bool.eq_false_iff.mpr c15
                      subst c15
                      have H1 : (if 0 ≤ x5_2 then (if x5_2 ≤ x6_2 then (if x6_2 ≤ (a0.size : Int) then ((spec_NameOk.f kj10 (a0.extract (x5_2 : Int).toNat (x6_2 : Int).toNat)).bind fun t111 => (if t111 = true then (if x4_2.length < 8796093022208 then (spec_SplitPath.l0 kj10 a0 (x4_2 ++ [a0.extract (x5_2 : Int).toNat (x6_2 : Int).toNat]) (wrap64 (x6_2 + 1)) (wrap64 (x6_2 + 1))) else (none)) else (some ((([] : List ByteArray)), false)))) else (none)) else (none)) else (none)) = some (r1, r2) := by rw [if_neg (show ¬ (false = true) by decide)] at H; exact H
                      clear H
                      have H := H1
                      clear H1
                      by_cases c16 : 0 ≤ x5_2
                      · rw [if_pos c16] at H
                        have c16b0 := eq_true c16
                        have c16b1 : decide (0 ≤ x5_2) = true := decide_eq_true c16
                        clear c16
                        by_cases c17 : x5_2 ≤ x6_2
                        · rw [if_pos c17] at H
                          have c17b0 := eq_true c17
                          have c17b1 : decide (x5_2 ≤ x6_2) = true := decide_eq_true c17
                          clear c17
                          by_cases c18 : x6_2 ≤ (a0.size : Int)
                          · rw [if_pos c18] at H
                            have c18b0 := eq_true c18
                            have c18b1 : decide (x6_2 ≤ (a0.size : Int)) = true := decide_eq_true c18
                            clear c18
                            replace H := Option.bind_eq_some_iff.mp H
                            obtain ⟨t111, A190, H⟩ := H
                            replace H : (if t111 = true then (if x4_2.length < 8796093022208 then (spec_SplitPath.l0 kj10 a0 (x4_2 ++ [a0.extract (x5_2 : Int).toNat (x6_2 : Int).toNat]) (wrap64 (x6_2 + 1)) (wrap64 (x6_2 + 1))) else (none)) else (some ((([] : List ByteArray)), false))) = some (r1, r2) := H
                            have A19 := Aside0.mk A190
                            clear A190
                            by_cases c20 : t111 = true
                            · subst c20
                              have H1 : (if x4_2.length < 8796093022208 then (spec_SplitPath.l0 kj10 a0 (x4_2 ++ [a0.extract (x5_2 : Int).toNat (x6_2 : Int).toNat]) (wrap64 (x6_2 + 1)) (wrap64 (x6_2 + 1))) else (none)) = some (r1, r2) := by rw [if_pos rfl] at H; exact H
                              clear H
                              have H := H1
                              clear H1
                              have c21b0 := eq_true (DT : 0 ≤ x5_2)
                              have c22b0 := eq_true (DT : x5_2 ≤ x6_2)
                              have c23b0 := eq_true (DT : x6_2 ≤ (a0.size : Int))
                              by_cases c24 : x4_2.length < 8796093022208
                              · rw [if_pos c24] at H
                                have LMc24 := Aside0.mk c24
                                clear c24
                                obtain ⟨y112, hy112⟩ : ∃ y_ : List ByteArray, y_ = (x4_2 ++ [a0.extract (x5_2 : Int).toNat (x6_2 : Int).toNat]) := ⟨_, rfl⟩
                                replace H : (spec_SplitPath.l0 kj10 a0 y112 (wrap64 (x6_2 + 1)) (wrap64 (x6_2 + 1))) = some (r1, r2) := by first | (rw [hy112]; with_reducible exact H) | (have H2_ := (Option.bind_some _ _).symm.trans H; rw [hy112]; with_reducible exact H2_) | (have H2_ := (Option.bind_some _ _).symm.trans H; with_reducible exact H2_) | with_reducible exact H | (rw [hy112]; exact H) | exact H
                                have Ny112 := Aside0.mk hy112
                                clear hy112
                                have H' := Aside0.mk H
                                clear H
                                go_wp2_with (first | ((with_reducible refine gate_callee (f := 58) rfl ?_); refine GL (some 40) rfl rfl Tryd.func58 #[.string (a0.extract (x5_2 : Int).toNat (x6_2 : Int).toNat)] rfl ?_; (with_reducible refine (spec_NameOk.calls kj10 (a0.extract (x5_2 : Int).toNat (x6_2 : Int).toNat) true _ A19.out).mono ?_); rintro e w' ⟨rfl, ⟨nd, rfl⟩⟩; refine ⟨_, rfl, ?_⟩) | ((with_reducible refine gate_builtin (b := .append) (xs := #[.tmp 43, .tmp 48]) rfl ?_); at_builtin; refine Kd.R_append Kd.string (w0 := w) w.heap.size rfl (.tmp 43) (.tmp 48) 78 9 (.string ⟨#[]⟩) 16 rfl Tryd.underlying78 info9 rfl (by decide) (by omega) u4 x4_2 (a0.extract (x5_2 : Int).toNat (x6_2 : Int).toNat) [.string (a0.extract (x5_2 : Int).toNat (x6_2 : Int).toNat)] (fun _ => True) (fun _ => False) rfl rfl ?aP (fun _ hk => hk.elim) ?aF ?aO ?aB ?aS ?aL ?_; (case aP => exact rfl); (case aB => exact (BB HB.out)); (case aF => exact (fun _ _ => trivial)); (case aO => exact (RR HO_4.out)); (case aS => exact (below_size (BB HB.out))); (case aL => have := LMc24.out; omega); intro v113 w25 ho hb hg hat; rw [← Ny112.out] at ho; have HO114 := Aside0.mk (ho); replace HB := Aside0.mk (hb); clear HO_4; clear ho hb hg hat))
                                go_roundg kj10
                                case measure => have := HJ1.out; have := HK2.out; have := HJ10.out; omega
                                case rel => exact ⟨(y112), (wrap64 (x6_2 + 1)), (wrap64 (x6_2 + 1)), FR, FR, H', ⟨by have := HJ1.out; have := HK2.out; have := HJ10.out; omega⟩, ⟨(RR HO114.out)⟩, ⟨(BB HB.out)⟩⟩
                              · rw [if_neg c24] at H
                                exact absurd H (by simp)
                            · replace c20 := Bool.eq_false_iff.mpr c20
                              subst c20
                              have H1 : (some ((([] : List ByteArray)), false)) = some (r1, r2) := by rw [if_neg (show ¬ (false = true) by decide)] at H; exact H
                              clear H
                              have H := H1
                              clear H1
                              obtain ⟨y115, hy115⟩ : ∃ y_ : List ByteArray, y_ = (([] : List ByteArray)) := ⟨_, rfl⟩
                              replace H : (some (y115, false)) = some (r1, r2) := by first | (rw [hy115]; with_reducible exact H) | (have H2_ := (Option.bind_some _ _).symm.trans H; rw [hy115]; with_reducible exact H2_) | (have H2_ := (Option.bind_some _ _).symm.trans H; with_reducible exact H2_) | with_reducible exact H | (rw [hy115]; exact H) | exact H
                              have Ny115 := Aside0.mk hy115
                              clear hy115
                              simp only [Option.some.injEq, Prod.mk.injEq] at H
                              obtain ⟨rfl, rfl⟩ := H
                              go_wp2_with (first | ((with_reducible refine gate_callee (f := 58) rfl ?_); refine GL (some 40) rfl rfl Tryd.func58 #[.string (a0.extract (x5_2 : Int).toNat (x6_2 : Int).toNat)] rfl ?_; (with_reducible refine (spec_NameOk.calls kj10 (a0.extract (x5_2 : Int).toNat (x6_2 : Int).toNat) false _ A19.out).mono ?_); rintro e w' ⟨rfl, ⟨nd, rfl⟩⟩; refine ⟨_, rfl, ?_⟩) | ((with_reducible refine gate_dst (N := 42) rfl ?_); refine Kd.R_lit Kd.string _ 9 ?hg (N := 42) ?hd (xs := ([] : List ByteArray)) (inner := []) (ok := fun _ => True) (okp := fun _ => True) ?hr ?hp (fun _ hk => hk) trivial (Below.refl _ _) (Nat.le_refl _) (by simp) ?_; (case hd => rfl); (case hg => rfl); (case hr => first | (go_simp; done) | (go_simp; rfl)); (case hp => exact (Reps.none _ _)); intro v116 w26 ho27 hb hg_ hnew_; clear hg_ hnew_; (first | rw [← Ny115.out] at ho27 | (simp only [Int.reduceToNat] at ho27; rw [← Ny115.out] at ho27)); have HO117 := Aside0.mk (Kd.R_lower (Kd.R_new' ho27 (Kd.R_lt (RR HO_4.out))) (below_size (BB HB.out))); replace HO_4 := Aside0.mk (Kd.R_elder' (RR HO_4.out) (Kd.R_base ho27) hb); replace HB := Aside0.mk (below_step (BB HB.out) hb); clear hb ho27))
                              go_ret2
                              exact ⟨_, ER, by (with_reducible repeat (first | apply Kd.R_alloc | apply Kd.R_drewN | apply Kd.R_drew)); exact Kd.R_mono HO117.out (fun _ hk => trivial), (BB HB.out)⟩
                          · rw [if_neg c18] at H
                            exact absurd H (by simp)
                        · rw [if_neg c17] at H
                          exact absurd H (by simp)
                      · rw [if_neg c16] at H
                        exact absurd H (by simp)
              · rw [if_neg c10] at H
                have c10b0 : decide (x6_2 ≤ (a0.size : Int)) = false := decide_eq_false c10
                clear c10
                by_cases c28 : (x4_2.length : Int) > 4
                · rw [if_pos c28] at H
                  have c28b0 : decide (4 < (x4_2.length : Int)) = true := decide_eq_true c28
                  have c28b1 : decide (4 < x4_2.length) = true := decide_eq_true (by omega)
                  clear c28
                  obtain ⟨y108, hy108⟩ : ∃ y_ : List ByteArray, y_ = (([] : List ByteArray)) := ⟨_, rfl⟩
                  replace H : (some (y108, false)) = some (r1, r2) := by first | (rw [hy108]; with_reducible exact H) | (have H2_ := (Option.bind_some _ _).symm.trans H; rw [hy108]; with_reducible exact H2_) | (have H2_ := (Option.bind_some _ _).symm.trans H; with_reducible exact H2_) | with_reducible exact H | (rw [hy108]; exact H) | exact H
                  have Ny108 := Aside0.mk hy108
                  clear hy108
                  simp only [Option.some.injEq, Prod.mk.injEq] at H
                  obtain ⟨rfl, rfl⟩ := H
                  obtain ⟨Ao29, co29, eo29⟩ := Kd.R_slice HO_4.out
                  subst eo29
                  go_wp2_with (first | ((with_reducible refine gate_dst (N := 55) rfl ?_); refine Kd.R_lit Kd.string _ 9 ?hg (N := 55) ?hd (xs := ([] : List ByteArray)) (inner := []) (ok := fun _ => True) (okp := fun _ => True) ?hr ?hp (fun _ hk => hk) trivial (Below.refl _ _) (Nat.le_refl _) (by simp) ?_; (case hd => rfl); (case hg => rfl); (case hr => first | (go_simp; done) | (go_simp; rfl)); (case hp => exact (Reps.none _ _)); intro v109 w30 ho31 hb hg_ hnew_; clear hg_ hnew_; (first | rw [← Ny108.out] at ho31 | (simp only [Int.reduceToNat] at ho31; rw [← Ny108.out] at ho31)); have HO110 := Aside0.mk (Kd.R_lower (Kd.R_new' ho31 (Kd.R_lt (RR HO_4.out))) (below_size (BB HB.out))); replace HO_4 := Aside0.mk (Kd.R_elder' (RR HO_4.out) (Kd.R_base ho31) hb); replace HB := Aside0.mk (below_step (BB HB.out) hb); clear hb ho31))
                  go_ret2
                  exact ⟨_, ER, by (with_reducible repeat (first | apply Kd.R_alloc | apply Kd.R_drewN | apply Kd.R_drew)); exact Kd.R_mono HO110.out (fun _ hk => trivial), (BB HB.out)⟩
                · rw [if_neg c28] at H
                  have c28b0 : decide (4 < (x4_2.length : Int)) = false := decide_eq_false c28
                  have c28b1 : decide (4 < x4_2.length) = false := decide_eq_false (by omega)
                  clear c28
                  simp only [Option.some.injEq, Prod.mk.injEq] at H
                  obtain ⟨rfl, rfl⟩ := H
                  obtain ⟨Ao32, co32, eo32⟩ := Kd.R_slice HO_4.out
                  subst eo32
                  go_wp2
                  go_ret2
                  exact ⟨_, ER, by (with_reducible repeat (first | apply Kd.R_alloc | apply Kd.R_drewN | apply Kd.R_drew)); exact HO_4.out, (BB HB.out)⟩

end Go.Proofs.YtfgnaneajonapaaDoor.Pr

namespace Go.Proofs.YtfgnaneajonapaaDoor.Pr
open Go.RowKit Go.Proofs.YtfgnaneajonapaaDoorW.PrintWords Go.Proofs.YtfgnaneajonapaaDoorW.PrintLast Go.Proofs.YtfgnaneajonapaaDoorW.PrintMore
attribute [local go_sem] max2_int min2_int max_two min_two max_three min_three max_four min_four
set_option linter.unusedVariables false
set_option linter.unusedSimpArgs false
def spec_JoinPath.l0 : Nat → List ByteArray → ByteArray → Int → Option (ByteArray)
  | 0, _, _, _ => none
  | k + 1, x0, x3, x4 => if x4 < (x0.length : Int) then (if x3.size + 1 ≤ 9223372036854775807 then (if 0 ≤ x4 then (if (x3 ++ (⟨#[47]⟩ : ByteArray)).size + (rdOf ByteArray.empty x0 x4).size ≤ 9223372036854775807 then (spec_JoinPath.l0 k x0 ((x3 ++ (⟨#[47]⟩ : ByteArray)) ++ (rdOf ByteArray.empty x0 x4)) (wrap64 (x4 + 1))) else (none)) else (none)) else (none)) else (some x3)
def spec_JoinPath.f (k : Nat) (l0 : List ByteArray) : Option (ByteArray) := if (l0.length : Int) = 0 then (some (⟨#[47]⟩ : ByteArray)) else (spec_JoinPath.l0 k l0 (⟨#[]⟩ : ByteArray) 0)
set_option maxHeartbeats 8000000 in
set_option maxRecDepth 100000 in
theorem spec_JoinPath.calls (k : Nat) (A0 : Option Addr) (c0 : Nat) (l0 : List ByteArray) (r : ByteArray) (w : World) (hr0 : Kd.C Kd.string w A0 l0.length l0) (hc0 : l0.length ≤ c0) (h : spec_JoinPath.f k l0 = some r) :
    Calls Tryd.prog 53 #[.slice A0 l0.length c0] w fun e w' => e = .returned (.string r) ∧ Drawn0 w w' := by
  have HR0 := Aside0.mk hr0
  have HC0 := Aside0.mk hc0
  clear hr0 hc0
  have H : (if (l0.length : Int) = 0 then (some (⟨#[47]⟩ : ByteArray)) else (spec_JoinPath.l0 k l0 (⟨#[]⟩ : ByteArray) 0)) = some r := h
  clear h
  by_cases c2 : (l0.length : Int) = 0
  · rw [if_pos c2] at H
    have c2b0 : ((l0.length : Int) == 0) = true := beq_iff_eq.mpr c2
    have c2b1 : ((l0.length : Int) != 0) = false := bne_eq_false_iff_eq.mpr c2
    clear c2
    obtain rfl := Option.some.inj H
    go_enter Tryd.func53, Tryd.ntmps53
    go_wp2
    go_ret
    exact ⟨FR, by repeat (first | exact Drawn0.refl _ | apply Drawn0.step)⟩
  · rw [if_neg c2] at H
    have c2b0 : ((l0.length : Int) == 0) = false := beq_eq_false_iff_ne.mpr c2
    have c2b1 : ((l0.length : Int) != 0) = true := bne_iff_ne.mpr c2
    have c2b2 : ¬ (l0 = []) := fun h_ => c2 (by rw [h_]; rfl)
    have H' := Aside0.mk H
    clear H
    go_enter Tryd.func53, Tryd.ntmps53
    go_wp2
    go_loopg [3, 4] k (fun kq v3 v4 w' => ∃ (x3_1 : ByteArray) (x4_1 : Int), v3 = .string x3_1 ∧ v4 = .int .i64 x4_1 ∧ Aside0 (spec_JoinPath.l0 kq l0 x3_1 x4_1 = some r) ∧ Aside0 (kq ≤ k) ∧ Drawn0 w w')
    case atStart => exact ⟨((⟨#[]⟩ : ByteArray)), (0), FR, FR, H', ⟨Nat.le_refl _⟩, by repeat (first | exact Drawn0.refl _ | apply Drawn0.step)⟩
    case round =>
      clear H'
      try clear c2
      try clear c2b0
      try clear c2b1
      try clear c2b2
      try clear p2
      obtain ⟨x3_1, x4_1, rfl, rfl, HA, HK1, ⟨m1, rfl⟩⟩ := hrel
      cases gk with
      | zero => exact absurd HA.out (by simp [spec_JoinPath.l0])
      | succ k1 =>
        have H := HA.out
        clear HA
        simp only [spec_JoinPath.l0] at H
        by_cases c3 : x4_1 < (l0.length : Int)
        · rw [if_pos c3] at H
          have c3b0 : decide (x4_1 < (l0.length : Int)) = true := decide_eq_true c3
          clear c3
          by_cases c4 : x3_1.size + 1 ≤ 9223372036854775807
          · rw [if_pos c4] at H
            have c4b0 := eq_true c4
            have c4b1 : decide (x3_1.size + 1 ≤ 9223372036854775807) = true := decide_eq_true c4
            try have c4b2 : (9223372036854775807 < x3_1.size + 1) = False := eq_false (Nat.not_lt.2 c4)
            by_cases c5 : 0 ≤ x4_1
            · rw [if_pos c5] at H
              have c5b0 : decide (0 ≤ x4_1) = true := decide_eq_true c5
              clear c5
              by_cases c6 : (x3_1 ++ (⟨#[47]⟩ : ByteArray)).size + (rdOf ByteArray.empty l0 x4_1).size ≤ 9223372036854775807
              · rw [if_pos c6] at H
                have c6b0 := eq_true c6
                have c6b1 : decide ((x3_1 ++ (⟨#[47]⟩ : ByteArray)).size + (rdOf ByteArray.empty l0 x4_1).size ≤ 9223372036854775807) = true := decide_eq_true c6
                try have c6b2 : (9223372036854775807 < (x3_1 ++ (⟨#[47]⟩ : ByteArray)).size + (rdOf ByteArray.empty l0 x4_1).size) = False := eq_false (Nat.not_lt.2 c6)
                have H' := Aside0.mk H
                clear H
                have p118 : 0 ≤ (x4_1 : Int) := DT
                have q118 : x4_1 < (l0.length : Int) := DT
                obtain ⟨ad118, e118, hx118_0⟩ := Kd.at_string HR0.out x4_1 p118 q118
                cases e118
                replace p118 := eq_true p118
                replace q118 := eq_true q118
                go_wp2
                go_roundg k1
                case measure => have := HK1.out; omega
                case rel => exact ⟨((x3_1 ++ (⟨#[47]⟩ : ByteArray)) ++ (rdOf ByteArray.empty l0 x4_1)), (wrap64 (x4_1 + 1)), FR, FR, H', ⟨by have := HK1.out; omega⟩, by repeat (first | exact Drawn0.refl _ | apply Drawn0.step)⟩
              · rw [if_neg c6] at H
                exact absurd H (by simp)
            · rw [if_neg c5] at H
              exact absurd H (by simp)
          · rw [if_neg c4] at H
            exact absurd H (by simp)
        · rw [if_neg c3] at H
          have c3b0 : decide (x4_1 < (l0.length : Int)) = false := decide_eq_false c3
          clear c3
          obtain rfl := Option.some.inj H
          go_wp2
          go_ret
          exact ⟨FR, by repeat (first | exact Drawn0.refl _ | apply Drawn0.step)⟩

end Go.Proofs.YtfgnaneajonapaaDoor.Pr

namespace Go.Proofs.YtfgnaneajonapaaDoor.Pr
open Go.RowKit Go.Proofs.YtfgnaneajonapaaDoorW.PrintWords Go.Proofs.YtfgnaneajonapaaDoorW.PrintLast Go.Proofs.YtfgnaneajonapaaDoorW.PrintMore
attribute [local go_sem] max2_int min2_int max_two min_two max_three min_three max_four min_four
set_option linter.unusedVariables false
set_option linter.unusedSimpArgs false
def spec_ParentPath.f (k : Nat) (a0 : ByteArray) : Option (ByteArray × ByteArray × Bool) := (spec_SplitPath.f k a0).bind fun bt119 => (if bt119.2 = true then (if (bt119.1.length : Int) = 0 then (some ((⟨#[]⟩ : ByteArray), (⟨#[]⟩ : ByteArray), false)) else (if 0 ≤ (wrap64 ((bt119.1.length : Int) - 1)) then (if (wrap64 ((bt119.1.length : Int) - 1)) ≤ (bt119.1.length : Int) then ((spec_JoinPath.f k (bt119.1.take ((wrap64 ((bt119.1.length : Int) - 1)) : Int).toNat)).bind fun t127 => (if (wrap64 ((bt119.1.length : Int) - 1)) < (bt119.1.length : Int) then (some (t127, rdOf ByteArray.empty bt119.1 (wrap64 ((bt119.1.length : Int) - 1)), true)) else (none))) else (none)) else (none))) else (some ((⟨#[]⟩ : ByteArray), (⟨#[]⟩ : ByteArray), false)))
set_option maxHeartbeats 8000000 in
set_option maxRecDepth 100000 in
theorem spec_ParentPath.calls (k : Nat) (a0 : ByteArray) (r1 : ByteArray) (r2 : ByteArray) (r3 : Bool) (w : World) (h : spec_ParentPath.f k a0 = some (r1, r2, r3)) :
    Calls Tryd.prog 47 #[.string a0] w fun e w' => e = .returned (.tuple #[.string r1, .string r2, .bool r3]) ∧ Below w.heap.size w w' := by
  have HB := Aside0.mk (Below.refl w.heap.size w)
  have H : ((spec_SplitPath.f k a0).bind fun bt119 => (if bt119.2 = true then (if (bt119.1.length : Int) = 0 then (some ((⟨#[]⟩ : ByteArray), (⟨#[]⟩ : ByteArray), false)) else (if 0 ≤ (wrap64 ((bt119.1.length : Int) - 1)) then (if (wrap64 ((bt119.1.length : Int) - 1)) ≤ (bt119.1.length : Int) then ((spec_JoinPath.f k (bt119.1.take ((wrap64 ((bt119.1.length : Int) - 1)) : Int).toNat)).bind fun t127 => (if (wrap64 ((bt119.1.length : Int) - 1)) < (bt119.1.length : Int) then (some (t127, rdOf ByteArray.empty bt119.1 (wrap64 ((bt119.1.length : Int) - 1)), true)) else (none))) else (none)) else (none))) else (some ((⟨#[]⟩ : ByteArray), (⟨#[]⟩ : ByteArray), false)))) = some (r1, r2, r3) := h
  clear h
  replace H := Option.bind_eq_some_iff.mp H
  obtain ⟨⟨t119, t120⟩, A20, H⟩ := H
  replace H : (if t120 = true then (if (t119.length : Int) = 0 then (some ((⟨#[]⟩ : ByteArray), (⟨#[]⟩ : ByteArray), false)) else (if 0 ≤ (wrap64 ((t119.length : Int) - 1)) then (if (wrap64 ((t119.length : Int) - 1)) ≤ (t119.length : Int) then ((spec_JoinPath.f k (t119.take ((wrap64 ((t119.length : Int) - 1)) : Int).toNat)).bind fun t127 => (if (wrap64 ((t119.length : Int) - 1)) < (t119.length : Int) then (some (t127, rdOf ByteArray.empty t119 (wrap64 ((t119.length : Int) - 1)), true)) else (none))) else (none)) else (none))) else (some ((⟨#[]⟩ : ByteArray), (⟨#[]⟩ : ByteArray), false))) = some (r1, r2, r3) := H
  have A2 := Aside0.mk A20
  clear A20
  by_cases c3 : t120 = true
  · subst c3
    have H1 : (if (t119.length : Int) = 0 then (some ((⟨#[]⟩ : ByteArray), (⟨#[]⟩ : ByteArray), false)) else (if 0 ≤ (wrap64 ((t119.length : Int) - 1)) then (if (wrap64 ((t119.length : Int) - 1)) ≤ (t119.length : Int) then ((spec_JoinPath.f k (t119.take ((wrap64 ((t119.length : Int) - 1)) : Int).toNat)).bind fun t127 => (if (wrap64 ((t119.length : Int) - 1)) < (t119.length : Int) then (some (t127, rdOf ByteArray.empty t119 (wrap64 ((t119.length : Int) - 1)), true)) else (none))) else (none)) else (none))) = some (r1, r2, r3) := by rw [if_pos rfl] at H; exact H
    clear H
    have H := H1
    clear H1
    by_cases c4 : (t119.length : Int) = 0
    · rw [if_pos c4] at H
      have c4b0 : ((t119.length : Int) == 0) = true := beq_iff_eq.mpr c4
      have c4b1 : ((t119.length : Int) != 0) = false := bne_eq_false_iff_eq.mpr c4
      clear c4
      simp only [Option.some.injEq, Prod.mk.injEq] at H
      obtain ⟨rfl, rfl, rfl⟩ := H
      go_enter Tryd.func47, Tryd.ntmps47
      go_wp2_with (first | (go_at_call 52; (with_reducible refine (spec_SplitPath.calls k a0 t119 true _ A2.out).mono ?_); rintro e w5 ⟨v121, rfl, ho0, hb⟩; have HO122 := Aside0.mk (Kd.R_lower ho0 (below_size (BB HB.out))); replace HB := Aside0.mk (below_step (BB HB.out) hb); (try clear hb); (try clear hb2); (try clear hk); (try clear hi); (try clear ho0); obtain ⟨Ao6, co6, eo6⟩ := Kd.R_slice HO122.out; subst eo6))
      repeat (go_quiet (first | (go_at_call 52; (with_reducible refine (spec_SplitPath.calls k a0 t119 true _ A2.out).mono ?_); rintro e w5 ⟨v121, rfl, ho0, hb⟩; have HO122 := Aside0.mk (Kd.R_lower ho0 (below_size (BB HB.out))); replace HB := Aside0.mk (below_step (BB HB.out) hb); (try clear hb); (try clear hb2); (try clear hk); (try clear hi); (try clear ho0); obtain ⟨Ao6, co6, eo6⟩ := Kd.R_slice HO122.out; subst eo6)); try go_wp2_with (first | (go_at_call 52; (with_reducible refine (spec_SplitPath.calls k a0 t119 true _ A2.out).mono ?_); rintro e w5 ⟨v121, rfl, ho0, hb⟩; have HO122 := Aside0.mk (Kd.R_lower ho0 (below_size (BB HB.out))); replace HB := Aside0.mk (below_step (BB HB.out) hb); (try clear hb); (try clear hb2); (try clear hk); (try clear hi); (try clear ho0); obtain ⟨Ao6, co6, eo6⟩ := Kd.R_slice HO122.out; subst eo6)))
      go_ret3
      exact ⟨ER, (BB HB.out)⟩
    · rw [if_neg c4] at H
      have c4b0 : ((t119.length : Int) == 0) = false := beq_eq_false_iff_ne.mpr c4
      have c4b1 : ((t119.length : Int) != 0) = true := bne_iff_ne.mpr c4
      have c4b2 : ¬ (t119 = []) := fun h_ => c4 (by rw [h_]; rfl)
      obtain ⟨ji7, hji7⟩ : ∃ j_ : Int, (wrap64 ((t119.length : Int) - 1)) = j_ := ⟨_, rfl⟩
      replace H : (if 0 ≤ (ji7) then (if (ji7) ≤ (t119.length : Int) then ((spec_JoinPath.f k (t119.take ((ji7) : Int).toNat)).bind fun t127 => (if (ji7) < (t119.length : Int) then (some (t127, rdOf ByteArray.empty t119 (ji7), true)) else (none))) else (none)) else (none)) = some (r1, r2, r3) := by first | (rw [hji7] at H; exact H) | (simp only [hji7] at H ⊢; exact H)
      (try rw [hji7] at A2)
      have hji7w : (IntKind.i64.wrap ((t119.length : Int) - 1)) = ji7 := (i64_w _).trans hji7
      by_cases c8 : 0 ≤ (ji7)
      · rw [if_pos c8] at H
        have c8b0 := eq_true c8
        have c8b1 : decide (0 ≤ (ji7)) = true := decide_eq_true c8
        clear c8
        by_cases c9 : (ji7) ≤ (t119.length : Int)
        · rw [if_pos c9] at H
          have c9b0 := eq_true c9
          have c9b1 : decide ((ji7) ≤ (t119.length : Int)) = true := decide_eq_true c9
          clear c9
          obtain ⟨y123, hy123⟩ : ∃ y_ : List ByteArray, y_ = (t119.take ((ji7) : Int).toNat) := ⟨_, rfl⟩
          replace H : ((spec_JoinPath.f k y123).bind fun t127 => (if (ji7) < (t119.length : Int) then (some (t127, rdOf ByteArray.empty t119 (ji7), true)) else (none))) = some (r1, r2, r3) := by first | (rw [hy123]; with_reducible exact H) | (have H2_ := (Option.bind_some _ _).symm.trans H; rw [hy123]; with_reducible exact H2_) | (have H2_ := (Option.bind_some _ _).symm.trans H; with_reducible exact H2_) | with_reducible exact H | (rw [hy123]; exact H) | exact H
          have Ny123 := Aside0.mk hy123
          clear hy123
          replace H := Option.bind_eq_some_iff.mp H
          obtain ⟨t127, A100, H⟩ := H
          replace H : (if (ji7) < (t119.length : Int) then (some (t127, rdOf ByteArray.empty t119 (ji7), true)) else (none)) = some (r1, r2, r3) := H
          have A10 := Aside0.mk A100
          clear A100
          by_cases c11 : (ji7) < (t119.length : Int)
          · rw [if_pos c11] at H
            have c11b0 : decide ((ji7) < (t119.length : Int)) = true := decide_eq_true c11
            clear c11
            simp only [Option.some.injEq, Prod.mk.injEq] at H
            obtain ⟨rfl, rfl, rfl⟩ := H
            go_enter Tryd.func47, Tryd.ntmps47
            go_wp2_with (first | (go_at_call 52; (with_reducible refine (spec_SplitPath.calls k a0 t119 true _ A2.out).mono ?_); rintro e w12 ⟨v121, rfl, ho0, hb⟩; have HO122 := Aside0.mk (Kd.R_lower ho0 (below_size (BB HB.out))); replace HB := Aside0.mk (below_step (BB HB.out) hb); (try clear hb); (try clear hb2); (try clear hk); (try clear hi); (try clear ho0); obtain ⟨Ao13, co13, eo13⟩ := Kd.R_slice HO122.out; subst eo13; have q14 : ((ji7) : Int) ≤ ((t119.length : Int) : Int) := DT; obtain ⟨i014, hi014, _, hsz14, _⟩ := info_parts info9; have hroom14 : t119.length ≤ co13 := (Kd.R_reads' HO122.out).2.1; have hC14 : Kd.C Kd.string _ Ao13 t119.length t119 := (Kd.R_reads' HO122.out).2.2; have hcut14 := cut_to (P := Tryd.prog) 78 9 .i64 Tryd.underlying78 hi014 Ao13 t119.length co13 (ji7) DT q14 hroom14; have hr14 := Kd.C_take (m := ((ji7) : Int).toNat) hC14 (by omega); have hy14 : y123.length = ((ji7) : Int).toNat := (by rw [Ny123.out, List.length_take]; omega); rw [← Ny123.out] at hr14; rw [← hy14] at hcut14; have HR126 := Aside0.mk hr14; have HC126 := Aside0.mk (show y123.length ≤ co13 from by omega); clear hr14 hC14 hroom14 hi014 hsz14; have KY14 := Aside0.mk hy14; clear hy14; have KL14 := Aside0.mk (show ((ji7) : Int).toNat ≤ t119.length from by omega); replace q14 := eq_true q14) | (go_at_call 53; (with_reducible refine (spec_JoinPath.calls k _ _ y123 t127 _ ?side1 ?side2 A10.out).mono ?_); (case side1 => repeat (first | exact (by repeat (first | (with_reducible exact HR126.out) | (with_reducible refine Kd.C_alloc ?_ _) | (with_reducible refine Kd.C_drewN ?_ _) | (with_reducible refine Kd.C_drew ?_) | exact HR126.out)) | (with_reducible refine Kd.C_alloc ?_ _) | (with_reducible refine Kd.C_drewN ?_ _) | (with_reducible refine Kd.C_drew ?_))); (case side2 => exact HC126.out); rintro e w' ⟨rfl, ⟨nd, rfl⟩⟩; (try first | exact ⟨rfl, _, World.drewN_drewN _ _ _⟩ | exact ⟨rfl, _, Eq.trans (World.drewN_drewN _ _ _) (congrArg (World.drewN _) (Nat.add_assoc _ _ _))⟩); have p128 : 0 ≤ ((ji7) : Int) := DT; have q128 : (ji7) < (t119.length : Int) := DT; obtain ⟨ad128, e128, hx128_0⟩ := Kd.at_string (Kd.R_reads' HO122.out).2.2 (ji7) p128 q128; cases e128; replace p128 := eq_true p128; replace q128 := eq_true q128))
            repeat (go_quiet (first | (go_at_call 52; (with_reducible refine (spec_SplitPath.calls k a0 t119 true _ A2.out).mono ?_); rintro e w12 ⟨v121, rfl, ho0, hb⟩; have HO122 := Aside0.mk (Kd.R_lower ho0 (below_size (BB HB.out))); replace HB := Aside0.mk (below_step (BB HB.out) hb); (try clear hb); (try clear hb2); (try clear hk); (try clear hi); (try clear ho0); obtain ⟨Ao13, co13, eo13⟩ := Kd.R_slice HO122.out; subst eo13; have q14 : ((ji7) : Int) ≤ ((t119.length : Int) : Int) := DT; obtain ⟨i014, hi014, _, hsz14, _⟩ := info_parts info9; have hroom14 : t119.length ≤ co13 := (Kd.R_reads' HO122.out).2.1; have hC14 : Kd.C Kd.string _ Ao13 t119.length t119 := (Kd.R_reads' HO122.out).2.2; have hcut14 := cut_to (P := Tryd.prog) 78 9 .i64 Tryd.underlying78 hi014 Ao13 t119.length co13 (ji7) DT q14 hroom14; have hr14 := Kd.C_take (m := ((ji7) : Int).toNat) hC14 (by omega); have hy14 : y123.length = ((ji7) : Int).toNat := (by rw [Ny123.out, List.length_take]; omega); rw [← Ny123.out] at hr14; rw [← hy14] at hcut14; have HR126 := Aside0.mk hr14; have HC126 := Aside0.mk (show y123.length ≤ co13 from by omega); clear hr14 hC14 hroom14 hi014 hsz14; have KY14 := Aside0.mk hy14; clear hy14; have KL14 := Aside0.mk (show ((ji7) : Int).toNat ≤ t119.length from by omega); replace q14 := eq_true q14) | (go_at_call 53; (with_reducible refine (spec_JoinPath.calls k _ _ y123 t127 _ ?side1 ?side2 A10.out).mono ?_); (case side1 => repeat (first | exact (by repeat (first | (with_reducible exact HR126.out) | (with_reducible refine Kd.C_alloc ?_ _) | (with_reducible refine Kd.C_drewN ?_ _) | (with_reducible refine Kd.C_drew ?_) | exact HR126.out)) | (with_reducible refine Kd.C_alloc ?_ _) | (with_reducible refine Kd.C_drewN ?_ _) | (with_reducible refine Kd.C_drew ?_))); (case side2 => exact HC126.out); rintro e w' ⟨rfl, ⟨nd, rfl⟩⟩; (try first | exact ⟨rfl, _, World.drewN_drewN _ _ _⟩ | exact ⟨rfl, _, Eq.trans (World.drewN_drewN _ _ _) (congrArg (World.drewN _) (Nat.add_assoc _ _ _))⟩); have p128 : 0 ≤ ((ji7) : Int) := DT; have q128 : (ji7) < (t119.length : Int) := DT; obtain ⟨ad128, e128, hx128_0⟩ := Kd.at_string (Kd.R_reads' HO122.out).2.2 (ji7) p128 q128; cases e128; replace p128 := eq_true p128; replace q128 := eq_true q128)); try go_wp2_with (first | (go_at_call 52; (with_reducible refine (spec_SplitPath.calls k a0 t119 true _ A2.out).mono ?_); rintro e w12 ⟨v121, rfl, ho0, hb⟩; have HO122 := Aside0.mk (Kd.R_lower ho0 (below_size (BB HB.out))); replace HB := Aside0.mk (below_step (BB HB.out) hb); (try clear hb); (try clear hb2); (try clear hk); (try clear hi); (try clear ho0); obtain ⟨Ao13, co13, eo13⟩ := Kd.R_slice HO122.out; subst eo13; have q14 : ((ji7) : Int) ≤ ((t119.length : Int) : Int) := DT; obtain ⟨i014, hi014, _, hsz14, _⟩ := info_parts info9; have hroom14 : t119.length ≤ co13 := (Kd.R_reads' HO122.out).2.1; have hC14 : Kd.C Kd.string _ Ao13 t119.length t119 := (Kd.R_reads' HO122.out).2.2; have hcut14 := cut_to (P := Tryd.prog) 78 9 .i64 Tryd.underlying78 hi014 Ao13 t119.length co13 (ji7) DT q14 hroom14; have hr14 := Kd.C_take (m := ((ji7) : Int).toNat) hC14 (by omega); have hy14 : y123.length = ((ji7) : Int).toNat := (by rw [Ny123.out, List.length_take]; omega); rw [← Ny123.out] at hr14; rw [← hy14] at hcut14; have HR126 := Aside0.mk hr14; have HC126 := Aside0.mk (show y123.length ≤ co13 from by omega); clear hr14 hC14 hroom14 hi014 hsz14; have KY14 := Aside0.mk hy14; clear hy14; have KL14 := Aside0.mk (show ((ji7) : Int).toNat ≤ t119.length from by omega); replace q14 := eq_true q14) | (go_at_call 53; (with_reducible refine (spec_JoinPath.calls k _ _ y123 t127 _ ?side1 ?side2 A10.out).mono ?_); (case side1 => repeat (first | exact (by repeat (first | (with_reducible exact HR126.out) | (with_reducible refine Kd.C_alloc ?_ _) | (with_reducible refine Kd.C_drewN ?_ _) | (with_reducible refine Kd.C_drew ?_) | exact HR126.out)) | (with_reducible refine Kd.C_alloc ?_ _) | (with_reducible refine Kd.C_drewN ?_ _) | (with_reducible refine Kd.C_drew ?_))); (case side2 => exact HC126.out); rintro e w' ⟨rfl, ⟨nd, rfl⟩⟩; (try first | exact ⟨rfl, _, World.drewN_drewN _ _ _⟩ | exact ⟨rfl, _, Eq.trans (World.drewN_drewN _ _ _) (congrArg (World.drewN _) (Nat.add_assoc _ _ _))⟩); have p128 : 0 ≤ ((ji7) : Int) := DT; have q128 : (ji7) < (t119.length : Int) := DT; obtain ⟨ad128, e128, hx128_0⟩ := Kd.at_string (Kd.R_reads' HO122.out).2.2 (ji7) p128 q128; cases e128; replace p128 := eq_true p128; replace q128 := eq_true q128)))
            go_ret3
            exact ⟨by first | rfl | (simp [errW_none, errW_some] <;> rfl) | (simp only [← hji7]; first | rfl | (simp [errW_none, errW_some] <;> rfl)) | (simp [*, errW_none, errW_some] <;> rfl), (BB HB.out)⟩
          · rw [if_neg c11] at H
            exact absurd H (by simp)
        · rw [if_neg c9] at H
          exact absurd H (by simp)
      · rw [if_neg c8] at H
        exact absurd H (by simp)
  · replace c3 := Bool.eq_false_iff.mpr c3
    subst c3
    have H1 : (some ((⟨#[]⟩ : ByteArray), (⟨#[]⟩ : ByteArray), false)) = some (r1, r2, r3) := by rw [if_neg (show ¬ (false = true) by decide)] at H; exact H
    clear H
    have H := H1
    clear H1
    simp only [Option.some.injEq, Prod.mk.injEq] at H
    obtain ⟨rfl, rfl, rfl⟩ := H
    go_enter Tryd.func47, Tryd.ntmps47
    go_wp2_with (first | (go_at_call 52; (with_reducible refine (spec_SplitPath.calls k a0 t119 false _ A2.out).mono ?_); rintro e w15 ⟨v121, rfl, ho0, hb⟩; have HO122 := Aside0.mk (Kd.R_lower ho0 (below_size (BB HB.out))); replace HB := Aside0.mk (below_step (BB HB.out) hb); (try clear hb); (try clear hb2); (try clear hk); (try clear hi); (try clear ho0)))
    repeat (go_quiet (first | (go_at_call 52; (with_reducible refine (spec_SplitPath.calls k a0 t119 false _ A2.out).mono ?_); rintro e w15 ⟨v121, rfl, ho0, hb⟩; have HO122 := Aside0.mk (Kd.R_lower ho0 (below_size (BB HB.out))); replace HB := Aside0.mk (below_step (BB HB.out) hb); (try clear hb); (try clear hb2); (try clear hk); (try clear hi); (try clear ho0))); try go_wp2_with (first | (go_at_call 52; (with_reducible refine (spec_SplitPath.calls k a0 t119 false _ A2.out).mono ?_); rintro e w15 ⟨v121, rfl, ho0, hb⟩; have HO122 := Aside0.mk (Kd.R_lower ho0 (below_size (BB HB.out))); replace HB := Aside0.mk (below_step (BB HB.out) hb); (try clear hb); (try clear hb2); (try clear hk); (try clear hi); (try clear ho0))))
    go_ret3
    exact ⟨ER, (BB HB.out)⟩

end Go.Proofs.YtfgnaneajonapaaDoor.Pr

namespace Go.Proofs.YtfgnaneajonapaaDoor.Pr
open Go.RowKit Go.Proofs.YtfgnaneajonapaaDoorW.PrintWords Go.Proofs.YtfgnaneajonapaaDoorW.PrintLast Go.Proofs.YtfgnaneajonapaaDoorW.PrintMore
attribute [local go_sem] max2_int min2_int max_two min_two max_three min_three max_four min_four
set_option linter.unusedVariables false
set_option linter.unusedSimpArgs false
def spec_l11Named.f (k : Nat) (a0 : ByteArray) : Option (Bool) := (spec_ParentPath.f k a0).bind fun bt129 => (some bt129.2.2)
set_option maxHeartbeats 8000000 in
set_option maxRecDepth 100000 in
theorem spec_l11Named.calls (k : Nat) (a0 : ByteArray) (r : Bool) (w : World) (h : spec_l11Named.f k a0 = some r) :
    Calls Tryd.prog 26 #[.string a0] w fun e w' => e = .returned (.bool r) ∧ Below w.heap.size w w' := by
  have HB := Aside0.mk (Below.refl w.heap.size w)
  have H : ((spec_ParentPath.f k a0).bind fun bt129 => (some bt129.2.2)) = some r := h
  clear h
  replace H := Option.bind_eq_some_iff.mp H
  obtain ⟨⟨t129, t130, t131⟩, A20, H⟩ := H
  replace H : (some t131) = some r := H
  have A2 := Aside0.mk A20
  clear A20
  obtain rfl := Option.some.inj H
  go_enter Tryd.func26, Tryd.ntmps26
  go_wp2_with (first | ((with_reducible refine gate_callee (f := 47) rfl ?_); refine GL (some 8) rfl rfl Tryd.func47 #[.string a0] rfl ?_; (with_reducible refine (spec_ParentPath.calls k a0 t129 t130 t131 _ A2.out).mono ?_); rintro e w3 ⟨rfl, hb⟩; refine ⟨_, rfl, ?_⟩; replace HB := Aside0.mk (below_step (BB HB.out) hb); (try clear hb)))
  go_ret
  exact ⟨ER, (BB HB.out)⟩

end Go.Proofs.YtfgnaneajonapaaDoor.Pr
