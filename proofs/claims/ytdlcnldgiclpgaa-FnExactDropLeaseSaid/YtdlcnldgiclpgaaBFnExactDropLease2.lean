/- A part of the proof of the law FnExactDropLease: its texts, one behind the other. -/
import Derived.ArgAppend
import Derived.Below
import Derived.BigQuiet
import Derived.ChangeArms
import Derived.Deep.AppendLies
import Derived.Deep.CutBlock
import Derived.Deep.DeepCutAuto
import Derived.Deep.Draws
import Derived.Deep.LoopGhost
import Derived.Deep.OwnRows
import Derived.Deep.QuietTactic
import Derived.Deep.RegionHeld3
import Derived.Deep.Slices
import Derived.KernelRfl
import Derived.Laws.BitsLemmas
import Derived.Laws.BytesArg
import Derived.Laws.Entries
import Derived.Laws.IdiomCopy
import Derived.Laws.MakeOwn
import Derived.Laws.OwnMore
import Derived.Laws.Rows
import Derived.Laws.Slices
import Derived.Laws.Strings
import Derived.Lib.AppendStr
import Derived.Lib.ConvBytes
import Derived.Lib.SliceRun
import Derived.Maps.AppendAt
import Derived.OrdersHeld
import Derived.OwnWalk
import Derived.RowKit
import Derived.RowKit3
import Derived.Shelf.Abstract
import Derived.Tactics
import Derived.Test.YtdlcnldgiclpgaaProg
import Derived.WalkKit
import Derived.WalkLawsBesides
import Derived.WideLaws
import Derived.WideShapes
import Derived.Test.YtdlcnldgiclpgaaBFnExactDropLease1
/- Generic: programs told with rounds ('from some number of rounds on'): tests, calls, loops over lists. No program in sight. -/
namespace Go.Proofs.Ytdlcnldgiclpgaa.Evs
open Go.RowKit Go.Proofs.YtdlcnldgiclpgaaW.PrintWords

theorem ev_some {α : Type} (r : α) : Ev (fun _ => some r) r := Ev.now r
theorem ev_pos {α : Type} {c : Prop} [Decidable c] {f g : Nat → Option α} {r : α} (h : c) (k : Ev f r) : Ev (fun n => if c then f n else g n) r := by
  simpa [h] using k
theorem ev_neg {α : Type} {c : Prop} [Decidable c] {f g : Nat → Option α} {r : α} (h : ¬ c) (k : Ev g r) : Ev (fun n => if c then f n else g n) r := by
  simpa [h] using k
theorem ev_ite {α : Type} {c : Prop} [Decidable c] {f g : Nat → Option α} {r s : α} (k : c → Ev f r) (l : ¬ c → Ev g s) : Ev (fun n => if c then f n else g n) (if c then r else s) := by
  by_cases h : c
  · rw [if_pos h]; exact ev_pos h (k h)
  · rw [if_neg h]; exact ev_neg h (l h)
theorem ev_bind {α β : Type} {g : Nat → Option α} {f : Nat → α → Option β} {a : α} {r : β} (h : Ev g a) (k : Ev (fun n => f n a) r) : Ev (fun n => (g n).bind (f n)) r := Ev.bind h k
/-- A callee without rounds. -/
theorem ev_call {α β : Type} {g : Option α} {f : Nat → α → Option β} {a : α} {r : β} (h : g = some a) (k : Ev (fun n => f n a) r) : Ev (fun n => g.bind (f n)) r := by
  subst h
  exact k
theorem ev_eq {α : Type} {g : Nat → Option α} {r s : α} (h : Ev g r) (e : r = s) : Ev g s := e ▸ h
theorem ev_step {α : Type} {g f : Nat → Option α} {r : α} (h : ∀ k, g (k + 1) = f k) (k : Ev f r) : Ev g r := Ev.step h k
/-- What two runs tell is one. -/
theorem ev_one {α : Type} {g : Nat → Option α} {r s : α} (h : Ev g r) (k : Ev g s) : r = s := by
  obtain ⟨K, h⟩ := h
  obtain ⟨L, k⟩ := k
  have h1 := h (max K L) (by omega)
  have h2 := k (max K L) (by omega)
  rw [h1] at h2
  exact Option.some.inj h2
theorem ev_rounds {α : Type} {g : Nat → Option α} {r : α} (h : Ev g r) : ∃ k, g k = some r := h.rounds
theorem ev_const {α : Type} {g : Option α} {r : α} (h : g = some r) : Ev (fun _ => g) r := ⟨0, fun _ _ => h⟩

/-- What is left of a size that is told part by part: -1, or what is left. -/
def SzEv (g : Nat → Option Int) (left w : Int) : Prop := ∃ r, Ev g r ∧ (r = -1 ∨ (0 ≤ r ∧ r + w = left))
theorem sz_done {left : Int} (h : 0 ≤ left) : SzEv (fun _ => some left) left 0 := ⟨left, ev_some _, .inr ⟨h, by omega⟩⟩
theorem sz_eq {g : Nat → Option Int} {left w w' : Int} (h : SzEv g left w) (e : w = w') : SzEv g left w' := e ▸ h
theorem sz_call {g : Nat → Option Int} {F : Nat → Int → Option Int} {left w1 w2 : Int} (h : SzEv g left w1) (k : ∀ l, 0 ≤ l → l + w1 = left → SzEv (fun n => F n l) l w2) :
    SzEv (fun n => (g n).bind fun t => if t < 0 then some (-1) else F n t) left (w1 + w2) := by
  obtain ⟨r, hE, hr⟩ := h
  rcases hr with rfl | ⟨h0, hr⟩
  · exact ⟨-1, ev_bind hE (ev_pos (by omega) (ev_some _)), .inl rfl⟩
  · obtain ⟨s, hS, hs⟩ := k r h0 hr
    exact ⟨s, ev_bind hE (ev_neg (by omega) hS), by omega⟩
theorem sz_str {G : Nat → Option Int} {left n w2 : Int} (k : 0 ≤ left - n → SzEv G (left - n) w2) : SzEv (fun m => if left - n < 0 then some (-1) else G m) left (n + w2) := by
  by_cases c : left - n < 0
  · exact ⟨-1, ev_pos c (ev_some _), .inl rfl⟩
  · obtain ⟨s, hS, hs⟩ := k (by omega)
    exact ⟨s, ev_neg c hS, by omega⟩
theorem sz_step {g f : Nat → Option Int} {left w : Int} (h : ∀ k, g (k + 1) = f k) (k : SzEv f left w) : SzEv g left w := by
  obtain ⟨r, hE, hr⟩ := k
  exact ⟨r, ev_step h hE, hr⟩
theorem sz_pos {c : Prop} [Decidable c] {f g : Nat → Option Int} {left w : Int} (h : c) (k : SzEv f left w) : SzEv (fun n => if c then f n else g n) left w := by
  obtain ⟨r, hE, hr⟩ := k
  exact ⟨r, ev_pos h hE, hr⟩
theorem sz_neg {c : Prop} [Decidable c] {f g : Nat → Option Int} {left w : Int} (h : ¬ c) (k : SzEv g left w) : SzEv (fun n => if c then f n else g n) left w := by
  obtain ⟨r, hE, hr⟩ := k
  exact ⟨r, ev_neg h hE, hr⟩

theorem wrap_succ {i : Int} (h0 : 0 ≤ i) (h1 : i < 9223372036854775807) : wrap64 (i + 1) = i + 1 := by unfold wrap64; omega
theorem wrap_in {i : Int} (h0 : -9223372036854775808 ≤ i) (h1 : i ≤ 9223372036854775807) : wrap64 i = i := by unfold wrap64; omega
theorem getD_mid {α : Type} (p s : List α) (x d : α) : (p ++ x :: s).getD p.length d = x := by simp [List.getD]
theorem getD_mid' {α : Type} (p s : List α) (x d : α) (i : Int) (hi : i = (p.length : Int)) : (p ++ x :: s).getD i.toNat d = x := by
  subst hi
  simp [List.getD]
theorem set_mid {α : Type} (p s : List α) (x y : α) (i : Int) (hi : i = (p.length : Int)) : (p ++ x :: s).set i.toNat y = p ++ y :: s := by
  subst hi
  simp
theorem toList_inj {a b : ByteArray} (h : a.toList = b.toList) : a = b := by
  rw [ByteArray.toList_eq, ByteArray.toList_eq] at h
  cases a with | mk x => cases b with | mk y =>
  cases x with | mk x => cases y with | mk y =>
  simp at h
  rw [h]
end Go.Proofs.Ytdlcnldgiclpgaa.Evs

namespace Go.Proofs.Ytdlcnldgiclpgaa.Pr
open Go.RowKit Go.Proofs.YtdlcnldgiclpgaaW.PrintWords Go.Proofs.YtdlcnldgiclpgaaW.PrintLast Go.Proofs.YtdlcnldgiclpgaaW.PrintMore
attribute [local go_sem] max2_int min2_int max_two min_two max_three min_three max_four min_four
set_option linter.unusedVariables false
set_option linter.unusedSimpArgs false
def errW : Option Int → Value
  | none => .nilIface
  | some c => .iface 0 (.int .i64 c)
theorem errW_none : errW none = .nilIface := rfl
theorem errW_some (c : Int) : errW (some c) = .iface 0 (.int .i64 c) := rfl

theorem CC {p q : Prop} (h : q) (f : q → p := by intro h_; repeat (first | exact h_ | (with_reducible refine Kd.C_alloc ?_ _) | (with_reducible refine Kd.C_drewN ?_ _) | (with_reducible refine Kd.C_drew ?_))) : p := f h
theorem BB {p q : Prop} (h : q) (f : q → p := by intro h_; repeat (first | (with_reducible first | exact h_ | apply below_alloc | apply pw_below_drewN | apply below_drew1) | exact h_)) : p := f h
theorem BB1 {p q q1 : Prop} (h : q) (h1 : q1) (f : q → q1 → p := by intro h_ g1_; repeat (first | (with_reducible first | exact h_ | apply below_alloc | apply pw_below_drewN | apply below_drew1 | refine below_set ?_ g1_) | exact h_)) : p := f h h1
theorem BB2 {p q q1 q2 : Prop} (h : q) (h1 : q1) (h2 : q2) (f : q → q1 → q2 → p := by intro h_ g1_ g2_; repeat (first | (with_reducible first | exact h_ | apply below_alloc | apply pw_below_drewN | apply below_drew1 | refine below_set ?_ g1_ | refine below_set ?_ g2_) | exact h_)) : p := f h h1 h2
theorem BB3 {p q q1 q2 q3 : Prop} (h : q) (h1 : q1) (h2 : q2) (h3 : q3) (f : q → q1 → q2 → q3 → p := by intro h_ g1_ g2_ g3_; repeat (first | (with_reducible first | exact h_ | apply below_alloc | apply pw_below_drewN | apply below_drew1 | refine below_set ?_ g1_ | refine below_set ?_ g2_ | refine below_set ?_ g3_) | exact h_)) : p := f h h1 h2 h3
theorem RR {p q : Prop} (h : q) (f : q → p := by intro h_; (with_reducible repeat (first | apply Kd.R_alloc | apply Kd.R_drewN | apply Kd.R_drew)); exact h_) : p := f h
theorem FR {p : Prop} (h : p := by first | rfl | (simp; done) | (simp [*]; done)) : p := h
theorem ER {p : Prop} (h : p := by first | rfl | (simp [errW_none, errW_some] <;> rfl) | (simp [*, errW_none, errW_some] <;> rfl)) : p := h
theorem DT {p : Prop} [Decidable p] (h : decide p = true := by first | (with_reducible assumption) | assumption) : p := of_decide_eq_true h
theorem KB {w W w1 : World} {g : Nat} {o : Obj} (h : w.heap[g]? = some o) (hb : Below W.heap.size W w1) (f : w.heap[g]? = some o → W.heap[g]? = some o := by intro h_; (with_reducible repeat (first | refine blk_drewN ?_ _ | refine blk_drew ?_ | refine blk_alloc ?_ _)); exact h_) : w1.heap[g]? = some o := blk_below (f h) hb
theorem NL {w W : World} {g g' : Nat} {o : Obj} (h : w.heap[g]? = some o) (hg : g' = W.heap.size) (f : w.heap[g]? = some o → W.heap[g]? = some o := by intro h_; (with_reducible repeat (first | refine blk_drewN ?_ _ | refine blk_drew ?_ | refine blk_alloc ?_ _)); exact h_) : Aside0 (g ≠ g') := ⟨by rw [hg]; exact Nat.ne_of_lt (blk_lt (f h))⟩
theorem NG {w W : World} {g g' : Nat} {o : Obj} (h : w.heap[g]? = some o) (hg : g' = W.heap.size) (f : w.heap[g]? = some o → W.heap[g]? = some o := by intro h_; (with_reducible repeat (first | refine blk_drewN ?_ _ | refine blk_drew ?_ | refine blk_alloc ?_ _)); exact h_) : Aside0 (g' ≠ g) := ⟨by rw [hg]; exact Nat.ne_of_gt (blk_lt (f h))⟩
theorem WG {w W : World} {g : Nat} (hg : g = W.heap.size) (h : Below w.heap.size w W) : Aside0 (w.heap.size ≤ g) := ⟨by rw [hg]; exact below_size h⟩
theorem BX {P : Program} {ops : Array Oper} {Q : Exit → Act → World → Prop} {rest : List Oper} {o : Oper} {a : Act} {W : World} (N : Tmp) (cs : Array Value) (t : TypeId)
    (h : ∀ g, g = W.heap.size → ∀ w1, w1.heap[g]? = some (.cells cs t (0, 0)) → Below W.heap.size W w1 → wpList P ops Q rest (a.put o.dst (.pointer (some ⟨g, 0, none⟩))) w1)
    (hd : o.dst = some N := by rfl) (hg : o.guard = none := by rfl) (hr : (execOp a.eval o).run P W = .ok (.value (.pointer (some ⟨W.heap.size, 0, none⟩))) (W.alloc (.cells cs t (0, 0))) := by first | (go_simp; done) | (go_simp; rfl)) : wpList P ops Q (o :: rest) a W := box_event hg hd hr h
theorem GL {P : Program} {ops : Array Oper} {Q : Exit → Act → World → Prop} {rest : List Oper} {oi : Oper} {a : Act} {w : World} (N : Option Tmp) (hd : oi.dst = N) (hg : oi.guard = none) {f : FuncId} {fn : Func} {os_ : Array Operand} {ts : Array TypeId} (hf : P.funcs[f]? = some fn) (args : Array Value)
    (hop : oi.op = .call { callee := .value (.func f), args := os_, argTypes := ts }) (h : Calls P f args w fun e w' => ∃ v, e = .returned v ∧ wpList P ops Q rest (a.put N v) w')
    (hname : (fn.name == "runtime.NumGoroutine") = false := by kernel_rfl) (hb : fn.body.isSome = true := by rfl) (hargs : os_.map a.eval = args := by (try simp only [List.map_toArray, List.map_cons, List.map_nil]); first | done | rfl | (simp only [List.length_drop, List.length_take]; rfl)) : wpList P ops Q (oi :: rest) a w :=
  goesL_ N hd hg hf hname hb args hop hargs h

theorem info64 : (Try.prog.info? 64).map (fun i => (i.zero, i.size, i.bytes)) = some (some (.agg #[(.string ⟨#[]⟩), (.int .i64 0), (.int .i64 0)]), 3, 32) := by kernel_rfl
structure S63 where
  f0 : ByteArray
  f1 : Int
  f2 : Int
def z63 : S63 := ⟨(⟨#[]⟩ : ByteArray), (0 : Int), (0 : Int)⟩
def k63 : Kd S63 := Kd.iso (Kd.pair Kd.string (Kd.pair (Kd.int .i64) (Kd.int .i64))) (fun x : S63 => (x.f0, x.f1, x.f2))
theorem k63_open {w : World} {x : S63} {cs : List Value} (h : k63.K w x cs) : cs = [.string x.f0, .int .i64 x.f1, .int .i64 x.f2] := by
  obtain ⟨_, _, rfl, rfl, ⟨_, _, rfl, rfl, rfl⟩⟩ := h
  exact rfl
def rd_T63 (xs : List S63) (i : Int) : S63 := xs.getD i.toNat z63
theorem at_T63 {w : World} {A : Option Addr} {n : Nat} {xs : List S63} (h : Kd.C k63 w A n xs) (i : Int) (h0 : 0 ≤ i) (h1 : i < n) : ∃ ad , A = some ad ∧ w.cell? (ad.add (i.toNat * 3)) = some (.string (rd_T63 xs i).f0) ∧ w.cell? ⟨(ad.add (i.toNat * 3)).block, (ad.add (i.toNat * 3)).off + 1, none⟩ = some (.int .i64 (rd_T63 xs i).f1) ∧ w.cell? ⟨(ad.add (i.toNat * 3)).block, (ad.add (i.toNat * 3)).off + 2, none⟩ = some (.int .i64 (rd_T63 xs i).f2) := by
  obtain ⟨ad, c, e, _, hK, hc0⟩ := Kd.C_get h z63 i h0 h1
  have hc : ∀ j u, c[j]? = some u → w.cell? (ad.add (i.toNat * 3 + j)) = some u := hc0
  obtain rfl := k63_open hK
  exact ⟨ad, e, hc 0 _ rfl, by rw [← add_field _ _ 1 (by omega)]; exact hc 1 _ rfl, by rw [← add_field _ _ 2 (by omega)]; exact hc 2 _ rfl⟩

structure S64 where
  f0 : ByteArray
  f1 : Int
  f2 : Int
def z64 : S64 := ⟨(⟨#[]⟩ : ByteArray), (0 : Int), (0 : Int)⟩
def k64 : Kd S64 := Kd.iso (Kd.pair Kd.string (Kd.pair (Kd.int .i64) (Kd.int .i64))) (fun x : S64 => (x.f0, x.f1, x.f2))
theorem k64_open {w : World} {x : S64} {cs : List Value} (h : k64.K w x cs) : cs = [.string x.f0, .int .i64 x.f1, .int .i64 x.f2] := by
  obtain ⟨_, _, rfl, rfl, ⟨_, _, rfl, rfl, rfl⟩⟩ := h
  exact rfl
theorem k64_openM {w : World} {base : Nat} {ok : Nat → Prop} {x : S64} {cs : List Value} (h : k64.M w base ok x cs) : cs = [.string x.f0, .int .i64 x.f1, .int .i64 x.f2] := by
  obtain ⟨_, _, rfl, rfl, ⟨_, _, rfl, rfl, rfl⟩⟩ := h
  exact rfl
theorem k64_mkM (w : World) (base : Nat) (ok : Nat → Prop) (x : S64)  : k64.M w base ok x [.string x.f0, .int .i64 x.f1, .int .i64 x.f2] := ⟨[.string x.f0], [.int .i64 x.f1, .int .i64 x.f2], rfl, rfl, ⟨[.int .i64 x.f1], [.int .i64 x.f2], rfl, rfl, rfl⟩⟩
def rd_T64 (xs : List S64) (i : Int) : S64 := xs.getD i.toNat z64
theorem at_T64 {w : World} {A : Option Addr} {n : Nat} {xs : List S64} (h : Kd.C k64 w A n xs) (i : Int) (h0 : 0 ≤ i) (h1 : i < n) : ∃ ad , A = some ad ∧ w.cell? (ad.add (i.toNat * 3)) = some (.string (rd_T64 xs i).f0) ∧ w.cell? ⟨(ad.add (i.toNat * 3)).block, (ad.add (i.toNat * 3)).off + 1, none⟩ = some (.int .i64 (rd_T64 xs i).f1) ∧ w.cell? ⟨(ad.add (i.toNat * 3)).block, (ad.add (i.toNat * 3)).off + 2, none⟩ = some (.int .i64 (rd_T64 xs i).f2) := by
  obtain ⟨ad, c, e, _, hK, hc0⟩ := Kd.C_get h z64 i h0 h1
  have hc : ∀ j u, c[j]? = some u → w.cell? (ad.add (i.toNat * 3 + j)) = some u := hc0
  obtain rfl := k64_open hK
  exact ⟨ad, e, hc 0 _ rfl, by rw [← add_field _ _ 1 (by omega)]; exact hc 1 _ rfl, by rw [← add_field _ _ 2 (by omega)]; exact hc 2 _ rfl⟩

end Go.Proofs.Ytdlcnldgiclpgaa.Pr

/- Printed out of the translation by this session's pr.py over the kit's print. Lean checks it. -/
namespace Go.Proofs.Ytdlcnldgiclpgaa.Pr
open Go.RowKit Go.Proofs.YtdlcnldgiclpgaaW.PrintWords Go.Proofs.YtdlcnldgiclpgaaW.PrintLast Go.Proofs.YtdlcnldgiclpgaaW.PrintMore
attribute [local go_sem] max2_int min2_int max_two min_two max_three min_three max_four min_four
set_option linter.unusedVariables false
set_option linter.unusedSimpArgs false

/-! ### laws_szLease: function 38 -/
def laws_szLease.f (a0_0 : ByteArray) (a0_1 : Int) (a0_2 : Int) (a1 : Int) : Option (Int) := if (wrap64 (a1 - (a0_0.size : Int))) < 0 then (some (-1)) else (some (wrap64 (a1 - (a0_0.size : Int))))
set_option maxHeartbeats 8000000 in
set_option maxRecDepth 100000 in
theorem laws_szLease.calls (a0_0 : ByteArray) (a0_1 : Int) (a0_2 : Int) (a1 : Int) (r : Int) (w : World) (h : laws_szLease.f a0_0 a0_1 a0_2 a1 = some r) :
    Calls Try.prog 38 #[.agg #[.string a0_0, .int .i64 a0_1, .int .i64 a0_2], .int .i64 a1] w fun e w' => e = .returned (.int .i64 r) ∧ Below w.heap.size w w' := by
  have hu63 := Try.underlying63
  have HB := Aside0.mk (Below.refl w.heap.size w)
  have H : (if (wrap64 (a1 - (a0_0.size : Int))) < 0 then (some (-1)) else (some (wrap64 (a1 - (a0_0.size : Int))))) = some r := h
  clear h
  by_cases c3 : (wrap64 (a1 - (a0_0.size : Int))) < 0
  · rw [if_pos c3] at H
    have c3b0 : decide ((wrap64 (a1 - (a0_0.size : Int))) < 0) = true := decide_eq_true c3
    clear c3
    obtain rfl := Option.some.inj H
    go_enter Try.func38, Try.ntmps38
    go_wp2_with (first | ((with_reducible refine gate_dst (N := 2) rfl ?_); refine BX 2 #[.string a0_0, .int .i64 a0_1, .int .i64 a0_2] 63 ?_; intro gb144 hg w4 hbox hb; have BK144 := Aside0.mk (hbox); have GW144 : Aside0 (w.heap.size ≤ gb144) := WG hg (BB HB.out); have GE144 := GW144; replace HB := Aside0.mk (below_step (BB HB.out) hb); clear hb hbox hg; have hcz5 := blk_cell BK144.out; have hfz5 := blk_frozen BK144.out))
    go_ret
    exact ⟨ER, (BB1 HB.out GE144.out)⟩
  · rw [if_neg c3] at H
    have c3b0 : decide ((wrap64 (a1 - (a0_0.size : Int))) < 0) = false := decide_eq_false c3
    clear c3
    obtain rfl := Option.some.inj H
    go_enter Try.func38, Try.ntmps38
    go_wp2_with (first | ((with_reducible refine gate_dst (N := 2) rfl ?_); refine BX 2 #[.string a0_0, .int .i64 a0_1, .int .i64 a0_2] 63 ?_; intro gb144 hg w6 hbox hb; have BK144 := Aside0.mk (hbox); have GW144 : Aside0 (w.heap.size ≤ gb144) := WG hg (BB HB.out); have GE144 := GW144; replace HB := Aside0.mk (below_step (BB HB.out) hb); clear hb hbox hg; have hcz7 := blk_cell BK144.out; have hfz7 := blk_frozen BK144.out))
    go_ret
    exact ⟨ER, (BB1 HB.out GE144.out)⟩

end Go.Proofs.Ytdlcnldgiclpgaa.Pr

/- Printed out of the translation by this session's pr.py over the kit's print. Lean checks it. -/
namespace Go.Proofs.Ytdlcnldgiclpgaa.Pr
open Go.RowKit Go.Proofs.YtdlcnldgiclpgaaW.PrintWords Go.Proofs.YtdlcnldgiclpgaaW.PrintLast Go.Proofs.YtdlcnldgiclpgaaW.PrintMore
attribute [local go_sem] max2_int min2_int max_two min_two max_three min_three max_four min_four
set_option linter.unusedVariables false
set_option linter.unusedSimpArgs false

/-! ### laws_szLeaseS: function 15 -/
def laws_szLeaseS.l0 : Nat → List (S63) → Int → Int → Option (Int)
  | 0, _, _, _ => none
  | k + 1, x0, x1, x5 => if x5 < (x0.length : Int) then (if 0 ≤ x5 then ((laws_szLease.f ((rd_T63 x0 x5).f0) ((rd_T63 x0 x5).f1) ((rd_T63 x0 x5).f2) x1).bind fun t146 => (if t146 < 0 then (some (-1)) else (laws_szLeaseS.l0 k x0 t146 (wrap64 (x5 + 1))))) else (none)) else (some x1)
def laws_szLeaseS.f (k : Nat) (l0 : List (S63)) (a1 : Int) : Option (Int) := if (wrap64 (a1 - (l0.length : Int))) < 0 then (some (-1)) else (laws_szLeaseS.l0 k l0 (wrap64 (a1 - (l0.length : Int))) 0)
set_option maxHeartbeats 8000000 in
set_option maxRecDepth 100000 in
theorem laws_szLeaseS.calls (k : Nat) (A0 : Option Addr) (c0 : Nat) (l0 : List (S63)) (a1 : Int) (r : Int) (w : World) (hr0 : Kd.C k63 w A0 l0.length l0) (hc0 : l0.length ≤ c0) (h : laws_szLeaseS.f k l0 a1 = some r) :
    Calls Try.prog 15 #[.slice A0 l0.length c0, .int .i64 a1] w fun e w' => e = .returned (.int .i64 r) ∧ Below w.heap.size w w' := by
  have hu63 := Try.underlying63
  have HR0 := Aside0.mk hr0
  have HC0 := Aside0.mk hc0
  clear hr0 hc0
  have HB := Aside0.mk (Below.refl w.heap.size w)
  have H : (if (wrap64 (a1 - (l0.length : Int))) < 0 then (some (-1)) else (laws_szLeaseS.l0 k l0 (wrap64 (a1 - (l0.length : Int))) 0)) = some r := h
  clear h
  by_cases c3 : (wrap64 (a1 - (l0.length : Int))) < 0
  · rw [if_pos c3] at H
    have c3b0 : decide ((wrap64 (a1 - (l0.length : Int))) < 0) = true := decide_eq_true c3
    clear c3
    obtain rfl := Option.some.inj H
    go_enter Try.func15, Try.ntmps15
    go_wp2
    go_ret
    exact ⟨ER, (BB HB.out)⟩
  · rw [if_neg c3] at H
    have c3b0 : decide ((wrap64 (a1 - (l0.length : Int))) < 0) = false := decide_eq_false c3
    clear c3
    have H' := Aside0.mk H
    clear H
    go_enter Try.func15, Try.ntmps15
    go_wp2
    go_loopg [1, 5] k (fun kq v1 v5 w' => ∃ (x1_1 : Int) (x5_1 : Int), v1 = .int .i64 x1_1 ∧ v5 = .int .i64 x5_1 ∧ Aside0 (laws_szLeaseS.l0 kq l0 x1_1 x5_1 = some r) ∧ Aside0 (kq ≤ k) ∧ Aside0 (Below w.heap.size w w'))
    case atStart => exact ⟨(wrap64 (a1 - (l0.length : Int))), (0), FR, FR, H', ⟨Nat.le_refl _⟩, ⟨(BB HB.out)⟩⟩
    case round =>
      clear H'
      try clear c1
      try clear p2
      try clear c3
      try clear c3b0
      obtain ⟨x1_1, x5_1, rfl, rfl, HA, HK1, HB⟩ := hrel
      cases gk with
      | zero => exact absurd HA.out (by simp [laws_szLeaseS.l0])
      | succ k1 =>
        have H := HA.out
        clear HA
        simp only [laws_szLeaseS.l0] at H
        by_cases c4 : x5_1 < (l0.length : Int)
        · rw [if_pos c4] at H
          have c4b0 : decide (x5_1 < (l0.length : Int)) = true := decide_eq_true c4
          clear c4
          by_cases c5 : 0 ≤ x5_1
          · rw [if_pos c5] at H
            have c5b0 : decide (0 ≤ x5_1) = true := decide_eq_true c5
            clear c5
            replace H := Option.bind_eq_some_iff.mp H
            obtain ⟨t146, A60, H⟩ := H
            replace H : (if t146 < 0 then (some (-1)) else (laws_szLeaseS.l0 k1 l0 t146 (wrap64 (x5_1 + 1)))) = some r := H
            have A6 := Aside0.mk A60
            clear A60
            by_cases c7 : t146 < 0
            · rw [if_pos c7] at H
              have c7b0 : decide (t146 < 0) = true := decide_eq_true c7
              clear c7
              obtain rfl := Option.some.inj H
              have p145 : 0 ≤ (x5_1 : Int) := DT
              have q145 : x5_1 < (l0.length : Int) := DT
              obtain ⟨ad145, e145, hx145_0, hx145_1, hx145_2⟩ := at_T63 HR0.out x5_1 p145 q145
              cases e145
              replace hx145_0 := (HB.out.cell (World.block_lt_of_cell? w _ hx145_0)).trans hx145_0
              replace hx145_1 := (HB.out.cell (World.block_lt_of_cell? w _ hx145_1)).trans hx145_1
              replace hx145_2 := (HB.out.cell (World.block_lt_of_cell? w _ hx145_2)).trans hx145_2
              replace p145 := eq_true p145
              replace q145 := eq_true q145
              go_wp2_with (first | ((with_reducible refine gate_callee (f := 38) rfl ?_); refine GL (some 23) rfl rfl Try.func38 #[.agg #[.string ((rd_T63 l0 x5_1).f0), .int .i64 ((rd_T63 l0 x5_1).f1), .int .i64 ((rd_T63 l0 x5_1).f2)], .int .i64 x1_1] rfl ?_; (with_reducible refine (laws_szLease.calls ((rd_T63 l0 x5_1).f0) ((rd_T63 l0 x5_1).f1) ((rd_T63 l0 x5_1).f2) x1_1 t146 _ A6.out).mono ?_); rintro e w8 ⟨rfl, hb⟩; refine ⟨_, rfl, ?_⟩; replace HB := Aside0.mk (below_step (BB HB.out) hb); (try clear hb)))
              go_ret
              exact ⟨ER, (BB HB.out)⟩
            · rw [if_neg c7] at H
              have c7b0 : decide (t146 < 0) = false := decide_eq_false c7
              clear c7
              have H' := Aside0.mk H
              clear H
              have p145 : 0 ≤ (x5_1 : Int) := DT
              have q145 : x5_1 < (l0.length : Int) := DT
              obtain ⟨ad145, e145, hx145_0, hx145_1, hx145_2⟩ := at_T63 HR0.out x5_1 p145 q145
              cases e145
              replace hx145_0 := (HB.out.cell (World.block_lt_of_cell? w _ hx145_0)).trans hx145_0
              replace hx145_1 := (HB.out.cell (World.block_lt_of_cell? w _ hx145_1)).trans hx145_1
              replace hx145_2 := (HB.out.cell (World.block_lt_of_cell? w _ hx145_2)).trans hx145_2
              replace p145 := eq_true p145
              replace q145 := eq_true q145
              go_wp2_with (first | ((with_reducible refine gate_callee (f := 38) rfl ?_); refine GL (some 23) rfl rfl Try.func38 #[.agg #[.string ((rd_T63 l0 x5_1).f0), .int .i64 ((rd_T63 l0 x5_1).f1), .int .i64 ((rd_T63 l0 x5_1).f2)], .int .i64 x1_1] rfl ?_; (with_reducible refine (laws_szLease.calls ((rd_T63 l0 x5_1).f0) ((rd_T63 l0 x5_1).f1) ((rd_T63 l0 x5_1).f2) x1_1 t146 _ A6.out).mono ?_); rintro e w9 ⟨rfl, hb⟩; refine ⟨_, rfl, ?_⟩; replace HB := Aside0.mk (below_step (BB HB.out) hb); (try clear hb)))
              go_roundg k1
              case measure => have := HK1.out; omega
              case rel => exact ⟨(t146), (wrap64 (x5_1 + 1)), FR, FR, H', ⟨by have := HK1.out; omega⟩, ⟨(BB HB.out)⟩⟩
          · rw [if_neg c5] at H
            exact absurd H (by simp)
        · rw [if_neg c4] at H
          have c4b0 : decide (x5_1 < (l0.length : Int)) = false := decide_eq_false c4
          clear c4
          obtain rfl := Option.some.inj H
          go_wp2
          go_ret
          exact ⟨ER, (BB HB.out)⟩

end Go.Proofs.Ytdlcnldgiclpgaa.Pr

/- Printed out of the translation by this session's pr.py over the kit's print. Lean checks it. -/
namespace Go.Proofs.Ytdlcnldgiclpgaa.Pr
open Go.RowKit Go.Proofs.YtdlcnldgiclpgaaW.PrintWords Go.Proofs.YtdlcnldgiclpgaaW.PrintLast Go.Proofs.YtdlcnldgiclpgaaW.PrintMore
attribute [local go_sem] max2_int min2_int max_two min_two max_three min_three max_four min_four
set_option linter.unusedVariables false
set_option linter.unusedSimpArgs false

/-! ### laws_toLease: function 39 -/
def laws_toLease.f (a0_0 : ByteArray) (a0_1 : Int) (a0_2 : Int) : Option (ByteArray × Int × Int) := some (a0_0, a0_1, a0_2)
set_option maxHeartbeats 8000000 in
set_option maxRecDepth 100000 in
theorem laws_toLease.calls (a0_0 : ByteArray) (a0_1 : Int) (a0_2 : Int) (r1 : ByteArray) (r2 : Int) (r3 : Int) (w : World) (h : laws_toLease.f a0_0 a0_1 a0_2 = some (r1, r2, r3)) :
    Calls Try.prog 39 #[.agg #[.string a0_0, .int .i64 a0_1, .int .i64 a0_2]] w fun e w' => e = .returned (.agg #[.string r1, .int .i64 r2, .int .i64 r3]) ∧ Below w.heap.size w w' := by
  have hu63 := Try.underlying63
  have hu64 := Try.underlying64
  have HB := Aside0.mk (Below.refl w.heap.size w)
  have H : (some (a0_0, a0_1, a0_2)) = some (r1, r2, r3) := h
  clear h
  simp only [Option.some.injEq, Prod.mk.injEq] at H
  obtain ⟨rfl, rfl, rfl⟩ := H
  go_enter Try.func39, Try.ntmps39
  go_wp2_with (first | ((with_reducible refine gate_dst (N := 1) rfl ?_); refine BX 1 #[.string a0_0, .int .i64 a0_1, .int .i64 a0_2] 63 ?_; intro gb149 hg w2 hbox hb; have BK149 := Aside0.mk (hbox); have GW149 : Aside0 (w.heap.size ≤ gb149) := WG hg (BB HB.out); have GE149 := GW149; replace HB := Aside0.mk (below_step (BB HB.out) hb); clear hb hbox hg) | ((with_reducible refine gate_dst (N := 2) rfl ?_); refine BX 2 #[.string (⟨#[]⟩ : ByteArray), .int .i64 0, .int .i64 0] 64 ?_; intro gb150 hg w3 hbox hb; have BK150 := Aside0.mk (hbox); have GW150 : Aside0 (w.heap.size ≤ gb150) := WG hg (BB1 HB.out GE149.out); have GE150 := GW150; have NB149_150 := NL BK149.out hg; have NB150_149 := NG BK149.out hg; replace BK149 := Aside0.mk (KB BK149.out hb); replace HB := Aside0.mk (below_step (BB1 HB.out GE149.out) hb); clear hb hbox hg) | ((with_reducible refine gate_dst (N := 3) rfl ?_); refine BX 3 #[.string (⟨#[]⟩ : ByteArray), .int .i64 0, .int .i64 0] 64 ?_; intro gb151 hg w4 hbox hb; have BK151 := Aside0.mk (hbox); have GW151 : Aside0 (w.heap.size ≤ gb151) := WG hg (BB2 HB.out GE149.out GE150.out); have GE151 := GW151; have NB149_151 := NL BK149.out hg; have NB151_149 := NG BK149.out hg; have NB150_151 := NL BK150.out hg; have NB151_150 := NG BK150.out hg; replace BK149 := Aside0.mk (KB BK149.out hb); replace BK150 := Aside0.mk (KB BK150.out hb); replace HB := Aside0.mk (below_step (BB2 HB.out GE149.out GE150.out) hb); clear hb hbox hg; have hnb5 := NB149_150.out; have hnc5 := NB150_149.out; have hnb6 := NB149_151.out; have hnc6 := NB151_149.out; have hcz7 := blk_cell BK149.out; have hfz7 := blk_frozen BK149.out; have hnb8 := NB151_150.out; have hnc8 := NB150_151.out; have hcz9 := blk_cell BK151.out; have hfz9 := blk_frozen BK151.out; have hcz10 := blk_cell BK150.out; have hfz10 := blk_frozen BK150.out))
  refine bodyPost_ret (results_cell_row rfl _ _ gb150 64 #[.string a0_0, .int .i64 a0_1, .int .i64 a0_2] (0, 0) _ rfl (by (with_reducible repeat (first | refine blk_drewN ?_ _ | refine blk_drew ?_ | refine blk_alloc ?_ _)); refine blk_put (cs := #[.string a0_0, .int .i64 a0_1, .int .i64 0]) ?_ 2 _ rfl; (with_reducible repeat (first | refine blk_drewN ?_ _ | refine blk_drew ?_ | refine blk_alloc ?_ _)); refine blk_put (cs := #[.string a0_0, .int .i64 0, .int .i64 0]) ?_ 1 _ rfl; (with_reducible repeat (first | refine blk_drewN ?_ _ | refine blk_drew ?_ | refine blk_alloc ?_ _)); refine blk_put (cs := #[.string (⟨#[]⟩ : ByteArray), .int .i64 0, .int .i64 0]) ?_ 0 _ rfl; (with_reducible repeat (first | refine blk_drewN ?_ _ | refine blk_drew ?_ | refine blk_alloc ?_ _)); refine blk_far ?_ NB150_151.out _; (with_reducible repeat (first | refine blk_drewN ?_ _ | refine blk_drew ?_ | refine blk_alloc ?_ _)); refine blk_far ?_ NB150_151.out _; (with_reducible repeat (first | refine blk_drewN ?_ _ | refine blk_drew ?_ | refine blk_alloc ?_ _)); refine blk_far ?_ NB150_151.out _; (with_reducible repeat (first | refine blk_drewN ?_ _ | refine blk_drew ?_ | refine blk_alloc ?_ _)); exact BK150.out) Try.underlying64 rfl (by kernel_rfl)) rfl ?_
  exact ⟨ER, (BB3 HB.out GE149.out GE150.out GE151.out)⟩

end Go.Proofs.Ytdlcnldgiclpgaa.Pr

/- Printed out of the translation by this session's pr.py over the kit's print. Lean checks it. -/
namespace Go.Proofs.Ytdlcnldgiclpgaa.Pr
open Go.RowKit Go.Proofs.YtdlcnldgiclpgaaW.PrintWords Go.Proofs.YtdlcnldgiclpgaaW.PrintLast Go.Proofs.YtdlcnldgiclpgaaW.PrintMore
attribute [local go_sem] max2_int min2_int max_two min_two max_three min_three max_four min_four
set_option linter.unusedVariables false
set_option linter.unusedSimpArgs false

/-! ### laws_toLeaseS: function 17 -/
def laws_toLeaseS.l0 : Nat → List (S63) → List (S64) → Int → Option ((List (S64)))
  | 0, _, _, _ => none
  | k + 1, x0, x3, x4 => if x4 < (x0.length : Int) then (if 0 ≤ x4 then ((laws_toLease.f ((rd_T63 x0 x4).f0) ((rd_T63 x0 x4).f1) ((rd_T63 x0 x4).f2)).bind fun bt156 => (if x4 < (x3.length : Int) then (laws_toLeaseS.l0 k x0 (x3.set (x4 : Int).toNat (⟨bt156.1, bt156.2.1, bt156.2.2⟩ : S64)) (wrap64 (x4 + 1))) else (none))) else (none)) else (some x3)
def laws_toLeaseS.f (k : Nat) (l0 : List (S63)) : Option ((List (S64))) := if 0 ≤ (l0.length : Int) then (if ((l0.length : Int) : Int).toNat ≤ 8796093022208 then (laws_toLeaseS.l0 k l0 (List.replicate ((l0.length : Int) : Int).toNat z64) 0) else (none)) else (none)
set_option maxHeartbeats 8000000 in
set_option maxRecDepth 100000 in
theorem laws_toLeaseS.calls (k : Nat) (A0 : Option Addr) (c0 : Nat) (l0 : List (S63)) (r : List (S64)) (w : World) (hr0 : Kd.C k63 w A0 l0.length l0) (hc0 : l0.length ≤ c0) (h : laws_toLeaseS.f k l0 = some r) :
    Calls Try.prog 17 #[.slice A0 l0.length c0] w fun e w' => ∃ v0_ : Value, e = .returned (v0_) ∧ Kd.R k64 64 w' w.heap.size (fun _ => True) v0_ r ∧ Below w.heap.size w w' := by
  have hu63 := Try.underlying63
  have hu64 := Try.underlying64
  have HR0 := Aside0.mk hr0
  have HC0 := Aside0.mk hc0
  clear hr0 hc0
  have HB := Aside0.mk (Below.refl w.heap.size w)
  have H : (if 0 ≤ (l0.length : Int) then (if ((l0.length : Int) : Int).toNat ≤ 8796093022208 then (laws_toLeaseS.l0 k l0 (List.replicate ((l0.length : Int) : Int).toNat z64) 0) else (none)) else (none)) = some r := h
  clear h
  by_cases c2 : 0 ≤ (l0.length : Int)
  · rw [if_pos c2] at H
    have c2b0 := eq_true c2
    have c2b1 : decide (0 ≤ (l0.length : Int)) = true := decide_eq_true c2
    clear c2
    by_cases c3 : ((l0.length : Int) : Int).toNat ≤ 8796093022208
    · rw [if_pos c3] at H
      have c3b0 := eq_true c3
      have c3b1 : decide (((l0.length : Int) : Int).toNat ≤ 8796093022208) = true := decide_eq_true c3
      clear c3
      obtain ⟨y152, hy152⟩ : ∃ y_ : List (S64), y_ = (List.replicate ((l0.length : Int) : Int).toNat z64) := ⟨_, rfl⟩
      replace H : (laws_toLeaseS.l0 k l0 y152 0) = some r := by first | (rw [hy152]; with_reducible exact H) | (have H2_ := (Option.bind_some _ _).symm.trans H; rw [hy152]; with_reducible exact H2_) | (have H2_ := (Option.bind_some _ _).symm.trans H; with_reducible exact H2_) | with_reducible exact H | (rw [hy152]; exact H) | exact H
      have Ny152 := Aside0.mk hy152
      clear hy152
      have H' := Aside0.mk H
      clear H
      go_enter Try.func17, Try.ntmps17
      go_wp2_with (first | ((with_reducible refine gate_dst (N := 7) rfl ?_); refine Kd.R_make k64 _ 64 rfl (N := 7) rfl 35 _ _ rfl (l0.length : Int) rfl rfl Try.underlying35 (.agg #[(.string ⟨#[]⟩), (.int .i64 0), (.int .i64 0)]) 32 info64 rfl (by decide) (by omega) z64 (ok := fun _ => True) (okp := fun _ => True) (k64_mkM _ _ _ z64 ) (fun _ hk => hk) trivial DT (Nat.le_trans (Nat.mul_le_mul_right _ (DT : (l0.length : Int).toNat ≤ 8796093022208)) (by omega)) (Below.refl _ _) (Nat.le_refl _) ?_; intro v153 w4 ho5 hb hg_ hnew_; clear hg_ hnew_; (first | rw [← Ny152.out] at ho5 | (simp only [Int.reduceToNat] at ho5; rw [← Ny152.out] at ho5)); have HO154 := Aside0.mk (Kd.R_lower ho5 (below_size (BB HB.out))); replace HB := Aside0.mk (below_step (BB HB.out) hb); clear hb ho5))
      go_loopg [4] k (fun kq v4 w' => ∃ (x3_1 : List (S64)) (x4_1 : Int), v4 = .int .i64 x4_1 ∧ Aside0 (laws_toLeaseS.l0 kq l0 x3_1 x4_1 = some r) ∧ Aside0 (kq ≤ k) ∧ Aside0 (Kd.R k64 64 w' w.heap.size (fun _ => True) v153 x3_1) ∧ Aside0 (Below w.heap.size w w'))
      case atStart => exact ⟨(y152), (0), FR, H', ⟨Nat.le_refl _⟩, ⟨(RR HO154.out)⟩, ⟨(BB HB.out)⟩⟩
      case round =>
        clear H'
        try clear c1
        try clear c2
        try clear c2b0
        try clear c2b1
        try clear p2
        try clear c3
        try clear c3b0
        try clear c3b1
        obtain ⟨x3_1, x4_1, rfl, HA, HK1, HO_3, HB⟩ := hrel
        cases gk with
        | zero => exact absurd HA.out (by simp [laws_toLeaseS.l0])
        | succ k1 =>
          have H := HA.out
          clear HA
          simp only [laws_toLeaseS.l0] at H
          by_cases c6 : x4_1 < (l0.length : Int)
          · rw [if_pos c6] at H
            have c6b0 : decide (x4_1 < (l0.length : Int)) = true := decide_eq_true c6
            clear c6
            by_cases c7 : 0 ≤ x4_1
            · rw [if_pos c7] at H
              have c7b0 : decide (0 ≤ x4_1) = true := decide_eq_true c7
              clear c7
              replace H := Option.bind_eq_some_iff.mp H
              obtain ⟨⟨t156, t157, t158⟩, A80, H⟩ := H
              replace H : (if x4_1 < (x3_1.length : Int) then (laws_toLeaseS.l0 k1 l0 (x3_1.set (x4_1 : Int).toNat (⟨t156, t157, t158⟩ : S64)) (wrap64 (x4_1 + 1))) else (none)) = some r := H
              have A8 := Aside0.mk A80
              clear A80
              by_cases c9 : x4_1 < (x3_1.length : Int)
              · rw [if_pos c9] at H
                have c9b0 : decide (x4_1 < (x3_1.length : Int)) = true := decide_eq_true c9
                clear c9
                obtain ⟨y159, hy159⟩ : ∃ y_ : List (S64), y_ = (x3_1.set (x4_1 : Int).toNat (⟨t156, t157, t158⟩ : S64)) := ⟨_, rfl⟩
                replace H : (laws_toLeaseS.l0 k1 l0 y159 (wrap64 (x4_1 + 1))) = some r := by first | (rw [hy159]; with_reducible exact H) | (have H2_ := (Option.bind_some _ _).symm.trans H; rw [hy159]; with_reducible exact H2_) | (have H2_ := (Option.bind_some _ _).symm.trans H; with_reducible exact H2_) | with_reducible exact H | (rw [hy159]; exact H) | exact H
                have Ny159 := Aside0.mk hy159
                clear hy159
                have H' := Aside0.mk H
                clear H
                have p155 : 0 ≤ (x4_1 : Int) := DT
                have q155 : x4_1 < (l0.length : Int) := DT
                obtain ⟨ad155, e155, hx155_0, hx155_1, hx155_2⟩ := at_T63 HR0.out x4_1 p155 q155
                cases e155
                replace hx155_0 := (HB.out.cell (World.block_lt_of_cell? w _ hx155_0)).trans hx155_0
                replace hx155_1 := (HB.out.cell (World.block_lt_of_cell? w _ hx155_1)).trans hx155_1
                replace hx155_2 := (HB.out.cell (World.block_lt_of_cell? w _ hx155_2)).trans hx155_2
                replace p155 := eq_true p155
                replace q155 := eq_true q155
                go_wp2_with (first | ((with_reducible refine gate_callee (f := 39) rfl ?_); refine GL (some 20) rfl rfl Try.func39 #[.agg #[.string ((rd_T63 l0 x4_1).f0), .int .i64 ((rd_T63 l0 x4_1).f1), .int .i64 ((rd_T63 l0 x4_1).f2)]] rfl ?_; (with_reducible refine (laws_toLease.calls ((rd_T63 l0 x4_1).f0) ((rd_T63 l0 x4_1).f1) ((rd_T63 l0 x4_1).f2) t156 t157 t158 _ A8.out).mono ?_); rintro e w11 ⟨rfl, hb⟩; refine ⟨_, rfl, ?_⟩; replace HO_3 := Aside0.mk (Kd.R_below (RR HO_3.out) hb); replace HB := Aside0.mk (below_step (BB HB.out) hb); (try clear hb); have p10 : 0 ≤ (x4_1 : Int) := DT; have q10 : (x4_1 : Int) < ((x3_1.length : Int) : Int) := DT; obtain ⟨go10, co10, eo10, gb10, gl10, cl10, HG10⟩ := Kd.R_form HO_3.out (by omega); (first | cases eo10 | (injection eo10 with ea_ en_ ec_; (first | subst ea_ | (injection ea_ with ea_; subst ea_)); subst ec_; clear en_)); have GB10 := Aside0.mk gb10; have GG10 := Aside0.mk HG10; clear gb10 gl10 HG10; obtain ⟨ce10, hcl10, hM10, hcc10, hfr10⟩ := Kd.R_elem HO_3.out z64 (x4_1 : Int) p10 q10; obtain rfl := k64_openM hM10; have hx10_0 : w11.cell? ⟨go10, (x4_1 : Int).toNat * 3, none⟩ = some (.string ((rd_T64 x3_1 x4_1).f0)) := hcc10 0 _ rfl; have hx10_1 : w11.cell? ⟨go10, (x4_1 : Int).toNat * 3 + 1, none⟩ = some (.int .i64 ((rd_T64 x3_1 x4_1).f1)) := hcc10 1 _ rfl; have hx10_2 : w11.cell? ⟨go10, (x4_1 : Int).toNat * 3 + 2, none⟩ = some (.int .i64 ((rd_T64 x3_1 x4_1).f2)) := hcc10 2 _ rfl; have hf10_0 : w11.frozen? ⟨go10, (x4_1 : Int).toNat * 3, none⟩ = false := hfr10 0; have hf10_1 : w11.frozen? ⟨go10, (x4_1 : Int).toNat * 3 + 1, none⟩ = false := hfr10 1; have hf10_2 : w11.frozen? ⟨go10, (x4_1 : Int).toNat * 3 + 2, none⟩ = false := hfr10 2; clear hcl10 hcc10 hfr10 hM10; replace p10 := eq_true p10; replace q10 := eq_true q10; have HX12 := Aside0.mk (show Kd.R k64 64 w11 w.heap.size (fun _ => True) (.slice (some ⟨go10, 0, none⟩) x3_1.length co10) x3_1 from (RR HO_3.out)); obtain ⟨ce12, hcl12, hM12, hcc12, hfr12⟩ := Kd.R_elem HX12.out z64 (x4_1 : Int) DT (by have h_ : (x4_1 : Int) < ((x3_1.length : Int) : Int) := DT; first | exact h_ | (have e_ := (Kd.R_reads' HO_3.out).1; omega) | simpa using h_); obtain rfl := k64_openM hM12; have HP12 := Kd.R_seg HX12.out (x4_1 : Int) DT (by have h_ : (x4_1 : Int) < ((x3_1.length : Int) : Int) := DT; first | exact h_ | (have e_ := (Kd.R_reads' HO_3.out).1; omega) | simpa using h_) (seg := [.string t156, .int .i64 t157, .int .i64 t158]) (j := 0) hcl12 hcc12 (show 3 ≤ 3 from by decide) (x' := (⟨t156, t157, t158⟩ : S64)) (k64_mkM _ _ _ (⟨t156, t157, t158⟩ : S64) ) (fun _ hk => hk); have hx12_0 := hcc12 0 _ rfl; (try simp only [show (k64).sz = 3 from rfl, Nat.mul_one, Nat.add_zero] at hx12_0); have hf12_0 := hfr12 0; (try simp only [show (k64).sz = 3 from rfl, Nat.mul_one, Nat.add_zero] at hf12_0); have hx12_1 := hcc12 1 _ rfl; (try simp only [show (k64).sz = 3 from rfl, Nat.mul_one, Nat.add_zero] at hx12_1); have hf12_1 := hfr12 1; (try simp only [show (k64).sz = 3 from rfl, Nat.mul_one, Nat.add_zero] at hf12_1); have hx12_2 := hcc12 2 _ rfl; (try simp only [show (k64).sz = 3 from rfl, Nat.mul_one, Nat.add_zero] at hx12_2); have hf12_2 := hfr12 2; (try simp only [show (k64).sz = 3 from rfl, Nat.mul_one, Nat.add_zero] at hf12_2); clear hcl12 hcc12 hfr12 hM12) | ((with_reducible refine gate_store (t := 64) (p := 21) rfl ?_); refine store_event (t := 64) (p := 21) (v := ?vo_w13) (w1 := (((w11.setCell ⟨go10, (x4_1 : Int).toNat * 3, none⟩ (.string t156)).setCell ⟨go10, (x4_1 : Int).toNat * 3 + 1, none⟩ (.int .i64 t157)).setCell ⟨go10, (x4_1 : Int).toNat * 3 + 2, none⟩ (.int .i64 t158))) ?hg ?ho ?hn ?hr ?_; (case ho => rfl); (case hg => rfl); (case hn => rfl); (case hr => first | (go_simp; done) | (go_simp; rfl)); intro w13 hw; have hg : w11.grownBy w13 (some go10) := (by rw [hw]; exact HP12.2); have hp_ : Kd.R k64 64 w13 w.heap.size (fun _ => True) (.slice (some ⟨go10, 0, none⟩) x3_1.length co10) y159 := (by rw [hw, Ny159.out]; exact HP12.1); clear HP12; have n0_ := Aside0.mk (hp_); have n1_ := Aside0.mk ((by rw [hw]; exact below_set (below_set (below_set (HB.out) GB10.out) GB10.out) GB10.out : Below w.heap.size w w13)); clear HO_3; clear HB; have HO_3 := n0_; have HB := n1_; clear n0_ n1_; clear hg hw hp_))
                go_roundg k1
                case measure => have := HK1.out; omega
                case rel => exact ⟨(y159), (wrap64 (x4_1 + 1)), FR, H', ⟨by have := HK1.out; omega⟩, ⟨(RR HO_3.out)⟩, ⟨(BB HB.out)⟩⟩
              · rw [if_neg c9] at H
                exact absurd H (by simp)
            · rw [if_neg c7] at H
              exact absurd H (by simp)
          · rw [if_neg c6] at H
            have c6b0 : decide (x4_1 < (l0.length : Int)) = false := decide_eq_false c6
            clear c6
            obtain rfl := Option.some.inj H
            go_wp2
            go_ret
            exact ⟨_, ER, by (with_reducible repeat (first | apply Kd.R_alloc | apply Kd.R_drewN | apply Kd.R_drew)); exact HO_3.out, (BB HB.out)⟩
    · rw [if_neg c3] at H
      exact absurd H (by simp)
  · rw [if_neg c2] at H
    exact absurd H (by simp)

end Go.Proofs.Ytdlcnldgiclpgaa.Pr

/- Printed out of the translation by this session's pr.py over the kit's print. Lean checks it. -/
namespace Go.Proofs.Ytdlcnldgiclpgaa.Pr
open Go.RowKit Go.Proofs.YtdlcnldgiclpgaaW.PrintWords Go.Proofs.YtdlcnldgiclpgaaW.PrintLast Go.Proofs.YtdlcnldgiclpgaaW.PrintMore
attribute [local go_sem] max2_int min2_int max_two min_two max_three min_three max_four min_four
set_option linter.unusedVariables false
set_option linter.unusedSimpArgs false

/-! ### laws_eqLease: function 40 -/
def laws_eqLease.f (a0_0 : ByteArray) (a0_1 : Int) (a0_2 : Int) (a1_0 : ByteArray) (a1_1 : Int) (a1_2 : Int) : Option (Bool) := if a0_0.toList = a1_0.toList then (if a0_1 = a1_1 then (if a0_2 = a1_2 then (some true) else (some false)) else (some false)) else (some false)
set_option maxHeartbeats 8000000 in
set_option maxRecDepth 100000 in
theorem laws_eqLease.calls (a0_0 : ByteArray) (a0_1 : Int) (a0_2 : Int) (a1_0 : ByteArray) (a1_1 : Int) (a1_2 : Int) (r : Bool) (w : World) (h : laws_eqLease.f a0_0 a0_1 a0_2 a1_0 a1_1 a1_2 = some r) :
    Calls Try.prog 40 #[.agg #[.string a0_0, .int .i64 a0_1, .int .i64 a0_2], .agg #[.string a1_0, .int .i64 a1_1, .int .i64 a1_2]] w fun e w' => e = .returned (.bool r) ∧ Below w.heap.size w w' := by
  have hu64 := Try.underlying64
  have HB := Aside0.mk (Below.refl w.heap.size w)
  have H : (if a0_0.toList = a1_0.toList then (if a0_1 = a1_1 then (if a0_2 = a1_2 then (some true) else (some false)) else (some false)) else (some false)) = some r := h
  clear h
  by_cases c3 : a0_0.toList = a1_0.toList
  · rw [if_pos c3] at H
    have c3b0 : (a0_0.toList == a1_0.toList) = true := beq_iff_eq.mpr c3
    have c3b1 : (a0_0.toList != a1_0.toList) = false := bne_eq_false_iff_eq.mpr c3
    clear c3
    by_cases c4 : a0_1 = a1_1
    · rw [if_pos c4] at H
      have c4b0 : (a0_1 == a1_1) = true := beq_iff_eq.mpr c4
      have c4b1 : (a0_1 != a1_1) = false := bne_eq_false_iff_eq.mpr c4
      clear c4
      by_cases c5 : a0_2 = a1_2
      · rw [if_pos c5] at H
        have c5b0 : (a0_2 == a1_2) = true := beq_iff_eq.mpr c5
        have c5b1 : (a0_2 != a1_2) = false := bne_eq_false_iff_eq.mpr c5
        clear c5
        obtain rfl := Option.some.inj H
        go_enter Try.func40, Try.ntmps40
        go_wp2_with (first | ((with_reducible refine gate_dst (N := 2) rfl ?_); refine BX 2 #[.string a0_0, .int .i64 a0_1, .int .i64 a0_2] 64 ?_; intro gb162 hg w6 hbox hb; have BK162 := Aside0.mk (hbox); have GW162 : Aside0 (w.heap.size ≤ gb162) := WG hg (BB HB.out); have GE162 := GW162; replace HB := Aside0.mk (below_step (BB HB.out) hb); clear hb hbox hg) | ((with_reducible refine gate_dst (N := 3) rfl ?_); refine BX 3 #[.string a1_0, .int .i64 a1_1, .int .i64 a1_2] 64 ?_; intro gb163 hg w7 hbox hb; have BK163 := Aside0.mk (hbox); have GW163 : Aside0 (w.heap.size ≤ gb163) := WG hg (BB1 HB.out GE162.out); have GE163 := GW163; have NB162_163 := NL BK162.out hg; have NB163_162 := NG BK162.out hg; replace BK162 := Aside0.mk (KB BK162.out hb); replace HB := Aside0.mk (below_step (BB1 HB.out GE162.out) hb); clear hb hbox hg; have hnb8 := NB162_163.out; have hnc8 := NB163_162.out; have hcz9 := blk_cell BK162.out; have hfz9 := blk_frozen BK162.out; have hcz10 := blk_cell BK163.out; have hfz10 := blk_frozen BK163.out))
        go_ret
        exact ⟨ER, (BB2 HB.out GE162.out GE163.out)⟩
      · rw [if_neg c5] at H
        have c5b0 : (a0_2 == a1_2) = false := beq_eq_false_iff_ne.mpr c5
        have c5b1 : (a0_2 != a1_2) = true := bne_iff_ne.mpr c5
        obtain rfl := Option.some.inj H
        go_enter Try.func40, Try.ntmps40
        go_wp2_with (first | ((with_reducible refine gate_dst (N := 2) rfl ?_); refine BX 2 #[.string a0_0, .int .i64 a0_1, .int .i64 a0_2] 64 ?_; intro gb162 hg w11 hbox hb; have BK162 := Aside0.mk (hbox); have GW162 : Aside0 (w.heap.size ≤ gb162) := WG hg (BB HB.out); have GE162 := GW162; replace HB := Aside0.mk (below_step (BB HB.out) hb); clear hb hbox hg) | ((with_reducible refine gate_dst (N := 3) rfl ?_); refine BX 3 #[.string a1_0, .int .i64 a1_1, .int .i64 a1_2] 64 ?_; intro gb163 hg w12 hbox hb; have BK163 := Aside0.mk (hbox); have GW163 : Aside0 (w.heap.size ≤ gb163) := WG hg (BB1 HB.out GE162.out); have GE163 := GW163; have NB162_163 := NL BK162.out hg; have NB163_162 := NG BK162.out hg; replace BK162 := Aside0.mk (KB BK162.out hb); replace HB := Aside0.mk (below_step (BB1 HB.out GE162.out) hb); clear hb hbox hg; have hnb13 := NB162_163.out; have hnc13 := NB163_162.out; have hcz14 := blk_cell BK162.out; have hfz14 := blk_frozen BK162.out; have hcz15 := blk_cell BK163.out; have hfz15 := blk_frozen BK163.out))
        go_ret
        exact ⟨ER, (BB2 HB.out GE162.out GE163.out)⟩
    · rw [if_neg c4] at H
      have c4b0 : (a0_1 == a1_1) = false := beq_eq_false_iff_ne.mpr c4
      have c4b1 : (a0_1 != a1_1) = true := bne_iff_ne.mpr c4
      obtain rfl := Option.some.inj H
      go_enter Try.func40, Try.ntmps40
      go_wp2_with (first | ((with_reducible refine gate_dst (N := 2) rfl ?_); refine BX 2 #[.string a0_0, .int .i64 a0_1, .int .i64 a0_2] 64 ?_; intro gb162 hg w16 hbox hb; have BK162 := Aside0.mk (hbox); have GW162 : Aside0 (w.heap.size ≤ gb162) := WG hg (BB HB.out); have GE162 := GW162; replace HB := Aside0.mk (below_step (BB HB.out) hb); clear hb hbox hg) | ((with_reducible refine gate_dst (N := 3) rfl ?_); refine BX 3 #[.string a1_0, .int .i64 a1_1, .int .i64 a1_2] 64 ?_; intro gb163 hg w17 hbox hb; have BK163 := Aside0.mk (hbox); have GW163 : Aside0 (w.heap.size ≤ gb163) := WG hg (BB1 HB.out GE162.out); have GE163 := GW163; have NB162_163 := NL BK162.out hg; have NB163_162 := NG BK162.out hg; replace BK162 := Aside0.mk (KB BK162.out hb); replace HB := Aside0.mk (below_step (BB1 HB.out GE162.out) hb); clear hb hbox hg; have hnb18 := NB162_163.out; have hnc18 := NB163_162.out; have hcz19 := blk_cell BK162.out; have hfz19 := blk_frozen BK162.out; have hcz20 := blk_cell BK163.out; have hfz20 := blk_frozen BK163.out))
      go_ret
      exact ⟨ER, (BB2 HB.out GE162.out GE163.out)⟩
  · rw [if_neg c3] at H
    have c3b0 : (a0_0.toList == a1_0.toList) = false := beq_eq_false_iff_ne.mpr c3
    have c3b1 : (a0_0.toList != a1_0.toList) = true := bne_iff_ne.mpr c3
    obtain rfl := Option.some.inj H
    go_enter Try.func40, Try.ntmps40
    go_wp2_with (first | ((with_reducible refine gate_dst (N := 2) rfl ?_); refine BX 2 #[.string a0_0, .int .i64 a0_1, .int .i64 a0_2] 64 ?_; intro gb162 hg w21 hbox hb; have BK162 := Aside0.mk (hbox); have GW162 : Aside0 (w.heap.size ≤ gb162) := WG hg (BB HB.out); have GE162 := GW162; replace HB := Aside0.mk (below_step (BB HB.out) hb); clear hb hbox hg) | ((with_reducible refine gate_dst (N := 3) rfl ?_); refine BX 3 #[.string a1_0, .int .i64 a1_1, .int .i64 a1_2] 64 ?_; intro gb163 hg w22 hbox hb; have BK163 := Aside0.mk (hbox); have GW163 : Aside0 (w.heap.size ≤ gb163) := WG hg (BB1 HB.out GE162.out); have GE163 := GW163; have NB162_163 := NL BK162.out hg; have NB163_162 := NG BK162.out hg; replace BK162 := Aside0.mk (KB BK162.out hb); replace HB := Aside0.mk (below_step (BB1 HB.out GE162.out) hb); clear hb hbox hg; have hnb23 := NB162_163.out; have hnc23 := NB163_162.out; have hcz24 := blk_cell BK162.out; have hfz24 := blk_frozen BK162.out; have hcz25 := blk_cell BK163.out; have hfz25 := blk_frozen BK163.out))
    go_ret
    exact ⟨ER, (BB2 HB.out GE162.out GE163.out)⟩

end Go.Proofs.Ytdlcnldgiclpgaa.Pr

/- Printed out of the translation by this session's pr.py over the kit's print. Lean checks it. -/
namespace Go.Proofs.Ytdlcnldgiclpgaa.Pr
open Go.RowKit Go.Proofs.YtdlcnldgiclpgaaW.PrintWords Go.Proofs.YtdlcnldgiclpgaaW.PrintLast Go.Proofs.YtdlcnldgiclpgaaW.PrintMore
attribute [local go_sem] max2_int min2_int max_two min_two max_three min_three max_four min_four
set_option linter.unusedVariables false
set_option linter.unusedSimpArgs false

/-! ### laws_eqLeaseS: function 19 -/
def laws_eqLeaseS.l0 : Nat → List (S64) → List (S64) → Int → Option (Bool)
  | 0, _, _, _ => none
  | k + 1, x0, x1, x5 => if x5 < (x0.length : Int) then (if 0 ≤ x5 then (if x5 < (x1.length : Int) then ((laws_eqLease.f ((rd_T64 x0 x5).f0) ((rd_T64 x0 x5).f1) ((rd_T64 x0 x5).f2) ((rd_T64 x1 x5).f0) ((rd_T64 x1 x5).f1) ((rd_T64 x1 x5).f2)).bind fun t166 => (if t166 = true then (laws_eqLeaseS.l0 k x0 x1 (wrap64 (x5 + 1))) else (some false))) else (none)) else (none)) else (some true)
def laws_eqLeaseS.f (k : Nat) (l0 : List (S64)) (l1 : List (S64)) : Option (Bool) := if (l0.length : Int) = (l1.length : Int) then (laws_eqLeaseS.l0 k l0 l1 0) else (some false)
def laws_eqLeaseS.T6 : Bool × List (List Nat × List Nat) := (true, [([], []), ([], []), ([0, 1], [0, 1]), ([2], [2]), ([], []), ([], []), ([4, 5], [4, 5]), ([6], [6]), ([3, 7], [3, 7]), ([8], [8])])
def laws_eqLeaseS.B6 : List Nat := [0, 0, 3, 7, 0, 0, 48, 112, 255, 511]
theorem laws_eqLeaseS.tab6 : rtab .any (opsOf Try.f19 6) = laws_eqLeaseS.T6 := by kernel_rfl
theorem laws_eqLeaseS.bits6 : waitsOk laws_eqLeaseS.T6.2 laws_eqLeaseS.B6 = true := by kernel_rfl
set_option maxHeartbeats 8000000 in
set_option maxRecDepth 100000 in
theorem laws_eqLeaseS.calls (k : Nat) (A0 : Option Addr) (c0 : Nat) (l0 : List (S64)) (A1 : Option Addr) (c1 : Nat) (l1 : List (S64)) (r : Bool) (w : World) (hr0 : Kd.C k64 w A0 l0.length l0) (hc0 : l0.length ≤ c0) (hr1 : Kd.C k64 w A1 l1.length l1) (hc1 : l1.length ≤ c1) (h : laws_eqLeaseS.f k l0 l1 = some r) :
    Calls Try.prog 19 #[.slice A0 l0.length c0, .slice A1 l1.length c1] w fun e w' => e = .returned (.bool r) ∧ Below w.heap.size w w' := by
  have hu64 := Try.underlying64
  have HR0 := Aside0.mk hr0
  have HC0 := Aside0.mk hc0
  clear hr0 hc0
  have HR1 := Aside0.mk hr1
  have HC1 := Aside0.mk hc1
  clear hr1 hc1
  have HB := Aside0.mk (Below.refl w.heap.size w)
  have H : (if (l0.length : Int) = (l1.length : Int) then (laws_eqLeaseS.l0 k l0 l1 0) else (some false)) = some r := h
  clear h
  by_cases c3 : (l0.length : Int) = (l1.length : Int)
  · rw [if_pos c3] at H
    have c3b0 : ((l0.length : Int) == (l1.length : Int)) = true := beq_iff_eq.mpr c3
    have c3b1 : ((l0.length : Int) != (l1.length : Int)) = false := bne_eq_false_iff_eq.mpr c3
    have c3b2 : (l0.length == l1.length) = true := by first | simpa using c3 | (simp at c3 ⊢; omega)
    clear c3
    have H' := Aside0.mk H
    clear H
    go_enter Try.func19, Try.ntmps19
    go_wp2
    go_loopg [5] k (fun kq v5 w' => ∃ (x5_1 : Int), v5 = .int .i64 x5_1 ∧ Aside0 (laws_eqLeaseS.l0 kq l0 l1 x5_1 = some r) ∧ Aside0 (kq ≤ k) ∧ Aside0 (Below w.heap.size w w'))
    case atStart => exact ⟨(0), FR, H', ⟨Nat.le_refl _⟩, ⟨(BB HB.out)⟩⟩
    case round =>
      clear H'
      try clear c1
      try clear p2
      try clear c3
      try clear c3b0
      try clear c3b1
      try clear c3b2
      obtain ⟨x5_1, rfl, HA, HK1, HB⟩ := hrel
      cases gk with
      | zero => exact absurd HA.out (by simp [laws_eqLeaseS.l0])
      | succ k1 =>
        have H := HA.out
        clear HA
        simp only [laws_eqLeaseS.l0] at H
        by_cases c4 : x5_1 < (l0.length : Int)
        · rw [if_pos c4] at H
          have c4b0 : decide (x5_1 < (l0.length : Int)) = true := decide_eq_true c4
          clear c4
          by_cases c5 : 0 ≤ x5_1
          · rw [if_pos c5] at H
            have c5b0 : decide (0 ≤ x5_1) = true := decide_eq_true c5
            clear c5
            by_cases c6 : x5_1 < (l1.length : Int)
            · rw [if_pos c6] at H
              have c6b0 : decide (x5_1 < (l1.length : Int)) = true := decide_eq_true c6
              clear c6
              replace H := Option.bind_eq_some_iff.mp H
              obtain ⟨t166, A70, H⟩ := H
              replace H : (if t166 = true then (laws_eqLeaseS.l0 k1 l0 l1 (wrap64 (x5_1 + 1))) else (some false)) = some r := H
              have A7 := Aside0.mk A70
              clear A70
              by_cases c8 : t166 = true
              · subst c8
                have H1 : (laws_eqLeaseS.l0 k1 l0 l1 (wrap64 (x5_1 + 1))) = some r := by rw [if_pos rfl] at H; exact H
                clear H
                have H := H1
                clear H1
                have H' := Aside0.mk H
                clear H
                try go_wp2
                have n0_ := Aside0.mk (below_drew1 HB.out)
                clear HB
                have HB := n0_
                clear n0_
                have p164 : 0 ≤ (x5_1 : Int) := DT
                have q164 : x5_1 < (l0.length : Int) := DT
                obtain ⟨ad164, e164, hx164_0, hx164_1, hx164_2⟩ := at_T64 HR0.out x5_1 p164 q164
                have hw164_2 := hx164_2
                have hw164_1 := hx164_1
                have hw164_0 := hx164_0
                cases e164
                replace hx164_0 := (HB.out.cell (World.block_lt_of_cell? w _ hx164_0)).trans hx164_0
                replace hx164_1 := (HB.out.cell (World.block_lt_of_cell? w _ hx164_1)).trans hx164_1
                replace hx164_2 := (HB.out.cell (World.block_lt_of_cell? w _ hx164_2)).trans hx164_2
                replace p164 := eq_true p164
                replace q164 := eq_true q164
                have p165 : 0 ≤ (x5_1 : Int) := DT
                have q165 : x5_1 < (l1.length : Int) := DT
                obtain ⟨ad165, e165, hx165_0, hx165_1, hx165_2⟩ := at_T64 HR1.out x5_1 p165 q165
                have hw165_2 := hx165_2
                have hw165_1 := hx165_1
                have hw165_0 := hx165_0
                cases e165
                replace hx165_0 := (HB.out.cell (World.block_lt_of_cell? w _ hx165_0)).trans hx165_0
                replace hx165_1 := (HB.out.cell (World.block_lt_of_cell? w _ hx165_1)).trans hx165_1
                replace hx165_2 := (HB.out.cell (World.block_lt_of_cell? w _ hx165_2)).trans hx165_2
                replace p165 := eq_true p165
                replace q165 := eq_true q165
                refine start_ (n := 10) (S := fun w' => w'.cell? (ad164.add ((x5_1).toNat * 3)) = some (.string ((rd_T64 l0 x5_1).f0)) ∧ w'.cell? ⟨(ad164.add ((x5_1).toNat * 3)).block, (ad164.add ((x5_1).toNat * 3)).off + 1, none⟩ = some (.int .i64 ((rd_T64 l0 x5_1).f1)) ∧ w'.cell? ⟨(ad164.add ((x5_1).toNat * 3)).block, (ad164.add ((x5_1).toNat * 3)).off + 2, none⟩ = some (.int .i64 ((rd_T64 l0 x5_1).f2)) ∧ w'.cell? (ad165.add ((x5_1).toNat * 3)) = some (.string ((rd_T64 l1 x5_1).f0)) ∧ w'.cell? ⟨(ad165.add ((x5_1).toNat * 3)).block, (ad165.add ((x5_1).toNat * 3)).off + 1, none⟩ = some (.int .i64 ((rd_T64 l1 x5_1).f1)) ∧ w'.cell? ⟨(ad165.add ((x5_1).toNat * 3)).block, (ad165.add ((x5_1).toNat * 3)).off + 2, none⟩ = some (.int .i64 ((rd_T64 l1 x5_1).f2))) (ds := []) #[false, false, false, false, false, false, false, false, false, false] (by kernel_rfl) rfl rfl ⟨((HB.out.cell (World.block_lt_of_cell? w _ hw164_0)).trans hw164_0), ((HB.out.cell (World.block_lt_of_cell? w _ hw164_1)).trans hw164_1), ((HB.out.cell (World.block_lt_of_cell? w _ hw164_2)).trans hw164_2), ((HB.out.cell (World.block_lt_of_cell? w _ hw165_0)).trans hw165_0), ((HB.out.cell (World.block_lt_of_cell? w _ hw165_1)).trans hw165_1), ((HB.out.cell (World.block_lt_of_cell? w _ hw165_2)).trans hw165_2)⟩ (fun hHeld => ?_); refine with_tabW laws_eqLeaseS.tab6 laws_eqLeaseS.bits6 (fun HT_ HW_ => ?_)
                generalize wr.drew = w9 at HB hx164_0 hx164_1 hx164_2 hx165_0 hx165_1 hx165_2 hHeld ⊢
                refine pure_ (i := 0) (N := some 17) (v := ?_) (a' := ?_) #[true, false, false, false, false, false, false, false, false, false] rfl rfl (any_of HT_.out (by kernel_rfl)) (fun _ _ _ h => h) (Or.inl ⟨by rfl, ?_⟩) ?_ ?_
                rotate_left
                · intro w'
                  go_simp
                  with_reducible rfl
                rotate_left
                · simp only [Act.put, List.setIfInBounds_toArray, List.set_cons_zero, List.set_cons_succ, i64_w, i32_w]
                  rfl
                refine pure_ (i := 1) (N := some 18) (v := ?_) (a' := ?_) #[true, true, false, false, false, false, false, false, false, false] rfl rfl (any_of HT_.out (by kernel_rfl)) (fun _ _ _ h => h) (Or.inl ⟨by rfl, ?_⟩) ?_ ?_
                rotate_left
                · intro w'
                  go_simp
                  with_reducible rfl
                rotate_left
                · simp only [Act.put, List.setIfInBounds_toArray, List.set_cons_zero, List.set_cons_succ, i64_w, i32_w]
                  rfl
                refine pure_ (i := 2) (N := some 19) (v := ?_) (a' := ?_) #[true, true, true, false, false, false, false, false, false, false] rfl rfl (any_of HT_.out (by kernel_rfl)) (fun _ _ _ h => h) (Or.inl ⟨by rfl, ?_⟩) ?_ ?_
                rotate_left
                · intro w'
                  go_simp
                  with_reducible rfl
                rotate_left
                · simp only [Act.put, List.setIfInBounds_toArray, List.set_cons_zero, List.set_cons_succ, i64_w, i32_w]
                  rfl
                refine pure_ (i := 4) (N := some 21) (v := ?_) (a' := ?_) #[true, true, true, false, true, false, false, false, false, false] rfl rfl (any_of HT_.out (by kernel_rfl)) (fun _ _ _ h => h) (Or.inl ⟨by rfl, ?_⟩) ?_ ?_
                rotate_left
                · intro w'
                  go_simp
                  with_reducible rfl
                rotate_left
                · simp only [Act.put, List.setIfInBounds_toArray, List.set_cons_zero, List.set_cons_succ, i64_w, i32_w]
                  rfl
                refine pure_ (i := 5) (N := some 22) (v := ?_) (a' := ?_) #[true, true, true, false, true, true, false, false, false, false] rfl rfl (any_of HT_.out (by kernel_rfl)) (fun _ _ _ h => h) (Or.inl ⟨by rfl, ?_⟩) ?_ ?_
                rotate_left
                · intro w'
                  go_simp
                  with_reducible rfl
                rotate_left
                · simp only [Act.put, List.setIfInBounds_toArray, List.set_cons_zero, List.set_cons_succ, i64_w, i32_w]
                  rfl
                refine pure_ (i := 6) (N := some 23) (v := ?_) (a' := ?_) #[true, true, true, false, true, true, true, false, false, false] rfl rfl (any_of HT_.out (by kernel_rfl)) (fun _ _ _ h => h) (Or.inl ⟨by rfl, ?_⟩) ?_ ?_
                rotate_left
                · intro w'
                  go_simp
                  with_reducible rfl
                rotate_left
                · simp only [Act.put, List.setIfInBounds_toArray, List.set_cons_zero, List.set_cons_succ, i64_w, i32_w]
                  rfl
                refine take_ (i := 3) (N := some 20) (v := ?_) (a' := ?_) #[true, true, true, true, true, true, true, false, false, false] rfl rfl (take_ofW HT_.out HW_.out (by kernel_rfl)) (fun _ _ _ h => h) (Or.inl ⟨by rfl, ?_⟩) hHeld ?_ ?_
                rotate_left
                · rintro w' ⟨s0, s1, s2, s3, s4, s5⟩
                  go_simp
                  with_reducible rfl
                rotate_left
                · simp only [Act.put, List.setIfInBounds_toArray, List.set_cons_zero, List.set_cons_succ, i64_w, i32_w]
                  rfl
                refine take_ (i := 7) (N := some 24) (v := ?_) (a' := ?_) #[true, true, true, true, true, true, true, true, false, false] rfl rfl (take_ofW HT_.out HW_.out (by kernel_rfl)) (fun _ _ _ h => h) (Or.inl ⟨by rfl, ?_⟩) hHeld ?_ ?_
                rotate_left
                · rintro w' ⟨s0, s1, s2, s3, s4, s5⟩
                  go_simp
                  with_reducible rfl
                rotate_left
                · simp only [Act.put, List.setIfInBounds_toArray, List.set_cons_zero, List.set_cons_succ, i64_w, i32_w]
                  rfl
                refine one_ (i := 8) (N := some 25) #[true, true, true, true, true, true, true, true, true, false] rfl rfl (one_of HT_.out (by kernel_rfl)) (by decide) (fun K hK => ?_)
                refine goes_ Try.func40 (by kernel_rfl) rfl #[.agg #[.string ((rd_T64 l0 x5_1).f0), .int .i64 ((rd_T64 l0 x5_1).f1), .int .i64 ((rd_T64 l0 x5_1).f2)], .agg #[.string ((rd_T64 l1 x5_1).f0), .int .i64 ((rd_T64 l1 x5_1).f1), .int .i64 ((rd_T64 l1 x5_1).f2)]] (by rfl) rfl rfl (by (try simp only [List.map_toArray, List.map_cons, List.map_nil]); first | done | rfl | (simp only [List.length_drop, List.length_take]; rfl)) ?_
                with_reducible refine (laws_eqLease.calls ((rd_T64 l0 x5_1).f0) ((rd_T64 l0 x5_1).f1) ((rd_T64 l0 x5_1).f2) ((rd_T64 l1 x5_1).f0) ((rd_T64 l1 x5_1).f1) ((rd_T64 l1 x5_1).f2) true _ A7.out).mono ?_
                rintro e w10 ⟨rfl, hb⟩
                refine ⟨_, rfl, ?_⟩
                have n0_ := Aside0.mk (below_step (BB HB.out) hb)
                clear HB
                have HB := n0_
                clear n0_
                (try clear hb)
                (try clear hb2)
                (try clear hk)
                (try clear hi)
                refine hK.out _ _ ⟨((HB.out.cell (World.block_lt_of_cell? w _ hw164_0)).trans hw164_0), ((HB.out.cell (World.block_lt_of_cell? w _ hw164_1)).trans hw164_1), ((HB.out.cell (World.block_lt_of_cell? w _ hw164_2)).trans hw164_2), ((HB.out.cell (World.block_lt_of_cell? w _ hw165_0)).trans hw165_0), ((HB.out.cell (World.block_lt_of_cell? w _ hw165_1)).trans hw165_1), ((HB.out.cell (World.block_lt_of_cell? w _ hw165_2)).trans hw165_2)⟩ (fun hHeld => ?_)
                clear hK K
                refine norm_ (a' := ?_) ?_ ?_
                rotate_left
                · show Act.put _ (some 25) _ = _
                  simp only [Act.put, List.setIfInBounds_toArray, List.set_cons_zero, List.set_cons_succ, i64_w, i32_w]
                  rfl
                refine pure_ (i := 9) (N := some 26) (v := ?_) (a' := ?_) #[true, true, true, true, true, true, true, true, true, true] rfl rfl (any_of HT_.out (by kernel_rfl)) (fun _ _ _ h => h) (Or.inl ⟨by rfl, ?_⟩) ?_ ?_
                rotate_left
                · intro w'
                  go_simp
                  with_reducible rfl
                rotate_left
                · simp only [Act.put, List.setIfInBounds_toArray, List.set_cons_zero, List.set_cons_succ, i64_w, i32_w]
                  rfl
                refine done_ (done_of HT_.out (by kernel_rfl)) ?_
                try go_wp2
                go_roundg k1
                case measure => have := HK1.out; omega
                case rel => exact ⟨(wrap64 (x5_1 + 1)), FR, H', ⟨by have := HK1.out; omega⟩, ⟨(BB HB.out)⟩⟩
              · replace c8 := Bool.eq_false_iff.mpr c8
                subst c8
                have H1 : (some false) = some r := by rw [if_neg (show ¬ (false = true) by decide)] at H; exact H
                clear H
                have H := H1
                clear H1
                obtain rfl := Option.some.inj H
                try go_wp2
                have n0_ := Aside0.mk (below_drew1 HB.out)
                clear HB
                have HB := n0_
                clear n0_
                have p164 : 0 ≤ (x5_1 : Int) := DT
                have q164 : x5_1 < (l0.length : Int) := DT
                obtain ⟨ad164, e164, hx164_0, hx164_1, hx164_2⟩ := at_T64 HR0.out x5_1 p164 q164
                have hw164_2 := hx164_2
                have hw164_1 := hx164_1
                have hw164_0 := hx164_0
                cases e164
                replace hx164_0 := (HB.out.cell (World.block_lt_of_cell? w _ hx164_0)).trans hx164_0
                replace hx164_1 := (HB.out.cell (World.block_lt_of_cell? w _ hx164_1)).trans hx164_1
                replace hx164_2 := (HB.out.cell (World.block_lt_of_cell? w _ hx164_2)).trans hx164_2
                replace p164 := eq_true p164
                replace q164 := eq_true q164
                have p165 : 0 ≤ (x5_1 : Int) := DT
                have q165 : x5_1 < (l1.length : Int) := DT
                obtain ⟨ad165, e165, hx165_0, hx165_1, hx165_2⟩ := at_T64 HR1.out x5_1 p165 q165
                have hw165_2 := hx165_2
                have hw165_1 := hx165_1
                have hw165_0 := hx165_0
                cases e165
                replace hx165_0 := (HB.out.cell (World.block_lt_of_cell? w _ hx165_0)).trans hx165_0
                replace hx165_1 := (HB.out.cell (World.block_lt_of_cell? w _ hx165_1)).trans hx165_1
                replace hx165_2 := (HB.out.cell (World.block_lt_of_cell? w _ hx165_2)).trans hx165_2
                replace p165 := eq_true p165
                replace q165 := eq_true q165
                refine start_ (n := 10) (S := fun w' => w'.cell? (ad164.add ((x5_1).toNat * 3)) = some (.string ((rd_T64 l0 x5_1).f0)) ∧ w'.cell? ⟨(ad164.add ((x5_1).toNat * 3)).block, (ad164.add ((x5_1).toNat * 3)).off + 1, none⟩ = some (.int .i64 ((rd_T64 l0 x5_1).f1)) ∧ w'.cell? ⟨(ad164.add ((x5_1).toNat * 3)).block, (ad164.add ((x5_1).toNat * 3)).off + 2, none⟩ = some (.int .i64 ((rd_T64 l0 x5_1).f2)) ∧ w'.cell? (ad165.add ((x5_1).toNat * 3)) = some (.string ((rd_T64 l1 x5_1).f0)) ∧ w'.cell? ⟨(ad165.add ((x5_1).toNat * 3)).block, (ad165.add ((x5_1).toNat * 3)).off + 1, none⟩ = some (.int .i64 ((rd_T64 l1 x5_1).f1)) ∧ w'.cell? ⟨(ad165.add ((x5_1).toNat * 3)).block, (ad165.add ((x5_1).toNat * 3)).off + 2, none⟩ = some (.int .i64 ((rd_T64 l1 x5_1).f2))) (ds := []) #[false, false, false, false, false, false, false, false, false, false] (by kernel_rfl) rfl rfl ⟨((HB.out.cell (World.block_lt_of_cell? w _ hw164_0)).trans hw164_0), ((HB.out.cell (World.block_lt_of_cell? w _ hw164_1)).trans hw164_1), ((HB.out.cell (World.block_lt_of_cell? w _ hw164_2)).trans hw164_2), ((HB.out.cell (World.block_lt_of_cell? w _ hw165_0)).trans hw165_0), ((HB.out.cell (World.block_lt_of_cell? w _ hw165_1)).trans hw165_1), ((HB.out.cell (World.block_lt_of_cell? w _ hw165_2)).trans hw165_2)⟩ (fun hHeld => ?_); refine with_tabW laws_eqLeaseS.tab6 laws_eqLeaseS.bits6 (fun HT_ HW_ => ?_)
                generalize wr.drew = w11 at HB hx164_0 hx164_1 hx164_2 hx165_0 hx165_1 hx165_2 hHeld ⊢
                refine pure_ (i := 0) (N := some 17) (v := ?_) (a' := ?_) #[true, false, false, false, false, false, false, false, false, false] rfl rfl (any_of HT_.out (by kernel_rfl)) (fun _ _ _ h => h) (Or.inl ⟨by rfl, ?_⟩) ?_ ?_
                rotate_left
                · intro w'
                  go_simp
                  with_reducible rfl
                rotate_left
                · simp only [Act.put, List.setIfInBounds_toArray, List.set_cons_zero, List.set_cons_succ, i64_w, i32_w]
                  rfl
                refine pure_ (i := 1) (N := some 18) (v := ?_) (a' := ?_) #[true, true, false, false, false, false, false, false, false, false] rfl rfl (any_of HT_.out (by kernel_rfl)) (fun _ _ _ h => h) (Or.inl ⟨by rfl, ?_⟩) ?_ ?_
                rotate_left
                · intro w'
                  go_simp
                  with_reducible rfl
                rotate_left
                · simp only [Act.put, List.setIfInBounds_toArray, List.set_cons_zero, List.set_cons_succ, i64_w, i32_w]
                  rfl
                refine pure_ (i := 2) (N := some 19) (v := ?_) (a' := ?_) #[true, true, true, false, false, false, false, false, false, false] rfl rfl (any_of HT_.out (by kernel_rfl)) (fun _ _ _ h => h) (Or.inl ⟨by rfl, ?_⟩) ?_ ?_
                rotate_left
                · intro w'
                  go_simp
                  with_reducible rfl
                rotate_left
                · simp only [Act.put, List.setIfInBounds_toArray, List.set_cons_zero, List.set_cons_succ, i64_w, i32_w]
                  rfl
                refine pure_ (i := 4) (N := some 21) (v := ?_) (a' := ?_) #[true, true, true, false, true, false, false, false, false, false] rfl rfl (any_of HT_.out (by kernel_rfl)) (fun _ _ _ h => h) (Or.inl ⟨by rfl, ?_⟩) ?_ ?_
                rotate_left
                · intro w'
                  go_simp
                  with_reducible rfl
                rotate_left
                · simp only [Act.put, List.setIfInBounds_toArray, List.set_cons_zero, List.set_cons_succ, i64_w, i32_w]
                  rfl
                refine pure_ (i := 5) (N := some 22) (v := ?_) (a' := ?_) #[true, true, true, false, true, true, false, false, false, false] rfl rfl (any_of HT_.out (by kernel_rfl)) (fun _ _ _ h => h) (Or.inl ⟨by rfl, ?_⟩) ?_ ?_
                rotate_left
                · intro w'
                  go_simp
                  with_reducible rfl
                rotate_left
                · simp only [Act.put, List.setIfInBounds_toArray, List.set_cons_zero, List.set_cons_succ, i64_w, i32_w]
                  rfl
                refine pure_ (i := 6) (N := some 23) (v := ?_) (a' := ?_) #[true, true, true, false, true, true, true, false, false, false] rfl rfl (any_of HT_.out (by kernel_rfl)) (fun _ _ _ h => h) (Or.inl ⟨by rfl, ?_⟩) ?_ ?_
                rotate_left
                · intro w'
                  go_simp
                  with_reducible rfl
                rotate_left
                · simp only [Act.put, List.setIfInBounds_toArray, List.set_cons_zero, List.set_cons_succ, i64_w, i32_w]
                  rfl
                refine take_ (i := 3) (N := some 20) (v := ?_) (a' := ?_) #[true, true, true, true, true, true, true, false, false, false] rfl rfl (take_ofW HT_.out HW_.out (by kernel_rfl)) (fun _ _ _ h => h) (Or.inl ⟨by rfl, ?_⟩) hHeld ?_ ?_
                rotate_left
                · rintro w' ⟨s0, s1, s2, s3, s4, s5⟩
                  go_simp
                  with_reducible rfl
                rotate_left
                · simp only [Act.put, List.setIfInBounds_toArray, List.set_cons_zero, List.set_cons_succ, i64_w, i32_w]
                  rfl
                refine take_ (i := 7) (N := some 24) (v := ?_) (a' := ?_) #[true, true, true, true, true, true, true, true, false, false] rfl rfl (take_ofW HT_.out HW_.out (by kernel_rfl)) (fun _ _ _ h => h) (Or.inl ⟨by rfl, ?_⟩) hHeld ?_ ?_
                rotate_left
                · rintro w' ⟨s0, s1, s2, s3, s4, s5⟩
                  go_simp
                  with_reducible rfl
                rotate_left
                · simp only [Act.put, List.setIfInBounds_toArray, List.set_cons_zero, List.set_cons_succ, i64_w, i32_w]
                  rfl
                refine one_ (i := 8) (N := some 25) #[true, true, true, true, true, true, true, true, true, false] rfl rfl (one_of HT_.out (by kernel_rfl)) (by decide) (fun K hK => ?_)
                refine goes_ Try.func40 (by kernel_rfl) rfl #[.agg #[.string ((rd_T64 l0 x5_1).f0), .int .i64 ((rd_T64 l0 x5_1).f1), .int .i64 ((rd_T64 l0 x5_1).f2)], .agg #[.string ((rd_T64 l1 x5_1).f0), .int .i64 ((rd_T64 l1 x5_1).f1), .int .i64 ((rd_T64 l1 x5_1).f2)]] (by rfl) rfl rfl (by (try simp only [List.map_toArray, List.map_cons, List.map_nil]); first | done | rfl | (simp only [List.length_drop, List.length_take]; rfl)) ?_
                with_reducible refine (laws_eqLease.calls ((rd_T64 l0 x5_1).f0) ((rd_T64 l0 x5_1).f1) ((rd_T64 l0 x5_1).f2) ((rd_T64 l1 x5_1).f0) ((rd_T64 l1 x5_1).f1) ((rd_T64 l1 x5_1).f2) false _ A7.out).mono ?_
                rintro e w12 ⟨rfl, hb⟩
                refine ⟨_, rfl, ?_⟩
                have n0_ := Aside0.mk (below_step (BB HB.out) hb)
                clear HB
                have HB := n0_
                clear n0_
                (try clear hb)
                (try clear hb2)
                (try clear hk)
                (try clear hi)
                refine hK.out _ _ ⟨((HB.out.cell (World.block_lt_of_cell? w _ hw164_0)).trans hw164_0), ((HB.out.cell (World.block_lt_of_cell? w _ hw164_1)).trans hw164_1), ((HB.out.cell (World.block_lt_of_cell? w _ hw164_2)).trans hw164_2), ((HB.out.cell (World.block_lt_of_cell? w _ hw165_0)).trans hw165_0), ((HB.out.cell (World.block_lt_of_cell? w _ hw165_1)).trans hw165_1), ((HB.out.cell (World.block_lt_of_cell? w _ hw165_2)).trans hw165_2)⟩ (fun hHeld => ?_)
                clear hK K
                refine norm_ (a' := ?_) ?_ ?_
                rotate_left
                · show Act.put _ (some 25) _ = _
                  simp only [Act.put, List.setIfInBounds_toArray, List.set_cons_zero, List.set_cons_succ, i64_w, i32_w]
                  rfl
                refine pure_ (i := 9) (N := some 26) (v := ?_) (a' := ?_) #[true, true, true, true, true, true, true, true, true, true] rfl rfl (any_of HT_.out (by kernel_rfl)) (fun _ _ _ h => h) (Or.inl ⟨by rfl, ?_⟩) ?_ ?_
                rotate_left
                · intro w'
                  go_simp
                  with_reducible rfl
                rotate_left
                · simp only [Act.put, List.setIfInBounds_toArray, List.set_cons_zero, List.set_cons_succ, i64_w, i32_w]
                  rfl
                refine done_ (done_of HT_.out (by kernel_rfl)) ?_
                try go_wp2
                go_ret
                exact ⟨ER, (BB HB.out)⟩
            · rw [if_neg c6] at H
              exact absurd H (by simp)
          · rw [if_neg c5] at H
            exact absurd H (by simp)
        · rw [if_neg c4] at H
          have c4b0 : decide (x5_1 < (l0.length : Int)) = false := decide_eq_false c4
          clear c4
          obtain rfl := Option.some.inj H
          go_wp2
          go_ret
          exact ⟨ER, (BB HB.out)⟩
  · rw [if_neg c3] at H
    have c3b0 : ((l0.length : Int) == (l1.length : Int)) = false := beq_eq_false_iff_ne.mpr c3
    have c3b1 : ((l0.length : Int) != (l1.length : Int)) = true := bne_iff_ne.mpr c3
    have c3b2 : (l0.length == l1.length) = false := by first | simpa using c3 | (simp at c3 ⊢; omega)
    obtain rfl := Option.some.inj H
    go_enter Try.func19, Try.ntmps19
    go_wp2
    go_ret
    exact ⟨ER, (BB HB.out)⟩

end Go.Proofs.Ytdlcnldgiclpgaa.Pr

/- Generated by plumb.py: the laws' helpers of a type, told as plain functions. -/
namespace Go.Proofs.Ytdlcnldgiclpgaa.Lw
open Go.RowKit Go.Proofs.YtdlcnldgiclpgaaW.PrintWords Go.Proofs.Ytdlcnldgiclpgaa.Pr Go.Proofs.Ytdlcnldgiclpgaa.Evs
set_option linter.unusedVariables false
abbrev LLease := S63
abbrev ImLease := S64
def lnLease (x : ImLease) : Prop := True
def wtLease (x : LLease) : Nat := x.f0.size
def wtLeaseS : List LLease → Nat
  | [] => 0
  | x :: s => 1 + wtLease x + wtLeaseS s
def okLease (x : LLease) : Prop := x.f0.size ≤ maxLen
theorem wtLeaseS_len (l : List LLease) : l.length ≤ wtLeaseS l := by
  induction l with
  | nil => simp
  | cons x s ih => simp [wtLeaseS]; omega
def toLease (x : LLease) : ImLease := ⟨x.f0, x.f1, x.f2⟩
theorem rd63 (p s : List S63) (x : S63) : rd_T63 (p ++ x :: s) (p.length : Int) = x := by unfold rd_T63; exact getD_mid' p s x _ _ rfl
theorem rd64 (p s : List S64) (x : S64) : rd_T64 (p ++ x :: s) (p.length : Int) = x := by unfold rd_T64; exact getD_mid' p s x _ _ rfl
theorem szLease_ev (x : LLease) (left : Int) (h0 : 0 ≤ left) (h1 : left ≤ 1048576) (hx : okLease x) : ∃ r, laws_szLease.f (x.f0) (x.f1) (x.f2) left = some r ∧ (r = -1 ∨ (0 ≤ r ∧ r + wtLease x = left)) := by
  unfold okLease maxLen at hx
  unfold laws_szLease.f wtLease
  have e0 : wrap64 (left - (x.f0.size : Int)) = left - (x.f0.size : Int) := wrap_in (by omega) (by omega)
  simp only [e0]
  by_cases c0 : left - (x.f0.size : Int) < 0
  · exact ⟨-1, by simp only [if_pos c0], .inl rfl⟩
  exact ⟨left - (x.f0.size : Int), by simp only [if_neg c0], .inr ⟨by omega, by omega⟩⟩
theorem szLeaseS_loop (s : List LLease) : ∀ (p : List LLease) (left : Int), 0 ≤ left → left + s.length ≤ 1048576 → p.length + s.length ≤ maxLen → (∀ x ∈ s, okLease x) →
    ∃ r, Ev (fun k => laws_szLeaseS.l0 k (p ++ s) left (p.length : Int)) r ∧ (r = -1 ∨ (0 ≤ r ∧ r + wtLeaseS s = left + s.length)) := by
  induction s with
  | nil =>
    intro p left h0 h1 hl ho
    refine ⟨left, ev_step (fun k => laws_szLeaseS.l0.eq_2 _ _ _ k) (ev_neg (by simp) (ev_some _)), .inr ⟨h0, by simp [wtLeaseS]⟩⟩
  | cons x s ih =>
    intro p left h0 h1 hl ho
    unfold maxLen at hl
    simp at h1 hl
    obtain ⟨t, ht, hr⟩ := szLease_ev x left h0 (by omega) (ho x (by simp))
    by_cases c : t < 0
    · refine ⟨-1, ev_step (fun k => laws_szLeaseS.l0.eq_2 _ _ _ k) (ev_pos (by simp; omega) (ev_pos (by omega) (ev_call (a := t) (by rw [rd63]; exact ht) (ev_pos c (ev_some _))))), .inl rfl⟩
    · obtain ⟨r, hE, hR⟩ := ih (p ++ [x]) t (by omega) (by omega) (by simp; unfold maxLen; omega) (fun y hy => ho y (by simp [hy]))
      refine ⟨r, ev_step (fun k => laws_szLeaseS.l0.eq_2 _ _ _ k) (ev_pos (by simp; omega) (ev_pos (by omega) (ev_call (a := t) (by rw [rd63]; exact ht) (ev_neg c ?_)))), ?_⟩
      · rw [wrap_succ (by omega) (by omega)]
        simpa using hE
      · rcases hR with hR | hR
        · exact .inl hR
        · rcases hr with hr | hr
          · omega
          · refine .inr ⟨hR.1, ?_⟩
            simp [wtLeaseS]
            omega
theorem szLeaseS_ev (l : List LLease) (hl : l.length ≤ maxLen) (ho : ∀ x ∈ l, okLease x) (left : Int) (h0 : 0 ≤ left) (h1 : left ≤ 1048576) :
    ∃ r, Ev (fun k => laws_szLeaseS.f k l left) r ∧ (r = -1 ∨ (0 ≤ r ∧ r + wtLeaseS l = left)) := by
  unfold laws_szLeaseS.f
  unfold maxLen at hl
  have e : wrap64 (left - (l.length : Int)) = left - l.length := wrap_in (by omega) (by omega)
  rw [e]
  by_cases c : left - (l.length : Int) < 0
  · exact ⟨-1, ev_pos c (ev_some _), .inl rfl⟩
  · obtain ⟨r, hE, hR⟩ := szLeaseS_loop l [] (left - l.length) (by omega) (by omega) (by simp; unfold maxLen; omega) ho
    refine ⟨r, ev_neg c (by simpa using hE), ?_⟩
    omega
theorem szLeaseS_sz (l : List LLease) (hl : l.length ≤ maxLen) (ho : ∀ x ∈ l, okLease x) (left : Int) (h0 : 0 ≤ left) (h1 : left ≤ 1048576) : SzEv (fun k => laws_szLeaseS.f k l left) left (wtLeaseS l) := szLeaseS_ev l hl ho left h0 h1
theorem toLease_ev (x : LLease) : Ev (fun k => laws_toLease.f (x.f0) (x.f1) (x.f2)) ((toLease x).f0, (toLease x).f1, (toLease x).f2) := ev_const rfl
theorem toLeaseS_loop (s : List LLease) : ∀ (p : List LLease), p.length + s.length < 9223372036854775807 →
    Ev (fun k => laws_toLeaseS.l0 k (p ++ s) (p.map toLease ++ List.replicate s.length z64) (p.length : Int)) ((p ++ s).map toLease) := by
  induction s with
  | nil => intro p hl; exact ev_step (fun k => laws_toLeaseS.l0.eq_2 _ _ _ k) (ev_neg (by simp) (ev_eq (ev_some _) (by simp)))
  | cons x s ih =>
    intro p hl
    simp at hl
    refine ev_step (fun k => laws_toLeaseS.l0.eq_2 _ _ _ k) (ev_pos (by simp; omega) (ev_pos (by omega) (ev_call (by rw [rd63]; rfl) (ev_pos (by simp; omega) ?_))))
    rw [wrap_succ (by omega) (by omega)]
    have h := ih (p ++ [x]) (by simp; omega)
    have e : (p.map toLease ++ List.replicate (x :: s).length z64).set ((p.length : Int)).toNat (toLease x) = (p ++ [x]).map toLease ++ List.replicate s.length z64 := by
      rw [List.length_cons, List.replicate_succ, set_mid _ _ _ _ _ (by simp)]
      simp
    refine ev_eq (g := fun k => laws_toLeaseS.l0 k (p ++ x :: s) ((p.map toLease ++ List.replicate (x :: s).length z64).set ((p.length : Int)).toNat (toLease x)) ((p.length : Int) + 1)) ?_ rfl
    rw [e]
    simpa using h
theorem toLeaseS_ev (l : List LLease) (hl : l.length ≤ 1048576) : Ev (fun k => laws_toLeaseS.f k l) (l.map toLease) := by
  unfold laws_toLeaseS.f
  refine ev_pos (by omega) (ev_pos (by omega) ?_)
  have h := toLeaseS_loop l [] (by simp; omega)
  simpa using h
theorem toLeaseS_evw (l : List LLease) (hl : wtLeaseS l ≤ 1048576) : Ev (fun k => laws_toLeaseS.f k l) (l.map toLease) := toLeaseS_ev l (by have := wtLeaseS_len l; omega)
theorem eqLease_refl (x : ImLease) : laws_eqLease.f (x.f0) (x.f1) (x.f2) (x.f0) (x.f1) (x.f2) = some true := by unfold laws_eqLease.f; simp
theorem eqLeaseS_loop (s : List ImLease) : ∀ (p : List ImLease), p.length + s.length < 9223372036854775807 → Ev (fun k => laws_eqLeaseS.l0 k (p ++ s) (p ++ s) (p.length : Int)) true := by
  induction s with
  | nil => intro p hl; exact ev_step (fun k => laws_eqLeaseS.l0.eq_2 _ _ _ k) (ev_neg (by simp) (ev_some _))
  | cons x s ih =>
    intro p hl
    simp at hl
    refine ev_step (fun k => laws_eqLeaseS.l0.eq_2 _ _ _ k) (ev_pos (by simp; omega) (ev_pos (by omega) (ev_pos (by simp; omega) (ev_call (by rw [rd64]; exact eqLease_refl x) (ev_pos rfl ?_)))))
    rw [wrap_succ (by omega) (by omega)]
    simpa using ih (p ++ [x]) (by simp; omega)
theorem eqLeaseS_ev (l : List ImLease) (hl : l.length < 9223372036854775807) : Ev (fun k => laws_eqLeaseS.f k l l) true := by
  unfold laws_eqLeaseS.f
  refine ev_pos rfl ?_
  simpa using eqLeaseS_loop l [] (by simp; omega)
def bdLease (x : ImLease) : Prop := (x.f0.size ≤ 1048576)
theorem wtLeaseS_at {l : List LLease} {x : LLease} (h : x ∈ l) : 1 + wtLease x ≤ wtLeaseS l := by
  induction l with
  | nil => cases h
  | cons y l ih =>
    rcases List.mem_cons.1 h with rfl | h
    · simp [wtLeaseS]
    · have := ih h
      simp [wtLeaseS]
      omega
theorem bd_toLease (x : LLease) (h : wtLease x ≤ 1048576) : bdLease (toLease x) := by
  unfold wtLease at h
  exact (show x.f0.size ≤ 1048576 by omega)
theorem bd_toLeaseS (l : List LLease) (h : wtLeaseS l ≤ 1048576) : (l.map toLease).length ≤ 1048576 ∧ ∀ y ∈ l.map toLease, bdLease y := by
  have hl := wtLeaseS_len l
  refine ⟨by simp; omega, fun y hy => ?_⟩
  obtain ⟨z, hz, rfl⟩ := List.mem_map.1 hy
  have := wtLeaseS_at hz
  exact bd_toLease z (by omega)
theorem ln_bdLease {x : ImLease} (h : bdLease x) : lnLease x := trivial
end Go.Proofs.Ytdlcnldgiclpgaa.Lw

/- A contract of my own: Idx. -/
namespace Go.Proofs.Ytdlcnldgiclpgaa.Pr
open Go.RowKit Go.Proofs.YtdlcnldgiclpgaaW.PrintWords Go.Proofs.YtdlcnldgiclpgaaW.PrintLast Go.Proofs.YtdlcnldgiclpgaaW.PrintMore
set_option linter.unusedVariables false
set_option linter.unusedSimpArgs false
/-- The place of the first element that meets p, from place j on; -1 without one. -/
def idxF {α : Type} (p : α → Bool) : List α → Nat → Int
  | [], _ => -1
  | x :: s, j => if p x = true then (j : Int) else idxF p s (j + 1)
theorem idxF_drop_hit {α : Type} (p : α → Bool) (xs : List α) (d : α) (j : Nat) (h : j < xs.length) (hp : p (xs.getD j d) = true) : idxF p (xs.drop j) j = (j : Int) := by
  rw [List.drop_eq_getElem_cons h, idxF, if_pos]
  simpa [List.getD, List.getElem?_eq_getElem h] using hp
theorem idxF_drop_miss {α : Type} (p : α → Bool) (xs : List α) (d : α) (j : Nat) (h : j < xs.length) (hp : p (xs.getD j d) = false) : idxF p (xs.drop j) j = idxF p (xs.drop (j + 1)) (j + 1) := by
  rw [List.drop_eq_getElem_cons h, idxF, if_neg]
  simpa [List.getD, List.getElem?_eq_getElem h] using hp
theorem idxF_any {α : Type} (p : α → Bool) (xs : List α) : ∀ j : Nat, decide (0 ≤ idxF p xs j) = xs.any p := by
  induction xs with
  | nil => intro j; simp [idxF]
  | cons x s ih =>
    intro j
    by_cases c : p x = true
    · simp [idxF, c]
    · simp only [idxF, if_neg c, ih, List.any_cons]
      simp [c]
end Go.Proofs.Ytdlcnldgiclpgaa.Pr

/- A contract of my own: IxLease. -/
namespace Go.Proofs.Ytdlcnldgiclpgaa.Pr
open Go.RowKit Go.Proofs.YtdlcnldgiclpgaaW.PrintWords Go.Proofs.YtdlcnldgiclpgaaW.PrintLast Go.Proofs.YtdlcnldgiclpgaaW.PrintMore
set_option linter.unusedVariables false
set_option linter.unusedSimpArgs false
set_option maxHeartbeats 2000000 in
set_option maxRecDepth 100000 in
theorem ixLease (g : Nat) (lb : Array Value) (eg : ∀ args w, (callFunc g args).run Try.prog w = .ok (.enter g args) w) (p : S64 → Bool) (A : Option Addr) (c : Nat) (xs : List S64) (w : World)
    (hp : ∀ (W : World) (x : S64), x ∈ xs → Below w.heap.size w W → Calls Try.prog g (#[.agg #[.string x.f0, .int .i64 x.f1, .int .i64 x.f2]] ++ lb) W fun e w' => e = .returned (.bool (p x)) ∧ Below w.heap.size w w')
    (hr : Kd.C k64 w A xs.length xs) :
    Calls Try.prog 48 #[.slice A xs.length c, .func (.func g) #[] lb] w fun e w' => e = .returned (.int .i64 (idxF p xs 0)) ∧ Below w.heap.size w w' := by
  have hu64 := Try.underlying64
  have HR := Aside0.mk hr
  have HL := Aside0.mk hr.2.1
  have HP := Aside0.mk hp
  have HG := Aside0.mk (show idxF p (xs.drop 0) 0 = idxF p xs 0 from rfl)
  clear hr hp
  generalize hre : idxF p xs 0 = res at HG
  clear hre
  go_enter Try.func48, Try.ntmps48
  go_wp2
  go_loopg [5, 8] xs.length (fun gg _ s8 wr => ∃ kk : Nat, kk ≤ xs.length ∧ xs.length - kk ≤ gg ∧ s8 = .int .i64 kk ∧ Aside0 (Below w.heap.size w wr) ∧ Aside0 (idxF p (xs.drop kk) kk = res))
  case atStart => exact ⟨0, Nat.zero_le _, by omega, rfl, ⟨Below.refl _ w⟩, HG⟩
  case round =>
    obtain ⟨kk, hkk, hg, rfl, BW, A1⟩ := hrel
    have hlen := HL.out
    by_cases hlt : kk < xs.length
    · have hltz : (kk : Int) < (xs.length : Int) := by omega
      obtain ⟨ad, e1, hx0, hx1, hx2⟩ := at_T64 HR.out (kk : Int) (by omega) hltz
      have hmem : rd_T64 xs (kk : Int) ∈ xs := by
        have e : rd_T64 xs (kk : Int) = xs[kk] := by unfold rd_T64; simp [List.getD, List.getElem?_eq_getElem hlt]
        rw [e]
        exact List.getElem_mem hlt
      have hcall := HP.out wr (rd_T64 xs (kk : Int)) hmem BW.out
      clear hmem
      have hy : rd_T64 xs (kk : Int) = xs.getD kk z64 := rfl
      have hmiss := Aside0.mk (idxF_drop_miss p xs z64 kk hlt)
      have hhit := Aside0.mk (idxF_drop_hit p xs z64 kk hlt)
      replace hx0 := (BW.out.cell (World.block_lt_of_cell? w _ hx0)).trans hx0
      replace hx1 := (BW.out.cell (World.block_lt_of_cell? w _ hx1)).trans hx1
      replace hx2 := (BW.out.cell (World.block_lt_of_cell? w _ hx2)).trans hx2
      simp only [Int.toNat_natCast] at hx0 hx1 hx2
      rw [← hy] at hmiss hhit
      clear hy
      generalize rd_T64 xs (kk : Int) = y at hx0 hx1 hx2 hcall hmiss hhit
      subst e1
      cases hq : p y with
      | true =>
        rw [hq] at hcall
        have A2 := Aside0.mk (((hhit.out hq).symm.trans A1.out).symm)
        clear hq hmiss hhit A1
        go_wp2_with (go_at_fn g; refine hcall.mono ?_; rintro e w' ⟨rfl, hb'⟩)
        go_ret
        exact ⟨by rw [A2.out]; try rfl, hb'⟩
      | false =>
        rw [hq] at hcall
        have A2 := Aside0.mk ((hmiss.out hq).symm.trans A1.out)
        clear hq hmiss hhit A1
        go_wp2_with (go_at_fn g; refine hcall.mono ?_; rintro e w' ⟨rfl, hb'⟩)
        go_roundg (xs.length - (kk + 1))
        case measure => omega
        case rel => exact ⟨kk + 1, by omega, by omega, by go_num, ⟨hb'⟩, A2⟩
    · have hltz : ¬ (kk : Int) < (xs.length : Int) := by omega
      have hd1 : decide ((kk : Int) < (xs.length : Int)) = false := decide_eq_false hltz
      have hd2 : decide (kk < xs.length) = false := decide_eq_false hlt
      have A2 := Aside0.mk (show res = -1 by rw [← A1.out, List.drop_eq_nil_of_le (by omega)]; rfl)
      clear A1
      go_wp2
      go_ret
      exact ⟨by rw [A2.out]; try rfl, BW.out⟩
end Go.Proofs.Ytdlcnldgiclpgaa.Pr

/- A contract of my own: Del. -/
namespace Go.Proofs.Ytdlcnldgiclpgaa.Pr
open Go.RowKit Go.Proofs.YtdlcnldgiclpgaaW.PrintWords Go.Proofs.YtdlcnldgiclpgaaW.PrintLast Go.Proofs.YtdlcnldgiclpgaaW.PrintMore
set_option linter.unusedVariables false
set_option linter.unusedSimpArgs false
/-- What holds between two rounds of slices.DeleteFunc: the row's first i elements are those kept of the first j. -/
structure DelInv {α : Type} (p : α → Bool) (xs ys : List α) (i j : Nat) : Prop where
  len : ys.length = xs.length
  lt : i < j
  low : ys.take i = (xs.take j).filter (fun x => !p x)
  high : ys.drop j = xs.drop j
theorem DelInv.get {α : Type} {p : α → Bool} {xs ys : List α} {i j : Nat} (h : DelInv p xs ys i j) (d : α) (hj : j < xs.length) : ys.getD j d = xs.getD j d := by
  have e : (ys.drop j)[0]? = (xs.drop j)[0]? := by rw [h.high]
  simp only [List.getElem?_drop, Nat.add_zero] at e
  simp [List.getD, e]
theorem DelInv.skip {α : Type} {p : α → Bool} {xs ys : List α} {i j : Nat} (h : DelInv p xs ys i j) (d : α) (hj : j < xs.length) (hp : p (xs.getD j d) = true) : DelInv p xs ys i (j + 1) where
  len := h.len
  lt := by have := h.lt; omega
  low := by
    have e : xs.getD j d = xs[j] := by simp [List.getD, List.getElem?_eq_getElem hj]
    rw [e] at hp
    rw [h.low, ← List.take_append_getElem hj, List.filter_append]
    simp [hp]
  high := by
    have := congrArg (List.drop 1) h.high
    simpa [List.drop_drop, Nat.add_comm] using this
theorem DelInv.keep {α : Type} {p : α → Bool} {xs ys : List α} {i j : Nat} (h : DelInv p xs ys i j) (d : α) (hj : j < xs.length) (hp : p (xs.getD j d) = false) : DelInv p xs (ys.set i (xs.getD j d)) (i + 1) (j + 1) where
  len := by rw [List.length_set]; exact h.len
  lt := by have := h.lt; omega
  low := by
    have e : xs.getD j d = xs[j] := by simp [List.getD, List.getElem?_eq_getElem hj]
    have hi : i < ys.length := by have := h.lt; have := h.len; omega
    rw [e] at hp ⊢
    rw [← List.take_append_getElem hj, List.filter_append, ← h.low]
    have e2 : (ys.set i xs[j]).take (i + 1) = ys.take i ++ [xs[j]] := by
      rw [← List.take_append_getElem (by rw [List.length_set]; exact hi), List.take_set, List.set_eq_of_length_le (by simp; omega), List.getElem_set_self]
    rw [e2]
    simp [hp]
  high := by
    have hl := h.lt
    rw [List.drop_set_of_lt (by omega)]
    have := congrArg (List.drop 1) h.high
    simpa [List.drop_drop, Nat.add_comm] using this
/-- What slices.IndexFunc tells. -/
theorem idxF_spec {α : Type} (p : α → Bool) : ∀ (xs : List α) (i : Nat), (idxF p xs i = -1 ∧ xs.filter (fun x => !p x) = xs) ∨ ∃ k, k < xs.length ∧ idxF p xs i = ((i + k : Nat) : Int) ∧ (xs.take (k + 1)).filter (fun x => !p x) = xs.take k
  | [], _ => .inl ⟨rfl, rfl⟩
  | x :: s, i => by
    by_cases c : p x = true
    · exact .inr ⟨0, by simp, by rw [idxF, if_pos c]; rfl, by simp [c]⟩
    · rcases idxF_spec p s (i + 1) with ⟨e, hf⟩ | ⟨k, hk, e, hf⟩
      · exact .inl ⟨by rw [idxF, if_neg c, e], by simp [c, hf]⟩
      · refine .inr ⟨k + 1, by simpa using hk, by rw [idxF, if_neg c, e]; congr 1; omega, ?_⟩
        rw [List.take_succ_cons, List.take_succ_cons, List.filter_cons, hf]
        simp [c]
theorem DelInv.start {α : Type} {p : α → Bool} {xs : List α} {k : Nat} (hf : (xs.take (k + 1)).filter (fun x => !p x) = xs.take k) : DelInv p xs xs k (k + 1) := ⟨rfl, by omega, hf.symm, rfl⟩
theorem DelInv.done {α : Type} {p : α → Bool} {xs ys : List α} {i : Nat} (h : DelInv p xs ys i xs.length) : ys.take i = xs.filter (fun x => !p x) := by
  rw [h.low, List.take_length]
theorem setCells_app (g : Nat) : ∀ (a b : List Value) (o : Nat) (w : World), w.setCells g o (a ++ b) = (w.setCells g o a).setCells g (o + a.length) b
  | [], _, _, _ => rfl
  | v :: r, b, o, w => by
    rw [List.cons_append, World.setCells, World.setCells, setCells_app g r b]
    congr 1
    simp
    omega
theorem zeroCells_flat (z : Value) (zs : List Value) (hz : z.cells = zs.toArray) (n : Nat) : (Builtin.zeroCells z.cells n).toList = (List.replicate n zs).flatten := by
  rw [hz]
  simp only [Builtin.zeroCells, Array.toList_map, Array.toList_range, List.size_toArray]
  induction n with
  | zero => simp
  | succ n ih =>
    rw [List.replicate_succ', List.flatten_append, ← ih, Nat.succ_mul, List.range_add, List.map_append]
    congr 1
    simp only [List.flatten_cons, List.flatten_nil, List.append_nil, List.map_map]
    refine List.ext_getElem (by simp) fun t h1 h2 => ?_
    have ht : t < zs.length := h2
    simp [Nat.add_mod, Nat.mod_eq_of_lt ht, ht]
theorem run_clear_rows {P : Program} (w : World) (t e ty : TypeId) (z : Value) (zs : List Value) (ht : P.underlying t = some (.slice e)) (hv : ∀ w, (zeroValue e).run P w = .ok z w) (hz : z.cells = zs.toArray) (h1 : ∀ v ∈ zs, v.oneCell' = true) (b o n c : Nat) (hn : 0 < n)
    (hc : ∀ j, j < n * zs.length → (w.cell? ⟨b, o + j, none⟩).isSome = true) (hf : ∀ j, j < n * zs.length → w.frozen? ⟨b, o + j, none⟩ = false) :
    (Builtin.clear_ #[t] ty #[.slice (some ⟨b, o, none⟩) n c]).run P w = .ok (.tuple #[]) (w.setCells b o (List.replicate n zs).flatten) := by
  have hzc := zeroCells_flat z zs hz n
  have hlen : (List.replicate n zs).flatten.length = n * zs.length := by simp
  have hst := run_storeCells_cells (P := P) b o (List.replicate n zs).flatten 0 w (by rw [hlen]; simpa using hc) (by rw [hlen]; simpa using hf) (by intro v hv'; simp only [List.mem_flatten, List.mem_replicate] at hv'; obtain ⟨l, ⟨_, rfl⟩, hl⟩ := hv'; exact h1 v hl)
  simp only [Nat.add_zero] at hst
  obtain ⟨m, rfl⟩ : ∃ m, n = m + 1 := ⟨n - 1, by omega⟩
  simp [Builtin.clear_, run_underlying ht, hv, hzc, hst]
/-- The elements from i on are cleared: the first i stay. -/
theorem R_clear {α : Type} {d : Kd α} {e g cap : Nat} {base : Nat} (zs : List Value) (z : α) (hzl : zs.length = d.sz) (hM : ∀ W okp, d.M W base okp z zs) :
    ∀ (m i : Nat) (ys : List α) (W : World), d.R e W base (fun _ => True) (.slice (some ⟨g, 0, none⟩) ys.length cap) ys → i + m = ys.length →
      ∃ ys', ys'.length = ys.length ∧ ys'.take i = ys.take i ∧ d.R e (W.setCells g (i * d.sz) (List.replicate m zs).flatten) base (fun _ => True) (.slice (some ⟨g, 0, none⟩) ys.length cap) ys'
  | 0, i, ys, W, h, _ => ⟨ys, rfl, rfl, h⟩
  | m + 1, i, ys, W, h, hm => by
    obtain ⟨c, hcl, _, hcc, _⟩ := Kd.R_elem h z (i : Int) (by omega) (by omega)
    have h1 := Kd.R_seg (okp := fun k => True ∧ k ≠ g) h (i : Int) (by omega) (by omega) (seg := zs) (j := 0) hcl hcc (by omega) (x' := z) (by simpa [hzl, ← hcl] using hM W _) (fun _ hk => hk)
    have h2 := h1.1
    simp only [Int.toNat_natCast, Nat.add_zero] at h2
    have hl : (ys.set i z).length = ys.length := List.length_set
    rw [← hl] at h2
    obtain ⟨ys', e1, e2, h3⟩ := R_clear (d := d) (e := e) (cap := cap) zs z hzl hM m (i + 1) (ys.set i z) _ h2 (by rw [hl]; omega)
    rw [hl] at e1 h3
    refine ⟨ys', e1, ?_, ?_⟩
    · have := congrArg (List.take i) e2
      rw [List.take_take, List.take_take, Nat.min_eq_left (by omega), List.take_set_of_le (Nat.le_refl _)] at this
      exact this
    · rw [List.replicate_succ, List.flatten_cons, setCells_app, hzl, ← Nat.succ_mul]
      exact h3
theorem below_cells {B g : Nat} (hg : B ≤ g) : ∀ (vs : List Value) (o : Nat) (a w : World), Below B a w → Below B a (w.setCells g o vs)
  | [], _, _, _, h => h
  | v :: r, o, a, w, h => below_cells hg r (o + 1) a _ (h.setCell hg v)
theorem R_cells {α : Type} {d : Kd α} {e g cap : Nat} {base n : Nat} {W : World} {ok : Nat → Prop} {ys : List α} (z : α) (h : d.R e W base ok (.slice (some ⟨g, 0, none⟩) n cap) ys) (t : Nat) (ht : t < n * d.sz) :
    (W.cell? ⟨g, t, none⟩).isSome = true ∧ W.frozen? ⟨g, t, none⟩ = false := by
  have hd : 0 < d.sz := by rcases Nat.eq_zero_or_pos d.sz with h0 | h0; · rw [h0] at ht; simp at ht
                           · exact h0
  have hi : t / d.sz < n := (Nat.div_lt_iff_lt_mul hd).2 ht
  have e1 : t / d.sz * d.sz + t % d.sz = t := Nat.div_add_mod' t d.sz
  have hlt : t % d.sz < d.sz := Nat.mod_lt _ hd
  generalize t / d.sz = q at hi e1
  obtain ⟨c, hcl, _, hcc, hf⟩ := Kd.R_elem h z (q : Int) (by omega) (by omega)
  simp only [Int.toNat_natCast] at hcc hf
  have h1 := hcc (t % d.sz) _ (List.getElem?_eq_getElem (by omega))
  have h2 := hf (t % d.sz)
  rw [e1] at h1 h2
  exact ⟨by rw [h1]; rfl, h2⟩
end Go.Proofs.Ytdlcnldgiclpgaa.Pr

/- A contract of my own: DfLease. -/
namespace Go.Proofs.Ytdlcnldgiclpgaa.Pr
open Go.RowKit Go.Proofs.YtdlcnldgiclpgaaW.PrintWords Go.Proofs.YtdlcnldgiclpgaaW.PrintLast Go.Proofs.YtdlcnldgiclpgaaW.PrintMore
set_option linter.unusedVariables false
set_option linter.unusedSimpArgs false
set_option maxHeartbeats 4000000 in
set_option maxRecDepth 100000 in
theorem dfLease (g : Nat) (lb : Array Value) (eg : ∀ args w, (callFunc g args).run Try.prog w = .ok (.enter g args) w) (p : S64 → Bool) (base : Nat) (A : Option Addr) (c : Nat) (xs : List S64) (w : World)
    (hp : ∀ (W : World) (x : S64), x ∈ xs → Below base w W → Calls Try.prog g (#[.agg #[.string x.f0, .int .i64 x.f1, .int .i64 x.f2]] ++ lb) W fun e w' => e = .returned (.bool (p x)) ∧ Below W.heap.size W w')
    (hr : Kd.R k64 64 w base (fun _ => True) (.slice A xs.length c) xs) (hbs : base ≤ w.heap.size) :
    Calls Try.prog 46 #[.slice A xs.length c, .func (.func g) #[] lb] w fun e w' => ∃ v, e = .returned v ∧ Kd.R k64 64 w' base (fun _ => True) v (xs.filter (fun x => !p x)) ∧ Below base w w' := by
  have hu64 := Try.underlying64
  have hI := ixLease g lb eg p A c xs w (fun W x hx hb => (hp W x hx (hb.mono hbs)).mono fun e w' ⟨he, hb'⟩ => ⟨he, hb.trans (hb'.mono hb.size)⟩) (Kd.R_reads' hr).2.2
  rcases idxF_spec p xs 0 with ⟨e1, hf⟩ | ⟨k0, hk0, e1, hf⟩
  · rw [e1] at hI
    rw [hf]
    have HR := Aside0.mk hr
    have HI := Aside0.mk hI
    clear hp hr hI e1 hf
    go_enter Try.func46, Try.ntmps46
    go_wp2_with fail
    refine HI.out.mono ?_
    rintro e w' ⟨rfl, hb⟩
    go_wp2
    go_ret
    exact ⟨_, rfl, Kd.R_below HR.out hb, hb.mono hbs⟩
  · rw [e1] at hI
    simp only [Nat.zero_add] at hI
    obtain ⟨g0, cap, ev, hg1, hg2, _⟩ := Kd.R_form hr (by omega)
    injection ev with ea _ ec
    subst ea; subst ec
    have hne1 : ((k0 : Int) == -1) = false := beq_eq_false_iff_ne.2 (by omega)
    have HP := Aside0.mk hp
    have HR0 := Aside0.mk hr
    have HI := Aside0.mk hI
    have HF := Aside0.mk (DelInv.start hf)
    have hlen : xs.length ≤ 9223372036854775807 := (Kd.R_reads' hr).2.2.2.1
    have hcap : xs.length ≤ c := (Kd.R_reads' hr).2.1
    clear hp hr hI e1 hf
    go_enter Try.func46, Try.ntmps46
    go_wp2_with fail
    refine HI.out.mono ?_
    rintro e w1 ⟨rfl, hb1⟩
    have HB1 := Aside0.mk hb1
    clear hb1
    go_wp2
    go_loopg [5, 6, 7] xs.length (fun gg s5 s6 _ wr => ∃ (ii jj : Nat) (ys : List S64), s5 = .int .i64 ii ∧ s6 = .int .i64 jj ∧ jj ≤ xs.length ∧ xs.length - jj ≤ gg ∧ Aside0 (DelInv p xs ys ii jj) ∧ Aside0 (Kd.R k64 64 wr base (fun _ => True) (.slice (some ⟨g0, 0, none⟩) xs.length c) ys) ∧ Aside0 (Below base w wr))
    case atStart => exact ⟨k0, k0 + 1, xs, rfl, by go_num, by omega, by omega, HF, ⟨Kd.R_below HR0.out HB1.out⟩, ⟨HB1.out.mono hbs⟩⟩
    case round =>
      obtain ⟨ii, jj, ys, rfl, rfl, hjj, hgg, HD, HR, HB⟩ := hrel
      have hij := HD.out.lt
      have hsz : g0 < wr.heap.size := by have := HB.out.size; omega
      by_cases hlt : jj < xs.length
      · have hltz : (jj : Int) < (xs.length : Int) := by omega
        obtain ⟨cj, hclj, hMj, hcj, _⟩ := Kd.R_elem HR.out z64 (jj : Int) (by omega) hltz
        obtain ⟨ci, hcli, hMi, hci, hfi⟩ := Kd.R_elem HR.out z64 (ii : Int) (by omega) (by omega)
        obtain rfl := k64_openM hMj
        obtain rfl := k64_openM hMi
        simp only [Int.toNat_natCast, HD.out.get z64 hlt] at hcj hci hfi
        have hmem : xs.getD jj z64 ∈ xs := by simp [List.getD, List.getElem?_eq_getElem hlt]
        have hcall := fun W => HP.out W (xs.getD jj z64) hmem
        have HK := Aside0.mk (fun h => HD.out.keep z64 hlt h)
        have HS := Aside0.mk (fun h => HD.out.skip z64 hlt h)
        clear hmem hclj hMj hMi hcli
        generalize xs.getD jj z64 = y at hcj hcall HK HS
        generalize ys.getD ii z64 = o at hci
        have hj0 : wr.cell? ⟨g0, jj * 3, none⟩ = some (.string y.f0) := hcj 0 _ rfl
        have hj1 : wr.cell? ⟨g0, jj * 3 + 1, none⟩ = some (.int .i64 y.f1) := hcj 1 _ rfl
        have hj2 : wr.cell? ⟨g0, jj * 3 + 2, none⟩ = some (.int .i64 y.f2) := hcj 2 _ rfl
        have hi0 : wr.cell? ⟨g0, ii * 3, none⟩ = some (.string o.f0) := hci 0 _ rfl
        have fi0 : wr.frozen? ⟨g0, ii * 3, none⟩ = false := hfi 0
        have hi1 : wr.cell? ⟨g0, ii * 3 + 1, none⟩ = some (.int .i64 o.f1) := hci 1 _ rfl
        have fi1 : wr.frozen? ⟨g0, ii * 3 + 1, none⟩ = false := hfi 1
        have hi2 : wr.cell? ⟨g0, ii * 3 + 2, none⟩ = some (.int .i64 o.f2) := hci 2 _ rfl
        have fi2 : wr.frozen? ⟨g0, ii * 3 + 2, none⟩ = false := hfi 2
        clear hcj hci hfi
        have HC := Aside0.mk hcall
        clear hcall
        have hsafe : wr.heap.size ≠ g0 := by omega
        cases hq : p y with
        | true =>
          go_wp2_with (go_at_fn g; refine (HC.out _ (HB.out.alloc (by omega) _)).mono ?_; rw [hq]; rintro e w' ⟨rfl, hb'⟩)
          go_roundg (xs.length - (jj + 1))
          case measure => omega
          case rel => exact ⟨ii, jj + 1, ys, rfl, by go_num, by omega, Nat.le_refl _, ⟨HS.out hq⟩, ⟨Kd.R_below (Kd.R_alloc HR.out _) hb'⟩, ⟨(HB.out.alloc (by omega) _).trans (hb'.mono (by simp; omega))⟩⟩
        | false =>
          go_wp2_with fail
          refine (HC.out _ (HB.out.alloc (by omega) _)).mono ?_
          rw [hq]
          rintro e w' ⟨rfl, hb'⟩
          have HRW := Aside0.mk (Kd.R_below (Kd.R_alloc HR.out _) hb')
          have bx0 := (hb'.cell (p := ⟨wr.heap.size, 0, none⟩) (by simp)).trans (show _ = some (.string y.f0) by go_simp)
          have bx1 := (hb'.cell (p := ⟨wr.heap.size, 1, none⟩) (by simp)).trans (show _ = some (.int .i64 y.f1) by go_simp)
          have bx2 := (hb'.cell (p := ⟨wr.heap.size, 2, none⟩) (by simp)).trans (show _ = some (.int .i64 y.f2) by go_simp)
          have HBW := Aside0.mk ((HB.out.alloc (by omega : base ≤ wr.heap.size) (.cells #[.string y.f0, .int .i64 y.f1, .int .i64 y.f2] 64 (0, 0))).trans (hb'.mono (by simp; omega)))
          clear hb'
          obtain ⟨c2, hcl2, hM2, hci2, hfi2⟩ := Kd.R_elem HRW.out z64 (ii : Int) (by omega) (by omega)
          have HP2 := Aside0.mk (Kd.R_seg (okp := fun k => True ∧ k ≠ g0) HRW.out (ii : Int) (by omega) (by omega) (seg := [.string y.f0, .int .i64 y.f1, .int .i64 y.f2]) (j := 0) hcl2 hci2 (show 0 + 3 ≤ 3 by decide) (x' := y) (by obtain rfl := k64_openM hM2; exact k64_mkM _ _ _ y) (fun _ hk => hk)).1
          obtain rfl := k64_openM hM2
          simp only [Int.toNat_natCast] at hci2 hfi2
          generalize ys.getD ii z64 = o2 at hci2
          have hi0 : w'.cell? ⟨g0, ii * 3, none⟩ = some (.string o2.f0) := hci2 0 _ rfl
          have fi0 : w'.frozen? ⟨g0, ii * 3, none⟩ = false := hfi2 0
          have hi1 : w'.cell? ⟨g0, ii * 3 + 1, none⟩ = some (.int .i64 o2.f1) := hci2 1 _ rfl
          have fi1 : w'.frozen? ⟨g0, ii * 3 + 1, none⟩ = false := hfi2 1
          have hi2 : w'.cell? ⟨g0, ii * 3 + 2, none⟩ = some (.int .i64 o2.f2) := hci2 2 _ rfl
          have fi2 : w'.frozen? ⟨g0, ii * 3 + 2, none⟩ = false := hfi2 2
          clear hci2 hfi2 hcl2
          go_wp2
          go_roundg (xs.length - (jj + 1))
          case measure => omega
          case rel => exact ⟨ii + 1, jj + 1, ys.set ii y, by go_num, by go_num, by omega, Nat.le_refl _, ⟨HK.out hq⟩, ⟨HP2.out⟩, ⟨(((HBW.out).setCell hg1 _).setCell hg1 _).setCell hg1 _⟩⟩
      · obtain rfl : jj = xs.length := by omega
        have hltz : ¬ (xs.length : Int) < (xs.length : Int) := by omega
        have hyl := HD.out.len
        have hRy := HR.out
        have hz : ∀ w, (zeroValue 64).run Try.prog w = .ok (.agg #[.string ⟨#[]⟩, .int .i64 0, .int .i64 0]) w := by
          obtain ⟨i0, hi, hz0, -, -⟩ := info_parts info64
          intro w
          simp [zeroValue, typeInfo, hi, hz0]
        have hcl : ∀ ty, (Builtin.clear_ #[35] ty #[.slice (some ⟨g0, ii * 3, none⟩) (xs.length - ii) (c - ii)]).run Try.prog wr = .ok (.tuple #[]) (wr.setCells g0 (ii * 3) (List.replicate (xs.length - ii) [.string ⟨#[]⟩, .int .i64 0, .int .i64 0]).flatten) := by
          intro ty
          refine run_clear_rows wr 35 64 ty _ [.string ⟨#[]⟩, .int .i64 0, .int .i64 0] Try.underlying35 hz rfl (by intro v hv; simp at hv; rcases hv with rfl | rfl <;> rfl) g0 (ii * 3) _ _ (by omega) (fun t ht => ?_) (fun t ht => ?_)
          · exact (R_cells z64 hRy _ (by show _ < xs.length * 3; simp at ht; omega)).1
          · exact (R_cells z64 hRy _ (by show _ < xs.length * 3; simp at ht; omega)).2
        have hRy2 : Kd.R k64 64 wr base (fun _ => True) (.slice (some ⟨g0, 0, none⟩) ys.length c) ys := by rw [hyl]; exact hRy
        obtain ⟨ys', e3, e4, hR4⟩ := R_clear (d := k64) [.string ⟨#[]⟩, .int .i64 0, .int .i64 0] z64 rfl (fun W okp => k64_mkM _ _ _ z64) (xs.length - ii) ii ys wr hRy2 (by omega)
        have HR4 := Aside0.mk (Kd.R_take hR4 (m := ii) (by omega))
        have HE := Aside0.mk (e4.trans HD.out.done)
        clear hRy hRy2 hR4 hz
        have hii : ii ≤ xs.length := by omega
        have hic : ii ≤ c := by omega
        go_wp2
        go_ret
        exact ⟨_, rfl, by rw [← HE.out]; exact HR4.out, below_cells hg1 _ _ _ _ HB.out⟩
end Go.Proofs.Ytdlcnldgiclpgaa.Pr

/- Printed out of the translation by this session's pr.py over the kit's print. Lean checks it. -/
namespace Go.Proofs.Ytdlcnldgiclpgaa.Pr
open Go.RowKit Go.Proofs.YtdlcnldgiclpgaaW.PrintWords Go.Proofs.YtdlcnldgiclpgaaW.PrintLast Go.Proofs.YtdlcnldgiclpgaaW.PrintMore
attribute [local go_sem] max2_int min2_int max_two min_two max_three min_three max_four min_four
set_option linter.unusedVariables false
set_option linter.unusedSimpArgs false

/-! ### impl_copyLeases: function 42 -/
def impl_copyLeases.f (l0 : List (S64)) : Option ((List (S64))) := if ([] : List (S64)).length + l0.length < 4398046511104 then (some (([] : List (S64)) ++ l0)) else (none)
set_option maxHeartbeats 8000000 in
set_option maxRecDepth 100000 in
theorem impl_copyLeases.calls (A0 : Option Addr) (c0 : Nat) (l0 : List (S64)) (r : List (S64)) (w : World) (hr0 : Kd.C k64 w A0 l0.length l0) (hc0 : l0.length ≤ c0) (h : impl_copyLeases.f l0 = some r) :
    Calls Try.prog 42 #[.slice A0 l0.length c0] w fun e w' => ∃ v0_ : Value, e = .returned (v0_) ∧ Kd.R k64 64 w' w.heap.size (fun _ => True) v0_ r ∧ Below w.heap.size w w' := by
  have HR0 := Aside0.mk hr0
  have HC0 := Aside0.mk hc0
  clear hr0 hc0
  have HB := Aside0.mk (Below.refl w.heap.size w)
  have H : (if ([] : List (S64)).length + l0.length < 4398046511104 then (some (([] : List (S64)) ++ l0)) else (none)) = some r := h
  clear h
  by_cases c2 : ([] : List (S64)).length + l0.length < 4398046511104
  · rw [if_pos c2] at H
    have LMc2 := Aside0.mk c2
    clear c2
    obtain ⟨y224, hy224⟩ : ∃ y_ : List (S64), y_ = (([] : List (S64)) ++ l0) := ⟨_, rfl⟩
    replace H : (some y224) = some r := by first | (rw [hy224]; with_reducible exact H) | (have H2_ := (Option.bind_some _ _).symm.trans H; rw [hy224]; with_reducible exact H2_) | (have H2_ := (Option.bind_some _ _).symm.trans H; with_reducible exact H2_) | with_reducible exact H | (rw [hy224]; exact H) | exact H
    have Ny224 := Aside0.mk hy224
    clear hy224
    obtain rfl := Option.some.inj H
    go_enter Try.func42, Try.ntmps42
    go_wp2_with (first | ((with_reducible refine gate_builtin (b := .append) (xs := #[.const (.slice none 0 0), .tmp 3]) rfl ?_); at_builtin; refine Kd.R_append_rows k64 (w0 := w) w.heap.size rfl (.const (.slice none 0 0)) (.tmp 3) 35 64 (.agg #[(.string ⟨#[]⟩), (.int .i64 0), (.int .i64 0)]) 32 rfl Try.underlying35 info64 rfl (by decide) (by omega) (.slice none 0 0) ([] : List (S64)) l0 _ _ _ (fun _ => True) (fun _ => False) rfl rfl ?aO ?aR (fun _ _ h => h) (fun _ h => h.elim) ?aF ?aB ?aS ?aL ?_; (case aR => exact CC HR0.out); (case aB => exact (BB HB.out)); (case aF => exact (fun _ _ => trivial)); (case aO => exact ((Kd.R_nil _ _ _ _ (fun _ => True)))); (case aS => exact (below_size (BB HB.out))); (case aL => have := LMc2.out; omega); intro v225 w3 ho hb hg hat; rw [← Ny224.out] at ho; have HO226 := Aside0.mk (ho); replace HB := Aside0.mk (hb); clear ho hb hg hat))
    go_ret
    exact ⟨_, ER, by (with_reducible repeat (first | apply Kd.R_alloc | apply Kd.R_drewN | apply Kd.R_drew)); exact HO226.out, (BB HB.out)⟩
  · rw [if_neg c2] at H
    exact absurd H (by simp)

end Go.Proofs.Ytdlcnldgiclpgaa.Pr

/- A contract of my own: DropLease. -/
namespace Go.Proofs.Ytdlcnldgiclpgaa.Pr
open Go.RowKit Go.Proofs.YtdlcnldgiclpgaaW.PrintWords Go.Proofs.YtdlcnldgiclpgaaW.PrintLast Go.Proofs.YtdlcnldgiclpgaaW.PrintMore
set_option linter.unusedVariables false
set_option linter.unusedSimpArgs false
/-- Is it the lease of a path? -/
def leaseAt (p : ByteArray) (x : S64) : Bool := x.f0.toList == p.toList
set_option maxHeartbeats 2000000 in
set_option maxRecDepth 100000 in
theorem cl_DropLease (x : S64) (p : ByteArray) (B : Nat) (w : World) (h1 : w.cell? ⟨B, 0, none⟩ = some (.string p)) :
    Calls Try.prog 47 #[.agg #[.string x.f0, .int .i64 x.f1, .int .i64 x.f2], .pointer (some ⟨B, 0, none⟩)] w fun e w' => e = .returned (.bool (leaseAt p x)) ∧ Below w.heap.size w w' := by
  have l1 := World.block_lt_of_cell? w _ h1
  simp only at l1
  unfold leaseAt
  generalize hq : (x.f0.toList == p.toList) = q
  have hu2 := Try.underlying64
  go_enter Try.func47, Try.ntmps47
  go_wp2
  go_ret
  exact ⟨rfl, (Below.refl _ _).alloc (Nat.le_refl _) _⟩
def impl_DropLease.f (l0 : List (S64)) (a1 : ByteArray) : Option (List (S64)) := (impl_copyLeases.f l0).bind fun t => some (t.filter fun x => !leaseAt a1 x)
set_option maxHeartbeats 2000000 in
set_option maxRecDepth 100000 in
theorem impl_DropLease.calls (A0 : Option Addr) (c0 : Nat) (l0 : List (S64)) (a1 : ByteArray) (r : List (S64)) (w : World) (hr0 : Kd.C k64 w A0 l0.length l0) (hc0 : l0.length ≤ c0) (h : impl_DropLease.f l0 a1 = some r) :
    Calls Try.prog 35 #[.slice A0 l0.length c0, .string a1] w fun e w' => ∃ v0_ : Value, e = .returned (v0_) ∧ Kd.R k64 64 w' w.heap.size (fun _ => True) v0_ r ∧ Below w.heap.size w w' := by
  unfold impl_DropLease.f at h
  obtain ⟨t, ht, h⟩ := Option.bind_eq_some_iff.mp h
  obtain rfl := Option.some.inj h
  clear h
  have HR := Aside0.mk hr0
  clear hr0
  go_enter Try.func35, Try.ntmps35
  go_wp2_with fail
  refine (impl_copyLeases.calls A0 c0 l0 t _ (Kd.C_alloc HR.out _) hc0 ht).mono ?_
  rintro e w1 ⟨v, rfl, hv, hb⟩
  obtain ⟨Av, cv, rfl⟩ := Kd.R_slice hv
  have f0 := (hb.cell (p := ⟨w.heap.size, 0, none⟩) (by simp)).trans (show _ = some (.string a1) by go_simp)
  have HB := Aside0.mk hb
  have HV := Aside0.mk hv
  have hs := hb.size
  simp at hs
  clear hb hv
  go_wp2_with fail
  refine (dfLease 47 _ (enters_of Try.func47 (by kernel_rfl) rfl) (leaseAt a1) _ Av cv t _ ?hp HV.out (by simp; omega)).mono ?_
  case hp =>
    intro W x hm hB
    exact cl_DropLease x a1 w.heap.size W ((hB.cell (p := ⟨w.heap.size, 0, none⟩) (by simp)).trans f0)
  rintro e w2 ⟨v2, rfl, hv2, hb2⟩
  have HB2 := Aside0.mk hb2
  have HV2 := Aside0.mk hv2
  clear hb2 hv2
  go_wp2
  go_ret
  exact ⟨_, rfl, Kd.R_lower HV2.out (by simp), ((Below.refl _ _).alloc (Nat.le_refl _) _).trans ((HB.out.mono (by simp)).trans (HB2.out.mono (by simp)))⟩
end Go.Proofs.Ytdlcnldgiclpgaa.Pr

/- Printed out of the translation by this session's pr.py over the kit's print. Lean checks it. -/
namespace Go.Proofs.Ytdlcnldgiclpgaa.Pr
open Go.RowKit Go.Proofs.YtdlcnldgiclpgaaW.PrintWords Go.Proofs.YtdlcnldgiclpgaaW.PrintLast Go.Proofs.YtdlcnldgiclpgaaW.PrintMore
attribute [local go_sem] max2_int min2_int max_two min_two max_three min_three max_four min_four
set_option linter.unusedVariables false
set_option linter.unusedSimpArgs false

/-! ### laws_markText: function 43 -/
def laws_markText.l0 : Nat → Int → ByteArray → Option (ByteArray)
  | 0, _, _ => none
  | k + 1, x0, x3 => if x0 > 0 then ((some (([(wrap64 (48 + (Int.tmod x0 10))) % 256] : List Int) : List Int)).bind fun y233 => (if (strOfNums y233).size + x3.size ≤ 9223372036854775807 then (laws_markText.l0 k (wrap64 (Int.tdiv x0 10)) ((strOfNums y233) ++ x3)) else (none))) else (if 1 + x3.size ≤ 9223372036854775807 then (some ((⟨#[109]⟩ : ByteArray) ++ x3)) else (none))
def laws_markText.f (k : Nat) (a0 : Int) : Option (ByteArray) := if a0 ≤ 0 then (some (⟨#[109, 48]⟩ : ByteArray)) else (laws_markText.l0 k a0 (⟨#[]⟩ : ByteArray))
set_option maxHeartbeats 8000000 in
set_option maxRecDepth 100000 in
theorem laws_markText.calls (k : Nat) (a0 : Int) (r : ByteArray) (w : World) (h : laws_markText.f k a0 = some r) :
    Calls Try.prog 43 #[.int .i64 a0] w fun e w' => e = .returned (.string r) ∧ Below w.heap.size w w' := by
  have HB := Aside0.mk (Below.refl w.heap.size w)
  have H : (if a0 ≤ 0 then (some (⟨#[109, 48]⟩ : ByteArray)) else (laws_markText.l0 k a0 (⟨#[]⟩ : ByteArray))) = some r := h
  clear h
  by_cases c2 : a0 ≤ 0
  · rw [if_pos c2] at H
    have c2b0 : decide (a0 ≤ 0) = true := decide_eq_true c2
    clear c2
    obtain rfl := Option.some.inj H
    go_enter Try.func43, Try.ntmps43
    go_wp2
    go_ret
    exact ⟨ER, (BB HB.out)⟩
  · rw [if_neg c2] at H
    have c2b0 : decide (a0 ≤ 0) = false := decide_eq_false c2
    clear c2
    have H' := Aside0.mk H
    clear H
    go_enter Try.func43, Try.ntmps43
    go_wp2
    go_loopg [0, 3] k (fun kq v0 v3 w' => ∃ (x0_1 : Int) (x3_1 : ByteArray), v0 = .int .i64 x0_1 ∧ v3 = .string x3_1 ∧ Aside0 (laws_markText.l0 kq x0_1 x3_1 = some r) ∧ Aside0 (kq ≤ k) ∧ Aside0 (Below w.heap.size w w'))
    case atStart => exact ⟨(a0), ((⟨#[]⟩ : ByteArray)), FR, FR, H', ⟨Nat.le_refl _⟩, ⟨(BB HB.out)⟩⟩
    case round =>
      clear H'
      try clear c2
      try clear c2b0
      try clear p2
      obtain ⟨x0_1, x3_1, rfl, rfl, HA, HK1, HB⟩ := hrel
      cases gk with
      | zero => exact absurd HA.out (by simp [laws_markText.l0])
      | succ k1 =>
        have H := HA.out
        clear HA
        simp only [laws_markText.l0] at H
        by_cases c3 : x0_1 > 0
        · rw [if_pos c3] at H
          have c3b0 : decide (0 < x0_1) = true := decide_eq_true c3
          clear c3
          obtain ⟨y233, hy233⟩ : ∃ y_ : List Int, y_ = (([(wrap64 (48 + (Int.tmod x0_1 10))) % 256] : List Int)) := ⟨_, rfl⟩
          replace H : (if (strOfNums y233).size + x3_1.size ≤ 9223372036854775807 then (laws_markText.l0 k1 (wrap64 (Int.tdiv x0_1 10)) ((strOfNums y233) ++ x3_1)) else (none)) = some r := by first | (rw [hy233]; with_reducible exact H) | (have H2_ := (Option.bind_some _ _).symm.trans H; rw [hy233]; with_reducible exact H2_) | (have H2_ := (Option.bind_some _ _).symm.trans H; with_reducible exact H2_) | with_reducible exact H | (rw [hy233]; exact H) | exact H
          have Ny233 := Aside0.mk hy233
          clear hy233
          by_cases c4 : (strOfNums y233).size + x3_1.size ≤ 9223372036854775807
          · rw [if_pos c4] at H
            have c4b0 := eq_true c4
            have c4b1 : decide ((strOfNums y233).size + x3_1.size ≤ 9223372036854775807) = true := decide_eq_true c4
            try have c4b2 : (9223372036854775807 < (strOfNums y233).size + x3_1.size) = False := eq_false (Nat.not_lt.2 c4)
            have H' := Aside0.mk H
            clear H
            go_wp2_with (first | ((with_reducible refine gate_dst (N := 12) rfl ?_); refine Kd.R_lit (Kd.int .u8) _ 5 ?hg (N := 12) ?hd (xs := ([(wrap64 (48 + (Int.tmod x0_1 10))) % 256] : List Int)) (inner := [.int .u8 ((wrap64 (48 + (Int.tmod x0_1 10))) % 256)]) (ok := fun _ => True) (okp := fun _ => True) ?hr ?hp (fun _ hk => hk) trivial (Below.refl _ _) (Nat.le_refl _) (by simp) ?_; (case hd => rfl); (case hg => rfl); (case hr => first | (go_simp; done) | (go_simp; rfl)); (case hp => exact (Reps.one (show Kd.M (Kd.int .u8) _ _ _ ((wrap64 (48 + (Int.tmod x0_1 10))) % 256) [.int .u8 ((wrap64 (48 + (Int.tmod x0_1 10))) % 256)] from rfl) (Reps.none _ _))); intro v234 w5 ho6 hb hg_ hnew_; clear hg_ hnew_; (first | rw [← Ny233.out] at ho6 | (simp only [Int.reduceToNat] at ho6; rw [← Ny233.out] at ho6)); have HO235 := Aside0.mk (Kd.R_lower ho6 (below_size (BB HB.out))); replace HB := Aside0.mk (below_step (BB HB.out) hb); clear hb ho6; have hcv7 := own_string (P := Try.prog) Try.underlying72 Try.underlying5 Try.underlying9 (Kd.own_of_R HO235.out)))
            go_roundg k1
            case measure => have := HK1.out; omega
            case rel => exact ⟨(wrap64 (Int.tdiv x0_1 10)), ((strOfNums y233) ++ x3_1), FR, FR, H', ⟨by have := HK1.out; omega⟩, ⟨(BB HB.out)⟩⟩
          · rw [if_neg c4] at H
            exact absurd H (by simp)
        · rw [if_neg c3] at H
          have c3b0 : decide (0 < x0_1) = false := decide_eq_false c3
          clear c3
          by_cases c8 : 1 + x3_1.size ≤ 9223372036854775807
          · rw [if_pos c8] at H
            have c8b0 := eq_true c8
            have c8b1 : decide (1 + x3_1.size ≤ 9223372036854775807) = true := decide_eq_true c8
            try have c8b2 : (9223372036854775807 < 1 + x3_1.size) = False := eq_false (Nat.not_lt.2 c8)
            obtain rfl := Option.some.inj H
            go_wp2
            go_ret
            exact ⟨ER, (BB HB.out)⟩
          · rw [if_neg c8] at H
            exact absurd H (by simp)

end Go.Proofs.Ytdlcnldgiclpgaa.Pr

/- Printed out of the translation by this session's pr.py over the kit's print. Lean checks it. -/
namespace Go.Proofs.Ytdlcnldgiclpgaa.Pr
open Go.RowKit Go.Proofs.YtdlcnldgiclpgaaW.PrintWords Go.Proofs.YtdlcnldgiclpgaaW.PrintLast Go.Proofs.YtdlcnldgiclpgaaW.PrintMore
attribute [local go_sem] max2_int min2_int max_two min_two max_three min_three max_four min_four
set_option linter.unusedVariables false
set_option linter.unusedSimpArgs false

/-! ### laws_markLeaseS: function 27 -/
def laws_markLeaseS.l0 : Nat → List (S64) → Int → Int → Option (Int × (List (S64)))
  | 0, _, _, _ => none
  | k + 1, x0, x1, x5 => if x5 < (x0.length : Int) then ((laws_markText.f k x1).bind fun t236 => (if 0 ≤ x5 then ((some (x0.set (x5 : Int).toNat (⟨t236, (rd_T64 x0 x5).f1, (rd_T64 x0 x5).f2⟩ : S64) : List (S64))).bind fun y237 => ((some (y237.set (x5 : Int).toNat (⟨(rd_T64 y237 x5).f0, wrap64 (x1 + 1), (rd_T64 y237 x5).f2⟩ : S64) : List (S64))).bind fun y238 => (laws_markLeaseS.l0 k (y238.set (x5 : Int).toNat (⟨(rd_T64 y238 x5).f0, (rd_T64 y238 x5).f1, wrap64 ((wrap64 (x1 + 1)) + 1)⟩ : S64)) (wrap64 ((wrap64 ((wrap64 (x1 + 1)) + 1)) + 1)) (wrap64 (x5 + 1))))) else (none))) else (some (x1, x0))
def laws_markLeaseS.f (k : Nat) (l0 : List (S64)) (a1 : Int) : Option (Int × (List (S64))) := laws_markLeaseS.l0 k l0 a1 0
set_option maxHeartbeats 8000000 in
set_option maxRecDepth 100000 in
theorem laws_markLeaseS.calls (k : Nat) (P0_ : Nat → Prop) (u9000_ : Value) (l0 : List (S64)) (a1 : Int) (r1 : Int) (r2 : List (S64)) (w0 w : World) (hB : Below w0.heap.size w0 w) (ho0 : Kd.R k64 64 w w0.heap.size P0_ u9000_ l0) (h : laws_markLeaseS.f k l0 a1 = some (r1, r2)) :
    Calls Try.prog 27 #[u9000_, .int .i64 a1] w fun e w' => e = .returned (.int .i64 r1) ∧ Kd.R k64 64 w' w0.heap.size (fun k_ => (P0_ k_ ∨ w.heap.size ≤ k_)) u9000_ r2 ∧ Below w0.heap.size w0 w' ∧ Kept w w' (fun k_ => P0_ k_) := by
  have HO0 := Aside0.mk (show Kd.R k64 64 w w0.heap.size (fun k_ => (P0_ k_ ∨ w.heap.size ≤ k_)) u9000_ l0 from Kd.R_mono ho0 (fun k_ hk => (.inl hk)))
  have HK := Aside0.mk (Kept.refl w (fun k_ => P0_ k_))
  have HW0 := Aside0.mk hB.size
  have HB := Aside0.mk hB
  clear hB
  have H : (laws_markLeaseS.l0 k l0 a1 0) = some (r1, r2) := h
  clear h
  have H' := Aside0.mk H
  clear H
  go_enter Try.func27, Try.ntmps27
  go_wp2
  go_loopg [1, 5] k (fun kq v1 v5 w' => ∃ (x0_1 : List (S64)) (x1_1 : Int) (x5_1 : Int), v1 = .int .i64 x1_1 ∧ v5 = .int .i64 x5_1 ∧ Aside0 (laws_markLeaseS.l0 kq x0_1 x1_1 x5_1 = some (r1, r2)) ∧ Aside0 (kq ≤ k) ∧ Aside0 (Kd.R k64 64 w' w0.heap.size (fun k_ => (P0_ k_ ∨ w.heap.size ≤ k_)) u9000_ x0_1) ∧ Aside0 (Kept w w' (fun k_ => P0_ k_)) ∧ Aside0 (Below w0.heap.size w0 w'))
  case atStart => exact ⟨(l0), (a1), (0), FR, FR, H', ⟨Nat.le_refl _⟩, ⟨(RR HO0.out)⟩, ⟨by repeat (first | (with_reducible first | exact HK.out | apply Kept.alloc | apply Kept.drewN | apply Kept.drew) | exact HK.out)⟩, ⟨(BB HB.out)⟩⟩
  case round =>
    clear H'
    try clear c2
    try clear p2
    obtain ⟨x0_1, x1_1, x5_1, rfl, rfl, HA, HK1, HO_0, HK, HB⟩ := hrel
    cases gk with
    | zero => exact absurd HA.out (by simp [laws_markLeaseS.l0])
    | succ k1 =>
      have H := HA.out
      clear HA
      simp only [laws_markLeaseS.l0] at H
      by_cases c3 : x5_1 < (x0_1.length : Int)
      · rw [if_pos c3] at H
        have c3b0 : decide (x5_1 < (x0_1.length : Int)) = true := decide_eq_true c3
        clear c3
        replace H := Option.bind_eq_some_iff.mp H
        obtain ⟨t236, A40, H⟩ := H
        replace H : (if 0 ≤ x5_1 then ((some (x0_1.set (x5_1 : Int).toNat (⟨t236, (rd_T64 x0_1 x5_1).f1, (rd_T64 x0_1 x5_1).f2⟩ : S64) : List (S64))).bind fun y237 => ((some (y237.set (x5_1 : Int).toNat (⟨(rd_T64 y237 x5_1).f0, wrap64 (x1_1 + 1), (rd_T64 y237 x5_1).f2⟩ : S64) : List (S64))).bind fun y238 => (laws_markLeaseS.l0 k1 (y238.set (x5_1 : Int).toNat (⟨(rd_T64 y238 x5_1).f0, (rd_T64 y238 x5_1).f1, wrap64 ((wrap64 (x1_1 + 1)) + 1)⟩ : S64)) (wrap64 ((wrap64 ((wrap64 (x1_1 + 1)) + 1)) + 1)) (wrap64 (x5_1 + 1))))) else (none)) = some (r1, r2) := H
        have A4 := Aside0.mk A40
        clear A40
        by_cases c5 : 0 ≤ x5_1
        · rw [if_pos c5] at H
          have c5b0 : decide (0 ≤ x5_1) = true := decide_eq_true c5
          clear c5
          obtain ⟨y237, hy237⟩ : ∃ y_ : List (S64), y_ = (x0_1.set (x5_1 : Int).toNat (⟨t236, (rd_T64 x0_1 x5_1).f1, (rd_T64 x0_1 x5_1).f2⟩ : S64)) := ⟨_, rfl⟩
          replace H : ((some (y237.set (x5_1 : Int).toNat (⟨(rd_T64 y237 x5_1).f0, wrap64 (x1_1 + 1), (rd_T64 y237 x5_1).f2⟩ : S64) : List (S64))).bind fun y238 => (laws_markLeaseS.l0 k1 (y238.set (x5_1 : Int).toNat (⟨(rd_T64 y238 x5_1).f0, (rd_T64 y238 x5_1).f1, wrap64 ((wrap64 (x1_1 + 1)) + 1)⟩ : S64)) (wrap64 ((wrap64 ((wrap64 (x1_1 + 1)) + 1)) + 1)) (wrap64 (x5_1 + 1)))) = some (r1, r2) := by first | (rw [hy237]; with_reducible exact H) | (have H2_ := (Option.bind_some _ _).symm.trans H; rw [hy237]; with_reducible exact H2_) | (have H2_ := (Option.bind_some _ _).symm.trans H; with_reducible exact H2_) | with_reducible exact H | (rw [hy237]; exact H) | exact H
          have Ny237 := Aside0.mk hy237
          clear hy237
          obtain ⟨y238, hy238⟩ : ∃ y_ : List (S64), y_ = (y237.set (x5_1 : Int).toNat (⟨(rd_T64 y237 x5_1).f0, wrap64 (x1_1 + 1), (rd_T64 y237 x5_1).f2⟩ : S64)) := ⟨_, rfl⟩
          replace H : (laws_markLeaseS.l0 k1 (y238.set (x5_1 : Int).toNat (⟨(rd_T64 y238 x5_1).f0, (rd_T64 y238 x5_1).f1, wrap64 ((wrap64 (x1_1 + 1)) + 1)⟩ : S64)) (wrap64 ((wrap64 ((wrap64 (x1_1 + 1)) + 1)) + 1)) (wrap64 (x5_1 + 1))) = some (r1, r2) := by first | (rw [hy238]; with_reducible exact H) | (have H2_ := (Option.bind_some _ _).symm.trans H; rw [hy238]; with_reducible exact H2_) | (have H2_ := (Option.bind_some _ _).symm.trans H; with_reducible exact H2_) | with_reducible exact H | (rw [hy238]; exact H) | exact H
          have Ny238 := Aside0.mk hy238
          clear hy238
          obtain ⟨y239, hy239⟩ : ∃ y_ : List (S64), y_ = (y238.set (x5_1 : Int).toNat (⟨(rd_T64 y238 x5_1).f0, (rd_T64 y238 x5_1).f1, wrap64 ((wrap64 (x1_1 + 1)) + 1)⟩ : S64)) := ⟨_, rfl⟩
          replace H : (laws_markLeaseS.l0 k1 y239 (wrap64 ((wrap64 ((wrap64 (x1_1 + 1)) + 1)) + 1)) (wrap64 (x5_1 + 1))) = some (r1, r2) := by first | (rw [hy239]; with_reducible exact H) | (have H2_ := (Option.bind_some _ _).symm.trans H; rw [hy239]; with_reducible exact H2_) | (have H2_ := (Option.bind_some _ _).symm.trans H; with_reducible exact H2_) | with_reducible exact H | (rw [hy239]; exact H) | exact H
          have Ny239 := Aside0.mk hy239
          clear hy239
          have H' := Aside0.mk H
          clear H
          obtain ⟨Ao9, co9, eo9⟩ := Kd.R_slice HO_0.out
          subst eo9
          go_wp2_with (first | ((with_reducible refine gate_callee (f := 43) rfl ?_); refine GL (some 15) rfl rfl Try.func43 #[.int .i64 x1_1] rfl ?_; (with_reducible refine (laws_markText.calls k1 x1_1 t236 _ A4.out).mono ?_); rintro e w10 ⟨rfl, hb⟩; refine ⟨_, rfl, ?_⟩; replace HO_0 := Aside0.mk (Kd.R_below (RR HO_0.out) hb); replace HK := Aside0.mk (Kept.below (S := (fun k_ => P0_ k_)) (by repeat (first | (with_reducible first | exact HK.out | apply Kept.alloc | apply Kept.drewN | apply Kept.drew) | exact HK.out)) hb); replace HB := Aside0.mk (below_step (BB HB.out) hb); (try clear hb); have p6 : 0 ≤ (x5_1 : Int) := DT; have q6 : (x5_1 : Int) < ((x0_1.length : Int) : Int) := DT; obtain ⟨go6, co6, eo6, gb6, gl6, cl6, HG6⟩ := Kd.R_form HO_0.out (by omega); (first | cases eo6 | (injection eo6 with ea_ en_ ec_; (first | subst ea_ | (injection ea_ with ea_; subst ea_)); subst ec_; clear en_)); have GB6 := Aside0.mk gb6; have GG6 := Aside0.mk HG6; clear gb6 gl6 HG6; have HMgo6 := Aside0.mk (show (P0_ go6 ∨ w.heap.size ≤ go6) from (HO_0.out.1 _ rfl)); obtain ⟨ce6, hcl6, hM6, hcc6, hfr6⟩ := Kd.R_elem HO_0.out z64 (x5_1 : Int) p6 q6; obtain rfl := k64_openM hM6; have hx6_0 : w10.cell? ⟨go6, (x5_1 : Int).toNat * 3, none⟩ = some (.string ((rd_T64 x0_1 x5_1).f0)) := hcc6 0 _ rfl; have hx6_1 : w10.cell? ⟨go6, (x5_1 : Int).toNat * 3 + 1, none⟩ = some (.int .i64 ((rd_T64 x0_1 x5_1).f1)) := hcc6 1 _ rfl; have hx6_2 : w10.cell? ⟨go6, (x5_1 : Int).toNat * 3 + 2, none⟩ = some (.int .i64 ((rd_T64 x0_1 x5_1).f2)) := hcc6 2 _ rfl; have hf6_0 : w10.frozen? ⟨go6, (x5_1 : Int).toNat * 3, none⟩ = false := hfr6 0; have hf6_1 : w10.frozen? ⟨go6, (x5_1 : Int).toNat * 3 + 1, none⟩ = false := hfr6 1; have hf6_2 : w10.frozen? ⟨go6, (x5_1 : Int).toNat * 3 + 2, none⟩ = false := hfr6 2; clear hcl6 hcc6 hfr6 hM6; replace p6 := eq_true p6; replace q6 := eq_true q6; have HX11 := Aside0.mk (show Kd.R k64 64 w10 w0.heap.size (fun k_ => (P0_ k_ ∨ w.heap.size ≤ k_)) (.slice (some ⟨go6, 0, none⟩) x0_1.length co9) x0_1 from (RR HO_0.out)); obtain ⟨ce11, hcl11, hM11, hcc11, hfr11⟩ := Kd.R_elem HX11.out z64 (x5_1 : Int) DT (by have h_ : (x5_1 : Int) < ((x0_1.length : Int) : Int) := DT; first | exact h_ | (have e_ := (Kd.R_reads' HO_0.out).1; omega) | simpa using h_); obtain rfl := k64_openM hM11; have HP11 := Kd.R_seg HX11.out (x5_1 : Int) DT (by have h_ : (x5_1 : Int) < ((x0_1.length : Int) : Int) := DT; first | exact h_ | (have e_ := (Kd.R_reads' HO_0.out).1; omega) | simpa using h_) (seg := [.string t236]) (j := 0) hcl11 hcc11 (show 1 ≤ 3 from by decide) (x' := (⟨t236, (rd_T64 x0_1 x5_1).f1, (rd_T64 x0_1 x5_1).f2⟩ : S64)) (k64_mkM _ _ _ (⟨t236, (rd_T64 x0_1 x5_1).f1, (rd_T64 x0_1 x5_1).f2⟩ : S64) ) (fun _ hk => hk); have hx11_0 := hcc11 0 _ rfl; (try simp only [show (k64).sz = 3 from rfl, Nat.mul_one, Nat.add_zero] at hx11_0); have hf11_0 := hfr11 0; (try simp only [show (k64).sz = 3 from rfl, Nat.mul_one, Nat.add_zero] at hf11_0); clear hcl11 hcc11 hfr11 hM11) | ((with_reducible refine gate_store (t := 9) (p := 17) rfl ?_); refine store_event (t := 9) (p := 17) (v := ?vo_w12) (w1 := (w10.setCell ⟨go6, (x5_1 : Int).toNat * 3, none⟩ (.string t236))) ?hg ?ho ?hn ?hr ?_; (case ho => rfl); (case hg => rfl); (case hn => rfl); (case hr => first | (go_simp; done) | (go_simp; rfl)); intro w12 hw; have hg : w10.grownBy w12 (some go6) := (by rw [hw]; exact HP11.2); have hp_ : Kd.R k64 64 w12 w0.heap.size (fun k_ => (P0_ k_ ∨ w.heap.size ≤ k_)) (.slice (some ⟨go6, 0, none⟩) x0_1.length co9) y237 := (by rw [hw, Ny237.out]; exact HP11.1); clear HP11; have n0_ := Aside0.mk (hp_); have n1_ := Aside0.mk ((by rw [hw]; exact below_set (HB.out) GB6.out : Below w0.heap.size w0 w12)); have n2_ := Aside0.mk (Kept.of_grown (S := (fun k_ => P0_ k_)) hg (by repeat (first | (with_reducible first | exact HK.out | apply Kept.alloc | apply Kept.drewN | apply Kept.drew) | exact HK.out)) (fun k_ e_ => (HO_0.out.1 k_ e_))); clear HO_0; clear HB; clear HK; have HO_0 := n0_; have HB := n1_; have HK := n2_; clear n0_ n1_ n2_; clear hg hw hp_; have p7 : 0 ≤ (x5_1 : Int) := DT; have q7 : (x5_1 : Int) < ((x0_1.length : Int) : Int) := DT; obtain ⟨ce7, hcl7, hM7, hcc7, hfr7⟩ := Kd.R_elem HO_0.out z64 (x5_1 : Int) p7 q7; obtain rfl := k64_openM hM7; have hx7_0 : w12.cell? ⟨go6, (x5_1 : Int).toNat * 3, none⟩ = some (.string ((rd_T64 y237 x5_1).f0)) := hcc7 0 _ rfl; have hx7_1 : w12.cell? ⟨go6, (x5_1 : Int).toNat * 3 + 1, none⟩ = some (.int .i64 ((rd_T64 y237 x5_1).f1)) := hcc7 1 _ rfl; have hx7_2 : w12.cell? ⟨go6, (x5_1 : Int).toNat * 3 + 2, none⟩ = some (.int .i64 ((rd_T64 y237 x5_1).f2)) := hcc7 2 _ rfl; have hf7_0 : w12.frozen? ⟨go6, (x5_1 : Int).toNat * 3, none⟩ = false := hfr7 0; have hf7_1 : w12.frozen? ⟨go6, (x5_1 : Int).toNat * 3 + 1, none⟩ = false := hfr7 1; have hf7_2 : w12.frozen? ⟨go6, (x5_1 : Int).toNat * 3 + 2, none⟩ = false := hfr7 2; clear hcl7 hcc7 hfr7 hM7; replace p7 := eq_true p7; replace q7 := eq_true q7; have HX13 := Aside0.mk (show Kd.R k64 64 w12 w0.heap.size (fun k_ => (P0_ k_ ∨ w.heap.size ≤ k_)) (.slice (some ⟨go6, 0, none⟩) x0_1.length co9) y237 from (RR HO_0.out)); obtain ⟨ce13, hcl13, hM13, hcc13, hfr13⟩ := Kd.R_elem HX13.out z64 (x5_1 : Int) DT (by have h_ : (x5_1 : Int) < ((x0_1.length : Int) : Int) := DT; first | exact h_ | (have e_ := (Kd.R_reads' HO_0.out).1; omega) | simpa using h_); obtain rfl := k64_openM hM13; have HP13 := Kd.R_seg HX13.out (x5_1 : Int) DT (by have h_ : (x5_1 : Int) < ((x0_1.length : Int) : Int) := DT; first | exact h_ | (have e_ := (Kd.R_reads' HO_0.out).1; omega) | simpa using h_) (seg := [.int .i64 (wrap64 (x1_1 + 1))]) (j := 1) hcl13 hcc13 (show 2 ≤ 3 from by decide) (x' := (⟨(rd_T64 y237 x5_1).f0, wrap64 (x1_1 + 1), (rd_T64 y237 x5_1).f2⟩ : S64)) (k64_mkM _ _ _ (⟨(rd_T64 y237 x5_1).f0, wrap64 (x1_1 + 1), (rd_T64 y237 x5_1).f2⟩ : S64) ) (fun _ hk => hk); have hx13_1 := hcc13 1 _ rfl; (try simp only [show (k64).sz = 3 from rfl, Nat.mul_one, Nat.add_zero] at hx13_1); have hf13_1 := hfr13 1; (try simp only [show (k64).sz = 3 from rfl, Nat.mul_one, Nat.add_zero] at hf13_1); clear hcl13 hcc13 hfr13 hM13) | ((with_reducible refine gate_store (t := 3) (p := 24) rfl ?_); refine store_event (t := 3) (p := 24) (v := ?vo_w14) (w1 := (w12.setCell ⟨go6, (x5_1 : Int).toNat * 3 + 1, none⟩ (.int .i64 (wrap64 (x1_1 + 1))))) ?hg ?ho ?hn ?hr ?_; (case ho => rfl); (case hg => rfl); (case hn => rfl); (case hr => first | (go_simp; done) | (go_simp; rfl)); intro w14 hw; have hg : w12.grownBy w14 (some go6) := (by rw [hw]; exact HP13.2); have hp_ : Kd.R k64 64 w14 w0.heap.size (fun k_ => (P0_ k_ ∨ w.heap.size ≤ k_)) (.slice (some ⟨go6, 0, none⟩) x0_1.length co9) y238 := (by rw [hw, Ny238.out]; exact HP13.1); clear HP13; have n0_ := Aside0.mk (hp_); have n1_ := Aside0.mk ((by rw [hw]; exact below_set (HB.out) GB6.out : Below w0.heap.size w0 w14)); have n2_ := Aside0.mk (Kept.of_grown (S := (fun k_ => P0_ k_)) hg (by repeat (first | (with_reducible first | exact HK.out | apply Kept.alloc | apply Kept.drewN | apply Kept.drew) | exact HK.out)) (fun k_ e_ => (HO_0.out.1 k_ e_))); clear HO_0; clear HB; clear HK; have HO_0 := n0_; have HB := n1_; have HK := n2_; clear n0_ n1_ n2_; clear hg hw hp_; have p8 : 0 ≤ (x5_1 : Int) := DT; have q8 : (x5_1 : Int) < ((x0_1.length : Int) : Int) := DT; obtain ⟨ce8, hcl8, hM8, hcc8, hfr8⟩ := Kd.R_elem HO_0.out z64 (x5_1 : Int) p8 q8; obtain rfl := k64_openM hM8; have hx8_0 : w14.cell? ⟨go6, (x5_1 : Int).toNat * 3, none⟩ = some (.string ((rd_T64 y238 x5_1).f0)) := hcc8 0 _ rfl; have hx8_1 : w14.cell? ⟨go6, (x5_1 : Int).toNat * 3 + 1, none⟩ = some (.int .i64 ((rd_T64 y238 x5_1).f1)) := hcc8 1 _ rfl; have hx8_2 : w14.cell? ⟨go6, (x5_1 : Int).toNat * 3 + 2, none⟩ = some (.int .i64 ((rd_T64 y238 x5_1).f2)) := hcc8 2 _ rfl; have hf8_0 : w14.frozen? ⟨go6, (x5_1 : Int).toNat * 3, none⟩ = false := hfr8 0; have hf8_1 : w14.frozen? ⟨go6, (x5_1 : Int).toNat * 3 + 1, none⟩ = false := hfr8 1; have hf8_2 : w14.frozen? ⟨go6, (x5_1 : Int).toNat * 3 + 2, none⟩ = false := hfr8 2; clear hcl8 hcc8 hfr8 hM8; replace p8 := eq_true p8; replace q8 := eq_true q8; have HX15 := Aside0.mk (show Kd.R k64 64 w14 w0.heap.size (fun k_ => (P0_ k_ ∨ w.heap.size ≤ k_)) (.slice (some ⟨go6, 0, none⟩) x0_1.length co9) y238 from (RR HO_0.out)); obtain ⟨ce15, hcl15, hM15, hcc15, hfr15⟩ := Kd.R_elem HX15.out z64 (x5_1 : Int) DT (by have h_ : (x5_1 : Int) < ((x0_1.length : Int) : Int) := DT; first | exact h_ | (have e_ := (Kd.R_reads' HO_0.out).1; omega) | simpa using h_); obtain rfl := k64_openM hM15; have HP15 := Kd.R_seg HX15.out (x5_1 : Int) DT (by have h_ : (x5_1 : Int) < ((x0_1.length : Int) : Int) := DT; first | exact h_ | (have e_ := (Kd.R_reads' HO_0.out).1; omega) | simpa using h_) (seg := [.int .i64 (wrap64 ((wrap64 (x1_1 + 1)) + 1))]) (j := 2) hcl15 hcc15 (show 3 ≤ 3 from by decide) (x' := (⟨(rd_T64 y238 x5_1).f0, (rd_T64 y238 x5_1).f1, wrap64 ((wrap64 (x1_1 + 1)) + 1)⟩ : S64)) (k64_mkM _ _ _ (⟨(rd_T64 y238 x5_1).f0, (rd_T64 y238 x5_1).f1, wrap64 ((wrap64 (x1_1 + 1)) + 1)⟩ : S64) ) (fun _ hk => hk); have hx15_2 := hcc15 2 _ rfl; (try simp only [show (k64).sz = 3 from rfl, Nat.mul_one, Nat.add_zero] at hx15_2); have hf15_2 := hfr15 2; (try simp only [show (k64).sz = 3 from rfl, Nat.mul_one, Nat.add_zero] at hf15_2); clear hcl15 hcc15 hfr15 hM15) | ((with_reducible refine gate_store (t := 3) (p := 31) rfl ?_); refine store_event (t := 3) (p := 31) (v := ?vo_w16) (w1 := (w14.setCell ⟨go6, (x5_1 : Int).toNat * 3 + 2, none⟩ (.int .i64 (wrap64 ((wrap64 (x1_1 + 1)) + 1))))) ?hg ?ho ?hn ?hr ?_; (case ho => rfl); (case hg => rfl); (case hn => rfl); (case hr => first | (go_simp; done) | (go_simp; rfl)); intro w16 hw; have hg : w14.grownBy w16 (some go6) := (by rw [hw]; exact HP15.2); have hp_ : Kd.R k64 64 w16 w0.heap.size (fun k_ => (P0_ k_ ∨ w.heap.size ≤ k_)) (.slice (some ⟨go6, 0, none⟩) x0_1.length co9) y239 := (by rw [hw, Ny239.out]; exact HP15.1); clear HP15; have n0_ := Aside0.mk (hp_); have n1_ := Aside0.mk ((by rw [hw]; exact below_set (HB.out) GB6.out : Below w0.heap.size w0 w16)); have n2_ := Aside0.mk (Kept.of_grown (S := (fun k_ => P0_ k_)) hg (by repeat (first | (with_reducible first | exact HK.out | apply Kept.alloc | apply Kept.drewN | apply Kept.drew) | exact HK.out)) (fun k_ e_ => (HO_0.out.1 k_ e_))); clear HO_0; clear HB; clear HK; have HO_0 := n0_; have HB := n1_; have HK := n2_; clear n0_ n1_ n2_; clear hg hw hp_))
          go_roundg k1
          case measure => have := HK1.out; omega
          case rel => exact ⟨(y239), (wrap64 ((wrap64 ((wrap64 (x1_1 + 1)) + 1)) + 1)), (wrap64 (x5_1 + 1)), FR, FR, H', ⟨by have := HK1.out; omega⟩, ⟨(RR HO_0.out)⟩, ⟨by repeat (first | (with_reducible first | exact HK.out | apply Kept.alloc | apply Kept.drewN | apply Kept.drew) | exact HK.out)⟩, ⟨(BB HB.out)⟩⟩
        · rw [if_neg c5] at H
          exact absurd H (by simp)
      · rw [if_neg c3] at H
        have c3b0 : decide (x5_1 < (x0_1.length : Int)) = false := decide_eq_false c3
        clear c3
        simp only [Option.some.injEq, Prod.mk.injEq] at H
        obtain ⟨rfl, rfl⟩ := H
        obtain ⟨Ao17, co17, eo17⟩ := Kd.R_slice HO_0.out
        subst eo17
        go_wp2
        go_ret
        exact ⟨ER, by (with_reducible repeat (first | apply Kd.R_alloc | apply Kd.R_drewN | apply Kd.R_drew)); exact HO_0.out, (BB HB.out), by repeat (first | (with_reducible first | exact HK.out | apply Kept.alloc | apply Kept.drewN | apply Kept.drew) | exact HK.out)⟩

end Go.Proofs.Ytdlcnldgiclpgaa.Pr

/- Printed out of the translation by this session's pr.py over the kit's print. Lean checks it. -/
namespace Go.Proofs.Ytdlcnldgiclpgaa.Pr
open Go.RowKit Go.Proofs.YtdlcnldgiclpgaaW.PrintWords Go.Proofs.YtdlcnldgiclpgaaW.PrintLast Go.Proofs.YtdlcnldgiclpgaaW.PrintMore
attribute [local go_sem] max2_int min2_int max_two min_two max_three min_three max_four min_four
set_option linter.unusedVariables false
set_option linter.unusedSimpArgs false

/-! ### laws_heldLeaseS: function 28 -/
def laws_heldLeaseS.l0 : Nat → List (S64) → Int → Int → Option (Int)
  | 0, _, _, _ => none
  | k + 1, x0, x1, x5 => if x5 < (x0.length : Int) then (if 0 ≤ x5 then ((laws_markText.f k x1).bind fun t241 => (if ((rd_T64 x0 x5).f0).toList = t241.toList then (if ((rd_T64 x0 x5).f1) = (wrap64 (x1 + 1)) then (if ((rd_T64 x0 x5).f2) = (wrap64 ((wrap64 (x1 + 1)) + 1)) then (laws_heldLeaseS.l0 k x0 (wrap64 ((wrap64 ((wrap64 (x1 + 1)) + 1)) + 1)) (wrap64 (x5 + 1))) else (some (-1))) else (some (-1))) else (some (-1)))) else (none)) else (some x1)
def laws_heldLeaseS.f (k : Nat) (l0 : List (S64)) (a1 : Int) : Option (Int) := laws_heldLeaseS.l0 k l0 a1 0
def laws_heldLeaseS.T4 : Bool × List (List Nat × List Nat) := (true, [([], []), ([], []), ([0, 1], [0, 1]), ([2], [2]), ([3], [3]), ([], []), ([5], [5]), ([4, 6], [4, 6])])
def laws_heldLeaseS.B4 : List Nat := [0, 0, 3, 7, 15, 0, 32, 127]
theorem laws_heldLeaseS.tab4 : rtab .any (opsOf Try.f28 4) = laws_heldLeaseS.T4 := by kernel_rfl
theorem laws_heldLeaseS.bits4 : waitsOk laws_heldLeaseS.T4.2 laws_heldLeaseS.B4 = true := by kernel_rfl
set_option maxHeartbeats 8000000 in
set_option maxRecDepth 100000 in
theorem laws_heldLeaseS.calls (k : Nat) (A0 : Option Addr) (c0 : Nat) (l0 : List (S64)) (a1 : Int) (r : Int) (w : World) (hr0 : Kd.C k64 w A0 l0.length l0) (hc0 : l0.length ≤ c0) (h : laws_heldLeaseS.f k l0 a1 = some r) :
    Calls Try.prog 28 #[.slice A0 l0.length c0, .int .i64 a1] w fun e w' => e = .returned (.int .i64 r) ∧ Below w.heap.size w w' := by
  have HR0 := Aside0.mk hr0
  have HC0 := Aside0.mk hc0
  clear hr0 hc0
  have HB := Aside0.mk (Below.refl w.heap.size w)
  have H : (laws_heldLeaseS.l0 k l0 a1 0) = some r := h
  clear h
  have H' := Aside0.mk H
  clear H
  go_enter Try.func28, Try.ntmps28
  go_wp2
  go_loopg [1, 5] k (fun kq v1 v5 w' => ∃ (x1_1 : Int) (x5_1 : Int), v1 = .int .i64 x1_1 ∧ v5 = .int .i64 x5_1 ∧ Aside0 (laws_heldLeaseS.l0 kq l0 x1_1 x5_1 = some r) ∧ Aside0 (kq ≤ k) ∧ Aside0 (Below w.heap.size w w'))
  case atStart => exact ⟨(a1), (0), FR, FR, H', ⟨Nat.le_refl _⟩, ⟨(BB HB.out)⟩⟩
  case round =>
    clear H'
    try clear c2
    try clear p2
    obtain ⟨x1_1, x5_1, rfl, rfl, HA, HK1, HB⟩ := hrel
    cases gk with
    | zero => exact absurd HA.out (by simp [laws_heldLeaseS.l0])
    | succ k1 =>
      have H := HA.out
      clear HA
      simp only [laws_heldLeaseS.l0] at H
      by_cases c3 : x5_1 < (l0.length : Int)
      · rw [if_pos c3] at H
        have c3b0 : decide (x5_1 < (l0.length : Int)) = true := decide_eq_true c3
        clear c3
        by_cases c4 : 0 ≤ x5_1
        · rw [if_pos c4] at H
          have c4b0 : decide (0 ≤ x5_1) = true := decide_eq_true c4
          clear c4
          replace H := Option.bind_eq_some_iff.mp H
          obtain ⟨t241, A50, H⟩ := H
          replace H : (if ((rd_T64 l0 x5_1).f0).toList = t241.toList then (if ((rd_T64 l0 x5_1).f1) = (wrap64 (x1_1 + 1)) then (if ((rd_T64 l0 x5_1).f2) = (wrap64 ((wrap64 (x1_1 + 1)) + 1)) then (laws_heldLeaseS.l0 k1 l0 (wrap64 ((wrap64 ((wrap64 (x1_1 + 1)) + 1)) + 1)) (wrap64 (x5_1 + 1))) else (some (-1))) else (some (-1))) else (some (-1))) = some r := H
          have A5 := Aside0.mk A50
          clear A50
          by_cases c6 : ((rd_T64 l0 x5_1).f0).toList = t241.toList
          · rw [if_pos c6] at H
            have c6b0 : (((rd_T64 l0 x5_1).f0).toList == t241.toList) = true := beq_iff_eq.mpr c6
            have c6b1 : (((rd_T64 l0 x5_1).f0).toList != t241.toList) = false := bne_eq_false_iff_eq.mpr c6
            clear c6
            by_cases c7 : ((rd_T64 l0 x5_1).f1) = (wrap64 (x1_1 + 1))
            · rw [if_pos c7] at H
              have c7b0 : (((rd_T64 l0 x5_1).f1) == (wrap64 (x1_1 + 1))) = true := beq_iff_eq.mpr c7
              have c7b1 : (((rd_T64 l0 x5_1).f1) != (wrap64 (x1_1 + 1))) = false := bne_eq_false_iff_eq.mpr c7
              clear c7
              by_cases c8 : ((rd_T64 l0 x5_1).f2) = (wrap64 ((wrap64 (x1_1 + 1)) + 1))
              · rw [if_pos c8] at H
                have c8b0 : (((rd_T64 l0 x5_1).f2) == (wrap64 ((wrap64 (x1_1 + 1)) + 1))) = true := beq_iff_eq.mpr c8
                have c8b1 : (((rd_T64 l0 x5_1).f2) != (wrap64 ((wrap64 (x1_1 + 1)) + 1))) = false := bne_eq_false_iff_eq.mpr c8
                clear c8
                have H' := Aside0.mk H
                clear H
                try go_wp2
                have n0_ := Aside0.mk (below_drew1 HB.out)
                clear HB
                have HB := n0_
                clear n0_
                have p240 : 0 ≤ (x5_1 : Int) := DT
                have q240 : x5_1 < (l0.length : Int) := DT
                obtain ⟨ad240, e240, hx240_0, hx240_1, hx240_2⟩ := at_T64 HR0.out x5_1 p240 q240
                have hw240_2 := hx240_2
                have hw240_1 := hx240_1
                have hw240_0 := hx240_0
                cases e240
                replace hx240_0 := (HB.out.cell (World.block_lt_of_cell? w _ hx240_0)).trans hx240_0
                replace hx240_1 := (HB.out.cell (World.block_lt_of_cell? w _ hx240_1)).trans hx240_1
                replace hx240_2 := (HB.out.cell (World.block_lt_of_cell? w _ hx240_2)).trans hx240_2
                replace p240 := eq_true p240
                replace q240 := eq_true q240
                refine start_ (n := 8) (S := fun w' => w'.cell? (ad240.add ((x5_1).toNat * 3)) = some (.string ((rd_T64 l0 x5_1).f0)) ∧ w'.cell? ⟨(ad240.add ((x5_1).toNat * 3)).block, (ad240.add ((x5_1).toNat * 3)).off + 1, none⟩ = some (.int .i64 ((rd_T64 l0 x5_1).f1)) ∧ w'.cell? ⟨(ad240.add ((x5_1).toNat * 3)).block, (ad240.add ((x5_1).toNat * 3)).off + 2, none⟩ = some (.int .i64 ((rd_T64 l0 x5_1).f2))) (ds := []) #[false, false, false, false, false, false, false, false] (by kernel_rfl) rfl rfl ⟨((HB.out.cell (World.block_lt_of_cell? w _ hw240_0)).trans hw240_0), ((HB.out.cell (World.block_lt_of_cell? w _ hw240_1)).trans hw240_1), ((HB.out.cell (World.block_lt_of_cell? w _ hw240_2)).trans hw240_2)⟩ (fun hHeld => ?_); refine with_tabW laws_heldLeaseS.tab4 laws_heldLeaseS.bits4 (fun HT_ HW_ => ?_)
                generalize wr.drew = w9 at HB hx240_0 hx240_1 hx240_2 hHeld ⊢
                refine pure_ (i := 0) (N := some 12) (v := ?_) (a' := ?_) #[true, false, false, false, false, false, false, false] rfl rfl (any_of HT_.out (by kernel_rfl)) (fun _ _ _ h => h) (Or.inl ⟨by rfl, ?_⟩) ?_ ?_
                rotate_left
                · intro w'
                  go_simp
                  with_reducible rfl
                rotate_left
                · simp only [Act.put, List.setIfInBounds_toArray, List.set_cons_zero, List.set_cons_succ, i64_w, i32_w]
                  rfl
                refine pure_ (i := 1) (N := some 13) (v := ?_) (a' := ?_) #[true, true, false, false, false, false, false, false] rfl rfl (any_of HT_.out (by kernel_rfl)) (fun _ _ _ h => h) (Or.inl ⟨by rfl, ?_⟩) ?_ ?_
                rotate_left
                · intro w'
                  go_simp
                  with_reducible rfl
                rotate_left
                · simp only [Act.put, List.setIfInBounds_toArray, List.set_cons_zero, List.set_cons_succ, i64_w, i32_w]
                  rfl
                refine pure_ (i := 2) (N := some 14) (v := ?_) (a' := ?_) #[true, true, true, false, false, false, false, false] rfl rfl (any_of HT_.out (by kernel_rfl)) (fun _ _ _ h => h) (Or.inl ⟨by rfl, ?_⟩) ?_ ?_
                rotate_left
                · intro w'
                  go_simp
                  with_reducible rfl
                rotate_left
                · simp only [Act.put, List.setIfInBounds_toArray, List.set_cons_zero, List.set_cons_succ, i64_w, i32_w]
                  rfl
                refine pure_ (i := 3) (N := some 15) (v := ?_) (a' := ?_) #[true, true, true, true, false, false, false, false] rfl rfl (any_of HT_.out (by kernel_rfl)) (fun _ _ _ h => h) (Or.inl ⟨by rfl, ?_⟩) ?_ ?_
                rotate_left
                · intro w'
                  go_simp
                  with_reducible rfl
                rotate_left
                · simp only [Act.put, List.setIfInBounds_toArray, List.set_cons_zero, List.set_cons_succ, i64_w, i32_w]
                  rfl
                refine pure_ (i := 5) (N := some 17) (v := ?_) (a' := ?_) #[true, true, true, true, false, true, false, false] rfl rfl (any_of HT_.out (by kernel_rfl)) (fun _ _ _ h => h) (Or.inl ⟨by rfl, ?_⟩) ?_ ?_
                rotate_left
                · intro w'
                  go_simp
                  with_reducible rfl
                rotate_left
                · simp only [Act.put, List.setIfInBounds_toArray, List.set_cons_zero, List.set_cons_succ, i64_w, i32_w]
                  rfl
                refine take_ (i := 4) (N := some 16) (v := ?_) (a' := ?_) #[true, true, true, true, true, true, false, false] rfl rfl (take_ofW HT_.out HW_.out (by kernel_rfl)) (fun _ _ _ h => h) (Or.inl ⟨by rfl, ?_⟩) hHeld ?_ ?_
                rotate_left
                · rintro w' ⟨s0, s1, s2⟩
                  go_simp
                  with_reducible rfl
                rotate_left
                · simp only [Act.put, List.setIfInBounds_toArray, List.set_cons_zero, List.set_cons_succ, i64_w, i32_w]
                  rfl
                refine one_ (i := 6) (N := some 18) #[true, true, true, true, true, true, true, false] rfl rfl (one_of HT_.out (by kernel_rfl)) (by decide) (fun K hK => ?_)
                refine goes_ Try.func43 (by kernel_rfl) rfl #[.int .i64 x1_1] (by rfl) rfl rfl (by (try simp only [List.map_toArray, List.map_cons, List.map_nil]); first | done | rfl | (simp only [List.length_drop, List.length_take]; rfl)) ?_
                with_reducible refine (laws_markText.calls k1 x1_1 t241 _ A5.out).mono ?_
                rintro e w10 ⟨rfl, hb⟩
                refine ⟨_, rfl, ?_⟩
                have n0_ := Aside0.mk (below_step (BB HB.out) hb)
                clear HB
                have HB := n0_
                clear n0_
                (try clear hb)
                (try clear hb2)
                (try clear hk)
                (try clear hi)
                refine hK.out _ _ ⟨((HB.out.cell (World.block_lt_of_cell? w _ hw240_0)).trans hw240_0), ((HB.out.cell (World.block_lt_of_cell? w _ hw240_1)).trans hw240_1), ((HB.out.cell (World.block_lt_of_cell? w _ hw240_2)).trans hw240_2)⟩ (fun hHeld => ?_)
                clear hK K
                refine norm_ (a' := ?_) ?_ ?_
                rotate_left
                · show Act.put _ (some 18) _ = _
                  simp only [Act.put, List.setIfInBounds_toArray, List.set_cons_zero, List.set_cons_succ, i64_w, i32_w]
                  rfl
                refine pure_ (i := 7) (N := some 19) (v := ?_) (a' := ?_) #[true, true, true, true, true, true, true, true] rfl rfl (any_of HT_.out (by kernel_rfl)) (fun _ _ _ h => h) (Or.inl ⟨by rfl, ?_⟩) ?_ ?_
                rotate_left
                · intro w'
                  go_simp
                  with_reducible rfl
                rotate_left
                · simp only [Act.put, List.setIfInBounds_toArray, List.set_cons_zero, List.set_cons_succ, i64_w, i32_w]
                  rfl
                refine done_ (done_of HT_.out (by kernel_rfl)) ?_
                have p242 : 0 ≤ (x5_1 : Int) := DT
                have q242 : x5_1 < (l0.length : Int) := DT
                obtain ⟨ad242, e242, hx242_0, hx242_1, hx242_2⟩ := at_T64 HR0.out x5_1 p242 q242
                obtain rfl : ad240 = ad242 := (by injection e242)
                replace hx242_0 := (HB.out.cell (World.block_lt_of_cell? w _ hx242_0)).trans hx242_0
                replace hx242_1 := (HB.out.cell (World.block_lt_of_cell? w _ hx242_1)).trans hx242_1
                replace hx242_2 := (HB.out.cell (World.block_lt_of_cell? w _ hx242_2)).trans hx242_2
                replace p242 := eq_true p242
                replace q242 := eq_true q242
                have p243 : 0 ≤ (x5_1 : Int) := DT
                have q243 : x5_1 < (l0.length : Int) := DT
                obtain ⟨ad243, e243, hx243_0, hx243_1, hx243_2⟩ := at_T64 HR0.out x5_1 p243 q243
                obtain rfl : ad240 = ad243 := (by injection e243)
                replace hx243_0 := (HB.out.cell (World.block_lt_of_cell? w _ hx243_0)).trans hx243_0
                replace hx243_1 := (HB.out.cell (World.block_lt_of_cell? w _ hx243_1)).trans hx243_1
                replace hx243_2 := (HB.out.cell (World.block_lt_of_cell? w _ hx243_2)).trans hx243_2
                replace p243 := eq_true p243
                replace q243 := eq_true q243
                try go_wp2
                go_roundg k1
                case measure => have := HK1.out; omega
                case rel => exact ⟨(wrap64 ((wrap64 ((wrap64 (x1_1 + 1)) + 1)) + 1)), (wrap64 (x5_1 + 1)), FR, FR, H', ⟨by have := HK1.out; omega⟩, ⟨(BB HB.out)⟩⟩
              · rw [if_neg c8] at H
                have c8b0 : (((rd_T64 l0 x5_1).f2) == (wrap64 ((wrap64 (x1_1 + 1)) + 1))) = false := beq_eq_false_iff_ne.mpr c8
                have c8b1 : (((rd_T64 l0 x5_1).f2) != (wrap64 ((wrap64 (x1_1 + 1)) + 1))) = true := bne_iff_ne.mpr c8
                obtain rfl := Option.some.inj H
                try go_wp2
                have n0_ := Aside0.mk (below_drew1 HB.out)
                clear HB
                have HB := n0_
                clear n0_
                have p240 : 0 ≤ (x5_1 : Int) := DT
                have q240 : x5_1 < (l0.length : Int) := DT
                obtain ⟨ad240, e240, hx240_0, hx240_1, hx240_2⟩ := at_T64 HR0.out x5_1 p240 q240
                have hw240_2 := hx240_2
                have hw240_1 := hx240_1
                have hw240_0 := hx240_0
                cases e240
                replace hx240_0 := (HB.out.cell (World.block_lt_of_cell? w _ hx240_0)).trans hx240_0
                replace hx240_1 := (HB.out.cell (World.block_lt_of_cell? w _ hx240_1)).trans hx240_1
                replace hx240_2 := (HB.out.cell (World.block_lt_of_cell? w _ hx240_2)).trans hx240_2
                replace p240 := eq_true p240
                replace q240 := eq_true q240
                refine start_ (n := 8) (S := fun w' => w'.cell? (ad240.add ((x5_1).toNat * 3)) = some (.string ((rd_T64 l0 x5_1).f0)) ∧ w'.cell? ⟨(ad240.add ((x5_1).toNat * 3)).block, (ad240.add ((x5_1).toNat * 3)).off + 1, none⟩ = some (.int .i64 ((rd_T64 l0 x5_1).f1)) ∧ w'.cell? ⟨(ad240.add ((x5_1).toNat * 3)).block, (ad240.add ((x5_1).toNat * 3)).off + 2, none⟩ = some (.int .i64 ((rd_T64 l0 x5_1).f2))) (ds := []) #[false, false, false, false, false, false, false, false] (by kernel_rfl) rfl rfl ⟨((HB.out.cell (World.block_lt_of_cell? w _ hw240_0)).trans hw240_0), ((HB.out.cell (World.block_lt_of_cell? w _ hw240_1)).trans hw240_1), ((HB.out.cell (World.block_lt_of_cell? w _ hw240_2)).trans hw240_2)⟩ (fun hHeld => ?_); refine with_tabW laws_heldLeaseS.tab4 laws_heldLeaseS.bits4 (fun HT_ HW_ => ?_)
                generalize wr.drew = w11 at HB hx240_0 hx240_1 hx240_2 hHeld ⊢
                refine pure_ (i := 0) (N := some 12) (v := ?_) (a' := ?_) #[true, false, false, false, false, false, false, false] rfl rfl (any_of HT_.out (by kernel_rfl)) (fun _ _ _ h => h) (Or.inl ⟨by rfl, ?_⟩) ?_ ?_
                rotate_left
                · intro w'
                  go_simp
                  with_reducible rfl
                rotate_left
                · simp only [Act.put, List.setIfInBounds_toArray, List.set_cons_zero, List.set_cons_succ, i64_w, i32_w]
                  rfl
                refine pure_ (i := 1) (N := some 13) (v := ?_) (a' := ?_) #[true, true, false, false, false, false, false, false] rfl rfl (any_of HT_.out (by kernel_rfl)) (fun _ _ _ h => h) (Or.inl ⟨by rfl, ?_⟩) ?_ ?_
                rotate_left
                · intro w'
                  go_simp
                  with_reducible rfl
                rotate_left
                · simp only [Act.put, List.setIfInBounds_toArray, List.set_cons_zero, List.set_cons_succ, i64_w, i32_w]
                  rfl
                refine pure_ (i := 2) (N := some 14) (v := ?_) (a' := ?_) #[true, true, true, false, false, false, false, false] rfl rfl (any_of HT_.out (by kernel_rfl)) (fun _ _ _ h => h) (Or.inl ⟨by rfl, ?_⟩) ?_ ?_
                rotate_left
                · intro w'
                  go_simp
                  with_reducible rfl
                rotate_left
                · simp only [Act.put, List.setIfInBounds_toArray, List.set_cons_zero, List.set_cons_succ, i64_w, i32_w]
                  rfl
                refine pure_ (i := 3) (N := some 15) (v := ?_) (a' := ?_) #[true, true, true, true, false, false, false, false] rfl rfl (any_of HT_.out (by kernel_rfl)) (fun _ _ _ h => h) (Or.inl ⟨by rfl, ?_⟩) ?_ ?_
                rotate_left
                · intro w'
                  go_simp
                  with_reducible rfl
                rotate_left
                · simp only [Act.put, List.setIfInBounds_toArray, List.set_cons_zero, List.set_cons_succ, i64_w, i32_w]
                  rfl
                refine pure_ (i := 5) (N := some 17) (v := ?_) (a' := ?_) #[true, true, true, true, false, true, false, false] rfl rfl (any_of HT_.out (by kernel_rfl)) (fun _ _ _ h => h) (Or.inl ⟨by rfl, ?_⟩) ?_ ?_
                rotate_left
                · intro w'
                  go_simp
                  with_reducible rfl
                rotate_left
                · simp only [Act.put, List.setIfInBounds_toArray, List.set_cons_zero, List.set_cons_succ, i64_w, i32_w]
                  rfl
                refine take_ (i := 4) (N := some 16) (v := ?_) (a' := ?_) #[true, true, true, true, true, true, false, false] rfl rfl (take_ofW HT_.out HW_.out (by kernel_rfl)) (fun _ _ _ h => h) (Or.inl ⟨by rfl, ?_⟩) hHeld ?_ ?_
                rotate_left
                · rintro w' ⟨s0, s1, s2⟩
                  go_simp
                  with_reducible rfl
                rotate_left
                · simp only [Act.put, List.setIfInBounds_toArray, List.set_cons_zero, List.set_cons_succ, i64_w, i32_w]
                  rfl
                refine one_ (i := 6) (N := some 18) #[true, true, true, true, true, true, true, false] rfl rfl (one_of HT_.out (by kernel_rfl)) (by decide) (fun K hK => ?_)
                refine goes_ Try.func43 (by kernel_rfl) rfl #[.int .i64 x1_1] (by rfl) rfl rfl (by (try simp only [List.map_toArray, List.map_cons, List.map_nil]); first | done | rfl | (simp only [List.length_drop, List.length_take]; rfl)) ?_
                with_reducible refine (laws_markText.calls k1 x1_1 t241 _ A5.out).mono ?_
                rintro e w12 ⟨rfl, hb⟩
                refine ⟨_, rfl, ?_⟩
                have n0_ := Aside0.mk (below_step (BB HB.out) hb)
                clear HB
                have HB := n0_
                clear n0_
                (try clear hb)
                (try clear hb2)
                (try clear hk)
                (try clear hi)
                refine hK.out _ _ ⟨((HB.out.cell (World.block_lt_of_cell? w _ hw240_0)).trans hw240_0), ((HB.out.cell (World.block_lt_of_cell? w _ hw240_1)).trans hw240_1), ((HB.out.cell (World.block_lt_of_cell? w _ hw240_2)).trans hw240_2)⟩ (fun hHeld => ?_)
                clear hK K
                refine norm_ (a' := ?_) ?_ ?_
                rotate_left
                · show Act.put _ (some 18) _ = _
                  simp only [Act.put, List.setIfInBounds_toArray, List.set_cons_zero, List.set_cons_succ, i64_w, i32_w]
                  rfl
                refine pure_ (i := 7) (N := some 19) (v := ?_) (a' := ?_) #[true, true, true, true, true, true, true, true] rfl rfl (any_of HT_.out (by kernel_rfl)) (fun _ _ _ h => h) (Or.inl ⟨by rfl, ?_⟩) ?_ ?_
                rotate_left
                · intro w'
                  go_simp
                  with_reducible rfl
                rotate_left
                · simp only [Act.put, List.setIfInBounds_toArray, List.set_cons_zero, List.set_cons_succ, i64_w, i32_w]
                  rfl
                refine done_ (done_of HT_.out (by kernel_rfl)) ?_
                have p242 : 0 ≤ (x5_1 : Int) := DT
                have q242 : x5_1 < (l0.length : Int) := DT
                obtain ⟨ad242, e242, hx242_0, hx242_1, hx242_2⟩ := at_T64 HR0.out x5_1 p242 q242
                obtain rfl : ad240 = ad242 := (by injection e242)
                replace hx242_0 := (HB.out.cell (World.block_lt_of_cell? w _ hx242_0)).trans hx242_0
                replace hx242_1 := (HB.out.cell (World.block_lt_of_cell? w _ hx242_1)).trans hx242_1
                replace hx242_2 := (HB.out.cell (World.block_lt_of_cell? w _ hx242_2)).trans hx242_2
                replace p242 := eq_true p242
                replace q242 := eq_true q242
                have p243 : 0 ≤ (x5_1 : Int) := DT
                have q243 : x5_1 < (l0.length : Int) := DT
                obtain ⟨ad243, e243, hx243_0, hx243_1, hx243_2⟩ := at_T64 HR0.out x5_1 p243 q243
                obtain rfl : ad240 = ad243 := (by injection e243)
                replace hx243_0 := (HB.out.cell (World.block_lt_of_cell? w _ hx243_0)).trans hx243_0
                replace hx243_1 := (HB.out.cell (World.block_lt_of_cell? w _ hx243_1)).trans hx243_1
                replace hx243_2 := (HB.out.cell (World.block_lt_of_cell? w _ hx243_2)).trans hx243_2
                replace p243 := eq_true p243
                replace q243 := eq_true q243
                try go_wp2
                go_ret
                exact ⟨ER, (BB HB.out)⟩
            · rw [if_neg c7] at H
              have c7b0 : (((rd_T64 l0 x5_1).f1) == (wrap64 (x1_1 + 1))) = false := beq_eq_false_iff_ne.mpr c7
              have c7b1 : (((rd_T64 l0 x5_1).f1) != (wrap64 (x1_1 + 1))) = true := bne_iff_ne.mpr c7
              obtain rfl := Option.some.inj H
              try go_wp2
              have n0_ := Aside0.mk (below_drew1 HB.out)
              clear HB
              have HB := n0_
              clear n0_
              have p240 : 0 ≤ (x5_1 : Int) := DT
              have q240 : x5_1 < (l0.length : Int) := DT
              obtain ⟨ad240, e240, hx240_0, hx240_1, hx240_2⟩ := at_T64 HR0.out x5_1 p240 q240
              have hw240_2 := hx240_2
              have hw240_1 := hx240_1
              have hw240_0 := hx240_0
              cases e240
              replace hx240_0 := (HB.out.cell (World.block_lt_of_cell? w _ hx240_0)).trans hx240_0
              replace hx240_1 := (HB.out.cell (World.block_lt_of_cell? w _ hx240_1)).trans hx240_1
              replace hx240_2 := (HB.out.cell (World.block_lt_of_cell? w _ hx240_2)).trans hx240_2
              replace p240 := eq_true p240
              replace q240 := eq_true q240
              refine start_ (n := 8) (S := fun w' => w'.cell? (ad240.add ((x5_1).toNat * 3)) = some (.string ((rd_T64 l0 x5_1).f0)) ∧ w'.cell? ⟨(ad240.add ((x5_1).toNat * 3)).block, (ad240.add ((x5_1).toNat * 3)).off + 1, none⟩ = some (.int .i64 ((rd_T64 l0 x5_1).f1)) ∧ w'.cell? ⟨(ad240.add ((x5_1).toNat * 3)).block, (ad240.add ((x5_1).toNat * 3)).off + 2, none⟩ = some (.int .i64 ((rd_T64 l0 x5_1).f2))) (ds := []) #[false, false, false, false, false, false, false, false] (by kernel_rfl) rfl rfl ⟨((HB.out.cell (World.block_lt_of_cell? w _ hw240_0)).trans hw240_0), ((HB.out.cell (World.block_lt_of_cell? w _ hw240_1)).trans hw240_1), ((HB.out.cell (World.block_lt_of_cell? w _ hw240_2)).trans hw240_2)⟩ (fun hHeld => ?_); refine with_tabW laws_heldLeaseS.tab4 laws_heldLeaseS.bits4 (fun HT_ HW_ => ?_)
              generalize wr.drew = w13 at HB hx240_0 hx240_1 hx240_2 hHeld ⊢
              refine pure_ (i := 0) (N := some 12) (v := ?_) (a' := ?_) #[true, false, false, false, false, false, false, false] rfl rfl (any_of HT_.out (by kernel_rfl)) (fun _ _ _ h => h) (Or.inl ⟨by rfl, ?_⟩) ?_ ?_
              rotate_left
              · intro w'
                go_simp
                with_reducible rfl
              rotate_left
              · simp only [Act.put, List.setIfInBounds_toArray, List.set_cons_zero, List.set_cons_succ, i64_w, i32_w]
                rfl
              refine pure_ (i := 1) (N := some 13) (v := ?_) (a' := ?_) #[true, true, false, false, false, false, false, false] rfl rfl (any_of HT_.out (by kernel_rfl)) (fun _ _ _ h => h) (Or.inl ⟨by rfl, ?_⟩) ?_ ?_
              rotate_left
              · intro w'
                go_simp
                with_reducible rfl
              rotate_left
              · simp only [Act.put, List.setIfInBounds_toArray, List.set_cons_zero, List.set_cons_succ, i64_w, i32_w]
                rfl
              refine pure_ (i := 2) (N := some 14) (v := ?_) (a' := ?_) #[true, true, true, false, false, false, false, false] rfl rfl (any_of HT_.out (by kernel_rfl)) (fun _ _ _ h => h) (Or.inl ⟨by rfl, ?_⟩) ?_ ?_
              rotate_left
              · intro w'
                go_simp
                with_reducible rfl
              rotate_left
              · simp only [Act.put, List.setIfInBounds_toArray, List.set_cons_zero, List.set_cons_succ, i64_w, i32_w]
                rfl
              refine pure_ (i := 3) (N := some 15) (v := ?_) (a' := ?_) #[true, true, true, true, false, false, false, false] rfl rfl (any_of HT_.out (by kernel_rfl)) (fun _ _ _ h => h) (Or.inl ⟨by rfl, ?_⟩) ?_ ?_
              rotate_left
              · intro w'
                go_simp
                with_reducible rfl
              rotate_left
              · simp only [Act.put, List.setIfInBounds_toArray, List.set_cons_zero, List.set_cons_succ, i64_w, i32_w]
                rfl
              refine pure_ (i := 5) (N := some 17) (v := ?_) (a' := ?_) #[true, true, true, true, false, true, false, false] rfl rfl (any_of HT_.out (by kernel_rfl)) (fun _ _ _ h => h) (Or.inl ⟨by rfl, ?_⟩) ?_ ?_
              rotate_left
              · intro w'
                go_simp
                with_reducible rfl
              rotate_left
              · simp only [Act.put, List.setIfInBounds_toArray, List.set_cons_zero, List.set_cons_succ, i64_w, i32_w]
                rfl
              refine take_ (i := 4) (N := some 16) (v := ?_) (a' := ?_) #[true, true, true, true, true, true, false, false] rfl rfl (take_ofW HT_.out HW_.out (by kernel_rfl)) (fun _ _ _ h => h) (Or.inl ⟨by rfl, ?_⟩) hHeld ?_ ?_
              rotate_left
              · rintro w' ⟨s0, s1, s2⟩
                go_simp
                with_reducible rfl
              rotate_left
              · simp only [Act.put, List.setIfInBounds_toArray, List.set_cons_zero, List.set_cons_succ, i64_w, i32_w]
                rfl
              refine one_ (i := 6) (N := some 18) #[true, true, true, true, true, true, true, false] rfl rfl (one_of HT_.out (by kernel_rfl)) (by decide) (fun K hK => ?_)
              refine goes_ Try.func43 (by kernel_rfl) rfl #[.int .i64 x1_1] (by rfl) rfl rfl (by (try simp only [List.map_toArray, List.map_cons, List.map_nil]); first | done | rfl | (simp only [List.length_drop, List.length_take]; rfl)) ?_
              with_reducible refine (laws_markText.calls k1 x1_1 t241 _ A5.out).mono ?_
              rintro e w14 ⟨rfl, hb⟩
              refine ⟨_, rfl, ?_⟩
              have n0_ := Aside0.mk (below_step (BB HB.out) hb)
              clear HB
              have HB := n0_
              clear n0_
              (try clear hb)
              (try clear hb2)
              (try clear hk)
              (try clear hi)
              refine hK.out _ _ ⟨((HB.out.cell (World.block_lt_of_cell? w _ hw240_0)).trans hw240_0), ((HB.out.cell (World.block_lt_of_cell? w _ hw240_1)).trans hw240_1), ((HB.out.cell (World.block_lt_of_cell? w _ hw240_2)).trans hw240_2)⟩ (fun hHeld => ?_)
              clear hK K
              refine norm_ (a' := ?_) ?_ ?_
              rotate_left
              · show Act.put _ (some 18) _ = _
                simp only [Act.put, List.setIfInBounds_toArray, List.set_cons_zero, List.set_cons_succ, i64_w, i32_w]
                rfl
              refine pure_ (i := 7) (N := some 19) (v := ?_) (a' := ?_) #[true, true, true, true, true, true, true, true] rfl rfl (any_of HT_.out (by kernel_rfl)) (fun _ _ _ h => h) (Or.inl ⟨by rfl, ?_⟩) ?_ ?_
              rotate_left
              · intro w'
                go_simp
                with_reducible rfl
              rotate_left
              · simp only [Act.put, List.setIfInBounds_toArray, List.set_cons_zero, List.set_cons_succ, i64_w, i32_w]
                rfl
              refine done_ (done_of HT_.out (by kernel_rfl)) ?_
              have p242 : 0 ≤ (x5_1 : Int) := DT
              have q242 : x5_1 < (l0.length : Int) := DT
              obtain ⟨ad242, e242, hx242_0, hx242_1, hx242_2⟩ := at_T64 HR0.out x5_1 p242 q242
              obtain rfl : ad240 = ad242 := (by injection e242)
              replace hx242_0 := (HB.out.cell (World.block_lt_of_cell? w _ hx242_0)).trans hx242_0
              replace hx242_1 := (HB.out.cell (World.block_lt_of_cell? w _ hx242_1)).trans hx242_1
              replace hx242_2 := (HB.out.cell (World.block_lt_of_cell? w _ hx242_2)).trans hx242_2
              replace p242 := eq_true p242
              replace q242 := eq_true q242
              try go_wp2
              go_ret
              exact ⟨ER, (BB HB.out)⟩
          · rw [if_neg c6] at H
            have c6b0 : (((rd_T64 l0 x5_1).f0).toList == t241.toList) = false := beq_eq_false_iff_ne.mpr c6
            have c6b1 : (((rd_T64 l0 x5_1).f0).toList != t241.toList) = true := bne_iff_ne.mpr c6
            obtain rfl := Option.some.inj H
            try go_wp2
            have n0_ := Aside0.mk (below_drew1 HB.out)
            clear HB
            have HB := n0_
            clear n0_
            have p240 : 0 ≤ (x5_1 : Int) := DT
            have q240 : x5_1 < (l0.length : Int) := DT
            obtain ⟨ad240, e240, hx240_0, hx240_1, hx240_2⟩ := at_T64 HR0.out x5_1 p240 q240
            have hw240_2 := hx240_2
            have hw240_1 := hx240_1
            have hw240_0 := hx240_0
            cases e240
            replace hx240_0 := (HB.out.cell (World.block_lt_of_cell? w _ hx240_0)).trans hx240_0
            replace hx240_1 := (HB.out.cell (World.block_lt_of_cell? w _ hx240_1)).trans hx240_1
            replace hx240_2 := (HB.out.cell (World.block_lt_of_cell? w _ hx240_2)).trans hx240_2
            replace p240 := eq_true p240
            replace q240 := eq_true q240
            refine start_ (n := 8) (S := fun w' => w'.cell? (ad240.add ((x5_1).toNat * 3)) = some (.string ((rd_T64 l0 x5_1).f0)) ∧ w'.cell? ⟨(ad240.add ((x5_1).toNat * 3)).block, (ad240.add ((x5_1).toNat * 3)).off + 1, none⟩ = some (.int .i64 ((rd_T64 l0 x5_1).f1)) ∧ w'.cell? ⟨(ad240.add ((x5_1).toNat * 3)).block, (ad240.add ((x5_1).toNat * 3)).off + 2, none⟩ = some (.int .i64 ((rd_T64 l0 x5_1).f2))) (ds := []) #[false, false, false, false, false, false, false, false] (by kernel_rfl) rfl rfl ⟨((HB.out.cell (World.block_lt_of_cell? w _ hw240_0)).trans hw240_0), ((HB.out.cell (World.block_lt_of_cell? w _ hw240_1)).trans hw240_1), ((HB.out.cell (World.block_lt_of_cell? w _ hw240_2)).trans hw240_2)⟩ (fun hHeld => ?_); refine with_tabW laws_heldLeaseS.tab4 laws_heldLeaseS.bits4 (fun HT_ HW_ => ?_)
            generalize wr.drew = w15 at HB hx240_0 hx240_1 hx240_2 hHeld ⊢
            refine pure_ (i := 0) (N := some 12) (v := ?_) (a' := ?_) #[true, false, false, false, false, false, false, false] rfl rfl (any_of HT_.out (by kernel_rfl)) (fun _ _ _ h => h) (Or.inl ⟨by rfl, ?_⟩) ?_ ?_
            rotate_left
            · intro w'
              go_simp
              with_reducible rfl
            rotate_left
            · simp only [Act.put, List.setIfInBounds_toArray, List.set_cons_zero, List.set_cons_succ, i64_w, i32_w]
              rfl
            refine pure_ (i := 1) (N := some 13) (v := ?_) (a' := ?_) #[true, true, false, false, false, false, false, false] rfl rfl (any_of HT_.out (by kernel_rfl)) (fun _ _ _ h => h) (Or.inl ⟨by rfl, ?_⟩) ?_ ?_
            rotate_left
            · intro w'
              go_simp
              with_reducible rfl
            rotate_left
            · simp only [Act.put, List.setIfInBounds_toArray, List.set_cons_zero, List.set_cons_succ, i64_w, i32_w]
              rfl
            refine pure_ (i := 2) (N := some 14) (v := ?_) (a' := ?_) #[true, true, true, false, false, false, false, false] rfl rfl (any_of HT_.out (by kernel_rfl)) (fun _ _ _ h => h) (Or.inl ⟨by rfl, ?_⟩) ?_ ?_
            rotate_left
            · intro w'
              go_simp
              with_reducible rfl
            rotate_left
            · simp only [Act.put, List.setIfInBounds_toArray, List.set_cons_zero, List.set_cons_succ, i64_w, i32_w]
              rfl
            refine pure_ (i := 3) (N := some 15) (v := ?_) (a' := ?_) #[true, true, true, true, false, false, false, false] rfl rfl (any_of HT_.out (by kernel_rfl)) (fun _ _ _ h => h) (Or.inl ⟨by rfl, ?_⟩) ?_ ?_
            rotate_left
            · intro w'
              go_simp
              with_reducible rfl
            rotate_left
            · simp only [Act.put, List.setIfInBounds_toArray, List.set_cons_zero, List.set_cons_succ, i64_w, i32_w]
              rfl
            refine pure_ (i := 5) (N := some 17) (v := ?_) (a' := ?_) #[true, true, true, true, false, true, false, false] rfl rfl (any_of HT_.out (by kernel_rfl)) (fun _ _ _ h => h) (Or.inl ⟨by rfl, ?_⟩) ?_ ?_
            rotate_left
            · intro w'
              go_simp
              with_reducible rfl
            rotate_left
            · simp only [Act.put, List.setIfInBounds_toArray, List.set_cons_zero, List.set_cons_succ, i64_w, i32_w]
              rfl
            refine take_ (i := 4) (N := some 16) (v := ?_) (a' := ?_) #[true, true, true, true, true, true, false, false] rfl rfl (take_ofW HT_.out HW_.out (by kernel_rfl)) (fun _ _ _ h => h) (Or.inl ⟨by rfl, ?_⟩) hHeld ?_ ?_
            rotate_left
            · rintro w' ⟨s0, s1, s2⟩
              go_simp
              with_reducible rfl
            rotate_left
            · simp only [Act.put, List.setIfInBounds_toArray, List.set_cons_zero, List.set_cons_succ, i64_w, i32_w]
              rfl
            refine one_ (i := 6) (N := some 18) #[true, true, true, true, true, true, true, false] rfl rfl (one_of HT_.out (by kernel_rfl)) (by decide) (fun K hK => ?_)
            refine goes_ Try.func43 (by kernel_rfl) rfl #[.int .i64 x1_1] (by rfl) rfl rfl (by (try simp only [List.map_toArray, List.map_cons, List.map_nil]); first | done | rfl | (simp only [List.length_drop, List.length_take]; rfl)) ?_
            with_reducible refine (laws_markText.calls k1 x1_1 t241 _ A5.out).mono ?_
            rintro e w16 ⟨rfl, hb⟩
            refine ⟨_, rfl, ?_⟩
            have n0_ := Aside0.mk (below_step (BB HB.out) hb)
            clear HB
            have HB := n0_
            clear n0_
            (try clear hb)
            (try clear hb2)
            (try clear hk)
            (try clear hi)
            refine hK.out _ _ ⟨((HB.out.cell (World.block_lt_of_cell? w _ hw240_0)).trans hw240_0), ((HB.out.cell (World.block_lt_of_cell? w _ hw240_1)).trans hw240_1), ((HB.out.cell (World.block_lt_of_cell? w _ hw240_2)).trans hw240_2)⟩ (fun hHeld => ?_)
            clear hK K
            refine norm_ (a' := ?_) ?_ ?_
            rotate_left
            · show Act.put _ (some 18) _ = _
              simp only [Act.put, List.setIfInBounds_toArray, List.set_cons_zero, List.set_cons_succ, i64_w, i32_w]
              rfl
            refine pure_ (i := 7) (N := some 19) (v := ?_) (a' := ?_) #[true, true, true, true, true, true, true, true] rfl rfl (any_of HT_.out (by kernel_rfl)) (fun _ _ _ h => h) (Or.inl ⟨by rfl, ?_⟩) ?_ ?_
            rotate_left
            · intro w'
              go_simp
              with_reducible rfl
            rotate_left
            · simp only [Act.put, List.setIfInBounds_toArray, List.set_cons_zero, List.set_cons_succ, i64_w, i32_w]
              rfl
            refine done_ (done_of HT_.out (by kernel_rfl)) ?_
            try go_wp2
            go_ret
            exact ⟨ER, (BB HB.out)⟩
        · rw [if_neg c4] at H
          exact absurd H (by simp)
      · rw [if_neg c3] at H
        have c3b0 : decide (x5_1 < (l0.length : Int)) = false := decide_eq_false c3
        clear c3
        obtain rfl := Option.some.inj H
        go_wp2
        go_ret
        exact ⟨ER, (BB HB.out)⟩

end Go.Proofs.Ytdlcnldgiclpgaa.Pr

/- Printed out of the translation by this session's pr.py over the kit's print. Lean checks it. -/
namespace Go.Proofs.Ytdlcnldgiclpgaa.Pr
open Go.RowKit Go.Proofs.YtdlcnldgiclpgaaW.PrintWords Go.Proofs.YtdlcnldgiclpgaaW.PrintLast Go.Proofs.YtdlcnldgiclpgaaW.PrintMore
attribute [local go_sem] max2_int min2_int max_two min_two max_three min_three max_four min_four
set_option linter.unusedVariables false
set_option linter.unusedSimpArgs false

/-! ### spec_DropLease: function 34 -/
def spec_DropLease.l0 : Nat → List (S64) → ByteArray → List (S64) → Int → Option ((List (S64)))
  | 0, _, _, _, _ => none
  | k + 1, x0, x1, x5, x6 => if x6 < (x0.length : Int) then (if 0 ≤ x6 then (if ((rd_T64 x0 x6).f0).toList = x1.toList then (spec_DropLease.l0 k x0 x1 x5 (wrap64 (x6 + 1))) else (if x5.length < 4398046511104 then (spec_DropLease.l0 k x0 x1 (x5 ++ [(⟨(rd_T64 x0 x6).f0, (rd_T64 x0 x6).f1, (rd_T64 x0 x6).f2⟩ : S64)]) (wrap64 (x6 + 1))) else (none))) else (none)) else (some x5)
def spec_DropLease.f (k : Nat) (l0 : List (S64)) (a1 : ByteArray) : Option ((List (S64))) := spec_DropLease.l0 k l0 a1 (([] : List (S64))) 0
set_option maxHeartbeats 8000000 in
set_option maxRecDepth 100000 in
theorem spec_DropLease.calls (k : Nat) (A0 : Option Addr) (c0 : Nat) (l0 : List (S64)) (a1 : ByteArray) (r : List (S64)) (w : World) (hr0 : Kd.C k64 w A0 l0.length l0) (hc0 : l0.length ≤ c0) (h : spec_DropLease.f k l0 a1 = some r) :
    Calls Try.prog 34 #[.slice A0 l0.length c0, .string a1] w fun e w' => ∃ v0_ : Value, e = .returned (v0_) ∧ Kd.R k64 64 w' w.heap.size (fun _ => True) v0_ r ∧ Below w.heap.size w w' := by
  have hu64 := Try.underlying64
  have HR0 := Aside0.mk hr0
  have HC0 := Aside0.mk hc0
  clear hr0 hc0
  have HB := Aside0.mk (Below.refl w.heap.size w)
  have H : (spec_DropLease.l0 k l0 a1 (([] : List (S64))) 0) = some r := h
  clear h
  obtain ⟨y332, hy332⟩ : ∃ y_ : List (S64), y_ = (([] : List (S64))) := ⟨_, rfl⟩
  replace H : (spec_DropLease.l0 k l0 a1 y332 0) = some r := by first | (rw [hy332]; with_reducible exact H) | (have H2_ := (Option.bind_some _ _).symm.trans H; rw [hy332]; with_reducible exact H2_) | (have H2_ := (Option.bind_some _ _).symm.trans H; with_reducible exact H2_) | with_reducible exact H | (rw [hy332]; exact H) | exact H
  have Ny332 := Aside0.mk hy332
  clear hy332
  have H' := Aside0.mk H
  clear H
  go_enter Try.func34, Try.ntmps34
  go_wp2_with (first | ((with_reducible refine gate_dst (N := 7) rfl ?_); refine Kd.R_lit k64 _ 64 ?hg (N := 7) ?hd (xs := ([] : List (S64))) (inner := []) (ok := fun _ => True) (okp := fun _ => True) ?hr ?hp (fun _ hk => hk) trivial (Below.refl _ _) (Nat.le_refl _) (by simp) ?_; (case hd => rfl); (case hg => rfl); (case hr => first | (go_simp; done) | (go_simp; rfl)); (case hp => exact (Reps.none _ _)); intro v333 w3 ho4 hb hg_ hnew_; clear hg_ hnew_; (first | rw [← Ny332.out] at ho4 | (simp only [Int.reduceToNat] at ho4; rw [← Ny332.out] at ho4)); have HO334 := Aside0.mk (Kd.R_lower ho4 (below_size (BB HB.out))); replace HB := Aside0.mk (below_step (BB HB.out) hb); clear hb ho4))
  go_loopg [5, 6] k (fun kq v5 v6 w' => ∃ (x5_1 : List (S64)) (x6_1 : Int), v6 = .int .i64 x6_1 ∧ Aside0 (spec_DropLease.l0 kq l0 a1 x5_1 x6_1 = some r) ∧ Aside0 (kq ≤ k) ∧ Aside0 (Kd.R k64 64 w' w.heap.size (fun _ => True) v5 x5_1) ∧ Aside0 (Below w.heap.size w w'))
  case atStart => exact ⟨(y332), (0), FR, H', ⟨Nat.le_refl _⟩, ⟨(RR HO334.out)⟩, ⟨(BB HB.out)⟩⟩
  case round =>
    clear H'
    try clear p2
    try clear c3
    obtain ⟨x5_1, x6_1, rfl, HA, HK1, HO_5, HB⟩ := hrel
    cases gk with
    | zero => exact absurd HA.out (by simp [spec_DropLease.l0])
    | succ k1 =>
      have H := HA.out
      clear HA
      simp only [spec_DropLease.l0] at H
      by_cases c5 : x6_1 < (l0.length : Int)
      · rw [if_pos c5] at H
        have c5b0 : decide (x6_1 < (l0.length : Int)) = true := decide_eq_true c5
        clear c5
        by_cases c6 : 0 ≤ x6_1
        · rw [if_pos c6] at H
          have c6b0 : decide (0 ≤ x6_1) = true := decide_eq_true c6
          clear c6
          by_cases c7 : ((rd_T64 l0 x6_1).f0).toList = a1.toList
          · rw [if_pos c7] at H
            have c7b0 : (((rd_T64 l0 x6_1).f0).toList == a1.toList) = true := beq_iff_eq.mpr c7
            have c7b1 : (((rd_T64 l0 x6_1).f0).toList != a1.toList) = false := bne_eq_false_iff_eq.mpr c7
            clear c7
            have H' := Aside0.mk H
            clear H
            have p335 : 0 ≤ (x6_1 : Int) := DT
            have q335 : x6_1 < (l0.length : Int) := DT
            obtain ⟨ad335, e335, hx335_0, hx335_1, hx335_2⟩ := at_T64 HR0.out x6_1 p335 q335
            cases e335
            replace hx335_0 := (HB.out.cell (World.block_lt_of_cell? w _ hx335_0)).trans hx335_0
            replace hx335_1 := (HB.out.cell (World.block_lt_of_cell? w _ hx335_1)).trans hx335_1
            replace hx335_2 := (HB.out.cell (World.block_lt_of_cell? w _ hx335_2)).trans hx335_2
            replace p335 := eq_true p335
            replace q335 := eq_true q335
            go_wp2
            go_roundg k1
            case measure => have := HK1.out; omega
            case rel => exact ⟨(x5_1), (wrap64 (x6_1 + 1)), FR, H', ⟨by have := HK1.out; omega⟩, ⟨(RR HO_5.out)⟩, ⟨(BB HB.out)⟩⟩
          · rw [if_neg c7] at H
            have c7b0 : (((rd_T64 l0 x6_1).f0).toList == a1.toList) = false := beq_eq_false_iff_ne.mpr c7
            have c7b1 : (((rd_T64 l0 x6_1).f0).toList != a1.toList) = true := bne_iff_ne.mpr c7
            by_cases c8 : x5_1.length < 4398046511104
            · rw [if_pos c8] at H
              have LMc8 := Aside0.mk c8
              clear c8
              obtain ⟨y337, hy337⟩ : ∃ y_ : List (S64), y_ = (x5_1 ++ [(⟨(rd_T64 l0 x6_1).f0, (rd_T64 l0 x6_1).f1, (rd_T64 l0 x6_1).f2⟩ : S64)]) := ⟨_, rfl⟩
              replace H : (spec_DropLease.l0 k1 l0 a1 y337 (wrap64 (x6_1 + 1))) = some r := by first | (rw [hy337]; with_reducible exact H) | (have H2_ := (Option.bind_some _ _).symm.trans H; rw [hy337]; with_reducible exact H2_) | (have H2_ := (Option.bind_some _ _).symm.trans H; with_reducible exact H2_) | with_reducible exact H | (rw [hy337]; exact H) | exact H
              have Ny337 := Aside0.mk hy337
              clear hy337
              have H' := Aside0.mk H
              clear H
              have p335 : 0 ≤ (x6_1 : Int) := DT
              have q335 : x6_1 < (l0.length : Int) := DT
              obtain ⟨ad335, e335, hx335_0, hx335_1, hx335_2⟩ := at_T64 HR0.out x6_1 p335 q335
              cases e335
              replace hx335_0 := (HB.out.cell (World.block_lt_of_cell? w _ hx335_0)).trans hx335_0
              replace hx335_1 := (HB.out.cell (World.block_lt_of_cell? w _ hx335_1)).trans hx335_1
              replace hx335_2 := (HB.out.cell (World.block_lt_of_cell? w _ hx335_2)).trans hx335_2
              replace p335 := eq_true p335
              replace q335 := eq_true q335
              have p336 : 0 ≤ (x6_1 : Int) := DT
              have q336 : x6_1 < (l0.length : Int) := DT
              obtain ⟨ad336, e336, hx336_0, hx336_1, hx336_2⟩ := at_T64 HR0.out x6_1 p336 q336
              obtain rfl : ad335 = ad336 := (by injection e336)
              replace hx336_0 := (HB.out.cell (World.block_lt_of_cell? w _ hx336_0)).trans hx336_0
              replace hx336_1 := (HB.out.cell (World.block_lt_of_cell? w _ hx336_1)).trans hx336_1
              replace hx336_2 := (HB.out.cell (World.block_lt_of_cell? w _ hx336_2)).trans hx336_2
              replace p336 := eq_true p336
              replace q336 := eq_true q336
              go_wp2_with (first | ((with_reducible refine gate_builtin (b := .append) (xs := #[.tmp 21, .tmp 26]) rfl ?_); at_builtin; refine Kd.R_append k64 (w0 := w) w.heap.size rfl (.tmp 21) (.tmp 26) 35 64 (.agg #[(.string ⟨#[]⟩), (.int .i64 0), (.int .i64 0)]) 32 rfl Try.underlying35 info64 rfl (by decide) (by omega) u5 x5_1 (⟨(rd_T64 l0 x6_1).f0, (rd_T64 l0 x6_1).f1, (rd_T64 l0 x6_1).f2⟩ : S64) [.string ((rd_T64 l0 x6_1).f0), .int .i64 ((rd_T64 l0 x6_1).f1), .int .i64 ((rd_T64 l0 x6_1).f2)] (fun _ => True) (fun _ => False) rfl rfl ?aP (fun _ hk => hk.elim) ?aF ?aO ?aB ?aS ?aL ?_; (case aP => exact k64_mkM _ _ _ (⟨(rd_T64 l0 x6_1).f0, (rd_T64 l0 x6_1).f1, (rd_T64 l0 x6_1).f2⟩ : S64)); (case aB => exact (BB HB.out)); (case aF => exact (fun _ _ => trivial)); (case aO => exact (RR HO_5.out)); (case aS => exact (below_size (BB HB.out))); (case aL => have := LMc8.out; omega); intro v338 w9 ho hb hg hat; rw [← Ny337.out] at ho; have HO339 := Aside0.mk (ho); replace HB := Aside0.mk (hb); clear HO_5; clear ho hb hg hat))
              go_roundg k1
              case measure => have := HK1.out; omega
              case rel => exact ⟨(y337), (wrap64 (x6_1 + 1)), FR, H', ⟨by have := HK1.out; omega⟩, ⟨(RR HO339.out)⟩, ⟨(BB HB.out)⟩⟩
            · rw [if_neg c8] at H
              exact absurd H (by simp)
        · rw [if_neg c6] at H
          exact absurd H (by simp)
      · rw [if_neg c5] at H
        have c5b0 : decide (x6_1 < (l0.length : Int)) = false := decide_eq_false c5
        clear c5
        obtain rfl := Option.some.inj H
        go_wp2
        go_ret
        exact ⟨_, ER, by (with_reducible repeat (first | apply Kd.R_alloc | apply Kd.R_drewN | apply Kd.R_drew)); exact HO_5.out, (BB HB.out)⟩

end Go.Proofs.Ytdlcnldgiclpgaa.Pr

/- Printed out of the translation by this session's pr.py over the kit's print. Lean checks it. -/
namespace Go.Proofs.Ytdlcnldgiclpgaa.Pr
open Go.RowKit Go.Proofs.YtdlcnldgiclpgaaW.PrintWords Go.Proofs.YtdlcnldgiclpgaaW.PrintLast Go.Proofs.YtdlcnldgiclpgaaW.PrintMore
attribute [local go_sem] max2_int min2_int max_two min_two max_three min_three max_four min_four
set_option linter.unusedVariables false
set_option linter.unusedSimpArgs false

/-! ### laws_FnExactDropLease: function 8 -/
def laws_FnExactDropLease.j0 : Nat → List (S63) → ByteArray → List (S64) → List (S64) → Bool → Option (Bool)
  | 0, _, _, _, _, _ => none
  | k + 1, x0, x1, x6, x8, x49 => if x49 = true then (some false) else ((laws_markLeaseS.f k x8 1).bind fun bt361 => ((laws_heldLeaseS.f k bt361.2 1).bind fun t363 => (if t363 < 0 then (some false) else (if t363 = bt361.1 then ((laws_toLeaseS.f k x0).bind fun t364 => ((impl_DropLease.f t364 x1).bind fun t367 => ((laws_eqLeaseS.f k t367 x6).bind fun t370 => (if t370 = true then ((laws_heldLeaseS.f k bt361.2 1).bind fun t371 => (if t371 < 0 then (some false) else (if t371 = bt361.1 then (some true) else (some false)))) else (some false))))) else (some false)))))
def laws_FnExactDropLease.f (k : Nat) (l0 : List (S63)) (a1 : ByteArray) : Option (Bool) := if (a1.size : Int) > 1048576 then (some true) else ((laws_szLeaseS.f k l0 1048576).bind fun t340 => (if t340 < 0 then (some true) else ((laws_toLeaseS.f k l0).bind fun t341 => ((spec_DropLease.f k t341 a1).bind fun t344 => ((laws_toLeaseS.f k l0).bind fun t347 => ((impl_DropLease.f t347 a1).bind fun t350 => ((laws_eqLeaseS.f k t350 t344).bind fun t353 => (if t353 = true then ((laws_toLeaseS.f k l0).bind fun t354 => ((laws_eqLeaseS.f k t347 t354).bind fun t357 => (if t357 = true then ((laws_markLeaseS.f k t347 1).bind fun bt358 => (if bt358.1 < 0 then (laws_FnExactDropLease.j0 k l0 a1 t344 t350 true) else ((laws_eqLeaseS.f k t350 t344).bind fun t360 => (laws_FnExactDropLease.j0 k l0 a1 t344 t350 (!t360))))) else (some false)))) else (some false)))))))))
set_option maxHeartbeats 8000000 in
set_option maxRecDepth 100000 in
theorem laws_FnExactDropLease.calls (k : Nat) (A0 : Option Addr) (c0 : Nat) (l0 : List (S63)) (a1 : ByteArray) (r : Bool) (w : World) (hr0 : Kd.C k63 w A0 l0.length l0) (hc0 : l0.length ≤ c0) (h : laws_FnExactDropLease.f k l0 a1 = some r) (hr_ : Aside0 (r = true) := by exact ⟨rfl⟩) :
    Calls Try.prog 8 #[.slice A0 l0.length c0, .string a1] w fun e w' => e = .returned (.bool r) ∧ Below w.heap.size w w' := by
  have HR0 := Aside0.mk hr0
  have HC0 := Aside0.mk hc0
  clear hr0 hc0
  have HB := Aside0.mk (Below.refl w.heap.size w)
  have H : (if (a1.size : Int) > 1048576 then (some true) else ((laws_szLeaseS.f k l0 1048576).bind fun t340 => (if t340 < 0 then (some true) else ((laws_toLeaseS.f k l0).bind fun t341 => ((spec_DropLease.f k t341 a1).bind fun t344 => ((laws_toLeaseS.f k l0).bind fun t347 => ((impl_DropLease.f t347 a1).bind fun t350 => ((laws_eqLeaseS.f k t350 t344).bind fun t353 => (if t353 = true then ((laws_toLeaseS.f k l0).bind fun t354 => ((laws_eqLeaseS.f k t347 t354).bind fun t357 => (if t357 = true then ((laws_markLeaseS.f k t347 1).bind fun bt358 => (if bt358.1 < 0 then (laws_FnExactDropLease.j0 k l0 a1 t344 t350 true) else ((laws_eqLeaseS.f k t350 t344).bind fun t360 => (laws_FnExactDropLease.j0 k l0 a1 t344 t350 (!t360))))) else (some false)))) else (some false)))))))))) = some r := h
  clear h
  by_cases c3 : (a1.size : Int) > 1048576
  · rw [if_pos c3] at H
    have c3b0 : decide (1048576 < (a1.size : Int)) = true := decide_eq_true c3
    have c3b1 : decide (1048576 < a1.size) = true := decide_eq_true (by omega)
    clear c3
    obtain rfl := Option.some.inj H
    go_enter Try.func8, Try.ntmps8
    go_wp2
    go_ret
    exact ⟨ER, (BB HB.out)⟩
  · rw [if_neg c3] at H
    have c3b0 : decide (1048576 < (a1.size : Int)) = false := decide_eq_false c3
    have c3b1 : decide (1048576 < a1.size) = false := decide_eq_false (by omega)
    clear c3
    replace H := Option.bind_eq_some_iff.mp H
    obtain ⟨t340, A40, H⟩ := H
    replace H : (if t340 < 0 then (some true) else ((laws_toLeaseS.f k l0).bind fun t341 => ((spec_DropLease.f k t341 a1).bind fun t344 => ((laws_toLeaseS.f k l0).bind fun t347 => ((impl_DropLease.f t347 a1).bind fun t350 => ((laws_eqLeaseS.f k t350 t344).bind fun t353 => (if t353 = true then ((laws_toLeaseS.f k l0).bind fun t354 => ((laws_eqLeaseS.f k t347 t354).bind fun t357 => (if t357 = true then ((laws_markLeaseS.f k t347 1).bind fun bt358 => (if bt358.1 < 0 then (laws_FnExactDropLease.j0 k l0 a1 t344 t350 true) else ((laws_eqLeaseS.f k t350 t344).bind fun t360 => (laws_FnExactDropLease.j0 k l0 a1 t344 t350 (!t360))))) else (some false)))) else (some false)))))))) = some r := H
    have A4 := Aside0.mk A40
    clear A40
    by_cases c5 : t340 < 0
    · rw [if_pos c5] at H
      have c5b0 : decide (t340 < 0) = true := decide_eq_true c5
      clear c5
      obtain rfl := Option.some.inj H
      go_enter Try.func8, Try.ntmps8
      go_wp2_with (first | ((with_reducible refine gate_callee (f := 15) rfl ?_); refine GL (some 18) rfl rfl Try.func15 #[.slice A0 l0.length c0, .int .i64 1048576] rfl ?_; (with_reducible refine (laws_szLeaseS.calls k _ _ l0 1048576 t340 _ ?side1 ?side2 A4.out).mono ?_); (case side1 => exact CC HR0.out); (case side2 => exact HC0.out); rintro e w6 ⟨rfl, hb⟩; refine ⟨_, rfl, ?_⟩; replace HB := Aside0.mk (below_step (BB HB.out) hb); (try clear hb)))
      go_ret
      exact ⟨ER, (BB HB.out)⟩
    · rw [if_neg c5] at H
      have c5b0 : decide (t340 < 0) = false := decide_eq_false c5
      clear c5
      replace H := Option.bind_eq_some_iff.mp H
      obtain ⟨t341, A70, H⟩ := H
      replace H : ((spec_DropLease.f k t341 a1).bind fun t344 => ((laws_toLeaseS.f k l0).bind fun t347 => ((impl_DropLease.f t347 a1).bind fun t350 => ((laws_eqLeaseS.f k t350 t344).bind fun t353 => (if t353 = true then ((laws_toLeaseS.f k l0).bind fun t354 => ((laws_eqLeaseS.f k t347 t354).bind fun t357 => (if t357 = true then ((laws_markLeaseS.f k t347 1).bind fun bt358 => (if bt358.1 < 0 then (laws_FnExactDropLease.j0 k l0 a1 t344 t350 true) else ((laws_eqLeaseS.f k t350 t344).bind fun t360 => (laws_FnExactDropLease.j0 k l0 a1 t344 t350 (!t360))))) else (some false)))) else (some false)))))) = some r := H
      have A7 := Aside0.mk A70
      clear A70
      replace H := Option.bind_eq_some_iff.mp H
      obtain ⟨t344, A80, H⟩ := H
      replace H : ((laws_toLeaseS.f k l0).bind fun t347 => ((impl_DropLease.f t347 a1).bind fun t350 => ((laws_eqLeaseS.f k t350 t344).bind fun t353 => (if t353 = true then ((laws_toLeaseS.f k l0).bind fun t354 => ((laws_eqLeaseS.f k t347 t354).bind fun t357 => (if t357 = true then ((laws_markLeaseS.f k t347 1).bind fun bt358 => (if bt358.1 < 0 then (laws_FnExactDropLease.j0 k l0 a1 t344 t350 true) else ((laws_eqLeaseS.f k t350 t344).bind fun t360 => (laws_FnExactDropLease.j0 k l0 a1 t344 t350 (!t360))))) else (some false)))) else (some false))))) = some r := H
      have A8 := Aside0.mk A80
      clear A80
      replace H := Option.bind_eq_some_iff.mp H
      obtain ⟨t347, A90, H⟩ := H
      replace H : ((impl_DropLease.f t347 a1).bind fun t350 => ((laws_eqLeaseS.f k t350 t344).bind fun t353 => (if t353 = true then ((laws_toLeaseS.f k l0).bind fun t354 => ((laws_eqLeaseS.f k t347 t354).bind fun t357 => (if t357 = true then ((laws_markLeaseS.f k t347 1).bind fun bt358 => (if bt358.1 < 0 then (laws_FnExactDropLease.j0 k l0 a1 t344 t350 true) else ((laws_eqLeaseS.f k t350 t344).bind fun t360 => (laws_FnExactDropLease.j0 k l0 a1 t344 t350 (!t360))))) else (some false)))) else (some false)))) = some r := H
      have A9 := Aside0.mk A90
      clear A90
      replace H := Option.bind_eq_some_iff.mp H
      obtain ⟨t350, A100, H⟩ := H
      replace H : ((laws_eqLeaseS.f k t350 t344).bind fun t353 => (if t353 = true then ((laws_toLeaseS.f k l0).bind fun t354 => ((laws_eqLeaseS.f k t347 t354).bind fun t357 => (if t357 = true then ((laws_markLeaseS.f k t347 1).bind fun bt358 => (if bt358.1 < 0 then (laws_FnExactDropLease.j0 k l0 a1 t344 t350 true) else ((laws_eqLeaseS.f k t350 t344).bind fun t360 => (laws_FnExactDropLease.j0 k l0 a1 t344 t350 (!t360))))) else (some false)))) else (some false))) = some r := H
      have A10 := Aside0.mk A100
      clear A100
      replace H := Option.bind_eq_some_iff.mp H
      obtain ⟨t353, A110, H⟩ := H
      replace H : (if t353 = true then ((laws_toLeaseS.f k l0).bind fun t354 => ((laws_eqLeaseS.f k t347 t354).bind fun t357 => (if t357 = true then ((laws_markLeaseS.f k t347 1).bind fun bt358 => (if bt358.1 < 0 then (laws_FnExactDropLease.j0 k l0 a1 t344 t350 true) else ((laws_eqLeaseS.f k t350 t344).bind fun t360 => (laws_FnExactDropLease.j0 k l0 a1 t344 t350 (!t360))))) else (some false)))) else (some false)) = some r := H
      have A11 := Aside0.mk A110
      clear A110
      by_cases c12 : t353 = true
      · subst c12
        have H1 : ((laws_toLeaseS.f k l0).bind fun t354 => ((laws_eqLeaseS.f k t347 t354).bind fun t357 => (if t357 = true then ((laws_markLeaseS.f k t347 1).bind fun bt358 => (if bt358.1 < 0 then (laws_FnExactDropLease.j0 k l0 a1 t344 t350 true) else ((laws_eqLeaseS.f k t350 t344).bind fun t360 => (laws_FnExactDropLease.j0 k l0 a1 t344 t350 (!t360))))) else (some false)))) = some r := by rw [if_pos rfl] at H; exact H
        clear H
        have H := H1
        clear H1
        replace H := Option.bind_eq_some_iff.mp H
        obtain ⟨t354, A130, H⟩ := H
        replace H : ((laws_eqLeaseS.f k t347 t354).bind fun t357 => (if t357 = true then ((laws_markLeaseS.f k t347 1).bind fun bt358 => (if bt358.1 < 0 then (laws_FnExactDropLease.j0 k l0 a1 t344 t350 true) else ((laws_eqLeaseS.f k t350 t344).bind fun t360 => (laws_FnExactDropLease.j0 k l0 a1 t344 t350 (!t360))))) else (some false))) = some r := H
        have A13 := Aside0.mk A130
        clear A130
        replace H := Option.bind_eq_some_iff.mp H
        obtain ⟨t357, A140, H⟩ := H
        replace H : (if t357 = true then ((laws_markLeaseS.f k t347 1).bind fun bt358 => (if bt358.1 < 0 then (laws_FnExactDropLease.j0 k l0 a1 t344 t350 true) else ((laws_eqLeaseS.f k t350 t344).bind fun t360 => (laws_FnExactDropLease.j0 k l0 a1 t344 t350 (!t360))))) else (some false)) = some r := H
        have A14 := Aside0.mk A140
        clear A140
        by_cases c15 : t357 = true
        · subst c15
          have H1 : ((laws_markLeaseS.f k t347 1).bind fun bt358 => (if bt358.1 < 0 then (laws_FnExactDropLease.j0 k l0 a1 t344 t350 true) else ((laws_eqLeaseS.f k t350 t344).bind fun t360 => (laws_FnExactDropLease.j0 k l0 a1 t344 t350 (!t360))))) = some r := by rw [if_pos rfl] at H; exact H
          clear H
          have H := H1
          clear H1
          replace H := Option.bind_eq_some_iff.mp H
          obtain ⟨⟨t358, t359⟩, A160, H⟩ := H
          replace H : (if t358 < 0 then (laws_FnExactDropLease.j0 k l0 a1 t344 t350 true) else ((laws_eqLeaseS.f k t350 t344).bind fun t360 => (laws_FnExactDropLease.j0 k l0 a1 t344 t350 (!t360)))) = some r := H
          have A16 := Aside0.mk A160
          clear A160
          have HC17 := Aside0.mk H
          clear H
          go_enter Try.func8, Try.ntmps8
          go_upto_region 16 with (first | ((with_reducible refine gate_callee (f := 15) rfl ?_); refine GL (some 18) rfl rfl Try.func15 #[.slice A0 l0.length c0, .int .i64 1048576] rfl ?_; (with_reducible refine (laws_szLeaseS.calls k _ _ l0 1048576 t340 _ ?side1 ?side2 A4.out).mono ?_); (case side1 => exact CC HR0.out); (case side2 => exact HC0.out); rintro e w18 ⟨rfl, hb⟩; refine ⟨_, rfl, ?_⟩; replace HB := Aside0.mk (below_step (BB HB.out) hb); (try clear hb)) | ((with_reducible refine gate_callee (f := 17) rfl ?_); refine GL (some 22) rfl rfl Try.func17 #[.slice A0 l0.length c0] rfl ?_; (with_reducible refine (laws_toLeaseS.calls k _ _ l0 t341 _ ?side1 ?side2 A7.out).mono ?_); (case side1 => exact CC (Kd.C_below HR0.out HB.out)); (case side2 => exact HC0.out); rintro e w19 ⟨v342, rfl, ho0, hb⟩; refine ⟨_, rfl, ?_⟩; have HO343 := Aside0.mk (Kd.R_lower ho0 (below_size (BB HB.out))); replace HB := Aside0.mk (below_step (BB HB.out) hb); (try clear hb); (try clear ho0); obtain ⟨Ao20, co20, eo20⟩ := Kd.R_slice HO343.out; subst eo20) | ((with_reducible refine gate_callee (f := 34) rfl ?_); refine GL (some 24) rfl rfl Try.func34 #[.slice Ao20 t341.length co20, .string a1] rfl ?_; (with_reducible refine (spec_DropLease.calls k _ _ t341 a1 t344 _ ?side1 ?side2 A8.out).mono ?_); (case side1 => exact CC (Kd.R_reads' HO343.out).2.2); (case side2 => exact (Kd.R_reads' HO343.out).2.1); rintro e w21 ⟨v345, rfl, ho0, hb⟩; refine ⟨_, rfl, ?_⟩; have HO346 := Aside0.mk (Kd.R_lower (Kd.R_new' ho0 (Kd.R_lt (RR HO343.out))) (below_size (BB HB.out))); replace HO343 := Aside0.mk (Kd.R_elder' (RR HO343.out) (Kd.R_base ho0) hb); replace HB := Aside0.mk (below_step (BB HB.out) hb); (try clear hb); (try clear ho0)) | ((with_reducible refine gate_callee (f := 17) rfl ?_); refine GL (some 26) rfl rfl Try.func17 #[.slice A0 l0.length c0] rfl ?_; (with_reducible refine (laws_toLeaseS.calls k _ _ l0 t347 _ ?side1 ?side2 A9.out).mono ?_); (case side1 => exact CC (Kd.C_below HR0.out HB.out)); (case side2 => exact HC0.out); rintro e w22 ⟨v348, rfl, ho0, hb⟩; refine ⟨_, rfl, ?_⟩; have HO349 := Aside0.mk (Kd.R_lower (Kd.R_new' (Kd.R_new' ho0 (Kd.R_lt (RR HO343.out))) (Kd.R_lt (RR HO346.out))) (below_size (BB HB.out))); replace HO343 := Aside0.mk (Kd.R_elder' (RR HO343.out) (Kd.R_base ho0) hb); replace HO346 := Aside0.mk (Kd.R_elder' (RR HO346.out) (Kd.R_base ho0) hb); replace HB := Aside0.mk (below_step (BB HB.out) hb); (try clear hb); (try clear ho0); obtain ⟨Ao23, co23, eo23⟩ := Kd.R_slice HO349.out; subst eo23) | ((with_reducible refine gate_callee (f := 35) rfl ?_); refine GL (some 29) rfl rfl Try.func35 #[.slice Ao23 t347.length co23, .string a1] rfl ?_; (with_reducible refine (impl_DropLease.calls _ _ t347 a1 t350 _ ?side1 ?side2 A10.out).mono ?_); (case side1 => exact CC (Kd.R_reads' HO349.out).2.2); (case side2 => exact (Kd.R_reads' HO349.out).2.1); rintro e w24 ⟨v351, rfl, ho0, hb⟩; refine ⟨_, rfl, ?_⟩; have HO352 := Aside0.mk (Kd.R_lower (Kd.R_new' (Kd.R_new' (Kd.R_new' ho0 (Kd.R_lt (RR HO343.out))) (Kd.R_lt (RR HO346.out))) (Kd.R_lt (RR HO349.out))) (below_size (BB HB.out))); replace HO343 := Aside0.mk (Kd.R_elder' (RR HO343.out) (Kd.R_base ho0) hb); replace HO346 := Aside0.mk (Kd.R_elder' (RR HO346.out) (Kd.R_base ho0) hb); replace HO349 := Aside0.mk (Kd.R_elder' (RR HO349.out) (Kd.R_base ho0) hb); replace HB := Aside0.mk (below_step (BB HB.out) hb); (try clear hb); (try clear ho0); obtain ⟨Ao25, co25, eo25⟩ := Kd.R_slice HO352.out; subst eo25; obtain ⟨Ao26, co26, eo26⟩ := Kd.R_slice HO346.out; subst eo26) | ((with_reducible refine gate_callee (f := 19) rfl ?_); refine GL (some 32) rfl rfl Try.func19 #[.slice Ao25 t350.length co25, .slice Ao26 t344.length co26] rfl ?_; (with_reducible refine (laws_eqLeaseS.calls k _ _ t350 _ _ t344 true _ ?side1 ?side2 ?side3 ?side4 A11.out).mono ?_); (case side1 => exact CC (Kd.R_reads' HO352.out).2.2); (case side2 => exact (Kd.R_reads' HO352.out).2.1); (case side3 => exact CC (Kd.R_reads' HO346.out).2.2); (case side4 => exact (Kd.R_reads' HO346.out).2.1); rintro e w27 ⟨rfl, hb⟩; refine ⟨_, rfl, ?_⟩; replace HO343 := Aside0.mk (Kd.R_below (RR HO343.out) hb); replace HO346 := Aside0.mk (Kd.R_below (RR HO346.out) hb); replace HO349 := Aside0.mk (Kd.R_below (RR HO349.out) hb); replace HO352 := Aside0.mk (Kd.R_below (RR HO352.out) hb); replace HB := Aside0.mk (below_step (BB HB.out) hb); (try clear hb)) | ((with_reducible refine gate_callee (f := 17) rfl ?_); refine GL (some 36) rfl rfl Try.func17 #[.slice A0 l0.length c0] rfl ?_; (with_reducible refine (laws_toLeaseS.calls k _ _ l0 t354 _ ?side1 ?side2 A13.out).mono ?_); (case side1 => exact CC (Kd.C_below HR0.out HB.out)); (case side2 => exact HC0.out); rintro e w28 ⟨v355, rfl, ho0, hb⟩; refine ⟨_, rfl, ?_⟩; have HO356 := Aside0.mk (Kd.R_lower (Kd.R_new' (Kd.R_new' (Kd.R_new' (Kd.R_new' ho0 (Kd.R_lt (RR HO343.out))) (Kd.R_lt (RR HO346.out))) (Kd.R_lt (RR HO349.out))) (Kd.R_lt (RR HO352.out))) (below_size (BB HB.out))); replace HO343 := Aside0.mk (Kd.R_elder' (RR HO343.out) (Kd.R_base ho0) hb); replace HO346 := Aside0.mk (Kd.R_elder' (RR HO346.out) (Kd.R_base ho0) hb); replace HO349 := Aside0.mk (Kd.R_elder' (RR HO349.out) (Kd.R_base ho0) hb); replace HO352 := Aside0.mk (Kd.R_elder' (RR HO352.out) (Kd.R_base ho0) hb); replace HB := Aside0.mk (below_step (BB HB.out) hb); (try clear hb); (try clear ho0); obtain ⟨Ao29, co29, eo29⟩ := Kd.R_slice HO356.out; subst eo29) | ((with_reducible refine gate_callee (f := 19) rfl ?_); refine GL (some 37) rfl rfl Try.func19 #[.slice Ao23 t347.length co23, .slice Ao29 t354.length co29] rfl ?_; (with_reducible refine (laws_eqLeaseS.calls k _ _ t347 _ _ t354 true _ ?side1 ?side2 ?side3 ?side4 A14.out).mono ?_); (case side1 => exact CC (Kd.R_reads' HO349.out).2.2); (case side2 => exact (Kd.R_reads' HO349.out).2.1); (case side3 => exact CC (Kd.R_reads' HO356.out).2.2); (case side4 => exact (Kd.R_reads' HO356.out).2.1); rintro e w30 ⟨rfl, hb⟩; refine ⟨_, rfl, ?_⟩; replace HO343 := Aside0.mk (Kd.R_below (RR HO343.out) hb); replace HO346 := Aside0.mk (Kd.R_below (RR HO346.out) hb); replace HO349 := Aside0.mk (Kd.R_below (RR HO349.out) hb); replace HO352 := Aside0.mk (Kd.R_below (RR HO352.out) hb); replace HO356 := Aside0.mk (Kd.R_below (RR HO356.out) hb); replace HB := Aside0.mk (below_step (BB HB.out) hb); (try clear hb)) | ((with_reducible refine gate_callee (f := 27) rfl ?_); refine GL (some 41) rfl rfl Try.func27 #[.slice Ao23 t347.length co23, .int .i64 1] rfl ?_; (with_reducible refine (laws_markLeaseS.calls k (fun k_ => some k_ = (.slice Ao23 t347.length co23 : Value).ownBlock) (.slice Ao23 t347.length co23) t347 1 t358 t359 w _ ?side1 ?side2 A16.out).mono ?_); (case side1 => repeat (first | (with_reducible first | exact HB.out | apply below_alloc | apply pw_below_drewN | apply below_drew1) | exact HB.out)); (case side2 => exact Kd.R_tight rfl HO349.out); rintro e w31 ⟨rfl, hy0, hb, hkp⟩; refine ⟨_, rfl, ?_⟩; replace HO343 := Aside0.mk (Kd.R_mono (ok' := fun k_ => some k_ ≠ (.slice Ao26 t344.length co26 : Value).ownBlock ∧ some k_ ≠ (.slice Ao23 t347.length co23 : Value).ownBlock ∧ some k_ ≠ (.slice Ao25 t350.length co25 : Value).ownBlock ∧ some k_ ≠ (.slice Ao29 t354.length co29 : Value).ownBlock) (Kd.R_keptB (HO343.out) hkp (fun k_ hk_ hs_ => (hk_.1.1.2) hs_)) (fun k_ hk_ => ⟨hk_.1.1.1.1.2, hk_.1.1.1.2, hk_.1.1.2, hk_.1.2⟩)); replace HO346 := Aside0.mk (Kd.R_mono (ok' := fun k_ => some k_ ≠ (.slice Ao20 t341.length co20 : Value).ownBlock ∧ some k_ ≠ (.slice Ao23 t347.length co23 : Value).ownBlock ∧ some k_ ≠ (.slice Ao25 t350.length co25 : Value).ownBlock ∧ some k_ ≠ (.slice Ao29 t354.length co29 : Value).ownBlock) (Kd.R_keptB (HO346.out) hkp (fun k_ hk_ hs_ => (hk_.1.1.2) hs_)) (fun k_ hk_ => ⟨hk_.1.1.1.1.2, hk_.1.1.1.2, hk_.1.1.2, hk_.1.2⟩)); replace HO349 := Aside0.mk (Kd.R_reok rfl hy0 (fun k_ e_ => HO349.out.1 k_ e_)); replace HO352 := Aside0.mk (Kd.R_mono (ok' := fun k_ => some k_ ≠ (.slice Ao20 t341.length co20 : Value).ownBlock ∧ some k_ ≠ (.slice Ao26 t344.length co26 : Value).ownBlock ∧ some k_ ≠ (.slice Ao23 t347.length co23 : Value).ownBlock ∧ some k_ ≠ (.slice Ao29 t354.length co29 : Value).ownBlock) (Kd.R_keptB (HO352.out) hkp (fun k_ hk_ hs_ => (hk_.1.2) hs_)) (fun k_ hk_ => ⟨hk_.1.1.1.1.2, hk_.1.1.1.2, hk_.1.1.2, hk_.1.2⟩)); replace HO356 := Aside0.mk (Kd.R_mono (ok' := fun k_ => some k_ ≠ (.slice Ao20 t341.length co20 : Value).ownBlock ∧ some k_ ≠ (.slice Ao26 t344.length co26 : Value).ownBlock ∧ some k_ ≠ (.slice Ao23 t347.length co23 : Value).ownBlock ∧ some k_ ≠ (.slice Ao25 t350.length co25 : Value).ownBlock) (Kd.R_keptB (HO356.out) hkp (fun k_ hk_ hs_ => (hk_.1.2) hs_)) (fun k_ hk_ => ⟨hk_.1.1.1.1.2, hk_.1.1.1.2, hk_.1.1.2, hk_.1.2⟩)); replace HB := Aside0.mk (hb); (try clear hb); (try clear hkp); (try clear hy0)))
          (try simp only [Act.put, List.setIfInBounds_toArray, List.set_cons_zero, List.set_cons_succ])
          go_cut [49] (fun v49 wc => ∃ (kq : Nat) (x49_16 : Bool), v49 = .bool x49_16 ∧ Aside0 (laws_FnExactDropLease.j0 kq l0 a1 t344 t350 x49_16 = some r) ∧ Aside0 (kq ≤ k) ∧ Aside0 (Kd.R k64 64 wc w.heap.size (fun k_ => some k_ ≠ ((.slice Ao25 t350.length co25) : Value).ownBlock) (.slice Ao26 t344.length co26) t344) ∧ Aside0 (Kd.R k64 64 wc w.heap.size (fun k_ => some k_ ≠ ((.slice Ao26 t344.length co26) : Value).ownBlock) (.slice Ao25 t350.length co25) t350) ∧ Aside0 (Below w.heap.size w wc))
          case first =>
            have H := HC17.out
            clear HC17
            by_cases c32 : t358 < 0
            · rw [if_pos c32] at H
              have c32b0 : decide (t358 < 0) = true := decide_eq_true c32
              clear c32
              (first | rw [c32b0] | (simp only [i64_w, i32_w]; rw [c32b0]) | skip)
              have H' := Aside0.mk H
              clear H
              go_wp2
              go_meet
              case rel => exact ⟨_, (true), FR, H', ⟨by first | omega | exact Nat.le_refl _⟩, ⟨by (with_reducible repeat (first | apply Kd.R_alloc | apply Kd.R_drewN | apply Kd.R_drew)); exact Kd.R_mono HO346.out (fun _ hk => hk.2.2.1)⟩, ⟨by (with_reducible repeat (first | apply Kd.R_alloc | apply Kd.R_drewN | apply Kd.R_drew)); exact Kd.R_mono HO352.out (fun _ hk => hk.2.1)⟩, ⟨(BB HB.out)⟩⟩
            · rw [if_neg c32] at H
              have c32b0 : decide (t358 < 0) = false := decide_eq_false c32
              clear c32
              (first | rw [c32b0] | (simp only [i64_w, i32_w]; rw [c32b0]) | skip)
              replace H := Option.bind_eq_some_iff.mp H
              obtain ⟨t360, A330, H⟩ := H
              replace H : (laws_FnExactDropLease.j0 k l0 a1 t344 t350 (!t360)) = some r := H
              have A33 := Aside0.mk A330
              clear A330
              have H' := Aside0.mk H
              clear H
              go_wp2_with (first | (go_at_call 19; (with_reducible refine (laws_eqLeaseS.calls k _ _ t350 _ _ t344 t360 _ ?side1 ?side2 ?side3 ?side4 A33.out).mono ?_); (case side1 => exact CC (Kd.R_reads' HO352.out).2.2); (case side2 => exact (Kd.R_reads' HO352.out).2.1); (case side3 => exact CC (Kd.R_reads' HO346.out).2.2); (case side4 => exact (Kd.R_reads' HO346.out).2.1); rintro e w34 ⟨rfl, hb⟩; replace HO343 := Aside0.mk (Kd.R_below (RR HO343.out) hb); replace HO346 := Aside0.mk (Kd.R_below (RR HO346.out) hb); replace HO349 := Aside0.mk (Kd.R_below (RR HO349.out) hb); replace HO352 := Aside0.mk (Kd.R_below (RR HO352.out) hb); replace HO356 := Aside0.mk (Kd.R_below (RR HO356.out) hb); replace HB := Aside0.mk (below_step (BB HB.out) hb); (try clear hb); (try clear hb2); (try clear hk); (try clear hi)))
              go_meet
              case rel => exact ⟨_, (!t360), FR, H', ⟨by first | omega | exact Nat.le_refl _⟩, ⟨by (with_reducible repeat (first | apply Kd.R_alloc | apply Kd.R_drewN | apply Kd.R_drew)); exact Kd.R_mono HO346.out (fun _ hk => hk.2.2.1)⟩, ⟨by (with_reducible repeat (first | apply Kd.R_alloc | apply Kd.R_drewN | apply Kd.R_drew)); exact Kd.R_mono HO352.out (fun _ hk => hk.2.1)⟩, ⟨(BB HB.out)⟩⟩
          case rest =>
            clear HC17
            try clear c1
            try clear c2
            try clear p2
            try clear c3
            try clear c3b0
            try clear c3b1
            try clear c5
            try clear c5b0
            try clear c8
            try clear c12
            try clear c15
            try clear c17
            try clear c19
            try clear c27
            try clear c32
            try clear c32b0
            try clear c34
            obtain ⟨kq, x49_16, rfl, HA, HJ16, HO_6, HO_8, HB⟩ := hcut
            cases kq with
            | zero => exact absurd HA.out (by simp [laws_FnExactDropLease.j0])
            | succ kj16 =>
              have H := HA.out
              clear HA
              simp only [laws_FnExactDropLease.j0] at H
              by_cases c35 : x49_16 = true
              · subst c35
                have H1 : (some false) = some r := by rw [if_pos rfl] at H; exact H
                clear H
                have H := H1
                clear H1
                exact absurd ((Option.some.inj H).trans hr_.out) (by decide)
              · replace c35 := Bool.eq_false_iff.mpr c35
                subst c35
                have H1 : ((laws_markLeaseS.f kj16 t350 1).bind fun bt361 => ((laws_heldLeaseS.f kj16 bt361.2 1).bind fun t363 => (if t363 < 0 then (some false) else (if t363 = bt361.1 then ((laws_toLeaseS.f kj16 l0).bind fun t364 => ((impl_DropLease.f t364 a1).bind fun t367 => ((laws_eqLeaseS.f kj16 t367 t344).bind fun t370 => (if t370 = true then ((laws_heldLeaseS.f kj16 bt361.2 1).bind fun t371 => (if t371 < 0 then (some false) else (if t371 = bt361.1 then (some true) else (some false)))) else (some false))))) else (some false))))) = some r := by rw [if_neg (show ¬ (false = true) by decide)] at H; exact H
                clear H
                have H := H1
                clear H1
                replace H := Option.bind_eq_some_iff.mp H
                obtain ⟨⟨t361, t362⟩, A360, H⟩ := H
                replace H : ((laws_heldLeaseS.f kj16 t362 1).bind fun t363 => (if t363 < 0 then (some false) else (if t363 = t361 then ((laws_toLeaseS.f kj16 l0).bind fun t364 => ((impl_DropLease.f t364 a1).bind fun t367 => ((laws_eqLeaseS.f kj16 t367 t344).bind fun t370 => (if t370 = true then ((laws_heldLeaseS.f kj16 t362 1).bind fun t371 => (if t371 < 0 then (some false) else (if t371 = t361 then (some true) else (some false)))) else (some false))))) else (some false)))) = some r := H
                have A36 := Aside0.mk A360
                clear A360
                replace H := Option.bind_eq_some_iff.mp H
                obtain ⟨t363, A370, H⟩ := H
                replace H : (if t363 < 0 then (some false) else (if t363 = t361 then ((laws_toLeaseS.f kj16 l0).bind fun t364 => ((impl_DropLease.f t364 a1).bind fun t367 => ((laws_eqLeaseS.f kj16 t367 t344).bind fun t370 => (if t370 = true then ((laws_heldLeaseS.f kj16 t362 1).bind fun t371 => (if t371 < 0 then (some false) else (if t371 = t361 then (some true) else (some false)))) else (some false))))) else (some false))) = some r := H
                have A37 := Aside0.mk A370
                clear A370
                by_cases c38 : t363 < 0
                · rw [if_pos c38] at H
                  have c38b0 : decide (t363 < 0) = true := decide_eq_true c38
                  clear c38
                  exact absurd ((Option.some.inj H).trans hr_.out) (by decide)
                · rw [if_neg c38] at H
                  have c38b0 : decide (t363 < 0) = false := decide_eq_false c38
                  clear c38
                  by_cases c39 : t363 = t361
                  · rw [if_pos c39] at H
                    have c39b0 : (t363 == t361) = true := beq_iff_eq.mpr c39
                    have c39b1 : (t363 != t361) = false := bne_eq_false_iff_eq.mpr c39
                    clear c39
                    replace H := Option.bind_eq_some_iff.mp H
                    obtain ⟨t364, A400, H⟩ := H
                    replace H : ((impl_DropLease.f t364 a1).bind fun t367 => ((laws_eqLeaseS.f kj16 t367 t344).bind fun t370 => (if t370 = true then ((laws_heldLeaseS.f kj16 t362 1).bind fun t371 => (if t371 < 0 then (some false) else (if t371 = t361 then (some true) else (some false)))) else (some false)))) = some r := H
                    have A40 := Aside0.mk A400
                    clear A400
                    replace H := Option.bind_eq_some_iff.mp H
                    obtain ⟨t367, A410, H⟩ := H
                    replace H : ((laws_eqLeaseS.f kj16 t367 t344).bind fun t370 => (if t370 = true then ((laws_heldLeaseS.f kj16 t362 1).bind fun t371 => (if t371 < 0 then (some false) else (if t371 = t361 then (some true) else (some false)))) else (some false))) = some r := H
                    have A41 := Aside0.mk A410
                    clear A410
                    replace H := Option.bind_eq_some_iff.mp H
                    obtain ⟨t370, A420, H⟩ := H
                    replace H : (if t370 = true then ((laws_heldLeaseS.f kj16 t362 1).bind fun t371 => (if t371 < 0 then (some false) else (if t371 = t361 then (some true) else (some false)))) else (some false)) = some r := H
                    have A42 := Aside0.mk A420
                    clear A420
                    by_cases c43 : t370 = true
                    · subst c43
                      have H1 : ((laws_heldLeaseS.f kj16 t362 1).bind fun t371 => (if t371 < 0 then (some false) else (if t371 = t361 then (some true) else (some false)))) = some r := by rw [if_pos rfl] at H; exact H
                      clear H
                      have H := H1
                      clear H1
                      replace H := Option.bind_eq_some_iff.mp H
                      obtain ⟨t371, A440, H⟩ := H
                      replace H : (if t371 < 0 then (some false) else (if t371 = t361 then (some true) else (some false))) = some r := H
                      have A44 := Aside0.mk A440
                      clear A440
                      by_cases c45 : t371 < 0
                      · rw [if_pos c45] at H
                        have c45b0 : decide (t371 < 0) = true := decide_eq_true c45
                        clear c45
                        exact absurd ((Option.some.inj H).trans hr_.out) (by decide)
                      · rw [if_neg c45] at H
                        have c45b0 : decide (t371 < 0) = false := decide_eq_false c45
                        clear c45
                        by_cases c46 : t371 = t361
                        · rw [if_pos c46] at H
                          have c46b0 : (t371 == t361) = true := beq_iff_eq.mpr c46
                          have c46b1 : (t371 != t361) = false := bne_eq_false_iff_eq.mpr c46
                          clear c46
                          obtain rfl := Option.some.inj H
                          go_wp2_with (first | ((with_reducible refine gate_callee (f := 27) rfl ?_); refine GL (some 52) rfl rfl Try.func27 #[.slice Ao25 t350.length co25, .int .i64 1] rfl ?_; (with_reducible refine (laws_markLeaseS.calls kj16 (fun k_ => some k_ = (.slice Ao25 t350.length co25 : Value).ownBlock) (.slice Ao25 t350.length co25) t350 1 t361 t362 w _ ?side1 ?side2 A36.out).mono ?_); (case side1 => repeat (first | (with_reducible first | exact HB.out | apply below_alloc | apply pw_below_drewN | apply below_drew1) | exact HB.out)); (case side2 => exact Kd.R_tight rfl HO_8.out); rintro e w47 ⟨rfl, hy0, hb, hkp⟩; refine ⟨_, rfl, ?_⟩; replace HO_6 := Aside0.mk (Kd.R_mono (ok' := fun k_ => some k_ ≠ (.slice Ao25 t350.length co25 : Value).ownBlock) (Kd.R_keptB (HO_6.out) hkp (fun k_ hk_ hs_ => (hk_) hs_)) (fun k_ hk_ => hk_.1)); replace HO_8 := Aside0.mk (Kd.R_reok rfl hy0 (fun k_ e_ => HO_8.out.1 k_ e_)); replace HB := Aside0.mk (hb); (try clear hb); (try clear hkp); (try clear hy0)) | ((with_reducible refine gate_callee (f := 28) rfl ?_); refine goesL_ (some 55) rfl rfl Try.func28 (by kernel_rfl) rfl #[.slice Ao25 t362.length co25, .int .i64 1] rfl (by (try simp only [List.map_toArray, List.map_cons, List.map_nil]); first | done | (rw [show t362.length = t350.length from (Kd.R_reads' HO_8.out).1.symm] <;> rfl) | rfl | (simp only [List.length_drop, List.length_take]; rfl)) ?_; (with_reducible refine (laws_heldLeaseS.calls kj16 _ _ t362 1 t363 _ ?side1 ?side2 A37.out).mono ?_); (case side1 => exact CC (Kd.R_reads' HO_8.out).2.2); (case side2 => rw [show t362.length = t350.length from (Kd.R_reads' HO_8.out).1.symm]; exact (Kd.R_reads' HO_8.out).2.1); rintro e w48 ⟨rfl, hb⟩; refine ⟨_, rfl, ?_⟩; replace HO_6 := Aside0.mk (Kd.R_below (RR HO_6.out) hb); replace HO_8 := Aside0.mk (Kd.R_below (RR HO_8.out) hb); replace HB := Aside0.mk (below_step (BB HB.out) hb); (try clear hb)) | ((with_reducible refine gate_callee (f := 17) rfl ?_); refine GL (some 62) rfl rfl Try.func17 #[.slice A0 l0.length c0] rfl ?_; (with_reducible refine (laws_toLeaseS.calls kj16 _ _ l0 t364 _ ?side1 ?side2 A40.out).mono ?_); (case side1 => exact CC (Kd.C_below HR0.out HB.out)); (case side2 => exact HC0.out); rintro e w49 ⟨v365, rfl, ho0, hb⟩; refine ⟨_, rfl, ?_⟩; have HO366 := Aside0.mk (Kd.R_lower (Kd.R_new' (Kd.R_new' ho0 (Kd.R_lt (RR HO_6.out))) (Kd.R_lt (RR HO_8.out))) (below_size (BB HB.out))); replace HO_6 := Aside0.mk (Kd.R_elder' (RR HO_6.out) (Kd.R_base ho0) hb); replace HO_8 := Aside0.mk (Kd.R_elder' (RR HO_8.out) (Kd.R_base ho0) hb); replace HB := Aside0.mk (below_step (BB HB.out) hb); (try clear hb); (try clear ho0); obtain ⟨Ao50, co50, eo50⟩ := Kd.R_slice HO366.out; subst eo50) | ((with_reducible refine gate_callee (f := 35) rfl ?_); refine GL (some 64) rfl rfl Try.func35 #[.slice Ao50 t364.length co50, .string a1] rfl ?_; (with_reducible refine (impl_DropLease.calls _ _ t364 a1 t367 _ ?side1 ?side2 A41.out).mono ?_); (case side1 => exact CC (Kd.R_reads' HO366.out).2.2); (case side2 => exact (Kd.R_reads' HO366.out).2.1); rintro e w51 ⟨v368, rfl, ho0, hb⟩; refine ⟨_, rfl, ?_⟩; have HO369 := Aside0.mk (Kd.R_lower (Kd.R_new' (Kd.R_new' (Kd.R_new' ho0 (Kd.R_lt (RR HO_6.out))) (Kd.R_lt (RR HO_8.out))) (Kd.R_lt (RR HO366.out))) (below_size (BB HB.out))); replace HO_6 := Aside0.mk (Kd.R_elder' (RR HO_6.out) (Kd.R_base ho0) hb); replace HO_8 := Aside0.mk (Kd.R_elder' (RR HO_8.out) (Kd.R_base ho0) hb); replace HO366 := Aside0.mk (Kd.R_elder' (RR HO366.out) (Kd.R_base ho0) hb); replace HB := Aside0.mk (below_step (BB HB.out) hb); (try clear hb); (try clear ho0); obtain ⟨Ao52, co52, eo52⟩ := Kd.R_slice HO369.out; subst eo52) | ((with_reducible refine gate_callee (f := 19) rfl ?_); refine GL (some 67) rfl rfl Try.func19 #[.slice Ao52 t367.length co52, .slice Ao26 t344.length co26] rfl ?_; (with_reducible refine (laws_eqLeaseS.calls kj16 _ _ t367 _ _ t344 true _ ?side1 ?side2 ?side3 ?side4 A42.out).mono ?_); (case side1 => exact CC (Kd.R_reads' HO369.out).2.2); (case side2 => exact (Kd.R_reads' HO369.out).2.1); (case side3 => exact CC (Kd.R_reads' HO_6.out).2.2); (case side4 => exact (Kd.R_reads' HO_6.out).2.1); rintro e w53 ⟨rfl, hb⟩; refine ⟨_, rfl, ?_⟩; replace HO_6 := Aside0.mk (Kd.R_below (RR HO_6.out) hb); replace HO_8 := Aside0.mk (Kd.R_below (RR HO_8.out) hb); replace HO366 := Aside0.mk (Kd.R_below (RR HO366.out) hb); replace HO369 := Aside0.mk (Kd.R_below (RR HO369.out) hb); replace HB := Aside0.mk (below_step (BB HB.out) hb); (try clear hb)) | ((with_reducible refine gate_callee (f := 28) rfl ?_); refine goesL_ (some 71) rfl rfl Try.func28 (by kernel_rfl) rfl #[.slice Ao25 t362.length co25, .int .i64 1] rfl (by (try simp only [List.map_toArray, List.map_cons, List.map_nil]); first | done | (rw [show t362.length = t350.length from (Kd.R_reads' HO_8.out).1.symm] <;> rfl) | rfl | (simp only [List.length_drop, List.length_take]; rfl)) ?_; (with_reducible refine (laws_heldLeaseS.calls kj16 _ _ t362 1 t371 _ ?side1 ?side2 A44.out).mono ?_); (case side1 => exact CC (Kd.R_reads' HO_8.out).2.2); (case side2 => rw [show t362.length = t350.length from (Kd.R_reads' HO_8.out).1.symm]; exact (Kd.R_reads' HO_8.out).2.1); rintro e w54 ⟨rfl, hb⟩; refine ⟨_, rfl, ?_⟩; replace HO_6 := Aside0.mk (Kd.R_below (RR HO_6.out) hb); replace HO_8 := Aside0.mk (Kd.R_below (RR HO_8.out) hb); replace HO366 := Aside0.mk (Kd.R_below (RR HO366.out) hb); replace HO369 := Aside0.mk (Kd.R_below (RR HO369.out) hb); replace HB := Aside0.mk (below_step (BB HB.out) hb); (try clear hb)))
                          go_ret
                          exact ⟨ER, (BB HB.out)⟩
                        · rw [if_neg c46] at H
                          have c46b0 : (t371 == t361) = false := beq_eq_false_iff_ne.mpr c46
                          have c46b1 : (t371 != t361) = true := bne_iff_ne.mpr c46
                          exact absurd ((Option.some.inj H).trans hr_.out) (by decide)
                    · replace c43 := Bool.eq_false_iff.mpr c43
                      subst c43
                      have H1 : (some false) = some r := by rw [if_neg (show ¬ (false = true) by decide)] at H; exact H
                      clear H
                      have H := H1
                      clear H1
                      exact absurd ((Option.some.inj H).trans hr_.out) (by decide)
                  · rw [if_neg c39] at H
                    have c39b0 : (t363 == t361) = false := beq_eq_false_iff_ne.mpr c39
                    have c39b1 : (t363 != t361) = true := bne_iff_ne.mpr c39
                    exact absurd ((Option.some.inj H).trans hr_.out) (by decide)
        · replace c15 := Bool.eq_false_iff.mpr c15
          subst c15
          have H1 : (some false) = some r := by rw [if_neg (show ¬ (false = true) by decide)] at H; exact H
          clear H
          have H := H1
          clear H1
          exact absurd ((Option.some.inj H).trans hr_.out) (by decide)
      · replace c12 := Bool.eq_false_iff.mpr c12
        subst c12
        have H1 : (some false) = some r := by rw [if_neg (show ¬ (false = true) by decide)] at H; exact H
        clear H
        have H := H1
        clear H1
        exact absurd ((Option.some.inj H).trans hr_.out) (by decide)

end Go.Proofs.Ytdlcnldgiclpgaa.Pr

/- Generic: whatever reads as data of a type is a value of its kind; by types' numbers and fields, for any program. -/
namespace Go.Proofs.Ytdlcnldgiclpgaa.Opn
open Go.RowKit Go.ChangeShapes Go.WideShapes Go.Deep Go.Proofs.YtdlcnldgiclpgaaW.PrintWords

def Opens {α : Type} (P : Program) (d : Kd α) (wf : α → Prop) (t : TypeId) : Prop :=
  ∀ (H : Type) (enc : TypeId × Value → H) (w : World) (base : Nat) (spare : Nat → Bool) (held : Bool) (fuel : Nat) (cs : List Value) (x : DataW H × List MemPlace),
    DataW.trod enc P w base spare held fuel t cs = some x → ∃ v, d.K w v cs ∧ wf v

def OpensF {α : Type} (P : Program) (d : Kd α) (wf : α → Prop) (off : Nat) (fs : List Field) : Prop :=
  ∀ (H : Type) (enc : TypeId × Value → H) (w : World) (base : Nat) (spare : Nat → Bool) (held : Bool) (fuel : Nat) (cs : List Value),
    cs.length = off + d.sz → (∀ f ∈ fs, ∃ y, DataW.trod enc P w base spare held fuel f.type ((cs.drop f.offset).take (P.cellsOf f.type)) = some y) → ∃ v, d.K w v (cs.drop off) ∧ wf v

theorem opens_int {P : Program} {t : TypeId} (k : IntKind) (ht : P.underlying t = some (.int k)) : Opens P (Kd.int k) (fun n => (Lit.int k n).wf = true) t := by
  intro H enc w base spare held fuel cs x h
  obtain ⟨n, rfl, _, hw⟩ := DataW.trod_int ht h
  exact ⟨n, rfl, hw⟩
theorem opens_bool {P : Program} {t : TypeId} (ht : P.underlying t = some .bool) : Opens P Kd.bool (fun _ => True) t := by
  intro H enc w base spare held fuel cs x h
  obtain ⟨n, rfl, _⟩ := DataW.trod_bool ht h
  exact ⟨n, rfl, trivial⟩
theorem opens_string {P : Program} {t : TypeId} (ht : P.underlying t = some .string) : Opens P Kd.string (fun s => s.size ≤ maxLen) t := by
  intro H enc w base spare held fuel cs x h
  obtain ⟨s, rfl, _, hs⟩ := DataW.trod_string ht h
  exact ⟨s, rfl, hs⟩

theorem list_of_lt {α : Type} {q : Nat → α → Prop} (len : Nat) (key : ∀ i, i < len → ∃ v, q i v) : ∃ xs : List α, xs.length = len ∧ ∀ i v, xs[i]? = some v → q i v := by
  induction len with
  | zero => exact ⟨[], rfl, fun i v h => by simp at h⟩
  | succ k ih =>
    obtain ⟨xs, hxl, hx⟩ := ih (fun i hik => key i (by omega))
    obtain ⟨v, h1⟩ := key k (by omega)
    refine ⟨xs ++ [v], by simp [hxl], fun i u hu => ?_⟩
    by_cases hik : i < xs.length
    · rw [List.getElem?_append_left hik] at hu
      exact hx i u hu
    · have hil := (List.getElem?_eq_some_iff.1 hu).1
      simp at hil
      have hi' : i = k := by omega
      subst hi'
      rw [List.getElem?_append_right (by omega)] at hu
      simp [hxl] at hu
      subst hu
      exact h1

theorem opens_slice {α : Type} {P : Program} {t e : TypeId} {d : Kd α} {wf : α → Prop} (ht : P.underlying t = some (.slice e)) (hc : P.cellsOf e = d.sz) (he : Opens P d wf e) :
    Opens P (Kd.slice e d) (fun xs => xs.length ≤ maxLen ∧ ∀ x ∈ xs, wf x) t := by
  intro H enc w base spare held fuel cs x h
  rcases Go.Deep.open_slice ht h with ⟨rfl, _⟩ | ⟨a, len, cap, m, n, D, Pl, rfl, _, hl, hm, hmm, _, hi⟩
  · refine ⟨[], ⟨none, 0, rfl, Nat.le_refl _, rfl, by simp, fun h => absurd h (by simp)⟩, by simp, fun x hx => by simp at hx⟩
  · have hlm : len ≤ m := by rw [hmm]; split <;> omega
    have key : ∀ i, i < len → ∃ v c, d.K w v c ∧ wf v ∧ w.cells? base (a.add (i * P.cellsOf e)) (P.cellsOf e) = some c := by
      intro i hil
      obtain ⟨c, h1, h2⟩ := hi i (by omega)
      obtain ⟨v, hk, hw⟩ := he _ _ _ _ _ _ _ _ _ h2
      exact ⟨v, c, hk, hw, h1⟩
    have this := list_of_lt (q := fun i v => ∃ c, d.K w v c ∧ wf v ∧ w.cells? base (a.add (i * P.cellsOf e)) (P.cellsOf e) = some c) len key
    obtain ⟨xs, hxl, hx⟩ := this
    refine ⟨xs, ⟨some a, cap, by rw [hxl], by omega, ?_⟩, by rw [hxl]; omega, ?_⟩
    · refine ⟨rfl, by unfold maxLen at hm; omega, fun _ => ⟨a, rfl, fun j p hj => ?_⟩⟩
      obtain ⟨c, h1, h2, h3⟩ := hx j p hj
      obtain ⟨_, hcl, hat⟩ := World.cells?_some h3
      refine ⟨c, by rw [hcl, hc], h1, fun i u hu => ?_⟩
      have hil : i < P.cellsOf e := by rw [← hcl]; exact (List.getElem?_eq_some_iff.1 hu).1
      rw [← Go.Deep.add_add, ← hc, hat i hil, hu]
    · intro y hy
      obtain ⟨i, hi⟩ := List.mem_iff_getElem?.1 hy
      obtain ⟨c, _, h2, _⟩ := hx i y hi
      exact h2

theorem opensF_one {α : Type} {P : Program} {d : Kd α} {wf : α → Prop} {f : Field} {off : Nat} (h : Opens P d wf f.type) (ho : f.offset = off) (hc : P.cellsOf f.type = d.sz) : OpensF P d wf off [f] := by
  intro H enc w base spare held fuel cs hl hf
  obtain ⟨y, hy⟩ := hf f (by simp)
  rw [ho, hc, List.take_of_length_le (by simp; omega)] at hy
  exact h _ _ _ _ _ _ _ _ _ hy
theorem opensF_cons {α β : Type} {P : Program} {a : Kd α} {b : Kd β} {wa : α → Prop} {wb : β → Prop} {f : Field} {fs : List Field} {off : Nat} (h : Opens P a wa f.type) (ho : f.offset = off) (hc : P.cellsOf f.type = a.sz)
    (ht : OpensF P b wb (off + a.sz) fs) : OpensF P (Kd.pair a b) (fun x => wa x.1 ∧ wb x.2) off (f :: fs) := by
  intro H enc w base spare held fuel cs hl hf
  have hsz : (Kd.pair a b).sz = a.sz + b.sz := rfl
  obtain ⟨y, hy⟩ := hf f (by simp)
  rw [ho, hc] at hy
  obtain ⟨v, hv, hw⟩ := h _ _ _ _ _ _ _ _ _ hy
  obtain ⟨u, hu, hw'⟩ := ht H enc w base spare held fuel cs (by rw [hl, hsz]; omega) (fun g hg => hf g (by simp [hg]))
  refine ⟨(v, u), ⟨_, _, ?_, hv, hu⟩, hw, hw'⟩
  rw [← List.drop_drop, List.take_append_drop]
theorem opens_struct {α : Type} {P : Program} {t : TypeId} {d : Kd α} {wf : α → Prop} {fs : Array Field} (ht : P.underlying t = some (.struct fs)) (hc : P.cellsOf t = d.sz) (h : OpensF P d wf 0 fs.toList) : Opens P d wf t := by
  intro H enc w base spare held fuel cs x hx
  obtain ⟨xs, n, _, _, hlen, hxl, hf⟩ := DataW.trod_struct ht hx
  obtain ⟨v, hv, hw⟩ := h H enc w base spare held n cs (by rw [hlen, hc]; simp) (fun f hfm => by
    obtain ⟨i, hi⟩ := List.mem_iff_getElem?.1 hfm
    have hi' : fs[i]? = some f := by simpa using hi
    have hil : i < xs.length := by rw [hxl]; exact (Array.getElem?_eq_some_iff.1 hi').1
    exact ⟨xs[i], by rw [hf i f hi', List.getElem?_eq_getElem hil]⟩)
  exact ⟨v, by simpa using hv, hw⟩
theorem opens_iso {α β : Type} {P : Program} {t : TypeId} {d : Kd α} {wf : α → Prop} (h : Opens P d wf t) (f : β → α) (g : α → β) (e : ∀ x, f (g x) = x) : Opens P (Kd.iso d f) (fun y => wf (f y)) t := by
  intro H enc w base spare held fuel cs x hx
  obtain ⟨v, hv, hw⟩ := h _ _ _ _ _ _ _ _ _ hx
  refine ⟨g v, ?_, ?_⟩
  · show d.K w (f (g v)) cs
    rw [e]
    exact hv
  · show wf (f (g v))
    rw [e]
    exact hw

/-- An argument that is a slice. -/
theorem arg_slice {α : Type} {P : Program} {t e : TypeId} {d : Kd α} {wf : List α → Prop} (h : Opens P (Kd.slice e d) wf t) {H : Type} {enc : TypeId × Value → H} {w : World} {base : Nat} {spare : Nat → Bool} {held : Bool}
    {A : Option Addr} {n c : Nat} {x : DataW H} {p : List MemPlace} (hx : DataW.Trod enc P w base spare held t (.slice A n c) x p) : ∃ l : List α, n = l.length ∧ l.length ≤ c ∧ Kd.C d w A l.length l ∧ wf l := by
  obtain ⟨fuel, hf⟩ := hx
  obtain ⟨l, ⟨A', c', he, hl, hC⟩, hw⟩ := h _ _ _ _ _ _ _ _ _ hf
  simp [Value.cells] at he
  obtain ⟨rfl, rfl, rfl⟩ := he
  exact ⟨l, rfl, hl, hC, hw⟩
/-- An argument that is a struct. -/
theorem arg_struct {α : Type} {P : Program} {t : TypeId} {d : Kd α} {wf : α → Prop} (h : Opens P d wf t) {H : Type} {enc : TypeId × Value → H} {w : World} {base : Nat} {spare : Nat → Bool} {held : Bool}
    {cs : Array Value} {x : DataW H} {p : List MemPlace} (hx : DataW.Trod enc P w base spare held t (.agg cs) x p) : ∃ v : α, d.K w v cs.toList ∧ wf v := by
  obtain ⟨fuel, hf⟩ := hx
  exact h _ _ _ _ _ _ _ _ _ hf
end Go.Proofs.Ytdlcnldgiclpgaa.Opn

/- The pure statement of the law FnExactDropLease: for all values that an argument can be read as. -/
namespace Go.Proofs.Ytdlcnldgiclpgaa.SFnExactDropLease
open Go.RowKit Go.Proofs.YtdlcnldgiclpgaaW.PrintWords Go.Proofs.YtdlcnldgiclpgaaW.PrintLast Go.Proofs.YtdlcnldgiclpgaaW.PrintMore Go.Proofs.Ytdlcnldgiclpgaa.Pr Go.Proofs.Ytdlcnldgiclpgaa.Opn
set_option linter.unusedVariables false
def wf63 (x : S63) : Prop := (x.f0.size ≤ maxLen) ∧ ((Lit.int .i64 x.f1).wf = true) ∧ ((Lit.int .i64 x.f2).wf = true)
set_option maxRecDepth 100000 in
theorem op63 : Opens Try.prog k63 wf63 63 := opens_iso (opens_struct Try.underlying63 (by kernel_rfl) (opensF_cons (opens_string Try.underlying9) rfl (by kernel_rfl) (opensF_cons (opens_int .i64 Try.underlying3) rfl (by kernel_rfl) (opensF_one (opens_int .i64 Try.underlying3) rfl (by kernel_rfl))))) _ (fun p => (⟨p.1, p.2.1, p.2.2⟩ : S63)) (fun _ => rfl)
theorem ok_wfLease {x : S63} (h : wf63 x) : Lw.okLease x := h.1
def Pure : Prop := ∀ (l0 : List (S63)) (a1 : ByteArray), (l0.length ≤ maxLen ∧ ∀ y ∈ l0, wf63 y) → a1.size ≤ maxLen → ∃ k, laws_FnExactDropLease.f k l0 a1 = some true
end Go.Proofs.Ytdlcnldgiclpgaa.SFnExactDropLease

/- Generated by plumb.py: the laws' helpers of a type, told as plain functions. -/
namespace Go.Proofs.Ytdlcnldgiclpgaa.Lw
open Go.RowKit Go.Proofs.YtdlcnldgiclpgaaW.PrintWords Go.Proofs.Ytdlcnldgiclpgaa.Pr Go.Proofs.Ytdlcnldgiclpgaa.Evs
set_option linter.unusedVariables false
theorem strOfNums_one (a : Int) : (strOfNums [a]).size = 1 := rfl
theorem markText_loop (n : Nat) : ∀ (x : Int) (acc : ByteArray), x.toNat ≤ n → acc.size + x.toNat < 9223372036854775806 → ∃ t, Ev (fun k => laws_markText.l0 k x acc) t := by
  induction n with
  | zero =>
    intro x acc hx hs
    exact ⟨_, ev_step (fun k => laws_markText.l0.eq_2 _ _ k) (ev_neg (by omega) (ev_pos (by omega) (ev_some _)))⟩
  | succ n ih =>
    intro x acc hx hs
    by_cases c : x > 0
    · have e : Int.tdiv x 10 = x / 10 := Int.tdiv_eq_ediv_of_nonneg (by omega)
      have ew : wrap64 (Int.tdiv x 10) = x / 10 := by rw [e]; exact wrap_in (by omega) (by omega)
      have es : (strOfNums [(wrap64 (48 + (Int.tmod x 10))) % 256] ++ acc).size = 1 + acc.size := by rw [ByteArray.size_append, strOfNums_one]
      obtain ⟨t, ht⟩ := ih (x / 10) (strOfNums [(wrap64 (48 + (Int.tmod x 10))) % 256] ++ acc) (by omega) (by rw [es]; omega)
      refine ⟨t, ev_step (fun k => laws_markText.l0.eq_2 _ _ k) (ev_pos c (ev_call rfl (ev_pos ?_ (by rw [ew]; exact ht))))⟩
      rw [strOfNums_one]
      omega
    · exact ⟨_, ev_step (fun k => laws_markText.l0.eq_2 _ _ k) (ev_neg c (ev_pos (by omega) (ev_some _)))⟩
theorem markText_some (x : Int) (h0 : x < 9223372036854775800) : ∃ t, Ev (fun k => laws_markText.f k x) t := by
  unfold laws_markText.f
  by_cases c : x ≤ 0
  · exact ⟨_, ev_pos c (ev_some _)⟩
  · obtain ⟨t, ht⟩ := markText_loop x.toNat x ⟨#[]⟩ (Nat.le_refl _) (by simp [ByteArray.size]; omega)
    exact ⟨t, ev_neg c ht⟩
open Classical in
noncomputable def mt (x : Int) : ByteArray := if h : ∃ t, Ev (fun k => laws_markText.f k x) t then Classical.choose h else ⟨#[]⟩
theorem mt_ev (x : Int) (h0 : x < 9223372036854775800) : Ev (fun k => laws_markText.f k x) (mt x) := by
  unfold mt
  rw [dif_pos (markText_some x h0)]
  exact Classical.choose_spec (markText_some x h0)
end Go.Proofs.Ytdlcnldgiclpgaa.Lw

/- Generated by plumb.py: the laws' helpers of a type, told as plain functions. -/
namespace Go.Proofs.Ytdlcnldgiclpgaa.Lw
open Go.RowKit Go.Proofs.YtdlcnldgiclpgaaW.PrintWords Go.Proofs.Ytdlcnldgiclpgaa.Pr Go.Proofs.Ytdlcnldgiclpgaa.Evs
set_option linter.unusedVariables false
noncomputable def mkLease (x : ImLease) (n : Int) : ImLease := ⟨mt (n), n + 1, n + 1 + 1⟩
noncomputable def mkLeaseS : List ImLease → Int → List ImLease
  | [], _ => []
  | x :: s, n => mkLease x n :: mkLeaseS s (n + 3)
theorem markLeaseS_loop (s : List ImLease) : ∀ (q : List ImLease) (n : Int), 0 ≤ n → n + 3 * s.length < 9223372036854775000 → q.length + s.length < 9223372036854775807 →
    Ev (fun k => laws_markLeaseS.l0 k (q ++ s) n (q.length : Int)) (n + 3 * s.length, q ++ mkLeaseS s n) := by
  induction s with
  | nil => intro q n h0 h1 hl; exact ev_step (fun k => laws_markLeaseS.l0.eq_2 _ _ _ k) (ev_neg (by simp) (ev_eq (ev_some _) (by simp [mkLeaseS])))
  | cons x s ih =>
    intro q n h0 h1 hl
    simp at h1 hl
    have e1 : wrap64 (n + 1) = n + 1 := wrap_in (by omega) (by omega)
    have e2 : wrap64 (n + 1 + 1) = n + 1 + 1 := wrap_in (by omega) (by omega)
    have e3 : wrap64 (n + 1 + 1 + 1) = n + 1 + 1 + 1 := wrap_in (by omega) (by omega)
    have e0 : wrap64 ((q.length : Int) + 1) = (q.length : Int) + 1 := wrap_in (by omega) (by omega)
    have hr : (n + 3 * ((x :: s).length : Int), q ++ mkLeaseS (x :: s) n) = (n + 1 + 1 + 1 + 3 * (s.length : Int), (q ++ [mkLease x n]) ++ mkLeaseS s (n + 1 + 1 + 1)) := by
      have : n + 1 + 1 + 1 = n + 3 := by omega
      simp [mkLeaseS, this]
      omega
    rw [hr]
    have h := ih (q ++ [mkLease x n]) (n + 1 + 1 + 1) (by omega) (by omega) (by simp; omega)
    refine ev_step (fun k => laws_markLeaseS.l0.eq_2 _ _ _ k) ?_
    simp only [e0, e1, e2, e3]
    repeat (first | with_reducible refine ev_pos (by first | omega | (simp; omega)) ?_ | with_reducible refine ev_bind (mt_ev _ (by omega)) ?_ | with_reducible refine ev_call rfl ?_)
    simp only [rd64, set_mid _ _ _ _ _ rfl]
    simpa [mkLease] using h
theorem markLeaseS_ev (l : List ImLease) (n : Int) (h0 : 0 ≤ n) (h1 : n + 3 * l.length < 9223372036854775000) : Ev (fun k => laws_markLeaseS.f k l n) (n + 3 * l.length, mkLeaseS l n) := by
  unfold laws_markLeaseS.f
  simpa using markLeaseS_loop l [] n h0 h1 (by simp; omega)
theorem heldLeaseS_loop (s : List ImLease) : ∀ (q : List ImLease) (n : Int), 0 ≤ n → n + 3 * s.length < 9223372036854775000 → q.length + s.length < 9223372036854775807 →
    Ev (fun k => laws_heldLeaseS.l0 k (q ++ mkLeaseS s n) n (q.length : Int)) (n + 3 * s.length) := by
  induction s with
  | nil => intro q n h0 h1 hl; exact ev_step (fun k => laws_heldLeaseS.l0.eq_2 _ _ _ k) (ev_neg (by simp [mkLeaseS]) (ev_eq (ev_some _) (by simp)))
  | cons x s ih =>
    intro q n h0 h1 hl
    simp at h1 hl
    have e1 : wrap64 (n + 1) = n + 1 := wrap_in (by omega) (by omega)
    have e2 : wrap64 (n + 1 + 1) = n + 1 + 1 := wrap_in (by omega) (by omega)
    have e3 : wrap64 (n + 1 + 1 + 1) = n + 1 + 1 + 1 := wrap_in (by omega) (by omega)
    have e0 : wrap64 ((q.length : Int) + 1) = (q.length : Int) + 1 := wrap_in (by omega) (by omega)
    simp only [mkLeaseS]
    refine ev_step (fun k => laws_heldLeaseS.l0.eq_2 _ _ _ k) ?_
    simp only [rd64, e0, e1, e2, e3]
    repeat (first | with_reducible refine ev_pos (by first | omega | (simp [mkLease]; done) | (simp; omega)) ?_ | with_reducible refine ev_bind (mt_ev _ (by omega)) ?_)
    have h := ih (q ++ [mkLease x n]) (n + 1 + 1 + 1) (by omega) (by omega) (by simp; omega)
    have hr : n + 3 * ((x :: s).length : Int) = n + 1 + 1 + 1 + 3 * (s.length : Int) := by simp; omega
    have e : n + 3 = n + 1 + 1 + 1 := by omega
    rw [hr, e]
    simpa using h
theorem heldLeaseS_ev (l : List ImLease) (n : Int) (h0 : 0 ≤ n) (h1 : n + 3 * l.length < 9223372036854775000) : Ev (fun k => laws_heldLeaseS.f k (mkLeaseS l n) n) (n + 3 * l.length) := by
  unfold laws_heldLeaseS.f
  simpa using heldLeaseS_loop l [] n h0 h1 (by simp; omega)
end Go.Proofs.Ytdlcnldgiclpgaa.Lw

/- DropLease: the program's answer is the reference's, for every list of leases and path; it shares nothing with what came in. -/
namespace Go.Proofs.Ytdlcnldgiclpgaa.Pure
open Go.RowKit Go.Proofs.YtdlcnldgiclpgaaW.PrintWords Go.Proofs.Ytdlcnldgiclpgaa.Pr Go.Proofs.Ytdlcnldgiclpgaa.Evs Go.Proofs.Ytdlcnldgiclpgaa.Lw
set_option linter.unusedVariables false

open Go.Proofs.Ytdlcnldgiclpgaa.SFnExactDropLease
theorem spec_DropLease_loop (a : ByteArray) (s : List ImLease) : ∀ (p q : List ImLease), q.length ≤ p.length → p.length + s.length < 4398046511104 → Ev (fun k => spec_DropLease.l0 k (p ++ s) a q (p.length : Int)) (q ++ s.filter (fun x => !leaseAt a x)) := by
  induction s with
  | nil => intro p q hq hl; exact ev_step (fun k => spec_DropLease.l0.eq_2 _ _ _ _ k) (ev_neg (by simp) (ev_eq (ev_some _) (by simp)))
  | cons x s ih =>
    intro p q hq hl
    simp at hl
    refine ev_step (fun k => spec_DropLease.l0.eq_2 _ _ _ _ k) (ev_pos (by simp; omega) (ev_pos (by omega) ?_))
    have e : wrap64 ((p.length : Int) + 1) = (p.length : Int) + 1 := wrap_in (by omega) (by omega)
    simp only [rd64, e]
    by_cases c : x.f0.toList = a.toList
    · refine ev_pos c ?_
      have h := ih (p ++ [x]) q (by simp; omega) (by simp; omega)
      have hf : (x :: s).filter (fun x => !leaseAt a x) = s.filter (fun x => !leaseAt a x) := by simp [leaseAt, c]
      rw [hf]
      simpa using h
    · refine ev_neg c (ev_pos (by omega) ?_)
      have h := ih (p ++ [x]) (q ++ [x]) (by simp; omega) (by simp; omega)
      have hf : (x :: s).filter (fun x => !leaseAt a x) = x :: s.filter (fun x => !leaseAt a x) := by simp [leaseAt, c]
      rw [hf]
      simpa using h
theorem law_DropLease (l : List LLease) (a : ByteArray) (hl : l.length ≤ maxLen) (ho : ∀ x ∈ l, okLease x) : Ev (fun k => laws_FnExactDropLease.f k l a) true := by
  unfold laws_FnExactDropLease.f
  by_cases c : (a.size : Int) > 1048576
  · exact ev_pos c (ev_some _)
  refine ev_neg c ?_
  obtain ⟨r, hE, hR⟩ := szLeaseS_ev l hl ho 1048576 (by omega) (by omega)
  refine ev_bind hE ?_
  by_cases c : r < 0
  · exact ev_pos c (ev_some _)
  refine ev_neg c ?_
  have hw := wtLeaseS_len l
  have hl2 : l.length ≤ 1048576 := by omega
  have hT := toLeaseS_ev l hl2
  have hm : (l.map toLease).length = l.length := List.length_map _
  generalize hz : l.map toLease = z at *
  have hm2 : (z.filter (fun x => !leaseAt a x)).length ≤ l.length := by rw [← hm]; exact List.length_filter_le _ _
  have h1 : Ev (fun k => spec_DropLease.f k z a) (z.filter (fun x => !leaseAt a x)) := by
    unfold spec_DropLease.f
    simpa using spec_DropLease_loop a z [] [] (by simp) (by simp; omega)
  have h2 : impl_DropLease.f z a = some (z.filter (fun x => !leaseAt a x)) := by
    unfold impl_DropLease.f impl_copyLeases.f
    rw [if_pos (by simp; omega)]
    rfl
  generalize hy : z.filter (fun x => !leaseAt a x) = y at *
  have q1 := eqLeaseS_ev y (by omega)
  have q2 := eqLeaseS_ev z (by omega)
  have m1 := markLeaseS_ev z 1 (by omega) (by omega)
  have m2 := markLeaseS_ev y 1 (by omega) (by omega)
  have m3 := heldLeaseS_ev y 1 (by omega) (by omega)
  refine ev_bind hT (ev_bind h1 (ev_bind hT (ev_call h2 (ev_bind q1 (ev_pos rfl (ev_bind hT (ev_bind q2 (ev_pos rfl (ev_bind m1 (ev_neg (by simp; omega) (ev_bind q1 ?_)))))))))))
  refine ev_step (fun k => laws_FnExactDropLease.j0.eq_2 _ _ _ _ _ k) (ev_neg (by simp) (ev_bind m2 (ev_bind m3 (ev_neg (by omega) (ev_pos rfl (ev_bind hT (ev_call h2 (ev_bind q1 (ev_pos rfl (ev_bind m3 (ev_neg (by omega) (ev_pos rfl (ev_some _)))))))))))))
theorem FnExactDropLease : SFnExactDropLease.Pure := by
  intro l a hl ha
  exact ev_rounds (law_DropLease l a hl.1 (fun x hx => (hl.2 x hx).1))
end Go.Proofs.Ytdlcnldgiclpgaa.Pure
