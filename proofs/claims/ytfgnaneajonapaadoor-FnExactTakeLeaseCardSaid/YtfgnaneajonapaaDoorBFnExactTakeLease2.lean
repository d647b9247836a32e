/- A part of the proof of the law FnExactTakeLease: its texts, one behind the other. -/
import Derived.ArgAppend
import Derived.Below
import Derived.BigQuiet
import Derived.Deep.AppendLies
import Derived.Deep.CutBlock
import Derived.Deep.DeepCutAuto
import Derived.Deep.Draws
import Derived.Deep.LoopGhost
import Derived.Deep.OwnRows
import Derived.Deep.QuietTactic
import Derived.Deep.RegionHeld3
import Derived.Deep.RegionLaw
import Derived.Ground.SlgfProg
import Derived.KernelRfl
import Derived.Laws.Alloc2
import Derived.Laws.BitsLemmas
import Derived.Laws.BytesArg
import Derived.Laws.CopyOwn
import Derived.Laws.CopyRow
import Derived.Laws.IdiomCopy
import Derived.Laws.MakeOwn
import Derived.Laws.OwnMore
import Derived.Laws.Rows
import Derived.Laws.Slices
import Derived.Laws.Strings
import Derived.Lib.AppendStr
import Derived.Lib.AppendZerosOnto
import Derived.Lib.ConvBytes
import Derived.Lib.Overlaps
import Derived.Lib.Split
import Derived.Lib.Strings
import Derived.Maps.AppendAt
import Derived.OrdersHeld
import Derived.OwnWalk
import Derived.RowKit
import Derived.RowKit3
import Derived.Shelf.Abstract
import Derived.Shelf.LaysM
import Derived.Shelf.SlicesE.IndexFunc
import Derived.Shelf.Small.Strs
import Derived.Shelf.Small.Wraps
import Derived.Shelf.Spec.SlicesInsert
import Derived.Shelf.Strings.Builder1
import Derived.Shelf.Strings.Builder2
import Derived.Shelf.Strings.Count
import Derived.Shelf.Strings.OnBuilder
import Derived.Shelf.Strings.Prefix
import Derived.Shelf.Strings.Search1
import Derived.Shelf.Strings.Search2
import Derived.Shelf.Strings.Search3
import Derived.Shelf.Strings.Shaped
import Derived.Shelf.Strings.Split
import Derived.Shelf.Unicode.DecodeSlow
import Derived.Tactics
import Derived.Test.YtfgnaneajonapaaDoorProg
import Derived.WalkKit
import Derived.WideLaws
import Derived.Test.YtfgnaneajonapaaDoorBFnExactTakeLease1
namespace Go.Proofs.YtfgnaneajonapaaDoor.Evs
open Go.RowKit Go.Proofs.YtfgnaneajonapaaDoorW.PrintWords
theorem ev_some {α : Type} (r : α) : Ev (fun _ => some r) r := Ev.now r
theorem ev_pos {α : Type} {c : Prop} [Decidable c] {f g : Nat → Option α} {r : α} (h : c) (k : Ev f r) : Ev (fun n => if c then f n else g n) r := by
  simpa [h] using k
theorem ev_neg {α : Type} {c : Prop} [Decidable c] {f g : Nat → Option α} {r : α} (h : ¬ c) (k : Ev g r) : Ev (fun n => if c then f n else g n) r := by
  simpa [h] using k
theorem ev_bind {α β : Type} {g : Nat → Option α} {f : Nat → α → Option β} {a : α} {r : β} (h : Ev g a) (k : Ev (fun n => f n a) r) : Ev (fun n => (g n).bind (f n)) r := Ev.bind h k
theorem ev_call {α β : Type} {g : Option α} {f : Nat → α → Option β} {a : α} {r : β} (h : g = some a) (k : Ev (fun n => f n a) r) : Ev (fun n => g.bind (f n)) r := by
  subst h
  exact k
theorem ev_eq {α : Type} {g : Nat → Option α} {r s : α} (h : Ev g r) (e : r = s) : Ev g s := e ▸ h
theorem ev_step {α : Type} {g f : Nat → Option α} {r : α} (h : ∀ k, g (k + 1) = f k) (k : Ev f r) : Ev g r := Ev.step h k
theorem ev_rounds {α : Type} {g : Nat → Option α} {r : α} (h : Ev g r) : ∃ k, g k = some r := h.rounds
theorem ev_const {α : Type} {g : Option α} {r : α} (h : g = some r) : Ev (fun _ => g) r := ⟨0, fun _ _ => h⟩

theorem wrap_succ {i : Int} (h0 : 0 ≤ i) (h1 : i < 9223372036854775807) : wrap64 (i + 1) = i + 1 := by unfold wrap64; omega
theorem wrap_in {i : Int} (h0 : -9223372036854775808 ≤ i) (h1 : i ≤ 9223372036854775807) : wrap64 i = i := by unfold wrap64; omega
theorem getD_mid' {α : Type} (p s : List α) (x d : α) (i : Int) (hi : i = (p.length : Int)) : (p ++ x :: s).getD i.toNat d = x := by
  subst hi
  simp [List.getD]
theorem set_mid {α : Type} (p s : List α) (x y : α) (i : Int) (hi : i = (p.length : Int)) : (p ++ x :: s).set i.toNat y = p ++ y :: s := by
  subst hi
  simp
theorem toList_inj {a b : ByteArray} (h : a.toList = b.toList) : a = b := by
  rw [ByteArray.toList_eq, ByteArray.toList_eq] at h
  cases a with | mk x => cases b with | mk y =>
  cases x with | mk x => cases y with | mk y =>
  simp at h
  rw [h]
end Go.Proofs.YtfgnaneajonapaaDoor.Evs

namespace Go.Proofs.YtfgnaneajonapaaDoor.Pr
open Go.RowKit Go.Proofs.YtfgnaneajonapaaDoorW.PrintWords Go.Proofs.YtfgnaneajonapaaDoorW.PrintLast Go.Proofs.YtfgnaneajonapaaDoorW.PrintMore
attribute [local go_sem] max2_int min2_int max_two min_two max_three min_three max_four min_four
set_option linter.unusedVariables false
set_option linter.unusedSimpArgs false
def errW : Option Int → Value
  | none => .nilIface
  | some c => .iface 0 (.int .i64 c)
theorem errW_none : errW none = .nilIface := rfl
theorem errW_some (c : Int) : errW (some c) = .iface 0 (.int .i64 c) := rfl

theorem CC {p q : Prop} (h : q) (f : q → p := by intro h_; repeat (first | exact h_ | (with_reducible refine Kd.C_alloc ?_ _) | (with_reducible refine Kd.C_drewN ?_ _) | (with_reducible refine Kd.C_drew ?_))) : p := f h
theorem BB {p q : Prop} (h : q) (f : q → p := by intro h_; repeat (first | (with_reducible first | exact h_ | apply below_alloc | apply pw_below_drewN | apply below_drew1) | exact h_)) : p := f h
theorem BB1 {p q q1 : Prop} (h : q) (h1 : q1) (f : q → q1 → p := by intro h_ g1_; repeat (first | (with_reducible first | exact h_ | apply below_alloc | apply pw_below_drewN | apply below_drew1 | refine below_set ?_ g1_) | exact h_)) : p := f h h1
theorem BB2 {p q q1 q2 : Prop} (h : q) (h1 : q1) (h2 : q2) (f : q → q1 → q2 → p := by intro h_ g1_ g2_; repeat (first | (with_reducible first | exact h_ | apply below_alloc | apply pw_below_drewN | apply below_drew1 | refine below_set ?_ g1_ | refine below_set ?_ g2_) | exact h_)) : p := f h h1 h2
theorem BB3 {p q q1 q2 q3 : Prop} (h : q) (h1 : q1) (h2 : q2) (h3 : q3) (f : q → q1 → q2 → q3 → p := by intro h_ g1_ g2_ g3_; repeat (first | (with_reducible first | exact h_ | apply below_alloc | apply pw_below_drewN | apply below_drew1 | refine below_set ?_ g1_ | refine below_set ?_ g2_ | refine below_set ?_ g3_) | exact h_)) : p := f h h1 h2 h3
theorem RR {p q : Prop} (h : q) (f : q → p := by intro h_; (with_reducible repeat (first | apply Kd.R_alloc | apply Kd.R_drewN | apply Kd.R_drew)); exact h_) : p := f h
theorem FR {p : Prop} (h : p := by first | rfl | (simp; done) | (simp [*]; done)) : p := h
theorem ER {p : Prop} (h : p := by first | rfl | (simp [errW_none, errW_some] <;> rfl) | (simp [*, errW_none, errW_some] <;> rfl)) : p := h
theorem DT {p : Prop} [Decidable p] (h : decide p = true := by first | (with_reducible assumption) | assumption) : p := of_decide_eq_true h
theorem KB {w W w1 : World} {g : Nat} {o : Obj} (h : w.heap[g]? = some o) (hb : Below W.heap.size W w1) (f : w.heap[g]? = some o → W.heap[g]? = some o := by intro h_; (with_reducible repeat (first | refine blk_drewN ?_ _ | refine blk_drew ?_ | refine blk_alloc ?_ _)); exact h_) : w1.heap[g]? = some o := blk_below (f h) hb
theorem NL {w W : World} {g g' : Nat} {o : Obj} (h : w.heap[g]? = some o) (hg : g' = W.heap.size) (f : w.heap[g]? = some o → W.heap[g]? = some o := by intro h_; (with_reducible repeat (first | refine blk_drewN ?_ _ | refine blk_drew ?_ | refine blk_alloc ?_ _)); exact h_) : Aside0 (g ≠ g') := ⟨by rw [hg]; exact Nat.ne_of_lt (blk_lt (f h))⟩
theorem NG {w W : World} {g g' : Nat} {o : Obj} (h : w.heap[g]? = some o) (hg : g' = W.heap.size) (f : w.heap[g]? = some o → W.heap[g]? = some o := by intro h_; (with_reducible repeat (first | refine blk_drewN ?_ _ | refine blk_drew ?_ | refine blk_alloc ?_ _)); exact h_) : Aside0 (g' ≠ g) := ⟨by rw [hg]; exact Nat.ne_of_gt (blk_lt (f h))⟩
theorem WG {w W : World} {g : Nat} (hg : g = W.heap.size) (h : Below w.heap.size w W) : Aside0 (w.heap.size ≤ g) := ⟨by rw [hg]; exact below_size h⟩
theorem BX {P : Program} {ops : Array Oper} {Q : Exit → Act → World → Prop} {rest : List Oper} {o : Oper} {a : Act} {W : World} (N : Tmp) (cs : Array Value) (t : TypeId)
    (h : ∀ g, g = W.heap.size → ∀ w1, w1.heap[g]? = some (.cells cs t (0, 0)) → Below W.heap.size W w1 → wpList P ops Q rest (a.put o.dst (.pointer (some ⟨g, 0, none⟩))) w1)
    (hd : o.dst = some N := by rfl) (hg : o.guard = none := by rfl) (hr : (execOp a.eval o).run P W = .ok (.value (.pointer (some ⟨W.heap.size, 0, none⟩))) (W.alloc (.cells cs t (0, 0))) := by first | (go_simp; done) | (go_simp; rfl)) : wpList P ops Q (o :: rest) a W := box_event hg hd hr h
theorem GL {P : Program} {ops : Array Oper} {Q : Exit → Act → World → Prop} {rest : List Oper} {oi : Oper} {a : Act} {w : World} (N : Option Tmp) (hd : oi.dst = N) (hg : oi.guard = none) {f : FuncId} {fn : Func} {os_ : Array Operand} {ts : Array TypeId} (hf : P.funcs[f]? = some fn) (args : Array Value)
    (hop : oi.op = .call { callee := .value (.func f), args := os_, argTypes := ts }) (h : Calls P f args w fun e w' => ∃ v, e = .returned v ∧ wpList P ops Q rest (a.put N v) w')
    (hname : (fn.name == "runtime.NumGoroutine") = false := by kernel_rfl) (hb : fn.body.isSome = true := by rfl) (hargs : os_.map a.eval = args := by (try simp only [List.map_toArray, List.map_cons, List.map_nil]); first | done | rfl | (simp only [List.length_drop, List.length_take]; rfl)) : wpList P ops Q (oi :: rest) a w :=
  goesL_ N hd hg hf hname hb args hop hargs h

theorem info9 : (Tryd.prog.info? 9).map (fun i => (i.zero, i.size, i.bytes)) = some (some (.string ⟨#[]⟩), 1, 16) := by kernel_rfl
theorem info54 : (Tryd.prog.info? 54).map (fun i => (i.zero, i.size, i.bytes)) = some (some (.agg #[(.string ⟨#[]⟩), (.int .i64 0), (.int .i64 0)]), 3, 32) := by kernel_rfl
structure S52 where
  f0 : ByteArray
  f1 : Int
  f2 : Int
def z52 : S52 := ⟨(⟨#[]⟩ : ByteArray), (0 : Int), (0 : Int)⟩
def k52 : Kd S52 := Kd.iso (Kd.pair Kd.string (Kd.pair (Kd.int .i64) (Kd.int .i64))) (fun x : S52 => (x.f0, x.f1, x.f2))
theorem k52_open {w : World} {x : S52} {cs : List Value} (h : k52.K w x cs) : cs = [.string x.f0, .int .i64 x.f1, .int .i64 x.f2] := by
  obtain ⟨_, _, rfl, rfl, ⟨_, _, rfl, rfl, rfl⟩⟩ := h
  exact rfl
def rd_T52 (xs : List S52) (i : Int) : S52 := xs.getD i.toNat z52
theorem at_T52 {w : World} {A : Option Addr} {n : Nat} {xs : List S52} (h : Kd.C k52 w A n xs) (i : Int) (h0 : 0 ≤ i) (h1 : i < n) : ∃ ad , A = some ad ∧ w.cell? (ad.add (i.toNat * 3)) = some (.string (rd_T52 xs i).f0) ∧ w.cell? ⟨(ad.add (i.toNat * 3)).block, (ad.add (i.toNat * 3)).off + 1, none⟩ = some (.int .i64 (rd_T52 xs i).f1) ∧ w.cell? ⟨(ad.add (i.toNat * 3)).block, (ad.add (i.toNat * 3)).off + 2, none⟩ = some (.int .i64 (rd_T52 xs i).f2) := by
  obtain ⟨ad, c, e, _, hK, hc0⟩ := Kd.C_get h z52 i h0 h1
  have hc : ∀ j u, c[j]? = some u → w.cell? (ad.add (i.toNat * 3 + j)) = some u := hc0
  obtain rfl := k52_open hK
  exact ⟨ad, e, hc 0 _ rfl, by rw [← add_field _ _ 1 (by omega)]; exact hc 1 _ rfl, by rw [← add_field _ _ 2 (by omega)]; exact hc 2 _ rfl⟩

structure S54 where
  f0 : ByteArray
  f1 : Int
  f2 : Int
def z54 : S54 := ⟨(⟨#[]⟩ : ByteArray), (0 : Int), (0 : Int)⟩
def k54 : Kd S54 := Kd.iso (Kd.pair Kd.string (Kd.pair (Kd.int .i64) (Kd.int .i64))) (fun x : S54 => (x.f0, x.f1, x.f2))
theorem k54_open {w : World} {x : S54} {cs : List Value} (h : k54.K w x cs) : cs = [.string x.f0, .int .i64 x.f1, .int .i64 x.f2] := by
  obtain ⟨_, _, rfl, rfl, ⟨_, _, rfl, rfl, rfl⟩⟩ := h
  exact rfl
theorem k54_openM {w : World} {base : Nat} {ok : Nat → Prop} {x : S54} {cs : List Value} (h : k54.M w base ok x cs) : cs = [.string x.f0, .int .i64 x.f1, .int .i64 x.f2] := by
  obtain ⟨_, _, rfl, rfl, ⟨_, _, rfl, rfl, rfl⟩⟩ := h
  exact rfl
theorem k54_mk (w : World) (x : S54)  : k54.K w x [.string x.f0, .int .i64 x.f1, .int .i64 x.f2] := ⟨[.string x.f0], [.int .i64 x.f1, .int .i64 x.f2], rfl, rfl, ⟨[.int .i64 x.f1], [.int .i64 x.f2], rfl, rfl, rfl⟩⟩
theorem k54_mkM (w : World) (base : Nat) (ok : Nat → Prop) (x : S54)  : k54.M w base ok x [.string x.f0, .int .i64 x.f1, .int .i64 x.f2] := ⟨[.string x.f0], [.int .i64 x.f1, .int .i64 x.f2], rfl, rfl, ⟨[.int .i64 x.f1], [.int .i64 x.f2], rfl, rfl, rfl⟩⟩
def rd_T54 (xs : List S54) (i : Int) : S54 := xs.getD i.toNat z54
theorem at_T54 {w : World} {A : Option Addr} {n : Nat} {xs : List S54} (h : Kd.C k54 w A n xs) (i : Int) (h0 : 0 ≤ i) (h1 : i < n) : ∃ ad , A = some ad ∧ w.cell? (ad.add (i.toNat * 3)) = some (.string (rd_T54 xs i).f0) ∧ w.cell? ⟨(ad.add (i.toNat * 3)).block, (ad.add (i.toNat * 3)).off + 1, none⟩ = some (.int .i64 (rd_T54 xs i).f1) ∧ w.cell? ⟨(ad.add (i.toNat * 3)).block, (ad.add (i.toNat * 3)).off + 2, none⟩ = some (.int .i64 (rd_T54 xs i).f2) := by
  obtain ⟨ad, c, e, _, hK, hc0⟩ := Kd.C_get h z54 i h0 h1
  have hc : ∀ j u, c[j]? = some u → w.cell? (ad.add (i.toNat * 3 + j)) = some u := hc0
  obtain rfl := k54_open hK
  exact ⟨ad, e, hc 0 _ rfl, by rw [← add_field _ _ 1 (by omega)]; exact hc 1 _ rfl, by rw [← add_field _ _ 2 (by omega)]; exact hc 2 _ rfl⟩

end Go.Proofs.YtfgnaneajonapaaDoor.Pr

namespace Go.Proofs.YtfgnaneajonapaaDoor.Pr
open Go.RowKit Go.Proofs.YtfgnaneajonapaaDoorW.PrintWords Go.Proofs.YtfgnaneajonapaaDoorW.PrintLast Go.Proofs.YtfgnaneajonapaaDoorW.PrintMore
attribute [local go_sem] max2_int min2_int max_two min_two max_three min_three max_four min_four
set_option linter.unusedVariables false
set_option linter.unusedSimpArgs false
def laws_eqLease.f (a0_0 : ByteArray) (a0_1 : Int) (a0_2 : Int) (a1_0 : ByteArray) (a1_1 : Int) (a1_2 : Int) : Option (Bool) := if a0_0.toList = a1_0.toList then (if a0_1 = a1_1 then (if a0_2 = a1_2 then (some true) else (some false)) else (some false)) else (some false)
set_option maxHeartbeats 8000000 in
set_option maxRecDepth 100000 in
theorem laws_eqLease.calls (a0_0 : ByteArray) (a0_1 : Int) (a0_2 : Int) (a1_0 : ByteArray) (a1_1 : Int) (a1_2 : Int) (r : Bool) (w : World) (h : laws_eqLease.f a0_0 a0_1 a0_2 a1_0 a1_1 a1_2 = some r) :
    Calls Tryd.prog 31 #[.agg #[.string a0_0, .int .i64 a0_1, .int .i64 a0_2], .agg #[.string a1_0, .int .i64 a1_1, .int .i64 a1_2]] w fun e w' => e = .returned (.bool r) ∧ Below w.heap.size w w' := by
  have hu54 := Tryd.underlying54
  have HB := Aside0.mk (Below.refl w.heap.size w)
  have H : (if a0_0.toList = a1_0.toList then (if a0_1 = a1_1 then (if a0_2 = a1_2 then (some true) else (some false)) else (some false)) else (some false)) = some r := h
  clear h
  by_cases c3 : a0_0.toList = a1_0.toList
  · rw [if_pos c3] at H
    have c3b0 : (a0_0.toList == a1_0.toList) = true := beq_iff_eq.mpr c3
    have c3b1 : (a0_0.toList != a1_0.toList) = false := bne_eq_false_iff_eq.mpr c3
    clear c3
    by_cases c4 : a0_1 = a1_1
    · rw [if_pos c4] at H
      have c4b0 : (a0_1 == a1_1) = true := beq_iff_eq.mpr c4
      have c4b1 : (a0_1 != a1_1) = false := bne_eq_false_iff_eq.mpr c4
      clear c4
      by_cases c5 : a0_2 = a1_2
      · rw [if_pos c5] at H
        have c5b0 : (a0_2 == a1_2) = true := beq_iff_eq.mpr c5
        have c5b1 : (a0_2 != a1_2) = false := bne_eq_false_iff_eq.mpr c5
        clear c5
        obtain rfl := Option.some.inj H
        go_enter Tryd.func31, Tryd.ntmps31
        go_wp2_with (first | ((with_reducible refine gate_dst (N := 2) rfl ?_); refine BX 2 #[.string a0_0, .int .i64 a0_1, .int .i64 a0_2] 54 ?_; intro gb165 hg w6 hbox hb; have BK165 := Aside0.mk (hbox); have GW165 : Aside0 (w.heap.size ≤ gb165) := WG hg (BB HB.out); have GE165 := GW165; replace HB := Aside0.mk (below_step (BB HB.out) hb); clear hb hbox hg) | ((with_reducible refine gate_dst (N := 3) rfl ?_); refine BX 3 #[.string a1_0, .int .i64 a1_1, .int .i64 a1_2] 54 ?_; intro gb166 hg w7 hbox hb; have BK166 := Aside0.mk (hbox); have GW166 : Aside0 (w.heap.size ≤ gb166) := WG hg (BB1 HB.out GE165.out); have GE166 := GW166; have NB165_166 := NL BK165.out hg; have NB166_165 := NG BK165.out hg; replace BK165 := Aside0.mk (KB BK165.out hb); replace HB := Aside0.mk (below_step (BB1 HB.out GE165.out) hb); clear hb hbox hg; have hnb8 := NB165_166.out; have hnc8 := NB166_165.out; have hcz9 := blk_cell BK165.out; have hfz9 := blk_frozen BK165.out; have hcz10 := blk_cell BK166.out; have hfz10 := blk_frozen BK166.out))
        go_ret
        exact ⟨ER, (BB2 HB.out GE165.out GE166.out)⟩
      · rw [if_neg c5] at H
        have c5b0 : (a0_2 == a1_2) = false := beq_eq_false_iff_ne.mpr c5
        have c5b1 : (a0_2 != a1_2) = true := bne_iff_ne.mpr c5
        obtain rfl := Option.some.inj H
        go_enter Tryd.func31, Tryd.ntmps31
        go_wp2_with (first | ((with_reducible refine gate_dst (N := 2) rfl ?_); refine BX 2 #[.string a0_0, .int .i64 a0_1, .int .i64 a0_2] 54 ?_; intro gb165 hg w11 hbox hb; have BK165 := Aside0.mk (hbox); have GW165 : Aside0 (w.heap.size ≤ gb165) := WG hg (BB HB.out); have GE165 := GW165; replace HB := Aside0.mk (below_step (BB HB.out) hb); clear hb hbox hg) | ((with_reducible refine gate_dst (N := 3) rfl ?_); refine BX 3 #[.string a1_0, .int .i64 a1_1, .int .i64 a1_2] 54 ?_; intro gb166 hg w12 hbox hb; have BK166 := Aside0.mk (hbox); have GW166 : Aside0 (w.heap.size ≤ gb166) := WG hg (BB1 HB.out GE165.out); have GE166 := GW166; have NB165_166 := NL BK165.out hg; have NB166_165 := NG BK165.out hg; replace BK165 := Aside0.mk (KB BK165.out hb); replace HB := Aside0.mk (below_step (BB1 HB.out GE165.out) hb); clear hb hbox hg; have hnb13 := NB165_166.out; have hnc13 := NB166_165.out; have hcz14 := blk_cell BK165.out; have hfz14 := blk_frozen BK165.out; have hcz15 := blk_cell BK166.out; have hfz15 := blk_frozen BK166.out))
        go_ret
        exact ⟨ER, (BB2 HB.out GE165.out GE166.out)⟩
    · rw [if_neg c4] at H
      have c4b0 : (a0_1 == a1_1) = false := beq_eq_false_iff_ne.mpr c4
      have c4b1 : (a0_1 != a1_1) = true := bne_iff_ne.mpr c4
      obtain rfl := Option.some.inj H
      go_enter Tryd.func31, Tryd.ntmps31
      go_wp2_with (first | ((with_reducible refine gate_dst (N := 2) rfl ?_); refine BX 2 #[.string a0_0, .int .i64 a0_1, .int .i64 a0_2] 54 ?_; intro gb165 hg w16 hbox hb; have BK165 := Aside0.mk (hbox); have GW165 : Aside0 (w.heap.size ≤ gb165) := WG hg (BB HB.out); have GE165 := GW165; replace HB := Aside0.mk (below_step (BB HB.out) hb); clear hb hbox hg) | ((with_reducible refine gate_dst (N := 3) rfl ?_); refine BX 3 #[.string a1_0, .int .i64 a1_1, .int .i64 a1_2] 54 ?_; intro gb166 hg w17 hbox hb; have BK166 := Aside0.mk (hbox); have GW166 : Aside0 (w.heap.size ≤ gb166) := WG hg (BB1 HB.out GE165.out); have GE166 := GW166; have NB165_166 := NL BK165.out hg; have NB166_165 := NG BK165.out hg; replace BK165 := Aside0.mk (KB BK165.out hb); replace HB := Aside0.mk (below_step (BB1 HB.out GE165.out) hb); clear hb hbox hg; have hnb18 := NB165_166.out; have hnc18 := NB166_165.out; have hcz19 := blk_cell BK165.out; have hfz19 := blk_frozen BK165.out; have hcz20 := blk_cell BK166.out; have hfz20 := blk_frozen BK166.out))
      go_ret
      exact ⟨ER, (BB2 HB.out GE165.out GE166.out)⟩
  · rw [if_neg c3] at H
    have c3b0 : (a0_0.toList == a1_0.toList) = false := beq_eq_false_iff_ne.mpr c3
    have c3b1 : (a0_0.toList != a1_0.toList) = true := bne_iff_ne.mpr c3
    obtain rfl := Option.some.inj H
    go_enter Tryd.func31, Tryd.ntmps31
    go_wp2_with (first | ((with_reducible refine gate_dst (N := 2) rfl ?_); refine BX 2 #[.string a0_0, .int .i64 a0_1, .int .i64 a0_2] 54 ?_; intro gb165 hg w21 hbox hb; have BK165 := Aside0.mk (hbox); have GW165 : Aside0 (w.heap.size ≤ gb165) := WG hg (BB HB.out); have GE165 := GW165; replace HB := Aside0.mk (below_step (BB HB.out) hb); clear hb hbox hg) | ((with_reducible refine gate_dst (N := 3) rfl ?_); refine BX 3 #[.string a1_0, .int .i64 a1_1, .int .i64 a1_2] 54 ?_; intro gb166 hg w22 hbox hb; have BK166 := Aside0.mk (hbox); have GW166 : Aside0 (w.heap.size ≤ gb166) := WG hg (BB1 HB.out GE165.out); have GE166 := GW166; have NB165_166 := NL BK165.out hg; have NB166_165 := NG BK165.out hg; replace BK165 := Aside0.mk (KB BK165.out hb); replace HB := Aside0.mk (below_step (BB1 HB.out GE165.out) hb); clear hb hbox hg; have hnb23 := NB165_166.out; have hnc23 := NB166_165.out; have hcz24 := blk_cell BK165.out; have hfz24 := blk_frozen BK165.out; have hcz25 := blk_cell BK166.out; have hfz25 := blk_frozen BK166.out))
    go_ret
    exact ⟨ER, (BB2 HB.out GE165.out GE166.out)⟩

end Go.Proofs.YtfgnaneajonapaaDoor.Pr

namespace Go.Proofs.YtfgnaneajonapaaDoor.Pr
open Go.RowKit Go.Proofs.YtfgnaneajonapaaDoorW.PrintWords Go.Proofs.YtfgnaneajonapaaDoorW.PrintLast Go.Proofs.YtfgnaneajonapaaDoorW.PrintMore
attribute [local go_sem] max2_int min2_int max_two min_two max_three min_three max_four min_four
set_option linter.unusedVariables false
set_option linter.unusedSimpArgs false
def laws_eqLeaseS.l0 : Nat → List (S54) → List (S54) → Int → Option (Bool)
  | 0, _, _, _ => none
  | k + 1, x0, x1, x5 => if x5 < (x0.length : Int) then (if 0 ≤ x5 then (if x5 < (x1.length : Int) then ((laws_eqLease.f ((rd_T54 x0 x5).f0) ((rd_T54 x0 x5).f1) ((rd_T54 x0 x5).f2) ((rd_T54 x1 x5).f0) ((rd_T54 x1 x5).f1) ((rd_T54 x1 x5).f2)).bind fun t169 => (if t169 = true then (laws_eqLeaseS.l0 k x0 x1 (wrap64 (x5 + 1))) else (some false))) else (none)) else (none)) else (some true)
def laws_eqLeaseS.f (k : Nat) (l0 : List (S54)) (l1 : List (S54)) : Option (Bool) := if (l0.length : Int) = (l1.length : Int) then (laws_eqLeaseS.l0 k l0 l1 0) else (some false)
def laws_eqLeaseS.T6 : Bool × List (List Nat × List Nat) := (true, [([], []), ([], []), ([0, 1], [0, 1]), ([2], [2]), ([], []), ([], []), ([4, 5], [4, 5]), ([6], [6]), ([3, 7], [3, 7]), ([8], [8])])
def laws_eqLeaseS.B6 : List Nat := [0, 0, 3, 7, 0, 0, 48, 112, 255, 511]
theorem laws_eqLeaseS.tab6 : rtab .any (opsOf Tryd.f11 6) = laws_eqLeaseS.T6 := by kernel_rfl
theorem laws_eqLeaseS.bits6 : waitsOk laws_eqLeaseS.T6.2 laws_eqLeaseS.B6 = true := by kernel_rfl
set_option maxHeartbeats 8000000 in
set_option maxRecDepth 100000 in
theorem laws_eqLeaseS.calls (k : Nat) (A0 : Option Addr) (c0 : Nat) (l0 : List (S54)) (A1 : Option Addr) (c1 : Nat) (l1 : List (S54)) (r : Bool) (w : World) (hr0 : Kd.C k54 w A0 l0.length l0) (hc0 : l0.length ≤ c0) (hr1 : Kd.C k54 w A1 l1.length l1) (hc1 : l1.length ≤ c1) (h : laws_eqLeaseS.f k l0 l1 = some r) :
    Calls Tryd.prog 11 #[.slice A0 l0.length c0, .slice A1 l1.length c1] w fun e w' => e = .returned (.bool r) ∧ Below w.heap.size w w' := by
  have hu54 := Tryd.underlying54
  have HR0 := Aside0.mk hr0
  have HC0 := Aside0.mk hc0
  clear hr0 hc0
  have HR1 := Aside0.mk hr1
  have HC1 := Aside0.mk hc1
  clear hr1 hc1
  have HB := Aside0.mk (Below.refl w.heap.size w)
  have H : (if (l0.length : Int) = (l1.length : Int) then (laws_eqLeaseS.l0 k l0 l1 0) else (some false)) = some r := h
  clear h
  by_cases c3 : (l0.length : Int) = (l1.length : Int)
  · rw [if_pos c3] at H
    have c3b0 : ((l0.length : Int) == (l1.length : Int)) = true := beq_iff_eq.mpr c3
    have c3b1 : ((l0.length : Int) != (l1.length : Int)) = false := bne_eq_false_iff_eq.mpr c3
    have c3b2 : (l0.length == l1.length) = true := by first | simpa using c3 | (simp at c3 ⊢; omega)
    clear c3
    have H' := Aside0.mk H
    clear H
    go_enter Tryd.func11, Tryd.ntmps11
    go_wp2
    go_loopg [5] k (fun kq v5 w' => ∃ (x5_1 : Int), v5 = .int .i64 x5_1 ∧ Aside0 (laws_eqLeaseS.l0 kq l0 l1 x5_1 = some r) ∧ Aside0 (kq ≤ k) ∧ Aside0 (Below w.heap.size w w'))
    case atStart => exact ⟨(0), FR, H', ⟨Nat.le_refl _⟩, ⟨(BB HB.out)⟩⟩
    case round =>
      clear H'
      try clear c1
      try clear p2
      try clear c3
      try clear c3b0
      try clear c3b1
      try clear c3b2
      obtain ⟨x5_1, rfl, HA, HK1, HB⟩ := hrel
      cases gk with
      | zero => exact absurd HA.out (by simp [laws_eqLeaseS.l0])
      | succ k1 =>
        have H := HA.out
        clear HA
        simp only [laws_eqLeaseS.l0] at H
        by_cases c4 : x5_1 < (l0.length : Int)
        · rw [if_pos c4] at H
          have c4b0 : decide (x5_1 < (l0.length : Int)) = true := decide_eq_true c4
          clear c4
          by_cases c5 : 0 ≤ x5_1
          · rw [if_pos c5] at H
            have c5b0 : decide (0 ≤ x5_1) = true := decide_eq_true c5
            clear c5
            by_cases c6 : x5_1 < (l1.length : Int)
            · rw [if_pos c6] at H
              have c6b0 : decide (x5_1 < (l1.length : Int)) = true := decide_eq_true c6
              clear c6
              replace H := Option.bind_eq_some_iff.mp H
              obtain ⟨t169, A70, H⟩ := H
              replace H : (if t169 = true then (laws_eqLeaseS.l0 k1 l0 l1 (wrap64 (x5_1 + 1))) else (some false)) = some r := H
              have A7 := Aside0.mk A70
              clear A70
              by_cases c8 : t169 = true
              · subst c8
                have H1 : (laws_eqLeaseS.l0 k1 l0 l1 (wrap64 (x5_1 + 1))) = some r := by rw [if_pos rfl] at H; exact H
                clear H
                have H := H1
                clear H1
                have H' := Aside0.mk H
                clear H
                try go_wp2
                have n0_ := Aside0.mk (below_drew1 HB.out)
                clear HB
                have HB := n0_
                clear n0_
                have p167 : 0 ≤ (x5_1 : Int) := DT
                have q167 : x5_1 < (l0.length : Int) := DT
                obtain ⟨ad167, e167, hx167_0, hx167_1, hx167_2⟩ := at_T54 HR0.out x5_1 p167 q167
                have hw167_2 := hx167_2
                have hw167_1 := hx167_1
                have hw167_0 := hx167_0
                cases e167
                replace hx167_0 := (HB.out.cell (World.block_lt_of_cell? w _ hx167_0)).trans hx167_0
                replace hx167_1 := (HB.out.cell (World.block_lt_of_cell? w _ hx167_1)).trans hx167_1
                replace hx167_2 := (HB.out.cell (World.block_lt_of_cell? w _ hx167_2)).trans hx167_2
                replace p167 := eq_true p167
                replace q167 := eq_true q167
                have p168 : 0 ≤ (x5_1 : Int) := DT
                have q168 : x5_1 < (l1.length : Int) := DT
                obtain ⟨ad168, e168, hx168_0, hx168_1, hx168_2⟩ := at_T54 HR1.out x5_1 p168 q168
                have hw168_2 := hx168_2
                have hw168_1 := hx168_1
                have hw168_0 := hx168_0
                cases e168
                replace hx168_0 := (HB.out.cell (World.block_lt_of_cell? w _ hx168_0)).trans hx168_0
                replace hx168_1 := (HB.out.cell (World.block_lt_of_cell? w _ hx168_1)).trans hx168_1
                replace hx168_2 := (HB.out.cell (World.block_lt_of_cell? w _ hx168_2)).trans hx168_2
                replace p168 := eq_true p168
                replace q168 := eq_true q168
                refine start_ (n := 10) (S := fun w' => w'.cell? (ad167.add ((x5_1).toNat * 3)) = some (.string ((rd_T54 l0 x5_1).f0)) ∧ w'.cell? ⟨(ad167.add ((x5_1).toNat * 3)).block, (ad167.add ((x5_1).toNat * 3)).off + 1, none⟩ = some (.int .i64 ((rd_T54 l0 x5_1).f1)) ∧ w'.cell? ⟨(ad167.add ((x5_1).toNat * 3)).block, (ad167.add ((x5_1).toNat * 3)).off + 2, none⟩ = some (.int .i64 ((rd_T54 l0 x5_1).f2)) ∧ w'.cell? (ad168.add ((x5_1).toNat * 3)) = some (.string ((rd_T54 l1 x5_1).f0)) ∧ w'.cell? ⟨(ad168.add ((x5_1).toNat * 3)).block, (ad168.add ((x5_1).toNat * 3)).off + 1, none⟩ = some (.int .i64 ((rd_T54 l1 x5_1).f1)) ∧ w'.cell? ⟨(ad168.add ((x5_1).toNat * 3)).block, (ad168.add ((x5_1).toNat * 3)).off + 2, none⟩ = some (.int .i64 ((rd_T54 l1 x5_1).f2))) (ds := []) #[false, false, false, false, false, false, false, false, false, false] (by kernel_rfl) rfl rfl ⟨((HB.out.cell (World.block_lt_of_cell? w _ hw167_0)).trans hw167_0), ((HB.out.cell (World.block_lt_of_cell? w _ hw167_1)).trans hw167_1), ((HB.out.cell (World.block_lt_of_cell? w _ hw167_2)).trans hw167_2), ((HB.out.cell (World.block_lt_of_cell? w _ hw168_0)).trans hw168_0), ((HB.out.cell (World.block_lt_of_cell? w _ hw168_1)).trans hw168_1), ((HB.out.cell (World.block_lt_of_cell? w _ hw168_2)).trans hw168_2)⟩ (fun hHeld => ?_); refine with_tabW laws_eqLeaseS.tab6 laws_eqLeaseS.bits6 (fun HT_ HW_ => ?_)
                generalize wr.drew = w9 at HB hx167_0 hx167_1 hx167_2 hx168_0 hx168_1 hx168_2 hHeld ⊢
                refine pure_ (i := 0) (N := some 17) (v := ?_) (a' := ?_) #[true, false, false, false, false, false, false, false, false, false] rfl rfl (any_of HT_.out (by kernel_rfl)) (fun _ _ _ h => h) (Or.inl ⟨by rfl, ?_⟩) ?_ ?_
                rotate_left
                · intro w'
                  go_simp
                  with_reducible rfl
                rotate_left
                · simp only [Act.put, List.setIfInBounds_toArray, List.set_cons_zero, List.set_cons_succ, i64_w, i32_w]
                  rfl
                refine pure_ (i := 1) (N := some 18) (v := ?_) (a' := ?_) #[true, true, false, false, false, false, false, false, false, false] rfl rfl (any_of HT_.out (by kernel_rfl)) (fun _ _ _ h => h) (Or.inl ⟨by rfl, ?_⟩) ?_ ?_
                rotate_left
                · intro w'
                  go_simp
                  with_reducible rfl
                rotate_left
                · simp only [Act.put, List.setIfInBounds_toArray, List.set_cons_zero, List.set_cons_succ, i64_w, i32_w]
                  rfl
                refine pure_ (i := 2) (N := some 19) (v := ?_) (a' := ?_) #[true, true, true, false, false, false, false, false, false, false] rfl rfl (any_of HT_.out (by kernel_rfl)) (fun _ _ _ h => h) (Or.inl ⟨by rfl, ?_⟩) ?_ ?_
                rotate_left
                · intro w'
                  go_simp
                  with_reducible rfl
                rotate_left
                · simp only [Act.put, List.setIfInBounds_toArray, List.set_cons_zero, List.set_cons_succ, i64_w, i32_w]
                  rfl
                refine pure_ (i := 4) (N := some 21) (v := ?_) (a' := ?_) #[true, true, true, false, true, false, false, false, false, false] rfl rfl (any_of HT_.out (by kernel_rfl)) (fun _ _ _ h => h) (Or.inl ⟨by rfl, ?_⟩) ?_ ?_
                rotate_left
                · intro w'
                  go_simp
                  with_reducible rfl
                rotate_left
                · simp only [Act.put, List.setIfInBounds_toArray, List.set_cons_zero, List.set_cons_succ, i64_w, i32_w]
                  rfl
                refine pure_ (i := 5) (N := some 22) (v := ?_) (a' := ?_) #[true, true, true, false, true, true, false, false, false, false] rfl rfl (any_of HT_.out (by kernel_rfl)) (fun _ _ _ h => h) (Or.inl ⟨by rfl, ?_⟩) ?_ ?_
                rotate_left
                · intro w'
                  go_simp
                  with_reducible rfl
                rotate_left
                · simp only [Act.put, List.setIfInBounds_toArray, List.set_cons_zero, List.set_cons_succ, i64_w, i32_w]
                  rfl
                refine pure_ (i := 6) (N := some 23) (v := ?_) (a' := ?_) #[true, true, true, false, true, true, true, false, false, false] rfl rfl (any_of HT_.out (by kernel_rfl)) (fun _ _ _ h => h) (Or.inl ⟨by rfl, ?_⟩) ?_ ?_
                rotate_left
                · intro w'
                  go_simp
                  with_reducible rfl
                rotate_left
                · simp only [Act.put, List.setIfInBounds_toArray, List.set_cons_zero, List.set_cons_succ, i64_w, i32_w]
                  rfl
                refine take_ (i := 3) (N := some 20) (v := ?_) (a' := ?_) #[true, true, true, true, true, true, true, false, false, false] rfl rfl (take_ofW HT_.out HW_.out (by kernel_rfl)) (fun _ _ _ h => h) (Or.inl ⟨by rfl, ?_⟩) hHeld ?_ ?_
                rotate_left
                · rintro w' ⟨s0, s1, s2, s3, s4, s5⟩
                  go_simp
                  with_reducible rfl
                rotate_left
                · simp only [Act.put, List.setIfInBounds_toArray, List.set_cons_zero, List.set_cons_succ, i64_w, i32_w]
                  rfl
                refine take_ (i := 7) (N := some 24) (v := ?_) (a' := ?_) #[true, true, true, true, true, true, true, true, false, false] rfl rfl (take_ofW HT_.out HW_.out (by kernel_rfl)) (fun _ _ _ h => h) (Or.inl ⟨by rfl, ?_⟩) hHeld ?_ ?_
                rotate_left
                · rintro w' ⟨s0, s1, s2, s3, s4, s5⟩
                  go_simp
                  with_reducible rfl
                rotate_left
                · simp only [Act.put, List.setIfInBounds_toArray, List.set_cons_zero, List.set_cons_succ, i64_w, i32_w]
                  rfl
                refine one_ (i := 8) (N := some 25) #[true, true, true, true, true, true, true, true, true, false] rfl rfl (one_of HT_.out (by kernel_rfl)) (by decide) (fun K hK => ?_)
                refine goes_ Tryd.func31 (by kernel_rfl) rfl #[.agg #[.string ((rd_T54 l0 x5_1).f0), .int .i64 ((rd_T54 l0 x5_1).f1), .int .i64 ((rd_T54 l0 x5_1).f2)], .agg #[.string ((rd_T54 l1 x5_1).f0), .int .i64 ((rd_T54 l1 x5_1).f1), .int .i64 ((rd_T54 l1 x5_1).f2)]] (by rfl) rfl rfl (by (try simp only [List.map_toArray, List.map_cons, List.map_nil]); first | done | rfl | (simp only [List.length_drop, List.length_take]; rfl)) ?_
                with_reducible refine (laws_eqLease.calls ((rd_T54 l0 x5_1).f0) ((rd_T54 l0 x5_1).f1) ((rd_T54 l0 x5_1).f2) ((rd_T54 l1 x5_1).f0) ((rd_T54 l1 x5_1).f1) ((rd_T54 l1 x5_1).f2) true _ A7.out).mono ?_
                rintro e w10 ⟨rfl, hb⟩
                refine ⟨_, rfl, ?_⟩
                have n0_ := Aside0.mk (below_step (BB HB.out) hb)
                clear HB
                have HB := n0_
                clear n0_
                (try clear hb)
                (try clear hb2)
                (try clear hk)
                (try clear hi)
                refine hK.out _ _ ⟨((HB.out.cell (World.block_lt_of_cell? w _ hw167_0)).trans hw167_0), ((HB.out.cell (World.block_lt_of_cell? w _ hw167_1)).trans hw167_1), ((HB.out.cell (World.block_lt_of_cell? w _ hw167_2)).trans hw167_2), ((HB.out.cell (World.block_lt_of_cell? w _ hw168_0)).trans hw168_0), ((HB.out.cell (World.block_lt_of_cell? w _ hw168_1)).trans hw168_1), ((HB.out.cell (World.block_lt_of_cell? w _ hw168_2)).trans hw168_2)⟩ (fun hHeld => ?_)
                clear hK K
                refine norm_ (a' := ?_) ?_ ?_
                rotate_left
                · show Act.put _ (some 25) _ = _
                  simp only [Act.put, List.setIfInBounds_toArray, List.set_cons_zero, List.set_cons_succ, i64_w, i32_w]
                  rfl
                refine pure_ (i := 9) (N := some 26) (v := ?_) (a' := ?_) #[true, true, true, true, true, true, true, true, true, true] rfl rfl (any_of HT_.out (by kernel_rfl)) (fun _ _ _ h => h) (Or.inl ⟨by rfl, ?_⟩) ?_ ?_
                rotate_left
                · intro w'
                  go_simp
                  with_reducible rfl
                rotate_left
                · simp only [Act.put, List.setIfInBounds_toArray, List.set_cons_zero, List.set_cons_succ, i64_w, i32_w]
                  rfl
                refine done_ (done_of HT_.out (by kernel_rfl)) ?_
                try go_wp2
                go_roundg k1
                case measure => have := HK1.out; omega
                case rel => exact ⟨(wrap64 (x5_1 + 1)), FR, H', ⟨by have := HK1.out; omega⟩, ⟨(BB HB.out)⟩⟩
              · replace c8 := Bool.eq_false_iff.mpr c8
                subst c8
                have H1 : (some false) = some r := by rw [if_neg (show ¬ (false = true) by decide)] at H; exact H
                clear H
                have H := H1
                clear H1
                obtain rfl := Option.some.inj H
                try go_wp2
                have n0_ := Aside0.mk (below_drew1 HB.out)
                clear HB
                have HB := n0_
                clear n0_
                have p167 : 0 ≤ (x5_1 : Int) := DT
                have q167 : x5_1 < (l0.length : Int) := DT
                obtain ⟨ad167, e167, hx167_0, hx167_1, hx167_2⟩ := at_T54 HR0.out x5_1 p167 q167
                have hw167_2 := hx167_2
                have hw167_1 := hx167_1
                have hw167_0 := hx167_0
                cases e167
                replace hx167_0 := (HB.out.cell (World.block_lt_of_cell? w _ hx167_0)).trans hx167_0
                replace hx167_1 := (HB.out.cell (World.block_lt_of_cell? w _ hx167_1)).trans hx167_1
                replace hx167_2 := (HB.out.cell (World.block_lt_of_cell? w _ hx167_2)).trans hx167_2
                replace p167 := eq_true p167
                replace q167 := eq_true q167
                have p168 : 0 ≤ (x5_1 : Int) := DT
                have q168 : x5_1 < (l1.length : Int) := DT
                obtain ⟨ad168, e168, hx168_0, hx168_1, hx168_2⟩ := at_T54 HR1.out x5_1 p168 q168
                have hw168_2 := hx168_2
                have hw168_1 := hx168_1
                have hw168_0 := hx168_0
                cases e168
                replace hx168_0 := (HB.out.cell (World.block_lt_of_cell? w _ hx168_0)).trans hx168_0
                replace hx168_1 := (HB.out.cell (World.block_lt_of_cell? w _ hx168_1)).trans hx168_1
                replace hx168_2 := (HB.out.cell (World.block_lt_of_cell? w _ hx168_2)).trans hx168_2
                replace p168 := eq_true p168
                replace q168 := eq_true q168
                refine start_ (n := 10) (S := fun w' => w'.cell? (ad167.add ((x5_1).toNat * 3)) = some (.string ((rd_T54 l0 x5_1).f0)) ∧ w'.cell? ⟨(ad167.add ((x5_1).toNat * 3)).block, (ad167.add ((x5_1).toNat * 3)).off + 1, none⟩ = some (.int .i64 ((rd_T54 l0 x5_1).f1)) ∧ w'.cell? ⟨(ad167.add ((x5_1).toNat * 3)).block, (ad167.add ((x5_1).toNat * 3)).off + 2, none⟩ = some (.int .i64 ((rd_T54 l0 x5_1).f2)) ∧ w'.cell? (ad168.add ((x5_1).toNat * 3)) = some (.string ((rd_T54 l1 x5_1).f0)) ∧ w'.cell? ⟨(ad168.add ((x5_1).toNat * 3)).block, (ad168.add ((x5_1).toNat * 3)).off + 1, none⟩ = some (.int .i64 ((rd_T54 l1 x5_1).f1)) ∧ w'.cell? ⟨(ad168.add ((x5_1).toNat * 3)).block, (ad168.add ((x5_1).toNat * 3)).off + 2, none⟩ = some (.int .i64 ((rd_T54 l1 x5_1).f2))) (ds := []) #[false, false, false, false, false, false, false, false, false, false] (by kernel_rfl) rfl rfl ⟨((HB.out.cell (World.block_lt_of_cell? w _ hw167_0)).trans hw167_0), ((HB.out.cell (World.block_lt_of_cell? w _ hw167_1)).trans hw167_1), ((HB.out.cell (World.block_lt_of_cell? w _ hw167_2)).trans hw167_2), ((HB.out.cell (World.block_lt_of_cell? w _ hw168_0)).trans hw168_0), ((HB.out.cell (World.block_lt_of_cell? w _ hw168_1)).trans hw168_1), ((HB.out.cell (World.block_lt_of_cell? w _ hw168_2)).trans hw168_2)⟩ (fun hHeld => ?_); refine with_tabW laws_eqLeaseS.tab6 laws_eqLeaseS.bits6 (fun HT_ HW_ => ?_)
                generalize wr.drew = w11 at HB hx167_0 hx167_1 hx167_2 hx168_0 hx168_1 hx168_2 hHeld ⊢
                refine pure_ (i := 0) (N := some 17) (v := ?_) (a' := ?_) #[true, false, false, false, false, false, false, false, false, false] rfl rfl (any_of HT_.out (by kernel_rfl)) (fun _ _ _ h => h) (Or.inl ⟨by rfl, ?_⟩) ?_ ?_
                rotate_left
                · intro w'
                  go_simp
                  with_reducible rfl
                rotate_left
                · simp only [Act.put, List.setIfInBounds_toArray, List.set_cons_zero, List.set_cons_succ, i64_w, i32_w]
                  rfl
                refine pure_ (i := 1) (N := some 18) (v := ?_) (a' := ?_) #[true, true, false, false, false, false, false, false, false, false] rfl rfl (any_of HT_.out (by kernel_rfl)) (fun _ _ _ h => h) (Or.inl ⟨by rfl, ?_⟩) ?_ ?_
                rotate_left
                · intro w'
                  go_simp
                  with_reducible rfl
                rotate_left
                · simp only [Act.put, List.setIfInBounds_toArray, List.set_cons_zero, List.set_cons_succ, i64_w, i32_w]
                  rfl
                refine pure_ (i := 2) (N := some 19) (v := ?_) (a' := ?_) #[true, true, true, false, false, false, false, false, false, false] rfl rfl (any_of HT_.out (by kernel_rfl)) (fun _ _ _ h => h) (Or.inl ⟨by rfl, ?_⟩) ?_ ?_
                rotate_left
                · intro w'
                  go_simp
                  with_reducible rfl
                rotate_left
                · simp only [Act.put, List.setIfInBounds_toArray, List.set_cons_zero, List.set_cons_succ, i64_w, i32_w]
                  rfl
                refine pure_ (i := 4) (N := some 21) (v := ?_) (a' := ?_) #[true, true, true, false, true, false, false, false, false, false] rfl rfl (any_of HT_.out (by kernel_rfl)) (fun _ _ _ h => h) (Or.inl ⟨by rfl, ?_⟩) ?_ ?_
                rotate_left
                · intro w'
                  go_simp
                  with_reducible rfl
                rotate_left
                · simp only [Act.put, List.setIfInBounds_toArray, List.set_cons_zero, List.set_cons_succ, i64_w, i32_w]
                  rfl
                refine pure_ (i := 5) (N := some 22) (v := ?_) (a' := ?_) #[true, true, true, false, true, true, false, false, false, false] rfl rfl (any_of HT_.out (by kernel_rfl)) (fun _ _ _ h => h) (Or.inl ⟨by rfl, ?_⟩) ?_ ?_
                rotate_left
                · intro w'
                  go_simp
                  with_reducible rfl
                rotate_left
                · simp only [Act.put, List.setIfInBounds_toArray, List.set_cons_zero, List.set_cons_succ, i64_w, i32_w]
                  rfl
                refine pure_ (i := 6) (N := some 23) (v := ?_) (a' := ?_) #[true, true, true, false, true, true, true, false, false, false] rfl rfl (any_of HT_.out (by kernel_rfl)) (fun _ _ _ h => h) (Or.inl ⟨by rfl, ?_⟩) ?_ ?_
                rotate_left
                · intro w'
                  go_simp
                  with_reducible rfl
                rotate_left
                · simp only [Act.put, List.setIfInBounds_toArray, List.set_cons_zero, List.set_cons_succ, i64_w, i32_w]
                  rfl
                refine take_ (i := 3) (N := some 20) (v := ?_) (a' := ?_) #[true, true, true, true, true, true, true, false, false, false] rfl rfl (take_ofW HT_.out HW_.out (by kernel_rfl)) (fun _ _ _ h => h) (Or.inl ⟨by rfl, ?_⟩) hHeld ?_ ?_
                rotate_left
                · rintro w' ⟨s0, s1, s2, s3, s4, s5⟩
                  go_simp
                  with_reducible rfl
                rotate_left
                · simp only [Act.put, List.setIfInBounds_toArray, List.set_cons_zero, List.set_cons_succ, i64_w, i32_w]
                  rfl
                refine take_ (i := 7) (N := some 24) (v := ?_) (a' := ?_) #[true, true, true, true, true, true, true, true, false, false] rfl rfl (take_ofW HT_.out HW_.out (by kernel_rfl)) (fun _ _ _ h => h) (Or.inl ⟨by rfl, ?_⟩) hHeld ?_ ?_
                rotate_left
                · rintro w' ⟨s0, s1, s2, s3, s4, s5⟩
                  go_simp
                  with_reducible rfl
                rotate_left
                · simp only [Act.put, List.setIfInBounds_toArray, List.set_cons_zero, List.set_cons_succ, i64_w, i32_w]
                  rfl
                refine one_ (i := 8) (N := some 25) #[true, true, true, true, true, true, true, true, true, false] rfl rfl (one_of HT_.out (by kernel_rfl)) (by decide) (fun K hK => ?_)
                refine goes_ Tryd.func31 (by kernel_rfl) rfl #[.agg #[.string ((rd_T54 l0 x5_1).f0), .int .i64 ((rd_T54 l0 x5_1).f1), .int .i64 ((rd_T54 l0 x5_1).f2)], .agg #[.string ((rd_T54 l1 x5_1).f0), .int .i64 ((rd_T54 l1 x5_1).f1), .int .i64 ((rd_T54 l1 x5_1).f2)]] (by rfl) rfl rfl (by (try simp only [List.map_toArray, List.map_cons, List.map_nil]); first | done | rfl | (simp only [List.length_drop, List.length_take]; rfl)) ?_
                with_reducible refine (laws_eqLease.calls ((rd_T54 l0 x5_1).f0) ((rd_T54 l0 x5_1).f1) ((rd_T54 l0 x5_1).f2) ((rd_T54 l1 x5_1).f0) ((rd_T54 l1 x5_1).f1) ((rd_T54 l1 x5_1).f2) false _ A7.out).mono ?_
                rintro e w12 ⟨rfl, hb⟩
                refine ⟨_, rfl, ?_⟩
                have n0_ := Aside0.mk (below_step (BB HB.out) hb)
                clear HB
                have HB := n0_
                clear n0_
                (try clear hb)
                (try clear hb2)
                (try clear hk)
                (try clear hi)
                refine hK.out _ _ ⟨((HB.out.cell (World.block_lt_of_cell? w _ hw167_0)).trans hw167_0), ((HB.out.cell (World.block_lt_of_cell? w _ hw167_1)).trans hw167_1), ((HB.out.cell (World.block_lt_of_cell? w _ hw167_2)).trans hw167_2), ((HB.out.cell (World.block_lt_of_cell? w _ hw168_0)).trans hw168_0), ((HB.out.cell (World.block_lt_of_cell? w _ hw168_1)).trans hw168_1), ((HB.out.cell (World.block_lt_of_cell? w _ hw168_2)).trans hw168_2)⟩ (fun hHeld => ?_)
                clear hK K
                refine norm_ (a' := ?_) ?_ ?_
                rotate_left
                · show Act.put _ (some 25) _ = _
                  simp only [Act.put, List.setIfInBounds_toArray, List.set_cons_zero, List.set_cons_succ, i64_w, i32_w]
                  rfl
                refine pure_ (i := 9) (N := some 26) (v := ?_) (a' := ?_) #[true, true, true, true, true, true, true, true, true, true] rfl rfl (any_of HT_.out (by kernel_rfl)) (fun _ _ _ h => h) (Or.inl ⟨by rfl, ?_⟩) ?_ ?_
                rotate_left
                · intro w'
                  go_simp
                  with_reducible rfl
                rotate_left
                · simp only [Act.put, List.setIfInBounds_toArray, List.set_cons_zero, List.set_cons_succ, i64_w, i32_w]
                  rfl
                refine done_ (done_of HT_.out (by kernel_rfl)) ?_
                try go_wp2
                go_ret
                exact ⟨ER, (BB HB.out)⟩
            · rw [if_neg c6] at H
              exact absurd H (by simp)
          · rw [if_neg c5] at H
            exact absurd H (by simp)
        · rw [if_neg c4] at H
          have c4b0 : decide (x5_1 < (l0.length : Int)) = false := decide_eq_false c4
          clear c4
          obtain rfl := Option.some.inj H
          go_wp2
          go_ret
          exact ⟨ER, (BB HB.out)⟩
  · rw [if_neg c3] at H
    have c3b0 : ((l0.length : Int) == (l1.length : Int)) = false := beq_eq_false_iff_ne.mpr c3
    have c3b1 : ((l0.length : Int) != (l1.length : Int)) = true := bne_iff_ne.mpr c3
    have c3b2 : (l0.length == l1.length) = false := by first | simpa using c3 | (simp at c3 ⊢; omega)
    obtain rfl := Option.some.inj H
    go_enter Tryd.func11, Tryd.ntmps11
    go_wp2
    go_ret
    exact ⟨ER, (BB HB.out)⟩

end Go.Proofs.YtfgnaneajonapaaDoor.Pr

namespace Go.Proofs.YtfgnaneajonapaaDoor.Pr
open Go.RowKit Go.Proofs.YtfgnaneajonapaaDoorW.PrintWords Go.Proofs.YtfgnaneajonapaaDoorW.PrintLast Go.Proofs.YtfgnaneajonapaaDoorW.PrintMore
attribute [local go_sem] max2_int min2_int max_two min_two max_three min_three max_four min_four
set_option linter.unusedVariables false
set_option linter.unusedSimpArgs false
def laws_szLease.f (a0_0 : ByteArray) (a0_1 : Int) (a0_2 : Int) (a1 : Int) : Option (Int) := if (wrap64 (a1 - (a0_0.size : Int))) < 0 then (some (-1)) else (some (wrap64 (a1 - (a0_0.size : Int))))
set_option maxHeartbeats 8000000 in
set_option maxRecDepth 100000 in
theorem laws_szLease.calls (a0_0 : ByteArray) (a0_1 : Int) (a0_2 : Int) (a1 : Int) (r : Int) (w : World) (h : laws_szLease.f a0_0 a0_1 a0_2 a1 = some r) :
    Calls Tryd.prog 25 #[.agg #[.string a0_0, .int .i64 a0_1, .int .i64 a0_2], .int .i64 a1] w fun e w' => e = .returned (.int .i64 r) ∧ Below w.heap.size w w' := by
  have hu52 := Tryd.underlying52
  have HB := Aside0.mk (Below.refl w.heap.size w)
  have H : (if (wrap64 (a1 - (a0_0.size : Int))) < 0 then (some (-1)) else (some (wrap64 (a1 - (a0_0.size : Int))))) = some r := h
  clear h
  by_cases c3 : (wrap64 (a1 - (a0_0.size : Int))) < 0
  · rw [if_pos c3] at H
    have c3b0 : decide ((wrap64 (a1 - (a0_0.size : Int))) < 0) = true := decide_eq_true c3
    clear c3
    obtain rfl := Option.some.inj H
    go_enter Tryd.func25, Tryd.ntmps25
    go_wp2_with (first | ((with_reducible refine gate_dst (N := 2) rfl ?_); refine BX 2 #[.string a0_0, .int .i64 a0_1, .int .i64 a0_2] 52 ?_; intro gb101 hg w4 hbox hb; have BK101 := Aside0.mk (hbox); have GW101 : Aside0 (w.heap.size ≤ gb101) := WG hg (BB HB.out); have GE101 := GW101; replace HB := Aside0.mk (below_step (BB HB.out) hb); clear hb hbox hg; have hcz5 := blk_cell BK101.out; have hfz5 := blk_frozen BK101.out))
    go_ret
    exact ⟨ER, (BB1 HB.out GE101.out)⟩
  · rw [if_neg c3] at H
    have c3b0 : decide ((wrap64 (a1 - (a0_0.size : Int))) < 0) = false := decide_eq_false c3
    clear c3
    obtain rfl := Option.some.inj H
    go_enter Tryd.func25, Tryd.ntmps25
    go_wp2_with (first | ((with_reducible refine gate_dst (N := 2) rfl ?_); refine BX 2 #[.string a0_0, .int .i64 a0_1, .int .i64 a0_2] 52 ?_; intro gb101 hg w6 hbox hb; have BK101 := Aside0.mk (hbox); have GW101 : Aside0 (w.heap.size ≤ gb101) := WG hg (BB HB.out); have GE101 := GW101; replace HB := Aside0.mk (below_step (BB HB.out) hb); clear hb hbox hg; have hcz7 := blk_cell BK101.out; have hfz7 := blk_frozen BK101.out))
    go_ret
    exact ⟨ER, (BB1 HB.out GE101.out)⟩

end Go.Proofs.YtfgnaneajonapaaDoor.Pr

namespace Go.Proofs.YtfgnaneajonapaaDoor.Pr
open Go.RowKit Go.Proofs.YtfgnaneajonapaaDoorW.PrintWords Go.Proofs.YtfgnaneajonapaaDoorW.PrintLast Go.Proofs.YtfgnaneajonapaaDoorW.PrintMore
attribute [local go_sem] max2_int min2_int max_two min_two max_three min_three max_four min_four
set_option linter.unusedVariables false
set_option linter.unusedSimpArgs false
def laws_toLease.f (a0_0 : ByteArray) (a0_1 : Int) (a0_2 : Int) : Option (ByteArray × Int × Int) := some (a0_0, a0_1, a0_2)
set_option maxHeartbeats 8000000 in
set_option maxRecDepth 100000 in
theorem laws_toLease.calls (a0_0 : ByteArray) (a0_1 : Int) (a0_2 : Int) (r1 : ByteArray) (r2 : Int) (r3 : Int) (w : World) (h : laws_toLease.f a0_0 a0_1 a0_2 = some (r1, r2, r3)) :
    Calls Tryd.prog 28 #[.agg #[.string a0_0, .int .i64 a0_1, .int .i64 a0_2]] w fun e w' => e = .returned (.agg #[.string r1, .int .i64 r2, .int .i64 r3]) ∧ Below w.heap.size w w' := by
  have hu52 := Tryd.underlying52
  have hu54 := Tryd.underlying54
  have HB := Aside0.mk (Below.refl w.heap.size w)
  have H : (some (a0_0, a0_1, a0_2)) = some (r1, r2, r3) := h
  clear h
  simp only [Option.some.injEq, Prod.mk.injEq] at H
  obtain ⟨rfl, rfl, rfl⟩ := H
  go_enter Tryd.func28, Tryd.ntmps28
  go_wp2_with (first | ((with_reducible refine gate_dst (N := 1) rfl ?_); refine BX 1 #[.string a0_0, .int .i64 a0_1, .int .i64 a0_2] 52 ?_; intro gb140 hg w2 hbox hb; have BK140 := Aside0.mk (hbox); have GW140 : Aside0 (w.heap.size ≤ gb140) := WG hg (BB HB.out); have GE140 := GW140; replace HB := Aside0.mk (below_step (BB HB.out) hb); clear hb hbox hg) | ((with_reducible refine gate_dst (N := 2) rfl ?_); refine BX 2 #[.string (⟨#[]⟩ : ByteArray), .int .i64 0, .int .i64 0] 54 ?_; intro gb141 hg w3 hbox hb; have BK141 := Aside0.mk (hbox); have GW141 : Aside0 (w.heap.size ≤ gb141) := WG hg (BB1 HB.out GE140.out); have GE141 := GW141; have NB140_141 := NL BK140.out hg; have NB141_140 := NG BK140.out hg; replace BK140 := Aside0.mk (KB BK140.out hb); replace HB := Aside0.mk (below_step (BB1 HB.out GE140.out) hb); clear hb hbox hg) | ((with_reducible refine gate_dst (N := 3) rfl ?_); refine BX 3 #[.string (⟨#[]⟩ : ByteArray), .int .i64 0, .int .i64 0] 54 ?_; intro gb142 hg w4 hbox hb; have BK142 := Aside0.mk (hbox); have GW142 : Aside0 (w.heap.size ≤ gb142) := WG hg (BB2 HB.out GE140.out GE141.out); have GE142 := GW142; have NB140_142 := NL BK140.out hg; have NB142_140 := NG BK140.out hg; have NB141_142 := NL BK141.out hg; have NB142_141 := NG BK141.out hg; replace BK140 := Aside0.mk (KB BK140.out hb); replace BK141 := Aside0.mk (KB BK141.out hb); replace HB := Aside0.mk (below_step (BB2 HB.out GE140.out GE141.out) hb); clear hb hbox hg; have hnb5 := NB140_141.out; have hnc5 := NB141_140.out; have hnb6 := NB140_142.out; have hnc6 := NB142_140.out; have hcz7 := blk_cell BK140.out; have hfz7 := blk_frozen BK140.out; have hnb8 := NB142_141.out; have hnc8 := NB141_142.out; have hcz9 := blk_cell BK142.out; have hfz9 := blk_frozen BK142.out; have hcz10 := blk_cell BK141.out; have hfz10 := blk_frozen BK141.out))
  refine bodyPost_ret (results_cell_row rfl _ _ gb141 54 #[.string a0_0, .int .i64 a0_1, .int .i64 a0_2] (0, 0) _ rfl (by (with_reducible repeat (first | refine blk_drewN ?_ _ | refine blk_drew ?_ | refine blk_alloc ?_ _)); refine blk_put (cs := #[.string a0_0, .int .i64 a0_1, .int .i64 0]) ?_ 2 _ rfl; (with_reducible repeat (first | refine blk_drewN ?_ _ | refine blk_drew ?_ | refine blk_alloc ?_ _)); refine blk_put (cs := #[.string a0_0, .int .i64 0, .int .i64 0]) ?_ 1 _ rfl; (with_reducible repeat (first | refine blk_drewN ?_ _ | refine blk_drew ?_ | refine blk_alloc ?_ _)); refine blk_put (cs := #[.string (⟨#[]⟩ : ByteArray), .int .i64 0, .int .i64 0]) ?_ 0 _ rfl; (with_reducible repeat (first | refine blk_drewN ?_ _ | refine blk_drew ?_ | refine blk_alloc ?_ _)); refine blk_far ?_ NB141_142.out _; (with_reducible repeat (first | refine blk_drewN ?_ _ | refine blk_drew ?_ | refine blk_alloc ?_ _)); refine blk_far ?_ NB141_142.out _; (with_reducible repeat (first | refine blk_drewN ?_ _ | refine blk_drew ?_ | refine blk_alloc ?_ _)); refine blk_far ?_ NB141_142.out _; (with_reducible repeat (first | refine blk_drewN ?_ _ | refine blk_drew ?_ | refine blk_alloc ?_ _)); exact BK141.out) Tryd.underlying54 rfl (by kernel_rfl)) rfl ?_
  exact ⟨ER, (BB3 HB.out GE140.out GE141.out GE142.out)⟩

end Go.Proofs.YtfgnaneajonapaaDoor.Pr

namespace Go.Proofs.YtfgnaneajonapaaDoor.Pr
open Go.RowKit Go.Proofs.YtfgnaneajonapaaDoorW.PrintWords Go.Proofs.YtfgnaneajonapaaDoorW.PrintLast Go.Proofs.YtfgnaneajonapaaDoorW.PrintMore
attribute [local go_sem] max2_int min2_int max_two min_two max_three min_three max_four min_four
set_option linter.unusedVariables false
set_option linter.unusedSimpArgs false
def laws_szLeaseS.l0 : Nat → List (S52) → Int → Int → Option (Int)
  | 0, _, _, _ => none
  | k + 1, x0, x1, x5 => if x5 < (x0.length : Int) then (if 0 ≤ x5 then ((laws_szLease.f ((rd_T52 x0 x5).f0) ((rd_T52 x0 x5).f1) ((rd_T52 x0 x5).f2) x1).bind fun t103 => (if t103 < 0 then (some (-1)) else (laws_szLeaseS.l0 k x0 t103 (wrap64 (x5 + 1))))) else (none)) else (some x1)
def laws_szLeaseS.f (k : Nat) (l0 : List (S52)) (a1 : Int) : Option (Int) := if (wrap64 (a1 - (l0.length : Int))) < 0 then (some (-1)) else (laws_szLeaseS.l0 k l0 (wrap64 (a1 - (l0.length : Int))) 0)
set_option maxHeartbeats 8000000 in
set_option maxRecDepth 100000 in
theorem laws_szLeaseS.calls (k : Nat) (A0 : Option Addr) (c0 : Nat) (l0 : List (S52)) (a1 : Int) (r : Int) (w : World) (hr0 : Kd.C k52 w A0 l0.length l0) (hc0 : l0.length ≤ c0) (h : laws_szLeaseS.f k l0 a1 = some r) :
    Calls Tryd.prog 7 #[.slice A0 l0.length c0, .int .i64 a1] w fun e w' => e = .returned (.int .i64 r) ∧ Below w.heap.size w w' := by
  have hu52 := Tryd.underlying52
  have HR0 := Aside0.mk hr0
  have HC0 := Aside0.mk hc0
  clear hr0 hc0
  have HB := Aside0.mk (Below.refl w.heap.size w)
  have H : (if (wrap64 (a1 - (l0.length : Int))) < 0 then (some (-1)) else (laws_szLeaseS.l0 k l0 (wrap64 (a1 - (l0.length : Int))) 0)) = some r := h
  clear h
  by_cases c3 : (wrap64 (a1 - (l0.length : Int))) < 0
  · rw [if_pos c3] at H
    have c3b0 : decide ((wrap64 (a1 - (l0.length : Int))) < 0) = true := decide_eq_true c3
    clear c3
    obtain rfl := Option.some.inj H
    go_enter Tryd.func7, Tryd.ntmps7
    go_wp2
    go_ret
    exact ⟨ER, (BB HB.out)⟩
  · rw [if_neg c3] at H
    have c3b0 : decide ((wrap64 (a1 - (l0.length : Int))) < 0) = false := decide_eq_false c3
    clear c3
    have H' := Aside0.mk H
    clear H
    go_enter Tryd.func7, Tryd.ntmps7
    go_wp2
    go_loopg [1, 5] k (fun kq v1 v5 w' => ∃ (x1_1 : Int) (x5_1 : Int), v1 = .int .i64 x1_1 ∧ v5 = .int .i64 x5_1 ∧ Aside0 (laws_szLeaseS.l0 kq l0 x1_1 x5_1 = some r) ∧ Aside0 (kq ≤ k) ∧ Aside0 (Below w.heap.size w w'))
    case atStart => exact ⟨(wrap64 (a1 - (l0.length : Int))), (0), FR, FR, H', ⟨Nat.le_refl _⟩, ⟨(BB HB.out)⟩⟩
    case round =>
      clear H'
      try clear p2
      try clear c3
      try clear c3b0
      obtain ⟨x1_1, x5_1, rfl, rfl, HA, HK1, HB⟩ := hrel
      cases gk with
      | zero => exact absurd HA.out (by simp [laws_szLeaseS.l0])
      | succ k1 =>
        have H := HA.out
        clear HA
        simp only [laws_szLeaseS.l0] at H
        by_cases c4 : x5_1 < (l0.length : Int)
        · rw [if_pos c4] at H
          have c4b0 : decide (x5_1 < (l0.length : Int)) = true := decide_eq_true c4
          clear c4
          by_cases c5 : 0 ≤ x5_1
          · rw [if_pos c5] at H
            have c5b0 : decide (0 ≤ x5_1) = true := decide_eq_true c5
            clear c5
            replace H := Option.bind_eq_some_iff.mp H
            obtain ⟨t103, A60, H⟩ := H
            replace H : (if t103 < 0 then (some (-1)) else (laws_szLeaseS.l0 k1 l0 t103 (wrap64 (x5_1 + 1)))) = some r := H
            have A6 := Aside0.mk A60
            clear A60
            by_cases c7 : t103 < 0
            · rw [if_pos c7] at H
              have c7b0 : decide (t103 < 0) = true := decide_eq_true c7
              clear c7
              obtain rfl := Option.some.inj H
              have p102 : 0 ≤ (x5_1 : Int) := DT
              have q102 : x5_1 < (l0.length : Int) := DT
              obtain ⟨ad102, e102, hx102_0, hx102_1, hx102_2⟩ := at_T52 HR0.out x5_1 p102 q102
              cases e102
              replace hx102_0 := (HB.out.cell (World.block_lt_of_cell? w _ hx102_0)).trans hx102_0
              replace hx102_1 := (HB.out.cell (World.block_lt_of_cell? w _ hx102_1)).trans hx102_1
              replace hx102_2 := (HB.out.cell (World.block_lt_of_cell? w _ hx102_2)).trans hx102_2
              replace p102 := eq_true p102
              replace q102 := eq_true q102
              go_wp2_with (first | ((with_reducible refine gate_callee (f := 25) rfl ?_); refine GL (some 23) rfl rfl Tryd.func25 #[.agg #[.string ((rd_T52 l0 x5_1).f0), .int .i64 ((rd_T52 l0 x5_1).f1), .int .i64 ((rd_T52 l0 x5_1).f2)], .int .i64 x1_1] rfl ?_; (with_reducible refine (laws_szLease.calls ((rd_T52 l0 x5_1).f0) ((rd_T52 l0 x5_1).f1) ((rd_T52 l0 x5_1).f2) x1_1 t103 _ A6.out).mono ?_); rintro e w8 ⟨rfl, hb⟩; refine ⟨_, rfl, ?_⟩; replace HB := Aside0.mk (below_step (BB HB.out) hb); (try clear hb)))
              go_ret
              exact ⟨ER, (BB HB.out)⟩
            · rw [if_neg c7] at H
              have c7b0 : decide (t103 < 0) = false := decide_eq_false c7
              clear c7
              have H' := Aside0.mk H
              clear H
              have p102 : 0 ≤ (x5_1 : Int) := DT
              have q102 : x5_1 < (l0.length : Int) := DT
              obtain ⟨ad102, e102, hx102_0, hx102_1, hx102_2⟩ := at_T52 HR0.out x5_1 p102 q102
              cases e102
              replace hx102_0 := (HB.out.cell (World.block_lt_of_cell? w _ hx102_0)).trans hx102_0
              replace hx102_1 := (HB.out.cell (World.block_lt_of_cell? w _ hx102_1)).trans hx102_1
              replace hx102_2 := (HB.out.cell (World.block_lt_of_cell? w _ hx102_2)).trans hx102_2
              replace p102 := eq_true p102
              replace q102 := eq_true q102
              go_wp2_with (first | ((with_reducible refine gate_callee (f := 25) rfl ?_); refine GL (some 23) rfl rfl Tryd.func25 #[.agg #[.string ((rd_T52 l0 x5_1).f0), .int .i64 ((rd_T52 l0 x5_1).f1), .int .i64 ((rd_T52 l0 x5_1).f2)], .int .i64 x1_1] rfl ?_; (with_reducible refine (laws_szLease.calls ((rd_T52 l0 x5_1).f0) ((rd_T52 l0 x5_1).f1) ((rd_T52 l0 x5_1).f2) x1_1 t103 _ A6.out).mono ?_); rintro e w9 ⟨rfl, hb⟩; refine ⟨_, rfl, ?_⟩; replace HB := Aside0.mk (below_step (BB HB.out) hb); (try clear hb)))
              go_roundg k1
              case measure => have := HK1.out; omega
              case rel => exact ⟨(t103), (wrap64 (x5_1 + 1)), FR, FR, H', ⟨by have := HK1.out; omega⟩, ⟨(BB HB.out)⟩⟩
          · rw [if_neg c5] at H
            exact absurd H (by simp)
        · rw [if_neg c4] at H
          have c4b0 : decide (x5_1 < (l0.length : Int)) = false := decide_eq_false c4
          clear c4
          obtain rfl := Option.some.inj H
          go_wp2
          go_ret
          exact ⟨ER, (BB HB.out)⟩

end Go.Proofs.YtfgnaneajonapaaDoor.Pr

namespace Go.Proofs.YtfgnaneajonapaaDoor.Pr
open Go.RowKit Go.Proofs.YtfgnaneajonapaaDoorW.PrintWords Go.Proofs.YtfgnaneajonapaaDoorW.PrintLast Go.Proofs.YtfgnaneajonapaaDoorW.PrintMore
attribute [local go_sem] max2_int min2_int max_two min_two max_three min_three max_four min_four
set_option linter.unusedVariables false
set_option linter.unusedSimpArgs false
def laws_toLeaseS.l0 : Nat → List (S52) → List (S54) → Int → Option ((List (S54)))
  | 0, _, _, _ => none
  | k + 1, x0, x3, x4 => if x4 < (x0.length : Int) then (if 0 ≤ x4 then ((laws_toLease.f ((rd_T52 x0 x4).f0) ((rd_T52 x0 x4).f1) ((rd_T52 x0 x4).f2)).bind fun bt147 => (if x4 < (x3.length : Int) then (laws_toLeaseS.l0 k x0 (x3.set (x4 : Int).toNat (⟨bt147.1, bt147.2.1, bt147.2.2⟩ : S54)) (wrap64 (x4 + 1))) else (none))) else (none)) else (some x3)
def laws_toLeaseS.f (k : Nat) (l0 : List (S52)) : Option ((List (S54))) := if 0 ≤ (l0.length : Int) then (if ((l0.length : Int) : Int).toNat ≤ 8796093022208 then (laws_toLeaseS.l0 k l0 (List.replicate ((l0.length : Int) : Int).toNat z54) 0) else (none)) else (none)
set_option maxHeartbeats 8000000 in
set_option maxRecDepth 100000 in
theorem laws_toLeaseS.calls (k : Nat) (A0 : Option Addr) (c0 : Nat) (l0 : List (S52)) (r : List (S54)) (w : World) (hr0 : Kd.C k52 w A0 l0.length l0) (hc0 : l0.length ≤ c0) (h : laws_toLeaseS.f k l0 = some r) :
    Calls Tryd.prog 9 #[.slice A0 l0.length c0] w fun e w' => ∃ v0_ : Value, e = .returned (v0_) ∧ Kd.R k54 54 w' w.heap.size (fun _ => True) v0_ r ∧ Below w.heap.size w w' := by
  have hu52 := Tryd.underlying52
  have hu54 := Tryd.underlying54
  have HR0 := Aside0.mk hr0
  have HC0 := Aside0.mk hc0
  clear hr0 hc0
  have HB := Aside0.mk (Below.refl w.heap.size w)
  have H : (if 0 ≤ (l0.length : Int) then (if ((l0.length : Int) : Int).toNat ≤ 8796093022208 then (laws_toLeaseS.l0 k l0 (List.replicate ((l0.length : Int) : Int).toNat z54) 0) else (none)) else (none)) = some r := h
  clear h
  by_cases c2 : 0 ≤ (l0.length : Int)
  · rw [if_pos c2] at H
    have c2b0 := eq_true c2
    have c2b1 : decide (0 ≤ (l0.length : Int)) = true := decide_eq_true c2
    clear c2
    by_cases c3 : ((l0.length : Int) : Int).toNat ≤ 8796093022208
    · rw [if_pos c3] at H
      have c3b0 := eq_true c3
      have c3b1 : decide (((l0.length : Int) : Int).toNat ≤ 8796093022208) = true := decide_eq_true c3
      clear c3
      obtain ⟨y143, hy143⟩ : ∃ y_ : List (S54), y_ = (List.replicate ((l0.length : Int) : Int).toNat z54) := ⟨_, rfl⟩
      replace H : (laws_toLeaseS.l0 k l0 y143 0) = some r := by first | (rw [hy143]; with_reducible exact H) | (have H2_ := (Option.bind_some _ _).symm.trans H; rw [hy143]; with_reducible exact H2_) | (have H2_ := (Option.bind_some _ _).symm.trans H; with_reducible exact H2_) | with_reducible exact H | (rw [hy143]; exact H) | exact H
      have Ny143 := Aside0.mk hy143
      clear hy143
      have H' := Aside0.mk H
      clear H
      go_enter Tryd.func9, Tryd.ntmps9
      go_wp2_with (first | ((with_reducible refine gate_dst (N := 7) rfl ?_); refine Kd.R_make k54 _ 54 rfl (N := 7) rfl 25 _ _ rfl (l0.length : Int) rfl rfl Tryd.underlying25 (.agg #[(.string ⟨#[]⟩), (.int .i64 0), (.int .i64 0)]) 32 info54 rfl (by decide) (by omega) z54 (ok := fun _ => True) (okp := fun _ => True) (k54_mkM _ _ _ z54 ) (fun _ hk => hk) trivial DT (Nat.le_trans (Nat.mul_le_mul_right _ (DT : (l0.length : Int).toNat ≤ 8796093022208)) (by omega)) (Below.refl _ _) (Nat.le_refl _) ?_; intro v144 w4 ho5 hb hg_ hnew_; clear hg_ hnew_; (first | rw [← Ny143.out] at ho5 | (simp only [Int.reduceToNat] at ho5; rw [← Ny143.out] at ho5)); have HO145 := Aside0.mk (Kd.R_lower ho5 (below_size (BB HB.out))); replace HB := Aside0.mk (below_step (BB HB.out) hb); clear hb ho5))
      go_loopg [4] k (fun kq v4 w' => ∃ (x3_1 : List (S54)) (x4_1 : Int), v4 = .int .i64 x4_1 ∧ Aside0 (laws_toLeaseS.l0 kq l0 x3_1 x4_1 = some r) ∧ Aside0 (kq ≤ k) ∧ Aside0 (Kd.R k54 54 w' w.heap.size (fun _ => True) v144 x3_1) ∧ Aside0 (Below w.heap.size w w'))
      case atStart => exact ⟨(y143), (0), FR, H', ⟨Nat.le_refl _⟩, ⟨(RR HO145.out)⟩, ⟨(BB HB.out)⟩⟩
      case round =>
        clear H'
        try clear c2
        try clear c2b0
        try clear c2b1
        try clear p2
        try clear c3
        try clear c3b0
        try clear c3b1
        obtain ⟨x3_1, x4_1, rfl, HA, HK1, HO_3, HB⟩ := hrel
        cases gk with
        | zero => exact absurd HA.out (by simp [laws_toLeaseS.l0])
        | succ k1 =>
          have H := HA.out
          clear HA
          simp only [laws_toLeaseS.l0] at H
          by_cases c6 : x4_1 < (l0.length : Int)
          · rw [if_pos c6] at H
            have c6b0 : decide (x4_1 < (l0.length : Int)) = true := decide_eq_true c6
            clear c6
            by_cases c7 : 0 ≤ x4_1
            · rw [if_pos c7] at H
              have c7b0 : decide (0 ≤ x4_1) = true := decide_eq_true c7
              clear c7
              replace H := Option.bind_eq_some_iff.mp H
              obtain ⟨⟨t147, t148, t149⟩, A80, H⟩ := H
              replace H : (if x4_1 < (x3_1.length : Int) then (laws_toLeaseS.l0 k1 l0 (x3_1.set (x4_1 : Int).toNat (⟨t147, t148, t149⟩ : S54)) (wrap64 (x4_1 + 1))) else (none)) = some r := H
              have A8 := Aside0.mk A80
              clear A80
              by_cases c9 : x4_1 < (x3_1.length : Int)
              · rw [if_pos c9] at H
                have c9b0 : decide (x4_1 < (x3_1.length : Int)) = true := decide_eq_true c9
                clear c9
                obtain ⟨y150, hy150⟩ : ∃ y_ : List (S54), y_ = (x3_1.set (x4_1 : Int).toNat (⟨t147, t148, t149⟩ : S54)) := ⟨_, rfl⟩
                replace H : (laws_toLeaseS.l0 k1 l0 y150 (wrap64 (x4_1 + 1))) = some r := by first | (rw [hy150]; with_reducible exact H) | (have H2_ := (Option.bind_some _ _).symm.trans H; rw [hy150]; with_reducible exact H2_) | (have H2_ := (Option.bind_some _ _).symm.trans H; with_reducible exact H2_) | with_reducible exact H | (rw [hy150]; exact H) | exact H
                have Ny150 := Aside0.mk hy150
                clear hy150
                have H' := Aside0.mk H
                clear H
                have p146 : 0 ≤ (x4_1 : Int) := DT
                have q146 : x4_1 < (l0.length : Int) := DT
                obtain ⟨ad146, e146, hx146_0, hx146_1, hx146_2⟩ := at_T52 HR0.out x4_1 p146 q146
                cases e146
                replace hx146_0 := (HB.out.cell (World.block_lt_of_cell? w _ hx146_0)).trans hx146_0
                replace hx146_1 := (HB.out.cell (World.block_lt_of_cell? w _ hx146_1)).trans hx146_1
                replace hx146_2 := (HB.out.cell (World.block_lt_of_cell? w _ hx146_2)).trans hx146_2
                replace p146 := eq_true p146
                replace q146 := eq_true q146
                go_wp2_with (first | ((with_reducible refine gate_callee (f := 28) rfl ?_); refine GL (some 20) rfl rfl Tryd.func28 #[.agg #[.string ((rd_T52 l0 x4_1).f0), .int .i64 ((rd_T52 l0 x4_1).f1), .int .i64 ((rd_T52 l0 x4_1).f2)]] rfl ?_; (with_reducible refine (laws_toLease.calls ((rd_T52 l0 x4_1).f0) ((rd_T52 l0 x4_1).f1) ((rd_T52 l0 x4_1).f2) t147 t148 t149 _ A8.out).mono ?_); rintro e w11 ⟨rfl, hb⟩; refine ⟨_, rfl, ?_⟩; replace HO_3 := Aside0.mk (Kd.R_below (RR HO_3.out) hb); replace HB := Aside0.mk (below_step (BB HB.out) hb); (try clear hb); have p10 : 0 ≤ (x4_1 : Int) := DT; have q10 : (x4_1 : Int) < ((x3_1.length : Int) : Int) := DT; obtain ⟨go10, co10, eo10, gb10, gl10, cl10, HG10⟩ := Kd.R_form HO_3.out (by omega); (first | cases eo10 | (injection eo10 with ea_ en_ ec_; (first | subst ea_ | (injection ea_ with ea_; subst ea_)); subst ec_; clear en_)); have GB10 := Aside0.mk gb10; have GG10 := Aside0.mk HG10; clear gb10 gl10 HG10; obtain ⟨ce10, hcl10, hM10, hcc10, hfr10⟩ := Kd.R_elem HO_3.out z54 (x4_1 : Int) p10 q10; obtain rfl := k54_openM hM10; have hx10_0 : w11.cell? ⟨go10, (x4_1 : Int).toNat * 3, none⟩ = some (.string ((rd_T54 x3_1 x4_1).f0)) := hcc10 0 _ rfl; have hx10_1 : w11.cell? ⟨go10, (x4_1 : Int).toNat * 3 + 1, none⟩ = some (.int .i64 ((rd_T54 x3_1 x4_1).f1)) := hcc10 1 _ rfl; have hx10_2 : w11.cell? ⟨go10, (x4_1 : Int).toNat * 3 + 2, none⟩ = some (.int .i64 ((rd_T54 x3_1 x4_1).f2)) := hcc10 2 _ rfl; have hf10_0 : w11.frozen? ⟨go10, (x4_1 : Int).toNat * 3, none⟩ = false := hfr10 0; have hf10_1 : w11.frozen? ⟨go10, (x4_1 : Int).toNat * 3 + 1, none⟩ = false := hfr10 1; have hf10_2 : w11.frozen? ⟨go10, (x4_1 : Int).toNat * 3 + 2, none⟩ = false := hfr10 2; clear hcl10 hcc10 hfr10 hM10; replace p10 := eq_true p10; replace q10 := eq_true q10; have HX12 := Aside0.mk (show Kd.R k54 54 w11 w.heap.size (fun _ => True) (.slice (some ⟨go10, 0, none⟩) x3_1.length co10) x3_1 from (RR HO_3.out)); obtain ⟨ce12, hcl12, hM12, hcc12, hfr12⟩ := Kd.R_elem HX12.out z54 (x4_1 : Int) DT (by have h_ : (x4_1 : Int) < ((x3_1.length : Int) : Int) := DT; first | exact h_ | (have e_ := (Kd.R_reads' HO_3.out).1; omega) | simpa using h_); obtain rfl := k54_openM hM12; have HP12 := Kd.R_seg HX12.out (x4_1 : Int) DT (by have h_ : (x4_1 : Int) < ((x3_1.length : Int) : Int) := DT; first | exact h_ | (have e_ := (Kd.R_reads' HO_3.out).1; omega) | simpa using h_) (seg := [.string t147, .int .i64 t148, .int .i64 t149]) (j := 0) hcl12 hcc12 (show 3 ≤ 3 from by decide) (x' := (⟨t147, t148, t149⟩ : S54)) (k54_mkM _ _ _ (⟨t147, t148, t149⟩ : S54) ) (fun _ hk => hk); have hx12_0 := hcc12 0 _ rfl; (try simp only [show (k54).sz = 3 from rfl, Nat.mul_one, Nat.add_zero] at hx12_0); have hf12_0 := hfr12 0; (try simp only [show (k54).sz = 3 from rfl, Nat.mul_one, Nat.add_zero] at hf12_0); have hx12_1 := hcc12 1 _ rfl; (try simp only [show (k54).sz = 3 from rfl, Nat.mul_one, Nat.add_zero] at hx12_1); have hf12_1 := hfr12 1; (try simp only [show (k54).sz = 3 from rfl, Nat.mul_one, Nat.add_zero] at hf12_1); have hx12_2 := hcc12 2 _ rfl; (try simp only [show (k54).sz = 3 from rfl, Nat.mul_one, Nat.add_zero] at hx12_2); have hf12_2 := hfr12 2; (try simp only [show (k54).sz = 3 from rfl, Nat.mul_one, Nat.add_zero] at hf12_2); clear hcl12 hcc12 hfr12 hM12) | ((with_reducible refine gate_store (t := 54) (p := 21) rfl ?_); refine store_event (t := 54) (p := 21) (v := ?vo_w13) (w1 := (((w11.setCell ⟨go10, (x4_1 : Int).toNat * 3, none⟩ (.string t147)).setCell ⟨go10, (x4_1 : Int).toNat * 3 + 1, none⟩ (.int .i64 t148)).setCell ⟨go10, (x4_1 : Int).toNat * 3 + 2, none⟩ (.int .i64 t149))) ?hg ?ho ?hn ?hr ?_; (case ho => rfl); (case hg => rfl); (case hn => rfl); (case hr => first | (go_simp; done) | (go_simp; rfl)); intro w13 hw; have hg : w11.grownBy w13 (some go10) := (by rw [hw]; exact HP12.2); have hp_ : Kd.R k54 54 w13 w.heap.size (fun _ => True) (.slice (some ⟨go10, 0, none⟩) x3_1.length co10) y150 := (by rw [hw, Ny150.out]; exact HP12.1); clear HP12; have n0_ := Aside0.mk (hp_); have n1_ := Aside0.mk ((by rw [hw]; exact below_set (below_set (below_set (HB.out) GB10.out) GB10.out) GB10.out : Below w.heap.size w w13)); clear HO_3; clear HB; have HO_3 := n0_; have HB := n1_; clear n0_ n1_; clear hg hw hp_))
                go_roundg k1
                case measure => have := HK1.out; omega
                case rel => exact ⟨(y150), (wrap64 (x4_1 + 1)), FR, H', ⟨by have := HK1.out; omega⟩, ⟨(RR HO_3.out)⟩, ⟨(BB HB.out)⟩⟩
              · rw [if_neg c9] at H
                exact absurd H (by simp)
            · rw [if_neg c7] at H
              exact absurd H (by simp)
          · rw [if_neg c6] at H
            have c6b0 : decide (x4_1 < (l0.length : Int)) = false := decide_eq_false c6
            clear c6
            obtain rfl := Option.some.inj H
            go_wp2
            go_ret
            exact ⟨_, ER, by (with_reducible repeat (first | apply Kd.R_alloc | apply Kd.R_drewN | apply Kd.R_drew)); exact HO_3.out, (BB HB.out)⟩
    · rw [if_neg c3] at H
      exact absurd H (by simp)
  · rw [if_neg c2] at H
    exact absurd H (by simp)

end Go.Proofs.YtfgnaneajonapaaDoor.Pr

namespace Go.Proofs.YtfgnaneajonapaaDoor.Lw
open Go.RowKit Go.Proofs.YtfgnaneajonapaaDoorW.PrintWords Go.Proofs.YtfgnaneajonapaaDoor.Pr Go.Proofs.YtfgnaneajonapaaDoor.Evs
set_option linter.unusedVariables false
abbrev LLease := S52
abbrev ImLease := S54
def wtLease (x : LLease) : Nat := x.f0.size
def wtLeaseS : List LLease → Nat
  | [] => 0
  | x :: s => 1 + wtLease x + wtLeaseS s
def okLease (x : LLease) : Prop := x.f0.size ≤ maxLen
theorem wtLeaseS_len (l : List LLease) : l.length ≤ wtLeaseS l := by
  induction l with
  | nil => simp
  | cons x s ih => simp [wtLeaseS]; omega
def toLease (x : LLease) : ImLease := ⟨x.f0, x.f1, x.f2⟩
theorem rd52 (p s : List S52) (x : S52) : rd_T52 (p ++ x :: s) (p.length : Int) = x := by unfold rd_T52; exact getD_mid' p s x _ _ rfl
theorem rd54 (p s : List S54) (x : S54) : rd_T54 (p ++ x :: s) (p.length : Int) = x := by unfold rd_T54; exact getD_mid' p s x _ _ rfl
theorem szLease_ev (x : LLease) (left : Int) (h0 : 0 ≤ left) (h1 : left ≤ 1048576) (hx : okLease x) : ∃ r, laws_szLease.f (x.f0) (x.f1) (x.f2) left = some r ∧ (r = -1 ∨ (0 ≤ r ∧ r + wtLease x = left)) := by
  unfold okLease maxLen at hx
  unfold laws_szLease.f wtLease
  have e0 : wrap64 (left - (x.f0.size : Int)) = left - (x.f0.size : Int) := wrap_in (by omega) (by omega)
  simp only [e0]
  by_cases c0 : left - (x.f0.size : Int) < 0
  · exact ⟨-1, by simp only [if_pos c0], .inl rfl⟩
  exact ⟨left - (x.f0.size : Int), by simp only [if_neg c0], .inr ⟨by omega, by omega⟩⟩
theorem szLeaseS_loop (s : List LLease) : ∀ (p : List LLease) (left : Int), 0 ≤ left → left + s.length ≤ 1048576 → p.length + s.length ≤ maxLen → (∀ x ∈ s, okLease x) →
    ∃ r, Ev (fun k => laws_szLeaseS.l0 k (p ++ s) left (p.length : Int)) r ∧ (r = -1 ∨ (0 ≤ r ∧ r + wtLeaseS s = left + s.length)) := by
  induction s with
  | nil =>
    intro p left h0 h1 hl ho
    refine ⟨left, ev_step (fun k => laws_szLeaseS.l0.eq_2 _ _ _ k) (ev_neg (by simp) (ev_some _)), .inr ⟨h0, by simp [wtLeaseS]⟩⟩
  | cons x s ih =>
    intro p left h0 h1 hl ho
    unfold maxLen at hl
    simp at h1 hl
    obtain ⟨t, ht, hr⟩ := szLease_ev x left h0 (by omega) (ho x (by simp))
    by_cases c : t < 0
    · refine ⟨-1, ev_step (fun k => laws_szLeaseS.l0.eq_2 _ _ _ k) (ev_pos (by simp; omega) (ev_pos (by omega) (ev_call (a := t) (by rw [rd52]; exact ht) (ev_pos c (ev_some _))))), .inl rfl⟩
    · obtain ⟨r, hE, hR⟩ := ih (p ++ [x]) t (by omega) (by omega) (by simp; unfold maxLen; omega) (fun y hy => ho y (by simp [hy]))
      refine ⟨r, ev_step (fun k => laws_szLeaseS.l0.eq_2 _ _ _ k) (ev_pos (by simp; omega) (ev_pos (by omega) (ev_call (a := t) (by rw [rd52]; exact ht) (ev_neg c ?_)))), ?_⟩
      · rw [wrap_succ (by omega) (by omega)]
        simpa using hE
      · rcases hR with hR | hR
        · exact .inl hR
        · rcases hr with hr | hr
          · omega
          · refine .inr ⟨hR.1, ?_⟩
            simp [wtLeaseS]
            omega
theorem szLeaseS_ev (l : List LLease) (hl : l.length ≤ maxLen) (ho : ∀ x ∈ l, okLease x) (left : Int) (h0 : 0 ≤ left) (h1 : left ≤ 1048576) :
    ∃ r, Ev (fun k => laws_szLeaseS.f k l left) r ∧ (r = -1 ∨ (0 ≤ r ∧ r + wtLeaseS l = left)) := by
  unfold laws_szLeaseS.f
  unfold maxLen at hl
  have e : wrap64 (left - (l.length : Int)) = left - l.length := wrap_in (by omega) (by omega)
  rw [e]
  by_cases c : left - (l.length : Int) < 0
  · exact ⟨-1, ev_pos c (ev_some _), .inl rfl⟩
  · obtain ⟨r, hE, hR⟩ := szLeaseS_loop l [] (left - l.length) (by omega) (by omega) (by simp; unfold maxLen; omega) ho
    refine ⟨r, ev_neg c (by simpa using hE), ?_⟩
    omega
theorem toLeaseS_loop (s : List LLease) : ∀ (p : List LLease), p.length + s.length < 9223372036854775807 →
    Ev (fun k => laws_toLeaseS.l0 k (p ++ s) (p.map toLease ++ List.replicate s.length z54) (p.length : Int)) ((p ++ s).map toLease) := by
  induction s with
  | nil => intro p hl; exact ev_step (fun k => laws_toLeaseS.l0.eq_2 _ _ _ k) (ev_neg (by simp) (ev_eq (ev_some _) (by simp)))
  | cons x s ih =>
    intro p hl
    simp at hl
    refine ev_step (fun k => laws_toLeaseS.l0.eq_2 _ _ _ k) (ev_pos (by simp; omega) (ev_pos (by omega) (ev_call (by rw [rd52]; rfl) (ev_pos (by simp; omega) ?_))))
    rw [wrap_succ (by omega) (by omega)]
    have h := ih (p ++ [x]) (by simp; omega)
    have e : (p.map toLease ++ List.replicate (x :: s).length z54).set ((p.length : Int)).toNat (toLease x) = (p ++ [x]).map toLease ++ List.replicate s.length z54 := by
      rw [List.length_cons, List.replicate_succ, set_mid _ _ _ _ _ (by simp)]
      simp
    refine ev_eq (g := fun k => laws_toLeaseS.l0 k (p ++ x :: s) ((p.map toLease ++ List.replicate (x :: s).length z54).set ((p.length : Int)).toNat (toLease x)) ((p.length : Int) + 1)) ?_ rfl
    rw [e]
    simpa using h
theorem toLeaseS_ev (l : List LLease) (hl : l.length ≤ 1048576) : Ev (fun k => laws_toLeaseS.f k l) (l.map toLease) := by
  unfold laws_toLeaseS.f
  refine ev_pos (by omega) (ev_pos (by omega) ?_)
  have h := toLeaseS_loop l [] (by simp; omega)
  simpa using h
theorem toLeaseS_evw (l : List LLease) (hl : wtLeaseS l ≤ 1048576) : Ev (fun k => laws_toLeaseS.f k l) (l.map toLease) := toLeaseS_ev l (by have := wtLeaseS_len l; omega)
theorem eqLease_refl (x : ImLease) : laws_eqLease.f (x.f0) (x.f1) (x.f2) (x.f0) (x.f1) (x.f2) = some true := by unfold laws_eqLease.f; simp
theorem eqLeaseS_loop (s : List ImLease) : ∀ (p : List ImLease), p.length + s.length < 9223372036854775807 → Ev (fun k => laws_eqLeaseS.l0 k (p ++ s) (p ++ s) (p.length : Int)) true := by
  induction s with
  | nil => intro p hl; exact ev_step (fun k => laws_eqLeaseS.l0.eq_2 _ _ _ k) (ev_neg (by simp) (ev_some _))
  | cons x s ih =>
    intro p hl
    simp at hl
    refine ev_step (fun k => laws_eqLeaseS.l0.eq_2 _ _ _ k) (ev_pos (by simp; omega) (ev_pos (by omega) (ev_pos (by simp; omega) (ev_call (by rw [rd54]; exact eqLease_refl x) (ev_pos rfl ?_)))))
    rw [wrap_succ (by omega) (by omega)]
    simpa using ih (p ++ [x]) (by simp; omega)
theorem eqLeaseS_ev (l : List ImLease) (hl : l.length < 9223372036854775807) : Ev (fun k => laws_eqLeaseS.f k l l) true := by
  unfold laws_eqLeaseS.f
  refine ev_pos rfl ?_
  simpa using eqLeaseS_loop l [] (by simp; omega)
def bdLease (x : ImLease) : Prop := (x.f0.size ≤ 1048576)
theorem wtLeaseS_at {l : List LLease} {x : LLease} (h : x ∈ l) : 1 + wtLease x ≤ wtLeaseS l := by
  induction l with
  | nil => cases h
  | cons y l ih =>
    rcases List.mem_cons.1 h with rfl | h
    · simp [wtLeaseS]
    · have := ih h
      simp [wtLeaseS]
      omega
theorem bd_toLease (x : LLease) (h : wtLease x ≤ 1048576) : bdLease (toLease x) := by
  unfold wtLease at h
  exact (show x.f0.size ≤ 1048576 by omega)
theorem bd_toLeaseS (l : List LLease) (h : wtLeaseS l ≤ 1048576) : (l.map toLease).length ≤ 1048576 ∧ ∀ y ∈ l.map toLease, bdLease y := by
  have hl := wtLeaseS_len l
  refine ⟨by simp; omega, fun y hy => ?_⟩
  obtain ⟨z, hz, rfl⟩ := List.mem_map.1 hy
  have := wtLeaseS_at hz
  exact bd_toLease z (by omega)
end Go.Proofs.YtfgnaneajonapaaDoor.Lw

namespace Go.Proofs
open Go.Shelf
def Tryd.lays156_ren : Go.Shelf.Ren := ⟨fun | 156 => 64 | 165 => 69 | 166 => 70 | 169 => 71 | 240 => 76 | 241 => 77 | 276 => 82 | 277 => 83 | n => n, fun | 31 => 78 | 9 => 9 | 3 => 3 | 4 => 4 | 0 => 0 | 20 => 20 | 72 => 92 | 76 => 96 | 70 => 90 | 37 => 77 | 75 => 95 | 127 => 101 | 164 => 106 | 5 => 5 | 80 => 98 | n => n, fun | n => n⟩
theorem Tryd.lays156 : Go.Proofs.Lays.n156 Tryd.prog Tryd.lays156_ren := {
  mixed := by kernel_rfl
  f156 := Tryd.func64.trans (congrArg some (by kernel_rfl))
  f165 := Tryd.func69.trans (congrArg some (by kernel_rfl))
  f166 := Tryd.func70.trans (congrArg some (by kernel_rfl))
  f169 := Tryd.func71.trans (congrArg some (by kernel_rfl))
  f240 := Tryd.func76.trans (congrArg some (by kernel_rfl))
  f241 := Tryd.func77.trans (congrArg some (by kernel_rfl))
  f276 := Tryd.func82.trans (congrArg some (by kernel_rfl))
  f277 := Tryd.func83.trans (congrArg some (by kernel_rfl))
  t0 := Tryd.underlying0
  a0 := Tryd.isAgg0
  z0 := Tryd.sizeOf0
  v0 := Tryd.zeroValue0
  t3 := Tryd.underlying3
  a3 := Tryd.isAgg3
  z3 := Tryd.sizeOf3
  v3 := Tryd.zeroValue3
  t4 := Tryd.underlying4
  a4 := Tryd.isAgg4
  z4 := Tryd.sizeOf4
  v4 := Tryd.zeroValue4
  t9 := Tryd.underlying9
  a9 := Tryd.isAgg9
  z9 := Tryd.sizeOf9
  v9 := Tryd.zeroValue9
  t20 := Tryd.underlying20
  a20 := Tryd.isAgg20
  z20 := Tryd.sizeOf20
  v20 := Tryd.zeroValue20
  t31 := Tryd.underlying78
  a31 := Tryd.isAgg78
  z31 := Tryd.sizeOf78
  v31 := Tryd.zeroValue78
  t37 := Tryd.underlying77
  a37 := Tryd.isAgg77
  z37 := Tryd.sizeOf77
  v37 := Tryd.zeroValue77
  t70 := Tryd.underlying90
  a70 := Tryd.isAgg90
  z70 := Tryd.sizeOf90
  v70 := Tryd.zeroValue90
  t72 := Tryd.underlying92
  a72 := Tryd.isAgg92
  z72 := Tryd.sizeOf92
  v72 := Tryd.zeroValue92
  t75 := Tryd.underlying95
  a75 := Tryd.isAgg95
  z75 := Tryd.sizeOf95
  v75 := Tryd.zeroValue95
  t76 := Tryd.underlying96
  a76 := Tryd.isAgg96
  z76 := Tryd.sizeOf96
  v76 := Tryd.zeroValue96
  t127 := Tryd.underlying101
  a127 := Tryd.isAgg101
  z127 := Tryd.sizeOf101
  v127 := Tryd.zeroValue101
  t164 := Tryd.underlying106
  a164 := Tryd.isAgg106
  z164 := Tryd.sizeOf106
  v164 := Tryd.zeroValue106 }
theorem Tryd.Builder_Extra_156 : Builder.Extra Tryd.prog Tryd.lays156_ren := {
  sizeBuilder := by kernel_rfl
  liesBuilder := by kernel_rfl
  t5 := Tryd.underlying5
  a5 := Tryd.isAgg5
  z5 := Tryd.sizeOf5
  v5 := Tryd.zeroValue5
  infoByte := by kernel_rfl
  cellsByte := by kernel_rfl
  sizeByte := by kernel_rfl
  neB5 := by decide }
open Go.RowKit in
theorem Tryd.strings_Join (bk o c : Nat) (xs : List ByteArray) (sep : ByteArray) (w : World) (hcells : ∀ (j : Nat) x, xs[j]? = some x → w.cell? ⟨bk, o + j, none⟩ = some (.string x)) (hbk : bk < w.heap.size) (hN : xs.length ≤ 140737488355328) (hcap : xs.length ≤ c) (hlen : (Lib.join (xs.map (·.data.toList)) sep.data.toList).length ≤ 140737488355328) :
    Calls Tryd.prog 64 #[.slice (some ⟨bk, o, none⟩) xs.length c, .string sep] w fun e w' => e = .returned (.string ⟨(Lib.join (xs.map (·.data.toList)) sep.data.toList).toArray⟩) ∧ Below w.heap.size w w' := Any.strings_Join Tryd.lays156 Tryd.Builder_Extra_156 bk o c xs sep w hcells hbk hN hcap hlen
def Tryd.lays106_ren : Go.Shelf.Ren := ⟨fun | 106 => 44 | 213 => 49 | 265 => 56 | n => n, fun | 9 => 9 | 3 => 3 | n => n, fun | n => n⟩
theorem Tryd.lays106 : Go.Proofs.Lays.n106 Tryd.prog Tryd.lays106_ren := {
  mixed := by kernel_rfl
  f106 := Tryd.func44.trans (congrArg some (by kernel_rfl))
  f213 := Tryd.func49.trans (congrArg some (by kernel_rfl))
  f265 := Tryd.func56.trans (congrArg some (by kernel_rfl))
  t3 := Tryd.underlying3
  a3 := Tryd.isAgg3
  z3 := Tryd.sizeOf3
  v3 := Tryd.zeroValue3
  t9 := Tryd.underlying9
  a9 := Tryd.isAgg9
  z9 := Tryd.sizeOf9
  v9 := Tryd.zeroValue9 }
open Go.RowKit in
theorem Tryd.strings_Compare (a b : ByteArray) (w : World) :
    Calls Tryd.prog 44 #[.string a, .string b] w fun e w' => e = .returned (.int .i64 (Lib.compareBytes a.data.toList b.data.toList)) ∧ w' = w := Any.strings_Compare Tryd.lays106 a b w
def Tryd.lays103_ren : Go.Shelf.Ren := ⟨fun | 103 => 59 | 210 => 66 | 206 => 72 | n => n, fun | 9 => 9 | 4 => 4 | 24 => 82 | 3 => 3 | n => n, fun | n => n⟩
theorem Tryd.lays103 : Go.Proofs.Lays.n103 Tryd.prog Tryd.lays103_ren := {
  mixed := by kernel_rfl
  f103 := Tryd.func59.trans (congrArg some (by kernel_rfl))
  f206 := Tryd.func72.trans (congrArg some (by kernel_rfl))
  f210 := Tryd.func66.trans (congrArg some (by kernel_rfl))
  t3 := Tryd.underlying3
  a3 := Tryd.isAgg3
  z3 := Tryd.sizeOf3
  v3 := Tryd.zeroValue3
  t4 := Tryd.underlying4
  a4 := Tryd.isAgg4
  z4 := Tryd.sizeOf4
  v4 := Tryd.zeroValue4
  t9 := Tryd.underlying9
  a9 := Tryd.isAgg9
  z9 := Tryd.sizeOf9
  v9 := Tryd.zeroValue9
  t24 := Tryd.underlying82
  a24 := Tryd.isAgg82
  z24 := Tryd.sizeOf82
  v24 := Tryd.zeroValue82 }
open Go.RowKit in
theorem Tryd.strings_CutPrefix (s p : ByteArray) (w : World) :
    Calls Tryd.prog 59 #[.string s, .string p] w fun e w' => e = .returned (.tuple #[.string ⟨(Lib.trimPrefix s.data.toList p.data.toList).toArray⟩, .bool (Lib.hasPrefix s.data.toList p.data.toList)]) ∧ w' = w := Any.strings_CutPrefix Tryd.lays103 s p w
def Tryd.lays143_ren : Go.Shelf.Ren := ⟨fun | 143 => 75 | 219 => 81 | 217 => 85 | 225 => 86 | 224 => 87 | 267 => 88 | 266 => 89 | 314 => 90 | n => n, fun | 9 => 9 | 3 => 3 | 4 => 4 | 5 => 5 | 46 => 75 | 146 => 115 | 51 => 114 | n => n, fun | 1 => 0 | n => n⟩
theorem Tryd.lays143 : Go.Proofs.Lays.n143 Tryd.prog Tryd.lays143_ren := {
  mixed := by kernel_rfl
  f143 := Tryd.func75.trans (congrArg some (by kernel_rfl))
  f217 := Tryd.func85.trans (congrArg some (by kernel_rfl))
  f219 := Tryd.func81.trans (congrArg some (by kernel_rfl))
  f224 := Tryd.func87.trans (congrArg some (by kernel_rfl))
  f225 := Tryd.func86.trans (congrArg some (by kernel_rfl))
  f266 := Tryd.func89.trans (congrArg some (by kernel_rfl))
  f267 := Tryd.func88.trans (congrArg some (by kernel_rfl))
  f314 := Tryd.func90.trans (congrArg some (by kernel_rfl))
  t3 := Tryd.underlying3
  a3 := Tryd.isAgg3
  z3 := Tryd.sizeOf3
  v3 := Tryd.zeroValue3
  t4 := Tryd.underlying4
  a4 := Tryd.isAgg4
  z4 := Tryd.sizeOf4
  v4 := Tryd.zeroValue4
  t5 := Tryd.underlying5
  a5 := Tryd.isAgg5
  z5 := Tryd.sizeOf5
  v5 := Tryd.zeroValue5
  t9 := Tryd.underlying9
  a9 := Tryd.isAgg9
  z9 := Tryd.sizeOf9
  v9 := Tryd.zeroValue9
  t46 := Tryd.underlying75
  a46 := Tryd.isAgg75
  z46 := Tryd.sizeOf75
  v46 := Tryd.zeroValue75
  t51 := Tryd.underlying114
  a51 := Tryd.isAgg114
  z51 := Tryd.sizeOf114
  v51 := Tryd.zeroValue114
  t146 := Tryd.underlying115
  a146 := Tryd.isAgg115
  z146 := Tryd.sizeOf115
  v146 := Tryd.zeroValue115
  g1 := by kernel_rfl }
open Go.RowKit Go.Lib in
theorem Tryd.strings_Index_one (s : ByteArray) (c : UInt8) (w : World) :
    Calls Tryd.prog 75 #[.string s, .string ⟨#[c]⟩] w fun e w' => e = .returned (.int .i64 (Lib.indexByte s.data.toList c)) ∧ w' = w := Any.strings_Index_one Tryd.lays143 s c w
def Tryd.lays138_ren : Go.Shelf.Ren := ⟨fun | 138 => 74 | 195 => 78 | 218 => 80 | 143 => 75 | 219 => 81 | 217 => 85 | 225 => 86 | 224 => 87 | 267 => 88 | 266 => 89 | 314 => 90 | n => n, fun | 9 => 9 | 3 => 3 | 4 => 4 | 5 => 5 | 0 => 0 | 46 => 75 | 146 => 115 | 51 => 114 | n => n, fun | 1 => 0 | n => n⟩
theorem Tryd.lays138 : Go.Proofs.Lays.n138 Tryd.prog Tryd.lays138_ren := {
  mixed := by kernel_rfl
  f138 := Tryd.func74.trans (congrArg some (by kernel_rfl))
  f143 := Tryd.func75.trans (congrArg some (by kernel_rfl))
  f195 := Tryd.func78.trans (congrArg some (by kernel_rfl))
  f217 := Tryd.func85.trans (congrArg some (by kernel_rfl))
  f218 := Tryd.func80.trans (congrArg some (by kernel_rfl))
  f219 := Tryd.func81.trans (congrArg some (by kernel_rfl))
  f224 := Tryd.func87.trans (congrArg some (by kernel_rfl))
  f225 := Tryd.func86.trans (congrArg some (by kernel_rfl))
  f266 := Tryd.func89.trans (congrArg some (by kernel_rfl))
  f267 := Tryd.func88.trans (congrArg some (by kernel_rfl))
  f314 := Tryd.func90.trans (congrArg some (by kernel_rfl))
  t0 := Tryd.underlying0
  a0 := Tryd.isAgg0
  z0 := Tryd.sizeOf0
  v0 := Tryd.zeroValue0
  t3 := Tryd.underlying3
  a3 := Tryd.isAgg3
  z3 := Tryd.sizeOf3
  v3 := Tryd.zeroValue3
  t4 := Tryd.underlying4
  a4 := Tryd.isAgg4
  z4 := Tryd.sizeOf4
  v4 := Tryd.zeroValue4
  t5 := Tryd.underlying5
  a5 := Tryd.isAgg5
  z5 := Tryd.sizeOf5
  v5 := Tryd.zeroValue5
  t9 := Tryd.underlying9
  a9 := Tryd.isAgg9
  z9 := Tryd.sizeOf9
  v9 := Tryd.zeroValue9
  t46 := Tryd.underlying75
  a46 := Tryd.isAgg75
  z46 := Tryd.sizeOf75
  v46 := Tryd.zeroValue75
  t51 := Tryd.underlying114
  a51 := Tryd.isAgg114
  z51 := Tryd.sizeOf114
  v51 := Tryd.zeroValue114
  t146 := Tryd.underlying115
  a146 := Tryd.isAgg115
  z146 := Tryd.sizeOf115
  v146 := Tryd.zeroValue115
  g1 := by kernel_rfl }
open Go.RowKit Go.Lib in
theorem Tryd.strings_Count_one (s : ByteArray) (c : UInt8) (w : World) :
    Calls Tryd.prog 74 #[.string s, .string ⟨#[c]⟩] w fun e w' => e = .returned (.int .i64 (Lib.countByte s.data.toList c)) ∧ w' = w := Any.strings_Count_one Tryd.lays138 s c w
def Tryd.lays221_ren : Go.Shelf.Ren := ⟨fun | 221 => 67 | 268 => 73 | 138 => 74 | 143 => 75 | 195 => 78 | 197 => 79 | 218 => 80 | 219 => 81 | 260 => 84 | 217 => 85 | 225 => 86 | 224 => 87 | 267 => 88 | 266 => 89 | 314 => 90 | n => n, fun | 9 => 9 | 3 => 3 | 31 => 78 | 4 => 4 | 0 => 0 | 105 => 103 | 21 => 21 | 5 => 5 | 46 => 75 | 119 => 110 | 139 => 113 | 138 => 112 | 146 => 115 | 51 => 114 | n => n, fun | 1 => 0 | 3 => 1 | 4 => 2 | n => n⟩
theorem Tryd.lays221 : Go.Proofs.Lays.n221 Tryd.prog Tryd.lays221_ren := {
  mixed := by kernel_rfl
  f138 := Tryd.func74.trans (congrArg some (by kernel_rfl))
  f143 := Tryd.func75.trans (congrArg some (by kernel_rfl))
  f195 := Tryd.func78.trans (congrArg some (by kernel_rfl))
  f197 := Tryd.func79.trans (congrArg some (by kernel_rfl))
  f217 := Tryd.func85.trans (congrArg some (by kernel_rfl))
  f218 := Tryd.func80.trans (congrArg some (by kernel_rfl))
  f219 := Tryd.func81.trans (congrArg some (by kernel_rfl))
  f221 := Tryd.func67.trans (congrArg some (by kernel_rfl))
  f224 := Tryd.func87.trans (congrArg some (by kernel_rfl))
  f225 := Tryd.func86.trans (congrArg some (by kernel_rfl))
  f260 := Tryd.func84.trans (congrArg some (by kernel_rfl))
  f266 := Tryd.func89.trans (congrArg some (by kernel_rfl))
  f267 := Tryd.func88.trans (congrArg some (by kernel_rfl))
  f268 := Tryd.func73.trans (congrArg some (by kernel_rfl))
  f314 := Tryd.func90.trans (congrArg some (by kernel_rfl))
  t0 := Tryd.underlying0
  a0 := Tryd.isAgg0
  z0 := Tryd.sizeOf0
  v0 := Tryd.zeroValue0
  t3 := Tryd.underlying3
  a3 := Tryd.isAgg3
  z3 := Tryd.sizeOf3
  v3 := Tryd.zeroValue3
  t4 := Tryd.underlying4
  a4 := Tryd.isAgg4
  z4 := Tryd.sizeOf4
  v4 := Tryd.zeroValue4
  t5 := Tryd.underlying5
  a5 := Tryd.isAgg5
  z5 := Tryd.sizeOf5
  v5 := Tryd.zeroValue5
  t9 := Tryd.underlying9
  a9 := Tryd.isAgg9
  z9 := Tryd.sizeOf9
  v9 := Tryd.zeroValue9
  t21 := Tryd.underlying21
  a21 := Tryd.isAgg21
  z21 := Tryd.sizeOf21
  v21 := Tryd.zeroValue21
  t31 := Tryd.underlying78
  a31 := Tryd.isAgg78
  z31 := Tryd.sizeOf78
  v31 := Tryd.zeroValue78
  t46 := Tryd.underlying75
  a46 := Tryd.isAgg75
  z46 := Tryd.sizeOf75
  v46 := Tryd.zeroValue75
  t51 := Tryd.underlying114
  a51 := Tryd.isAgg114
  z51 := Tryd.sizeOf114
  v51 := Tryd.zeroValue114
  t105 := Tryd.underlying103
  a105 := Tryd.isAgg103
  z105 := Tryd.sizeOf103
  v105 := Tryd.zeroValue103
  t119 := Tryd.underlying110
  a119 := Tryd.isAgg110
  z119 := Tryd.sizeOf110
  t138 := Tryd.underlying112
  a138 := Tryd.isAgg112
  z138 := Tryd.sizeOf112
  v138 := Tryd.zeroValue112
  t139 := Tryd.underlying113
  a139 := Tryd.isAgg113
  z139 := Tryd.sizeOf113
  v139 := Tryd.zeroValue113
  t146 := Tryd.underlying115
  a146 := Tryd.isAgg115
  z146 := Tryd.sizeOf115
  v146 := Tryd.zeroValue115
  g1 := by kernel_rfl
  g3 := by kernel_rfl
  g4 := by kernel_rfl }
def Tryd.laysSlH8_f61_ren : Go.Shelf.Ren := ⟨fun | 8 => 61 | 6 => 68 | n => n, fun | 22 => 78 | 23 => 9 | 25 => 53 | 4 => 4 | 3 => 3 | 0 => 0 | n => n, fun | n => n⟩
theorem Tryd.laysSlH8_f61 : Go.Proofs.SlLaysH.n8 Tryd.prog Tryd.laysSlH8_f61_ren := {
  mixed := by kernel_rfl
  f6 := ⟨Tryd.f68.name, by decide, Tryd.func68.trans (congrArg some (by kernel_rfl))⟩
  f8 := ⟨Tryd.f61.name, by decide, Tryd.func61.trans (congrArg some (by kernel_rfl))⟩
  t0 := Tryd.underlying0
  a0 := Tryd.isAgg0
  z0 := Tryd.sizeOf0
  v0 := Tryd.zeroValue0
  t3 := Tryd.underlying3
  a3 := Tryd.isAgg3
  z3 := Tryd.sizeOf3
  v3 := Tryd.zeroValue3
  t4 := Tryd.underlying4
  a4 := Tryd.isAgg4
  z4 := Tryd.sizeOf4
  v4 := Tryd.zeroValue4
  t22 := Tryd.underlying78
  a22 := Tryd.isAgg78
  z22 := Tryd.sizeOf78
  v22 := Tryd.zeroValue78
  a23 := Tryd.isAgg9
  z23 := Tryd.sizeOf9
  t25 := Tryd.underlying53
  a25 := Tryd.isAgg53
  z25 := Tryd.sizeOf53
  v25 := Tryd.zeroValue53 }
open Go.RowKit Go.Lib in
theorem Tryd.slices_ContainsFunc {α : Type} [Inhabited α] (enc : α → Value) (p : α → Bool) (g : Nat) (lb : Array Value) (eg : ∀ args w, (callFunc g args).run Tryd.prog w = .ok (.enter g args) w) (b off n c : Nat) (zs : List α) (w : World) (hp : PredAt Tryd.prog g lb enc p w) (hz : n ≤ zs.length) (hbig : n ≤ 9223372036854775807) (hc : ∀ j, j < zs.length → w.cell? ⟨b, off + j, none⟩ = some (enc zs[j]!)) :
    Calls Tryd.prog 61 #[.slice (some ⟨b, off, none⟩) n c, .func (.func g) #[] lb] w fun e w' => e = .returned (.bool ((zs.take n).any p)) ∧ ∃ q, w' = w.drewN q := AnyE.slices_ContainsFunc Tryd.laysSlH8_f61 enc p g lb eg b off n c zs w hp hz hbig hc
end Go.Proofs

namespace Go.Proofs.YtfgnaneajonapaaDoor.Pr
open Go.RowKit Go.Proofs.YtfgnaneajonapaaDoorW.PrintWords Go.Proofs.YtfgnaneajonapaaDoorW.PrintLast Go.Proofs.YtfgnaneajonapaaDoorW.PrintMore
set_option linter.unusedVariables false
set_option linter.unusedSimpArgs false
def ltP (p : ByteArray) (x : S54) : Prop := Lib.compareBytes x.f0.data.toList p.data.toList < 0
set_option maxHeartbeats 2000000 in
set_option maxRecDepth 100000 in
theorem cl_take (x : S54) (p : ByteArray) (w : World) : Calls Tryd.prog 43 #[.agg #[.string x.f0, .int .i64 x.f1, .int .i64 x.f2], .string p] w fun e w' => e = .returned (.int .i64 (Lib.compareBytes x.f0.data.toList p.data.toList)) ∧ Below w.heap.size w w' := by
  have hu := Tryd.underlying54
  have c : ∀ W, Calls Tryd.prog 44 #[.string x.f0, .string p] W fun e w' => e = .returned (.int .i64 (Lib.compareBytes x.f0.data.toList p.data.toList)) ∧ w' = W := fun W => Tryd.strings_Compare x.f0 p W
  generalize Lib.compareBytes x.f0.data.toList p.data.toList = r at c ⊢
  go_enter Tryd.func43, Tryd.ntmps43
  go_wp2_with (go_at_call 44; refine (c _).mono ?_; rintro e w' ⟨rfl, hw⟩; rw [hw])
  go_ret
  exact ⟨rfl, (Below.refl _ _).alloc (Nat.le_refl _) _⟩
def BsPost (xs : List S54) (p : ByteArray) (w : World) (e : Ending) (w' : World) : Prop := ∃ (k : Nat) (t : Bool), e = .returned (.tuple #[.int .i64 k, .bool t]) ∧ Below w.heap.size w w' ∧ k ≤ xs.length ∧ (∀ q, q < k → ltP p (xs.getD q z54)) ∧ (∀ q, k ≤ q → q < xs.length → ¬ ltP p (xs.getD q z54)) ∧ (t = true ↔ k < xs.length ∧ Lib.compareBytes (xs.getD k z54).f0.data.toList p.data.toList = 0)
set_option maxHeartbeats 4000000 in
set_option maxRecDepth 100000 in
theorem bsearch (A : Option Addr) (c : Nat) (xs : List S54) (p : ByteArray) (w : World) (hr : Kd.C k54 w A xs.length xs) (hc : xs.length ≤ c) (hn : xs.length < 1000000)
    (hm : ∀ a b, a ≤ b → b < xs.length → ltP p (xs.getD b z54) → ltP p (xs.getD a z54)) :
    Calls Tryd.prog 42 #[.slice A xs.length c, .string p, .func (.func 43) #[] #[]] w fun e w' => BsPost xs p w e w' := by
  have hu54 := Tryd.underlying54
  have eg : ∀ args w, (callFunc 43 args).run Tryd.prog w = .ok (.enter 43 args) w := enters_of Tryd.func43 (by kernel_rfl) rfl
  have HR := Aside0.mk hr
  have HM := Aside0.mk hm
  have HN := Aside0.mk hn
  clear hr hm hn
  go_enter Tryd.func42, Tryd.ntmps42
  go_wp2
  go_loopg [9, 10, 11] xs.length (fun gg s9 s10 _ wr => ∃ i j : Nat, s9 = .int .i64 i ∧ s10 = .int .i64 j ∧ i ≤ j ∧ j ≤ xs.length ∧ j - i ≤ gg ∧ Aside0 (Below w.heap.size w wr) ∧ Aside0 (∀ q, q < i → ltP p (xs.getD q z54)) ∧ Aside0 (∀ q, j ≤ q → q < xs.length → ¬ ltP p (xs.getD q z54)))
  case atStart => exact ⟨0, xs.length, rfl, rfl, Nat.zero_le _, Nat.le_refl _, by omega, ⟨Below.refl _ w⟩, ⟨fun q hq => absurd hq (Nat.not_lt_zero _)⟩, ⟨fun q h1 h2 => absurd h2 (Nat.not_lt.2 h1)⟩⟩
  case round =>
    obtain ⟨i, j, rfl, rfl, hij, hj, hg, BW, LO, HI⟩ := hrel
    have hn := HN.out
    by_cases hlt : i < j
    · have hltz : (i : Int) < (j : Int) := by omega
      obtain ⟨h, hh⟩ : ∃ h : Nat, ((i : Int) + (j : Int)) / 2 = (h : Int) := ⟨(i + j) / 2, by omega⟩
      have h1 : i ≤ h := by omega
      have h2 : h < j := by omega
      have h3 : (h : Int) < (xs.length : Int) := by omega
      have hw1 : IntKind.i64.wrap ((h : Int) + 1) = (h : Int) + 1 := by rw [IntKind.wrap_i64]; omega
      obtain ⟨ad, e1, hx0, hx1, hx2⟩ := at_T54 HR.out (h : Int) (by omega) (by omega)
      simp only [Int.toNat_natCast] at hx0 hx1 hx2
      replace hx0 := (BW.out.cell (World.block_lt_of_cell? w _ hx0)).trans hx0
      replace hx1 := (BW.out.cell (World.block_lt_of_cell? w _ hx1)).trans hx1
      replace hx2 := (BW.out.cell (World.block_lt_of_cell? w _ hx2)).trans hx2
      have hy : rd_T54 xs (h : Int) = xs.getD h z54 := rfl
      generalize rd_T54 xs (h : Int) = y at hx0 hx1 hx2 hy
      subst e1
      cases hq : decide (Lib.compareBytes y.f0.data.toList p.data.toList < 0) with
      | true =>
        have hq2 := of_decide_eq_true hq
        have LO' := Aside0.mk (show ∀ q, q < h + 1 → ltP p (xs.getD q z54) from fun q hq3 => HM.out q h (by omega) (by omega) (by rw [← hy]; exact hq2))
        have hcall := cl_take y p wr
        generalize Lib.compareBytes y.f0.data.toList p.data.toList = r at hcall hq hq2
        clear LO hy
        go_wp2_with (go_at_fn 43; refine hcall.mono ?_; rintro e w' ⟨rfl, hb'⟩)
        go_roundg (j - (h + 1))
        case measure => omega
        case rel => exact ⟨h + 1, j, by go_num, rfl, by omega, hj, by omega, ⟨BW.out.trans (hb'.mono BW.out.size)⟩, LO', HI⟩
      | false =>
        have hq2 := of_decide_eq_false hq
        have HI' := Aside0.mk (show ∀ q, h ≤ q → q < xs.length → ¬ ltP p (xs.getD q z54) from fun q hq3 hq4 hq5 => hq2 (by have := HM.out h q hq3 hq4 hq5; rw [← hy] at this; exact this))
        have hcall := cl_take y p wr
        generalize Lib.compareBytes y.f0.data.toList p.data.toList = r at hcall hq hq2
        clear HI hy
        go_wp2_with (go_at_fn 43; refine hcall.mono ?_; rintro e w' ⟨rfl, hb'⟩)
        go_roundg (h - i)
        case measure => omega
        case rel => exact ⟨i, h, rfl, rfl, h1, by omega, Nat.le_refl _, ⟨BW.out.trans (hb'.mono BW.out.size)⟩, LO, HI'⟩
    · have hltz : ¬ (i : Int) < (j : Int) := by omega
      obtain rfl : i = j := by omega
      by_cases hin : i < xs.length
      · have hinz : decide ((i : Int) < (xs.length : Int)) = true := decide_eq_true (by omega)
        have hiz : ((i : Int) < (xs.length : Int)) = True := eq_true (by omega)
        obtain ⟨ad, e1, hx0, hx1, hx2⟩ := at_T54 HR.out (i : Int) (by omega) (by omega)
        simp only [Int.toNat_natCast] at hx0 hx1 hx2
        replace hx0 := (BW.out.cell (World.block_lt_of_cell? w _ hx0)).trans hx0
        replace hx1 := (BW.out.cell (World.block_lt_of_cell? w _ hx1)).trans hx1
        replace hx2 := (BW.out.cell (World.block_lt_of_cell? w _ hx2)).trans hx2
        have hy : rd_T54 xs (i : Int) = xs.getD i z54 := rfl
        generalize rd_T54 xs (i : Int) = y at hx0 hx1 hx2 hy
        subst e1
        have hcall := cl_take y p wr
        have HY := Aside0.mk hy
        have hr : Aside0 (Lib.compareBytes (xs.getD i z54).f0.data.toList p.data.toList = Lib.compareBytes y.f0.data.toList p.data.toList) := ⟨by rw [← HY.out]⟩
        generalize Lib.compareBytes y.f0.data.toList p.data.toList = r at hcall hr
        clear hy
        cases hq : (r == 0) with
        | true =>
          have hq2 : r = 0 := beq_iff_eq.1 hq
          go_wp2_with (go_at_fn 43; refine hcall.mono ?_; rintro e w' ⟨rfl, hb'⟩)
          go_ret2
          unfold BsPost
          exact ⟨i, true, rfl, BW.out.trans (hb'.mono BW.out.size), hj, LO.out, HI.out, ⟨fun _ => ⟨hin, hr.out.trans hq2⟩, fun _ => rfl⟩⟩
        | false =>
          have hq2 : ¬ r = 0 := beq_eq_false_iff_ne.1 hq
          go_wp2_with (go_at_fn 43; refine hcall.mono ?_; rintro e w' ⟨rfl, hb'⟩)
          go_ret2
          unfold BsPost
          exact ⟨i, false, rfl, BW.out.trans (hb'.mono BW.out.size), hj, LO.out, HI.out, ⟨fun h => absurd h (by decide), fun h => absurd (hr.out.symm.trans h.2) hq2⟩⟩
      · have hinz : decide ((i : Int) < (xs.length : Int)) = false := decide_eq_false (by omega)
        have hiz : ((i : Int) < (xs.length : Int)) = False := eq_false (by omega)
        go_wp2
        go_ret2
        unfold BsPost
        exact ⟨i, false, rfl, BW.out, hj, LO.out, HI.out, ⟨fun h => absurd h (by decide), fun h => absurd h.1 hin⟩⟩
end Go.Proofs.YtfgnaneajonapaaDoor.Pr

namespace Go.Proofs.YtfgnaneajonapaaDoor.Pr
open Go.RowKit Go.Proofs.YtfgnaneajonapaaDoorW.PrintWords Go.Proofs.YtfgnaneajonapaaDoorW.PrintLast Go.Proofs.YtfgnaneajonapaaDoorW.PrintMore
set_option linter.unusedVariables false
set_option linter.unusedSimpArgs false
def lc (x : S54) : List Value := [.string x.f0, .int .i64 x.f1, .int .i64 x.f2]
def flat (xs : List S54) : List Value := xs.flatMap lc
theorem flat_cons (x : S54) (xs : List S54) : flat (x :: xs) = lc x ++ flat xs := rfl
theorem flat_app (xs ys : List S54) : flat (xs ++ ys) = flat xs ++ flat ys := by unfold flat; exact List.flatMap_append
theorem flat_len (xs : List S54) : (flat xs).length = xs.length * 3 := by
  induction xs with
  | nil => rfl
  | cons x s ih => rw [flat_cons, List.length_append, ih, List.length_cons, Nat.add_mul, Nat.add_comm]; rfl
theorem flat_one (xs : List S54) : ∀ v ∈ flat xs, v.oneCell' = true := by
  induction xs with
  | nil => intro v h; cases h
  | cons x s ih =>
    intro v h
    rw [flat_cons] at h
    rcases List.mem_append.1 h with h | h
    · simp [lc] at h
      rcases h with rfl | rfl | rfl <;> rfl
    · exact ih v h
theorem flat_take (xs : List S54) (k : Nat) (hk : k ≤ xs.length) : (flat xs).take (k * 3) = flat (xs.take k) := by
  have e : flat xs = flat (xs.take k) ++ flat (xs.drop k) := by rw [← flat_app, List.take_append_drop]
  rw [e, List.take_left' (by rw [flat_len, List.length_take, Nat.min_eq_left hk])]
theorem flat_drop (xs : List S54) (k : Nat) (hk : k ≤ xs.length) : (flat xs).drop (k * 3) = flat (xs.drop k) := by
  have e : flat xs = flat (xs.take k) ++ flat (xs.drop k) := by rw [← flat_app, List.take_append_drop]
  rw [e, List.drop_left' (by rw [flat_len, List.length_take, Nat.min_eq_left hk])]
theorem reps_flat {W : World} {base : Nat} {ok : Nat → Prop} : ∀ xs : List S54, Reps (k54.M W base ok) 3 xs (flat xs)
  | [] => Reps.none _ _
  | x :: s => by
    have h : Reps (k54.M W base ok) 3 ([] ++ [x]) ([] ++ lc x) := Reps.snoc (Reps.none _ _) (k54_mkM _ _ _ x) rfl
    exact Kd.reps_append h (reps_flat s)
theorem reps_inv {W : World} {base : Nat} {ok : Nat → Prop} : ∀ (xs : List S54) (cs : List Value), Reps (k54.M W base ok) 3 xs cs → cs = flat xs
  | [], cs, h => List.eq_nil_of_length_eq_zero (by rw [h.1]; rfl)
  | x :: s, cs, h => by
    have h0 := k54_openM (h.2 0 x rfl)
    rw [Nat.zero_mul, List.drop_zero] at h0
    have ht : Reps (k54.M W base ok) 3 s (cs.drop 3) := ⟨by rw [List.length_drop, h.1, List.length_cons]; omega, fun j p hj => by
      have := h.2 (j + 1) p (by simpa using hj)
      rw [List.drop_drop, show 3 + j * 3 = (j + 1) * 3 by omega]
      exact this⟩
    have := reps_inv s _ ht
    rw [flat_cons, ← this]
    have e : cs = cs.take 3 ++ cs.drop 3 := (List.take_append_drop 3 cs).symm
    rw [h0] at e
    exact e
theorem row_open {W : World} {base : Nat} {ok : Nat → Prop} {v : Value} {xs : List S54} (h : Kd.R k54 54 W base ok v xs) : (v = .slice none 0 0 ∧ xs = []) ∨ ∃ g cap cur, v = .slice (some ⟨g, 0, none⟩) xs.length cap ∧ base ≤ g ∧ ok g ∧ W.heap[g]? = some (.cells cur 54 (0, 0)) ∧ xs.length ≤ cap ∧ cap ≤ maxLen ∧ cur.size = cap * 3 ∧ cur.toList.take (xs.length * 3) = flat xs := by
  obtain ⟨h0, inner, ho, hr⟩ := h
  rcases ho.2 with ⟨rfl, hn⟩ | ⟨g, cap, cur, rfl, hb, hg, hn, hm, hs, ht⟩
  · exact .inl ⟨rfl, List.eq_nil_of_length_eq_zero hn⟩
  · exact .inr ⟨g, cap, cur, rfl, hb, h0 g rfl, hg, hn, hm, hs, by rw [← reps_inv _ _ hr]; exact ht⟩
theorem row_close {W : World} {base : Nat} {ok : Nat → Prop} {xs : List S54} {g cap n : Nat} {cur : Array Value} (hn0 : xs.length = n) (hb : base ≤ g) (ho : ok g) (hg : W.heap[g]? = some (.cells cur 54 (0, 0))) (hn : n ≤ cap) (hm : cap ≤ maxLen) (hs : cur.size = cap * 3) (ht : cur.toList.take (n * 3) = flat xs) :
    Kd.R k54 54 W base ok (.slice (some ⟨g, 0, none⟩) n cap) xs := by
  subst hn0
  exact ⟨fun k hk => by simp [Value.ownBlock] at hk; rw [← hk]; exact ho, flat xs, ⟨flat_len xs, .inr ⟨g, cap, cur, rfl, hb, hg, hn, hm, hs, ht⟩⟩, reps_flat xs⟩
theorem copy3 {P : Program} (w : World) (dT sT ty elem : TypeId) (g o dLen dCap : Nat) (a : Addr) (sLen sCap : Nat) (cur : Array Value) (t : TypeId) (cs : List Value)
    (hu : P.underlying dT = some (.slice elem)) (hs : (P.info? elem).map (·.size) = some 3) (hg : w.heap[g]? = some (.cells cur t (0, 0))) (hn : cs.length = Nat.min sLen dLen * 3)
    (hsrc : ∀ j v, cs[j]? = some v → w.cell? (a.add j) = some v) (hfit : o + cs.length ≤ cur.size) (h1 : ∀ v ∈ cs, v.oneCell' = true) :
    (Builtin.copy_ #[dT, sT] ty #[.slice (some ⟨g, o, none⟩) dLen dCap, .slice (some a) sLen sCap]).run P w =
      .ok (goInt (Nat.min sLen dLen)) (w.setRow g (cur.toList.take o ++ cs ++ cur.toList.drop (o + cs.length)).toArray) := by
  have hl := run_loadCells_list (P := P) w a cs hsrc
  have hst := run_storeCells_at P g o t cs 0 cur w hg (by simpa using hfit) h1
  cases hq : P.info? elem with
  | none => simp [hq] at hs
  | some i =>
    have hi : i.size = 3 := by simpa [hq] using hs
    simp [Builtin.copy_, run_underlying hu, Builtin.lenOf, Builtin.firstCells, sizeOf, typeInfo, hq, hi, ← hn, hl, hst]
theorem kc_one (w : World) (bx : Nat) (x : S54) (cur : Array Value) (hc : cur = #[.string x.f0, .int .i64 x.f1, .int .i64 x.f2]) (hx : w.heap[bx]? = some (.cells cur 54 (0, 0))) : ReadsRow (k54.K w) 3 w (some ⟨bx, 0, none⟩) 1 [x] := by
  subst hc
  refine ⟨rfl, by decide, fun _ => ⟨_, rfl, fun j p hj => ?_⟩⟩
  cases j with
  | zero =>
    obtain rfl : x = p := by simpa using hj
    refine ⟨lc x, rfl, k54_mk w x, fun i u hu => ?_⟩
    rw [Addr.add_lit]
    simp only [Nat.zero_mul, Nat.zero_add, World.cell?, hx]
    simpa [lc] using hu
  | succ j => simp at hj
set_option maxHeartbeats 4000000 in
set_option maxRecDepth 100000 in
theorem insert_end (ok : Nat → Prop) (w0 w : World) (base : Nat) (hok : ∀ k, w.heap.size ≤ k → ok k) (hB : Below base w0 w) (hbs : base ≤ w.heap.size) (A : Option Addr) (c : Nat) (xs : List S54) (x : S54) (bx : Nat)
    (hR : Kd.R k54 54 w base ok (.slice A xs.length c) xs) (hx : ReadsRow (k54.K w) 3 w (some ⟨bx, 0, none⟩) 1 [x]) (hl : xs.length ≤ 1000) :
    Calls Tryd.prog 45 #[.slice A xs.length c, .int .i64 xs.length, .slice (some ⟨bx, 0, none⟩) 1 1] w fun e w' => ∃ v', e = .returned v' ∧ Kd.R k54 54 w' base ok v' (xs ++ [x]) ∧ Below base w0 w' := by
  have hu54 := Tryd.underlying54
  have hcap : xs.length ≤ c := (Kd.R_reads' hR).2.1
  have HR := Aside0.mk hR
  have HX := Aside0.mk hx
  have HB := Aside0.mk hB
  have HO := Aside0.mk hok
  have HS := Aside0.mk hbs
  have HL := Aside0.mk hl
  clear hR hx hB hok hbs
  obtain ⟨n, hn⟩ : ∃ n, n = xs.length := ⟨_, rfl⟩
  rw [← hn] at hl hcap HR ⊢
  have HN := Aside0.mk hn
  clear hn
  have c1 : (n : Int) ≤ (c : Int) := by omega
  go_enter Tryd.func45, Tryd.ntmps45
  go_wp2_with (first | (at_builtin; refine Kd.R_append_rows k54 (w0 := w0) base rfl (.tmp 23) (.tmp 24) 25 54 (.agg #[(.string ⟨#[]⟩), (.int .i64 0), (.int .i64 0)]) 32 rfl Tryd.underlying25 info54 rfl (by decide) (by decide) (.slice A n c) xs [x] (some ⟨bx, 0, none⟩) 1 1 ok (fun _ => False) rfl rfl HR.out HX.out (fun x cs h => by obtain rfl := k54_open h; exact k54_mkM _ _ _ x) (fun _ h => h.elim) HO.out HB.out HS.out (by have := HL.out; omega) ?_; intro v1 w1 ho hb hg hat; clear hg hat))
  all_goals (go_ret; exact ⟨_, rfl, ho, hb⟩)
theorem cells_src (w : World) (g o : Nat) (cur : Array Value) (t : TypeId) (f : Nat × Nat) (cs : List Value) (hg : w.heap[g]? = some (.cells cur t f)) (hs : (cur.toList.drop o).take cs.length = cs) : ∀ j v, cs[j]? = some v → w.cell? ((⟨g, o, none⟩ : Addr).add j) = some v := fun j v hj => by
  rw [Addr.add_lit]
  have hlt : j < cs.length := (List.getElem?_eq_some_iff.1 hj).1
  rw [← hs, List.getElem?_take_of_lt hlt, List.getElem?_drop] at hj
  simpa [World.cell?, hg] using hj
set_option maxHeartbeats 8000000 in
set_option maxRecDepth 100000 in
theorem insert_grow (ok : Nat → Prop) (w0 w : World) (base : Nat) (hok : ∀ k, w.heap.size ≤ k → ok k) (hB : Below base w0 w) (hbs : base ≤ w.heap.size) (g c n k : Nat) (xs : List S54) (x : S54) (bx : Nat) (cur bc : Array Value)
    (hn : xs.length = n) (hl : n ≤ 1000) (hk : k < n) (hc : n ≤ c) (hroom : c < n + 1) (hg : w.heap[g]? = some (.cells cur 54 (0, 0))) (hcur : cur.toList.take (n * 3) = flat xs) (hx : w.heap[bx]? = some (.cells bc 54 (0, 0))) (hbc : bc.toList = lc x) :
    Calls Tryd.prog 45 #[.slice (some ⟨g, 0, none⟩) n c, .int .i64 k, .slice (some ⟨bx, 0, none⟩) 1 1] w fun e w' => ∃ v', e = .returned v' ∧ Kd.R k54 54 w' base ok v' (xs.take k ++ x :: xs.drop k) ∧ Below base w0 w' := by
  obtain ⟨i0, hi0, hz0, hzs, hzb⟩ := info_parts info54
  have hsz : (Tryd.prog.info? 54).map (·.size) = some 3 := by rw [hi0]; simp [hzs]
  have hgl : g < w.heap.size := (Array.getElem?_eq_some_iff.1 hg).1
  have hxl : bx < w.heap.size := (Array.getElem?_eq_some_iff.1 hx).1
  have lT : (flat (xs.take k)).length = k * 3 := by rw [flat_len, List.length_take]; omega
  have lD : (flat (xs.drop k)).length = (n - k) * 3 := by rw [flat_len, List.length_drop]; omega
  have hold : (Builtin.firstCells i0.size k (.slice (some ⟨g, 0, none⟩) k c)).run Tryd.prog w.drew = .ok (flat (xs.take k)).toArray w.drew := by
    rw [hzs]
    refine run_firstCells_some w.drew 3 k ⟨g, 0, none⟩ k c (flat (xs.take k)) lT (cells_src w.drew g 0 cur _ _ _ hg ?_)
    rw [List.drop_zero, lT, ← flat_take xs k (by omega), ← hcur, List.take_take]
    congr 1
    omega
  obtain ⟨G, hG⟩ : ∃ G, G = grownCap w (n + 1) c 54 := ⟨_, rfl⟩
  have hGn : n + 1 ≤ G := by rw [hG]; exact grownCap_ge w _ _ _
  have hGm : G ≤ maxLen := by rw [hG]; exact grownCap_le_maxLen w (n + 1) c 54 (by unfold maxLen; omega)
  obtain ⟨ROW, hROW, hRs, W1, hrz, hg1, hb1⟩ : ∃ ROW : Array Value, ROW.toList.take (k * 3) = flat (xs.take k) ∧ ROW.size = G * 3 ∧ ∃ W1, (∀ ty, (Builtin.append_ #[25, 3] ty #[.slice (some ⟨g, 0, none⟩) k c, .int .i64 ((n : Int) + 1 - (k : Int))]).run Tryd.prog w = .ok (.slice (some ⟨w.heap.size, 0, none⟩) (n + 1) G) W1) ∧ W1.heap[w.heap.size]? = some (.cells ROW 54 (0, 0)) ∧ Below w.heap.size w W1 := by
    refine ⟨(flat (xs.take k)).toArray ++ Builtin.zeroCells (Value.agg #[(.string ⟨#[]⟩), (.int .i64 0), (.int .i64 0)]).cells (n + 1 - k) ++ Builtin.zeroCells (Value.agg #[(.string ⟨#[]⟩), (.int .i64 0), (.int .i64 0)]).cells (G - (n + 1)), ?_, ?_, w.drew.alloc (.cells _ 54), fun ty => ?_, Array.getElem?_push_size, ((Below.refl w.heap.size w).drew).alloc (Nat.le_refl _) _⟩
    · simp only [Array.toList_append, List.append_assoc]
      rw [List.take_left' lT]
    · simp [Builtin.zeroCells, Value.cells, lT]
      omega
    · have h := Lib.run_append_grow_zeros w 25 3 ty 54 i0 _ .i64 .i64 Tryd.underlying25 Tryd.underlying3 hi0 hz0 (some ⟨g, 0, none⟩) k c (flat (xs.take k)) hold (n + 1 - k) (by omega) (by omega) (by omega) (by omega) (by rw [hzb]; omega) (by rw [hzb, show k + (n + 1 - k) = n + 1 by omega]; exact growslice_fits hroom (by omega))
      rw [show k + (n + 1 - k) = n + 1 by omega, ← hG] at h
      rw [show (n : Int) + 1 - (k : Int) = ((n + 1 - k : Nat) : Int) by omega]
      exact h
  clear hold hG
  obtain ⟨g', hg'⟩ : ∃ g', g' = w.heap.size := ⟨_, rfl⟩
  rw [← hg'] at hrz hg1
  obtain ⟨ROW1, hR1⟩ : ∃ R : Array Value, R = (ROW.toList.take (k * 3) ++ lc x ++ ROW.toList.drop (k * 3 + 3)).toArray := ⟨_, rfl⟩
  have z1 : ROW1.size = G * 3 := by rw [hR1]; simp [lc]; omega
  have hx1 : W1.heap[bx]? = some (.cells bc 54 (0, 0)) := (hb1.block bx hxl).trans hx
  have hgg : W1.heap[g]? = some (.cells cur 54 (0, 0)) := (hb1.block g hgl).trans hg
  have hcA : ∀ ty dc, (Builtin.copy_ #[25, 25] ty #[.slice (some ⟨g', k * 3, none⟩) (n + 1 - k) dc, .slice (some ⟨bx, 0, none⟩) 1 1]).run Tryd.prog W1 = .ok (goInt 1) (W1.setRow g' ROW1) := fun ty dc => by
    have h := copy3 W1 25 25 ty 54 g' (k * 3) (n + 1 - k) dc ⟨bx, 0, none⟩ 1 1 ROW 54 (lc x) Tryd.underlying25 hsz hg1 (by rw [show Nat.min 1 (n + 1 - k) = 1 from Nat.min_eq_left (by omega)]; rfl) (cells_src W1 bx 0 bc _ _ _ hx1 (by rw [hbc, List.drop_zero]; rfl)) (by simp [lc]; omega) (by intro v hv; simp [lc] at hv; rcases hv with rfl | rfl | rfl <;> rfl)
    rw [show Nat.min 1 (n + 1 - k) = 1 from Nat.min_eq_left (by omega)] at h
    rw [h, hR1]
    rfl
  obtain ⟨W2, hW2⟩ : ∃ W2, W2 = (W1.setRow g' ROW1).drew := ⟨_, rfl⟩
  have hg2 : W2.heap[g']? = some (.cells ROW1 54 (0, 0)) := by rw [hW2]; exact setRow_heap W1 g' ROW ROW1 _ _ hg1
  have hgg2 : W2.heap[g]? = some (.cells cur 54 (0, 0)) := by rw [hW2]; exact (setRow_other W1 g' g ROW1 (by omega)).trans hgg
  obtain ⟨ROW2, hR2⟩ : ∃ R : Array Value, R = (ROW1.toList.take ((k + 1) * 3) ++ flat (xs.drop k) ++ ROW1.toList.drop ((k + 1) * 3 + (n - k) * 3)).toArray := ⟨_, rfl⟩
  have z2 : ROW2.size = G * 3 := by rw [hR2]; simp [lD]; omega
  have hcB : ∀ ty dc sc, (Builtin.copy_ #[25, 25] ty #[.slice (some ⟨g', (k + 1) * 3, none⟩) (n - k) dc, .slice (some ⟨g, k * 3, none⟩) (n - k) sc]).run Tryd.prog W2 = .ok (goInt (n - k : Nat)) (W2.setRow g' ROW2) := fun ty dc sc => by
    have h := copy3 W2 25 25 ty 54 g' ((k + 1) * 3) (n - k) dc ⟨g, k * 3, none⟩ (n - k) sc ROW1 54 (flat (xs.drop k)) Tryd.underlying25 hsz hg2 (by rw [lD]; simp [Nat.min_def]) (cells_src W2 g (k * 3) cur _ _ _ hgg2 (by
      have e : (cur.toList.take (n * 3)).drop (k * 3) = flat (xs.drop k) := by rw [hcur, flat_drop xs k (by omega)]
      rw [lD, ← e, List.drop_take]
      congr 1
      omega)) (by rw [lD]; omega) (flat_one _)
    rw [show Nat.min (n - k) (n - k) = n - k by simp [Nat.min_def]] at h
    rw [h, hR2, lD]
  have hB2 : Below base w0 (W2.setRow g' ROW2) := by
    refine below_setRow ?_ (by omega) _
    rw [hW2]
    exact (below_setRow (hB.trans (hb1.mono hbs)) (by omega) _).drew
  have hg3 : (W2.setRow g' ROW2).heap[g']? = some (.cells ROW2 54 (0, 0)) := setRow_heap W2 g' ROW1 ROW2 _ _ hg2
  have hfin : ROW2.toList.take ((n + 1) * 3) = flat (xs.take k ++ x :: xs.drop k) := by
    have eR1 : ROW1.toList = flat (xs.take k) ++ (lc x ++ ROW.toList.drop (k * 3 + 3)) := by rw [hR1, hROW, List.append_assoc]
    have e1 : ROW1.toList.take ((k + 1) * 3) = flat (xs.take k) ++ lc x := by
      rw [eR1, ← List.append_assoc, List.take_left' (by rw [List.length_append, lT]; simp [lc]; omega)]
    rw [hR2, e1, flat_app, flat_cons]
    rw [List.take_left' (by rw [List.length_append, List.length_append, lT, lD]; simp [lc]; omega)]
    rw [List.append_assoc]
  have hfl : (xs.take k ++ x :: xs.drop k).length = n + 1 := by rw [List.length_append, List.length_take, List.length_cons, List.length_drop]; omega
  have HF := Aside0.mk (row_close (base := base) (ok := ok) hfl (show base ≤ g' by omega) (hok g' (by omega)) hg3 hGn hGm z2 hfin)
  have HB := Aside0.mk hB2
  have hz3 : (c : Int) < (n : Int) + 1 := by omega
  have hz2 : ¬ ((k : Int) = (n : Int)) := by omega
  have hb3 : (k : Int) ≤ (n : Int) := by omega
  have hb4 : (k : Int) ≤ (c : Int) := by omega
  have hw1 : IntKind.i64.wrap ((k : Int) + 1) = (k : Int) + 1 := by rw [IntKind.wrap_i64]; omega
  have hb1' : (0 : Int) ≤ (k : Int) + 1 := by omega
  have htn : ((k : Int) + 1).toNat = k + 1 := by omega
  have hin : k ≤ n := by omega
  have hGi : ¬ (G = k) := by omega
  have hGim : ¬ (G = k + 1) := by omega
  have hci : ¬ (c = k) := by omega
  have hu54 := Tryd.underlying54
  have HC1 : Aside0 (n + 1 ≤ G) := ⟨hGn⟩
  clear hfin hg3 hB2 hR1 hR2 hgg hgg2 hx1 hg2 hg1 hROW hRs z1 z2 lT lD hfl hcur hbc hx hg hi0 hz0 hzs hzb hGm hb1 hgl hxl hn hB hok hbs hg'
  subst hW2
  go_enter Tryd.func45, Tryd.ntmps45
  go_wp2_with (first
    | (at_builtin; refine Lib.wpList_append_run _ rfl _ _ _ _ rfl _ _ rfl rfl _ _ (hrz _) ?_)
    | (at_builtin; refine wpList_copy_runI _ rfl _ _ 25 25 rfl _ _ rfl rfl (hcA _ _) ?_))
  go_region_law (refine step_copy_runI rfl _ _ 25 25 rfl (.slice (some ⟨g', (k + 1) * 3, none⟩) (n - k) (G - (k + 1))) (.slice (some ⟨g, k * 3, none⟩) (n - k) (c - k)) (by simp [Act.eval, Act.put]) (by simp [Act.eval, Act.put]) (hcB 3 (G - (k + 1)) (c - k)) ?_)
  go_wp2
  go_ret
  exact ⟨_, rfl, HF.out, HB.out⟩
set_option maxHeartbeats 8000000 in
set_option maxRecDepth 100000 in
theorem insert_room (ok : Nat → Prop) (w0 w : World) (base : Nat) (hB : Below base w0 w) (g c n k : Nat) (hbg : base ≤ g) (hog : ok g) (xs : List S54) (x : S54) (bx : Nat) (cur bc : Array Value)
    (hn : xs.length = n) (hl : n ≤ 1000) (hk : k < n) (hroom : n + 1 ≤ c) (hcm : c ≤ maxLen) (hs : cur.size = c * 3) (hg : w.heap[g]? = some (.cells cur 54 (0, 0))) (hcur : cur.toList.take (n * 3) = flat xs) (hx : w.heap[bx]? = some (.cells bc 54 (0, 0))) (hbc : bc.toList = lc x) (hne : bx ≠ g) :
    Calls Tryd.prog 45 #[.slice (some ⟨g, 0, none⟩) n c, .int .i64 k, .slice (some ⟨bx, 0, none⟩) 1 1] w fun e w' => ∃ v', e = .returned v' ∧ Kd.R k54 54 w' base ok v' (xs.take k ++ x :: xs.drop k) ∧ Below base w0 w' := by
  obtain ⟨i0, hi0, hz0, hzs, hzb⟩ := info_parts info54
  have hsz : (Tryd.prog.info? 54).map (·.size) = some 3 := by rw [hi0]; simp [hzs]
  have hzr : ∀ w, (Go.sizeOf 54).run Tryd.prog w = .ok 3 w := fun w => by simp [sizeOf, typeInfo, hi0, hzs]
  have lD : (flat (xs.drop k)).length = (n - k) * 3 := by rw [flat_len, List.length_drop]; omega
  have lT : (flat (xs.take k)).length = k * 3 := by rw [flat_len, List.length_take]; omega
  have lb : bc.size = 3 := by rw [← Array.length_toList, hbc]; rfl
  have hov : ∀ lb cb, (callFunc 50 #[.slice (some ⟨bx, 0, none⟩) 1 1, .slice (some ⟨g, (k + 1) * 3, none⟩) lb cb]).run Tryd.prog w = .ok (.value (.bool false)) w := fun lb cb => by
    rw [run_callFunc_extern Tryd.func50 (by kernel_rfl) (by kernel_rfl) (by kernel_rfl) (e := Extern.SlicesOverlaps.overlaps #[25, 25] #[4]) (by kernel_rfl),
      Lib.run_overlaps_apart w 25 4 54 Tryd.underlying25 3 hzr ⟨bx, 0, none⟩ ⟨g, (k + 1) * 3, none⟩ 1 1 lb cb hne 54 54 bc.size cur.size (by simp [World.shape?, hx]) (by simp [World.shape?, hg]) (by omega) (by simp [World.frozen?, hx]) (by simp [World.frozen?, hx])]
    rfl
  obtain ⟨CUR1, hR1⟩ : ∃ R : Array Value, R = (cur.toList.take ((k + 1) * 3) ++ flat (xs.drop k) ++ cur.toList.drop ((k + 1) * 3 + (n - k) * 3)).toArray := ⟨_, rfl⟩
  have z1 : CUR1.size = c * 3 := by rw [hR1]; simp [lD]; omega
  obtain ⟨W1, hW1⟩ : ∃ W1, W1 = w.drew.setRow g CUR1 := ⟨_, rfl⟩
  have hcA : ∀ ty dc sc, (Builtin.copy_ #[25, 25] ty #[.slice (some ⟨g, (k + 1) * 3, none⟩) (n - k) dc, .slice (some ⟨g, k * 3, none⟩) (n + 1 - k) sc]).run Tryd.prog w.drew = .ok (goInt (n - k : Nat)) W1 := fun ty dc sc => by
    have hm : Nat.min (n + 1 - k) (n - k) = n - k := by simp only [Nat.min_def]; split <;> omega
    have h := copy3 w.drew 25 25 ty 54 g ((k + 1) * 3) (n - k) dc ⟨g, k * 3, none⟩ (n + 1 - k) sc cur 54 (flat (xs.drop k)) Tryd.underlying25 hsz hg (by rw [lD, hm]) (cells_src w.drew g (k * 3) cur _ _ _ hg (by
      have e : (cur.toList.take (n * 3)).drop (k * 3) = flat (xs.drop k) := by rw [hcur, flat_drop xs k (by omega)]
      rw [lD, ← e, List.drop_take]
      congr 1
      omega)) (by rw [lD]; omega) (flat_one _)
    rw [hm] at h
    rw [h, hW1, hR1, lD]
  have hg1 : W1.heap[g]? = some (.cells CUR1 54 (0, 0)) := by rw [hW1]; exact setRow_heap w.drew g cur CUR1 _ _ hg
  have hx1 : W1.heap[bx]? = some (.cells bc 54 (0, 0)) := by rw [hW1]; exact (setRow_other w.drew g bx CUR1 hne).trans hx
  have hB1 : Below base w0 W1 := by rw [hW1]; exact below_setRow hB.drew hbg _
  obtain ⟨CUR2, hR2⟩ : ∃ R : Array Value, R = (CUR1.toList.take (k * 3) ++ lc x ++ CUR1.toList.drop (k * 3 + 3)).toArray := ⟨_, rfl⟩
  have z2 : CUR2.size = c * 3 := by rw [hR2]; simp [lc]; omega
  have hcB : ∀ ty dc, (Builtin.copy_ #[25, 25] ty #[.slice (some ⟨g, k * 3, none⟩) (n + 1 - k) dc, .slice (some ⟨bx, 0, none⟩) 1 1]).run Tryd.prog W1 = .ok (goInt 1) (W1.setRow g CUR2) := fun ty dc => by
    have hm : Nat.min 1 (n + 1 - k) = 1 := Nat.min_eq_left (by omega)
    have h := copy3 W1 25 25 ty 54 g (k * 3) (n + 1 - k) dc ⟨bx, 0, none⟩ 1 1 CUR1 54 (lc x) Tryd.underlying25 hsz hg1 (by rw [hm]; rfl) (cells_src W1 bx 0 bc _ _ _ hx1 (by rw [hbc, List.drop_zero]; rfl)) (by simp [lc]; omega) (by intro v hv; simp [lc] at hv; rcases hv with rfl | rfl | rfl <;> rfl)
    rw [hm] at h
    rw [h, hR2]
    rfl
  have hB2 : Below base w0 (W1.setRow g CUR2) := below_setRow hB1 hbg _
  have hg2 : (W1.setRow g CUR2).heap[g]? = some (.cells CUR2 54 (0, 0)) := setRow_heap W1 g CUR1 CUR2 _ _ hg1
  have hfin : CUR2.toList.take ((n + 1) * 3) = flat (xs.take k ++ x :: xs.drop k) := by
    have e0 : cur.toList.take (k * 3) = flat (xs.take k) := by
      rw [← flat_take xs k (by omega), ← hcur, List.take_take]
      congr 1
      omega
    have l1 : (cur.toList.take ((k + 1) * 3)).length = (k + 1) * 3 := by simp; omega
    have e1 : CUR1.toList.take (k * 3) = flat (xs.take k) := by
      rw [hR1, ← e0]
      show List.take (k * 3) (_ ++ _ ++ _) = _
      rw [List.append_assoc, List.take_append_of_le_length (by rw [l1]; omega), List.take_take]
      congr 1
      omega
    have e2 : CUR1.toList.drop (k * 3 + 3) = flat (xs.drop k) ++ cur.toList.drop ((k + 1) * 3 + (n - k) * 3) := by
      rw [hR1]
      show List.drop (k * 3 + 3) (_ ++ _ ++ _) = _
      rw [List.append_assoc, List.drop_left' (by rw [l1]; omega)]
    rw [hR2, e1, e2]
    show List.take ((n + 1) * 3) (flat (xs.take k) ++ lc x ++ (flat (xs.drop k) ++ _)) = _
    rw [← List.append_assoc, List.take_left' (by rw [List.length_append, List.length_append, lT, lD]; simp [lc]; omega), flat_app, flat_cons, List.append_assoc]
  have hfl : (xs.take k ++ x :: xs.drop k).length = n + 1 := by rw [List.length_append, List.length_take, List.length_cons, List.length_drop]; omega
  have HF := Aside0.mk (row_close (base := base) (ok := ok) hfl hbg hog hg2 hroom hcm z2 hfin)
  have HB := Aside0.mk hB2
  have hz3 : ¬ ((c : Int) < (n : Int) + 1) := by omega
  have hz2 : ¬ ((k : Int) = (n : Int)) := by omega
  have hb3 : (k : Int) ≤ (n : Int) := by omega
  have hb4 : (k : Int) ≤ (c : Int) := by omega
  have hb5 : (n : Int) + 1 ≤ (c : Int) := by omega
  have hb6 : (k : Int) ≤ (n : Int) + 1 := by omega
  have hw1 : IntKind.i64.wrap ((k : Int) + 1) = (k : Int) + 1 := by rw [IntKind.wrap_i64]; omega
  have hb1' : (0 : Int) ≤ (k : Int) + 1 := by omega
  have hb2' : (0 : Int) ≤ (n : Int) + 1 := by omega
  have htn : ((k : Int) + 1).toNat = k + 1 := by omega
  have htn2 : ((n : Int) + 1).toNat = n + 1 := by omega
  have hin : k ≤ n := by omega
  have hcim : ¬ (c = k + 1) := by omega
  have hci : ¬ (c = k) := by omega
  have hu54 := Tryd.underlying54
  clear hW1 hfin hg2 hB2 hB1 hR1 hR2 hx1 hg1 z1 z2 lT lD lb hfl hcur hbc hx hg hi0 hz0 hzs hzb hzr hn hB hs hsz hog
  go_enter Tryd.func45, Tryd.ntmps45
  go_wp2_with (simp only [hov])
  go_region_law (refine step_copy_runI rfl _ _ 25 25 rfl (.slice (some ⟨g, (k + 1) * 3, none⟩) (n - k) (c - (k + 1))) (.slice (some ⟨g, k * 3, none⟩) (n + 1 - k) (c - k)) (by simp [Act.eval, Act.put]) (by simp [Act.eval, Act.put]) (hcA 3 (c - (k + 1)) (c - k)) ?_)
  go_wp2_with (at_builtin; refine wpList_copy_runI _ rfl _ _ 25 25 rfl _ _ rfl rfl (hcB _ _) ?_)

  go_ret
  exact ⟨_, rfl, HF.out, HB.out⟩
theorem insert_one (ok : Nat → Prop) (w0 w : World) (base : Nat) (hok : ∀ k, w.heap.size ≤ k → ok k) (hB : Below base w0 w) (hbs : base ≤ w.heap.size) (A : Option Addr) (c k : Nat) (xs : List S54) (x : S54) (bx : Nat) (bc : Array Value)
    (hR : Kd.R k54 54 w base ok (.slice A xs.length c) xs) (hk : k ≤ xs.length) (hx : w.heap[bx]? = some (.cells bc 54 (0, 0))) (hbc : bc = #[.string x.f0, .int .i64 x.f1, .int .i64 x.f2]) (hne : A ≠ some ⟨bx, 0, none⟩) (hl : xs.length ≤ 1000) :
    Calls Tryd.prog 45 #[.slice A xs.length c, .int .i64 k, .slice (some ⟨bx, 0, none⟩) 1 1] w fun e w' => ∃ v', e = .returned v' ∧ Kd.R k54 54 w' base ok v' (xs.take k ++ x :: xs.drop k) ∧ Below base w0 w' := by
  rcases Nat.lt_or_eq_of_le hk with h | rfl
  · rcases row_open hR with ⟨_, hn⟩ | ⟨g, cap, cur, ev, hb, hg0, hg, hn, hm, hs, ht⟩
    · rw [hn] at h
      exact absurd h (Nat.not_lt_zero _)
    · injection ev with ea eb ec
      subst ea
      subst ec
      by_cases hr : c < xs.length + 1
      · exact insert_grow ok w0 w base hok hB hbs g c xs.length k xs x bx cur bc rfl hl h hn hr hg ht hx (by rw [hbc]; rfl)
      · exact insert_room ok w0 w base hB g c xs.length k hb hg0 xs x bx cur bc rfl hl h (by omega) hm hs hg ht hx (by rw [hbc]; rfl) (fun e => hne (by rw [e]))
  · have h := insert_end ok w0 w base hok hB hbs A c xs x bx hR (kc_one w bx x bc hbc hx) hl
    rw [List.take_length, List.drop_length]
    exact h
end Go.Proofs.YtfgnaneajonapaaDoor.Pr

namespace Go.Proofs.YtfgnaneajonapaaDoor.Pu
set_option linter.unusedVariables false
def cutS : List UInt8 → List (List UInt8)
  | [] => [[]]
  | c :: s => if c = 47 then [] :: cutS s else ((c :: (cutS s).headD []) :: (cutS s).tail)
theorem cutS_ne : ∀ s, cutS s ≠ []
  | [] => by simp [cutS]
  | c :: s => by unfold cutS; split <;> simp
theorem index_cons (c : UInt8) (s : List UInt8) : Lib.index (c :: s) [47] = if c = 47 then 0 else if Lib.index s [47] = -1 then -1 else Lib.index s [47] + 1 := by
  rw [Lib.index]
  by_cases h : c = 47
  · subst h
    simp [List.isPrefixOf]
  · have h' : ¬ (47 : UInt8) = c := fun e => h e.symm
    simp [List.isPrefixOf, h, h']
theorem split_cut (s : List UInt8) : Lib.splitK [47] 0 (Lib.count s [47]) s = cutS s := by
  induction s with
  | nil => rfl
  | cons c s ih =>
    have hi := index_cons c s
    by_cases h : c = 47
    · subst h
      rw [if_pos rfl] at hi
      have hc := Lib.count_hit (s := 47 :: s) (sub := [47]) (i := 0) (by simp) hi
      have ed : (47 :: s).drop (0 + [(47 : UInt8)].length) = s := rfl
      rw [ed] at hc
      rw [hc, Nat.add_comm 1, Lib.splitK, hi]
      have e : cutS (47 :: s) = [] :: cutS s := by rw [cutS, if_pos rfl]
      rw [e, ← ih]
      rfl
    · rw [if_neg h] at hi
      have e : cutS (c :: s) = (c :: (cutS s).headD []) :: (cutS s).tail := by rw [cutS, if_neg h]
      by_cases h2 : Lib.index s [47] = -1
      · rw [if_pos h2] at hi
        rw [Lib.count_miss h2] at ih
        rw [Lib.count_miss hi, e, ← ih]
        rfl
      · rw [if_neg h2] at hi
        obtain ⟨i, hi2⟩ : ∃ i : Nat, Lib.index s [47] = i := ⟨(Lib.index s [47]).toNat, by have := Lib.index_ge s [47]; omega⟩
        rw [hi2] at hi
        have hc1 := Lib.count_hit (s := c :: s) (sub := [47]) (i := i + 1) (by simp) (by rw [hi]; rfl)
        have hc2 := Lib.count_hit (s := s) (sub := [47]) (i := i) (by simp) hi2
        have ed : (c :: s).drop (i + 1 + [(47 : UInt8)].length) = s.drop (i + [(47 : UInt8)].length) := rfl
        rw [ed, ← hc2] at hc1
        rw [hc1, e]
        rw [hc2, Nat.add_comm 1] at ih ⊢
        rw [← ih]
        have b1 : (Lib.index (c :: s) [47] == -1) = false := by rw [hi]; simp; omega
        have b2 : (Lib.index s [47] == -1) = false := by rw [hi2]; simp
        have t1 : (Lib.index (c :: s) [47]).toNat = i + 1 := by rw [hi]; omega
        have t2 : (Lib.index s [47]).toNat = i := by rw [hi2]; omega
        simp only [Lib.splitK, b1, b2, t1, t2]
        rfl
end Go.Proofs.YtfgnaneajonapaaDoor.Pu

namespace Go.Proofs.YtfgnaneajonapaaDoor.Pr
open Go.RowKit Go.Proofs.YtfgnaneajonapaaDoorW.PrintWords Go.Proofs.YtfgnaneajonapaaDoorW.PrintLast Go.Proofs.YtfgnaneajonapaaDoorW.PrintMore
attribute [local go_sem] max2_int min2_int max_two min_two max_three min_three max_four min_four
set_option linter.unusedVariables false
set_option linter.unusedSimpArgs false
def spec_l01In.f (a0 : Int) (a1 : Int) (a2 : Int) : Option (Bool) := if a0 ≥ a1 then (some (decide (a0 ≤ a2))) else (some false)
set_option maxHeartbeats 8000000 in
set_option maxRecDepth 100000 in
theorem spec_l01In.calls (a0 : Int) (a1 : Int) (a2 : Int) (r : Bool) (w : World) (h : spec_l01In.f a0 a1 a2 = some r) :
    Calls Tryd.prog 27 #[.int .i64 a0, .int .i64 a1, .int .i64 a2] w fun e w' => e = .returned (.bool r) ∧ Drawn0 w w' := by
  have H : (if a0 ≥ a1 then (some (decide (a0 ≤ a2))) else (some false)) = some r := h
  clear h
  by_cases c4 : a0 ≥ a1
  · rw [if_pos c4] at H
    have c4b0 : decide (a1 ≤ a0) = true := decide_eq_true c4
    clear c4
    obtain rfl := Option.some.inj H
    go_enter Tryd.func27, Tryd.ntmps27
    go_wp2
    go_ret
    exact ⟨FR, by repeat (first | exact Drawn0.refl _ | apply Drawn0.step)⟩
  · rw [if_neg c4] at H
    have c4b0 : decide (a1 ≤ a0) = false := decide_eq_false c4
    clear c4
    obtain rfl := Option.some.inj H
    go_enter Tryd.func27, Tryd.ntmps27
    go_wp2
    go_ret
    exact ⟨FR, by repeat (first | exact Drawn0.refl _ | apply Drawn0.step)⟩

end Go.Proofs.YtfgnaneajonapaaDoor.Pr

namespace Go.Proofs.YtfgnaneajonapaaDoor.Pr
open Go.RowKit Go.Proofs.YtfgnaneajonapaaDoorW.PrintWords Go.Proofs.YtfgnaneajonapaaDoorW.PrintLast Go.Proofs.YtfgnaneajonapaaDoorW.PrintMore
attribute [local go_sem] max2_int min2_int max_two min_two max_three min_three max_four min_four
set_option linter.unusedVariables false
set_option linter.unusedSimpArgs false
def spec_NameOk.l0 : Nat → ByteArray → Int → Option (Bool)
  | 0, _, _ => none
  | k + 1, x0, x3 => if x3 < (x0.size : Int) then (if 0 ≤ x3 then (if (bt x0 x3) < 97 then (if (bt x0 x3) < 48 then (some false) else (if (bt x0 x3) > 57 then (some false) else (spec_NameOk.l0 k x0 (wrap64 (x3 + 1))))) else (if (bt x0 x3) > 122 then (if (bt x0 x3) < 48 then (some false) else (if (bt x0 x3) > 57 then (some false) else (spec_NameOk.l0 k x0 (wrap64 (x3 + 1))))) else (spec_NameOk.l0 k x0 (wrap64 (x3 + 1))))) else (none)) else ((spec_l01In.f (x0.size : Int) 1 8).bind fun t104 => (some t104))
def spec_NameOk.f (k : Nat) (a0 : ByteArray) : Option (Bool) := spec_NameOk.l0 k a0 0
set_option maxHeartbeats 8000000 in
set_option maxRecDepth 100000 in
theorem spec_NameOk.calls (k : Nat) (a0 : ByteArray) (r : Bool) (w : World) (h : spec_NameOk.f k a0 = some r) :
    Calls Tryd.prog 58 #[.string a0] w fun e w' => e = .returned (.bool r) ∧ Drawn0 w w' := by
  have H : (spec_NameOk.l0 k a0 0) = some r := h
  clear h
  have H' := Aside0.mk H
  clear H
  go_enter Tryd.func58, Tryd.ntmps58
  go_wp2
  go_loopg [3] k (fun kq v3 w' => ∃ (x3_1 : Int), v3 = .int .i64 x3_1 ∧ Aside0 (spec_NameOk.l0 kq a0 x3_1 = some r) ∧ Aside0 (kq ≤ k) ∧ Drawn0 w w')
  case atStart => exact ⟨(0), FR, H', ⟨Nat.le_refl _⟩, by repeat (first | exact Drawn0.refl _ | apply Drawn0.step)⟩
  case round =>
    clear H'
    obtain ⟨x3_1, rfl, HA, HK1, ⟨m1, rfl⟩⟩ := hrel
    cases gk with
    | zero => exact absurd HA.out (by simp [spec_NameOk.l0])
    | succ k1 =>
      have H := HA.out
      clear HA
      simp only [spec_NameOk.l0] at H
      by_cases c2 : x3_1 < (a0.size : Int)
      · rw [if_pos c2] at H
        have c2b0 : decide (x3_1 < (a0.size : Int)) = true := decide_eq_true c2
        clear c2
        by_cases c3 : 0 ≤ x3_1
        · rw [if_pos c3] at H
          have c3b0 : decide (0 ≤ x3_1) = true := decide_eq_true c3
          clear c3
          by_cases c5 : (bt a0 x3_1) < 97
          · rw [if_pos c5] at H
            have c5b0 : decide ((bt a0 x3_1) < 97) = true := decide_eq_true c5
            clear c5
            by_cases c7 : (bt a0 x3_1) < 48
            · rw [if_pos c7] at H
              have c7b0 : decide ((bt a0 x3_1) < 48) = true := decide_eq_true c7
              clear c7
              obtain rfl := Option.some.inj H
              have p4 : 0 ≤ (x3_1 : Int) := DT
              have q4 : x3_1 < (a0.size : Int) := DT
              have hx4 := bt_at a0 x3_1
              replace p4 := eq_true p4
              replace q4 := eq_true q4
              have p6 : 0 ≤ (x3_1 : Int) := DT
              have q6 : x3_1 < (a0.size : Int) := DT
              have hx6 := bt_at a0 x3_1
              replace p6 := eq_true p6
              replace q6 := eq_true q6
              go_wp2
              go_ret
              exact ⟨FR, by repeat (first | exact Drawn0.refl _ | apply Drawn0.step)⟩
            · rw [if_neg c7] at H
              have c7b0 : decide ((bt a0 x3_1) < 48) = false := decide_eq_false c7
              clear c7
              by_cases c9 : (bt a0 x3_1) > 57
              · rw [if_pos c9] at H
                have c9b0 : decide (57 < (bt a0 x3_1)) = true := decide_eq_true c9
                clear c9
                obtain rfl := Option.some.inj H
                have p4 : 0 ≤ (x3_1 : Int) := DT
                have q4 : x3_1 < (a0.size : Int) := DT
                have hx4 := bt_at a0 x3_1
                replace p4 := eq_true p4
                replace q4 := eq_true q4
                have p6 : 0 ≤ (x3_1 : Int) := DT
                have q6 : x3_1 < (a0.size : Int) := DT
                have hx6 := bt_at a0 x3_1
                replace p6 := eq_true p6
                replace q6 := eq_true q6
                have p8 : 0 ≤ (x3_1 : Int) := DT
                have q8 : x3_1 < (a0.size : Int) := DT
                have hx8 := bt_at a0 x3_1
                replace p8 := eq_true p8
                replace q8 := eq_true q8
                go_wp2
                go_ret
                exact ⟨FR, by repeat (first | exact Drawn0.refl _ | apply Drawn0.step)⟩
              · rw [if_neg c9] at H
                have c9b0 : decide (57 < (bt a0 x3_1)) = false := decide_eq_false c9
                clear c9
                have H' := Aside0.mk H
                clear H
                have p4 : 0 ≤ (x3_1 : Int) := DT
                have q4 : x3_1 < (a0.size : Int) := DT
                have hx4 := bt_at a0 x3_1
                replace p4 := eq_true p4
                replace q4 := eq_true q4
                have p6 : 0 ≤ (x3_1 : Int) := DT
                have q6 : x3_1 < (a0.size : Int) := DT
                have hx6 := bt_at a0 x3_1
                replace p6 := eq_true p6
                replace q6 := eq_true q6
                have p8 : 0 ≤ (x3_1 : Int) := DT
                have q8 : x3_1 < (a0.size : Int) := DT
                have hx8 := bt_at a0 x3_1
                replace p8 := eq_true p8
                replace q8 := eq_true q8
                go_wp2
                go_roundg k1
                case measure => have := HK1.out; omega
                case rel => exact ⟨(wrap64 (x3_1 + 1)), FR, H', ⟨by have := HK1.out; omega⟩, by repeat (first | exact Drawn0.refl _ | apply Drawn0.step)⟩
          · rw [if_neg c5] at H
            have c5b0 : decide ((bt a0 x3_1) < 97) = false := decide_eq_false c5
            clear c5
            by_cases c11 : (bt a0 x3_1) > 122
            · rw [if_pos c11] at H
              have c11b0 : decide (122 < (bt a0 x3_1)) = true := decide_eq_true c11
              clear c11
              by_cases c13 : (bt a0 x3_1) < 48
              · rw [if_pos c13] at H
                have c13b0 : decide ((bt a0 x3_1) < 48) = true := decide_eq_true c13
                clear c13
                obtain rfl := Option.some.inj H
                have p4 : 0 ≤ (x3_1 : Int) := DT
                have q4 : x3_1 < (a0.size : Int) := DT
                have hx4 := bt_at a0 x3_1
                replace p4 := eq_true p4
                replace q4 := eq_true q4
                have p10 : 0 ≤ (x3_1 : Int) := DT
                have q10 : x3_1 < (a0.size : Int) := DT
                have hx10 := bt_at a0 x3_1
                replace p10 := eq_true p10
                replace q10 := eq_true q10
                have p12 : 0 ≤ (x3_1 : Int) := DT
                have q12 : x3_1 < (a0.size : Int) := DT
                have hx12 := bt_at a0 x3_1
                replace p12 := eq_true p12
                replace q12 := eq_true q12
                go_wp2
                go_ret
                exact ⟨FR, by repeat (first | exact Drawn0.refl _ | apply Drawn0.step)⟩
              · rw [if_neg c13] at H
                have c13b0 : decide ((bt a0 x3_1) < 48) = false := decide_eq_false c13
                clear c13
                by_cases c15 : (bt a0 x3_1) > 57
                · rw [if_pos c15] at H
                  have c15b0 : decide (57 < (bt a0 x3_1)) = true := decide_eq_true c15
                  clear c15
                  obtain rfl := Option.some.inj H
                  have p4 : 0 ≤ (x3_1 : Int) := DT
                  have q4 : x3_1 < (a0.size : Int) := DT
                  have hx4 := bt_at a0 x3_1
                  replace p4 := eq_true p4
                  replace q4 := eq_true q4
                  have p10 : 0 ≤ (x3_1 : Int) := DT
                  have q10 : x3_1 < (a0.size : Int) := DT
                  have hx10 := bt_at a0 x3_1
                  replace p10 := eq_true p10
                  replace q10 := eq_true q10
                  have p12 : 0 ≤ (x3_1 : Int) := DT
                  have q12 : x3_1 < (a0.size : Int) := DT
                  have hx12 := bt_at a0 x3_1
                  replace p12 := eq_true p12
                  replace q12 := eq_true q12
                  have p14 : 0 ≤ (x3_1 : Int) := DT
                  have q14 : x3_1 < (a0.size : Int) := DT
                  have hx14 := bt_at a0 x3_1
                  replace p14 := eq_true p14
                  replace q14 := eq_true q14
                  go_wp2
                  go_ret
                  exact ⟨FR, by repeat (first | exact Drawn0.refl _ | apply Drawn0.step)⟩
                · rw [if_neg c15] at H
                  have c15b0 : decide (57 < (bt a0 x3_1)) = false := decide_eq_false c15
                  clear c15
                  have H' := Aside0.mk H
                  clear H
                  have p4 : 0 ≤ (x3_1 : Int) := DT
                  have q4 : x3_1 < (a0.size : Int) := DT
                  have hx4 := bt_at a0 x3_1
                  replace p4 := eq_true p4
                  replace q4 := eq_true q4
                  have p10 : 0 ≤ (x3_1 : Int) := DT
                  have q10 : x3_1 < (a0.size : Int) := DT
                  have hx10 := bt_at a0 x3_1
                  replace p10 := eq_true p10
                  replace q10 := eq_true q10
                  have p12 : 0 ≤ (x3_1 : Int) := DT
                  have q12 : x3_1 < (a0.size : Int) := DT
                  have hx12 := bt_at a0 x3_1
                  replace p12 := eq_true p12
                  replace q12 := eq_true q12
                  have p14 : 0 ≤ (x3_1 : Int) := DT
                  have q14 : x3_1 < (a0.size : Int) := DT
                  have hx14 := bt_at a0 x3_1
                  replace p14 := eq_true p14
                  replace q14 := eq_true q14
                  go_wp2
                  go_roundg k1
                  case measure => have := HK1.out; omega
                  case rel => exact ⟨(wrap64 (x3_1 + 1)), FR, H', ⟨by have := HK1.out; omega⟩, by repeat (first | exact Drawn0.refl _ | apply Drawn0.step)⟩
            · rw [if_neg c11] at H
              have c11b0 : decide (122 < (bt a0 x3_1)) = false := decide_eq_false c11
              clear c11
              have H' := Aside0.mk H
              clear H
              have p4 : 0 ≤ (x3_1 : Int) := DT
              have q4 : x3_1 < (a0.size : Int) := DT
              have hx4 := bt_at a0 x3_1
              replace p4 := eq_true p4
              replace q4 := eq_true q4
              have p10 : 0 ≤ (x3_1 : Int) := DT
              have q10 : x3_1 < (a0.size : Int) := DT
              have hx10 := bt_at a0 x3_1
              replace p10 := eq_true p10
              replace q10 := eq_true q10
              go_wp2
              go_roundg k1
              case measure => have := HK1.out; omega
              case rel => exact ⟨(wrap64 (x3_1 + 1)), FR, H', ⟨by have := HK1.out; omega⟩, by repeat (first | exact Drawn0.refl _ | apply Drawn0.step)⟩
        · rw [if_neg c3] at H
          exact absurd H (by simp)
      · rw [if_neg c2] at H
        have c2b0 : decide (x3_1 < (a0.size : Int)) = false := decide_eq_false c2
        clear c2
        replace H := Option.bind_eq_some_iff.mp H
        obtain ⟨t104, A160, H⟩ := H
        replace H : (some t104) = some r := H
        have A16 := Aside0.mk A160
        clear A160
        obtain rfl := Option.some.inj H
        go_wp2_with (first | ((with_reducible refine gate_callee (f := 27) rfl ?_); refine GL (some 34) rfl rfl Tryd.func27 #[.int .i64 (a0.size : Int), .int .i64 1, .int .i64 8] rfl ?_; (with_reducible refine (spec_l01In.calls (a0.size : Int) 1 8 t104 _ A16.out).mono ?_); rintro e w' ⟨rfl, ⟨nd, rfl⟩⟩; refine ⟨_, rfl, ?_⟩))
        go_ret
        exact ⟨FR, by repeat (first | exact Drawn0.refl _ | apply Drawn0.step)⟩

end Go.Proofs.YtfgnaneajonapaaDoor.Pr

namespace Go.Proofs.YtfgnaneajonapaaDoor.Pr
open Go.RowKit Go.Proofs.YtfgnaneajonapaaDoorW.PrintWords Go.Proofs.YtfgnaneajonapaaDoorW.PrintLast Go.Proofs.YtfgnaneajonapaaDoorW.PrintMore
attribute [local go_sem] max2_int min2_int max_two min_two max_three min_three max_four min_four
set_option linter.unusedVariables false
set_option linter.unusedSimpArgs false
def impl_within.f (a0 : Int) (a1 : Int) (a2 : Int) : Option (Bool) := if a0 ≥ a1 then (some (decide (a0 ≤ a2))) else (some false)
set_option maxHeartbeats 8000000 in
set_option maxRecDepth 100000 in
theorem impl_within.calls (a0 : Int) (a1 : Int) (a2 : Int) (r : Bool) (w : World) (h : impl_within.f a0 a1 a2 = some r) :
    Calls Tryd.prog 30 #[.int .i64 a0, .int .i64 a1, .int .i64 a2] w fun e w' => e = .returned (.bool r) ∧ Drawn0 w w' := by
  have H : (if a0 ≥ a1 then (some (decide (a0 ≤ a2))) else (some false)) = some r := h
  clear h
  by_cases c4 : a0 ≥ a1
  · rw [if_pos c4] at H
    have c4b0 : decide (a1 ≤ a0) = true := decide_eq_true c4
    clear c4
    obtain rfl := Option.some.inj H
    go_enter Tryd.func30, Tryd.ntmps30
    go_wp2
    go_ret
    exact ⟨FR, by repeat (first | exact Drawn0.refl _ | apply Drawn0.step)⟩
  · rw [if_neg c4] at H
    have c4b0 : decide (a1 ≤ a0) = false := decide_eq_false c4
    clear c4
    obtain rfl := Option.some.inj H
    go_enter Tryd.func30, Tryd.ntmps30
    go_wp2
    go_ret
    exact ⟨FR, by repeat (first | exact Drawn0.refl _ | apply Drawn0.step)⟩

end Go.Proofs.YtfgnaneajonapaaDoor.Pr

namespace Go.Proofs.YtfgnaneajonapaaDoor.Pr
open Go.RowKit Go.Proofs.YtfgnaneajonapaaDoorW.PrintWords Go.Proofs.YtfgnaneajonapaaDoorW.PrintLast Go.Proofs.YtfgnaneajonapaaDoorW.PrintMore
attribute [local go_sem] max2_int min2_int max_two min_two max_three min_three max_four min_four
set_option linter.unusedVariables false
set_option linter.unusedSimpArgs false
def impl_NameOk.l0 : Nat → ByteArray → Int → Option (Bool)
  | 0, _, _ => none
  | k + 1, x0, x3 => if x3 < (x0.size : Int) then (if 0 ≤ x3 then (if (bt x0 x3) < 97 then (if (bt x0 x3) < 48 then (some false) else (if (bt x0 x3) > 57 then (some false) else (impl_NameOk.l0 k x0 (wrap64 (x3 + 1))))) else (if (bt x0 x3) > 122 then (if (bt x0 x3) < 48 then (some false) else (if (bt x0 x3) > 57 then (some false) else (impl_NameOk.l0 k x0 (wrap64 (x3 + 1))))) else (impl_NameOk.l0 k x0 (wrap64 (x3 + 1))))) else (none)) else ((impl_within.f (x0.size : Int) 1 8).bind fun t440 => (some t440))
def impl_NameOk.f (k : Nat) (a0 : ByteArray) : Option (Bool) := impl_NameOk.l0 k a0 0
set_option maxHeartbeats 8000000 in
set_option maxRecDepth 100000 in
theorem impl_NameOk.calls (k : Nat) (a0 : ByteArray) (r : Bool) (w : World) (h : impl_NameOk.f k a0 = some r) :
    Calls Tryd.prog 63 #[.string a0] w fun e w' => e = .returned (.bool r) ∧ Drawn0 w w' := by
  have H : (impl_NameOk.l0 k a0 0) = some r := h
  clear h
  have H' := Aside0.mk H
  clear H
  go_enter Tryd.func63, Tryd.ntmps63
  go_wp2
  go_loopg [3] k (fun kq v3 w' => ∃ (x3_1 : Int), v3 = .int .i64 x3_1 ∧ Aside0 (impl_NameOk.l0 kq a0 x3_1 = some r) ∧ Aside0 (kq ≤ k) ∧ Drawn0 w w')
  case atStart => exact ⟨(0), FR, H', ⟨Nat.le_refl _⟩, by repeat (first | exact Drawn0.refl _ | apply Drawn0.step)⟩
  case round =>
    clear H'
    obtain ⟨x3_1, rfl, HA, HK1, ⟨m1, rfl⟩⟩ := hrel
    cases gk with
    | zero => exact absurd HA.out (by simp [impl_NameOk.l0])
    | succ k1 =>
      have H := HA.out
      clear HA
      simp only [impl_NameOk.l0] at H
      by_cases c2 : x3_1 < (a0.size : Int)
      · rw [if_pos c2] at H
        have c2b0 : decide (x3_1 < (a0.size : Int)) = true := decide_eq_true c2
        clear c2
        by_cases c3 : 0 ≤ x3_1
        · rw [if_pos c3] at H
          have c3b0 : decide (0 ≤ x3_1) = true := decide_eq_true c3
          clear c3
          by_cases c5 : (bt a0 x3_1) < 97
          · rw [if_pos c5] at H
            have c5b0 : decide ((bt a0 x3_1) < 97) = true := decide_eq_true c5
            clear c5
            by_cases c6 : (bt a0 x3_1) < 48
            · rw [if_pos c6] at H
              have c6b0 : decide ((bt a0 x3_1) < 48) = true := decide_eq_true c6
              clear c6
              obtain rfl := Option.some.inj H
              have p4 : 0 ≤ (x3_1 : Int) := DT
              have q4 : x3_1 < (a0.size : Int) := DT
              have hx4 := bt_at a0 x3_1
              replace p4 := eq_true p4
              replace q4 := eq_true q4
              go_wp2
              go_ret
              exact ⟨FR, by repeat (first | exact Drawn0.refl _ | apply Drawn0.step)⟩
            · rw [if_neg c6] at H
              have c6b0 : decide ((bt a0 x3_1) < 48) = false := decide_eq_false c6
              clear c6
              by_cases c7 : (bt a0 x3_1) > 57
              · rw [if_pos c7] at H
                have c7b0 : decide (57 < (bt a0 x3_1)) = true := decide_eq_true c7
                clear c7
                obtain rfl := Option.some.inj H
                have p4 : 0 ≤ (x3_1 : Int) := DT
                have q4 : x3_1 < (a0.size : Int) := DT
                have hx4 := bt_at a0 x3_1
                replace p4 := eq_true p4
                replace q4 := eq_true q4
                go_wp2
                go_ret
                exact ⟨FR, by repeat (first | exact Drawn0.refl _ | apply Drawn0.step)⟩
              · rw [if_neg c7] at H
                have c7b0 : decide (57 < (bt a0 x3_1)) = false := decide_eq_false c7
                clear c7
                have H' := Aside0.mk H
                clear H
                have p4 : 0 ≤ (x3_1 : Int) := DT
                have q4 : x3_1 < (a0.size : Int) := DT
                have hx4 := bt_at a0 x3_1
                replace p4 := eq_true p4
                replace q4 := eq_true q4
                go_wp2
                go_roundg k1
                case measure => have := HK1.out; omega
                case rel => exact ⟨(wrap64 (x3_1 + 1)), FR, H', ⟨by have := HK1.out; omega⟩, by repeat (first | exact Drawn0.refl _ | apply Drawn0.step)⟩
          · rw [if_neg c5] at H
            have c5b0 : decide ((bt a0 x3_1) < 97) = false := decide_eq_false c5
            clear c5
            by_cases c8 : (bt a0 x3_1) > 122
            · rw [if_pos c8] at H
              have c8b0 : decide (122 < (bt a0 x3_1)) = true := decide_eq_true c8
              clear c8
              by_cases c9 : (bt a0 x3_1) < 48
              · rw [if_pos c9] at H
                have c9b0 : decide ((bt a0 x3_1) < 48) = true := decide_eq_true c9
                clear c9
                obtain rfl := Option.some.inj H
                have p4 : 0 ≤ (x3_1 : Int) := DT
                have q4 : x3_1 < (a0.size : Int) := DT
                have hx4 := bt_at a0 x3_1
                replace p4 := eq_true p4
                replace q4 := eq_true q4
                go_wp2
                go_ret
                exact ⟨FR, by repeat (first | exact Drawn0.refl _ | apply Drawn0.step)⟩
              · rw [if_neg c9] at H
                have c9b0 : decide ((bt a0 x3_1) < 48) = false := decide_eq_false c9
                clear c9
                by_cases c10 : (bt a0 x3_1) > 57
                · rw [if_pos c10] at H
                  have c10b0 : decide (57 < (bt a0 x3_1)) = true := decide_eq_true c10
                  clear c10
                  obtain rfl := Option.some.inj H
                  have p4 : 0 ≤ (x3_1 : Int) := DT
                  have q4 : x3_1 < (a0.size : Int) := DT
                  have hx4 := bt_at a0 x3_1
                  replace p4 := eq_true p4
                  replace q4 := eq_true q4
                  go_wp2
                  go_ret
                  exact ⟨FR, by repeat (first | exact Drawn0.refl _ | apply Drawn0.step)⟩
                · rw [if_neg c10] at H
                  have c10b0 : decide (57 < (bt a0 x3_1)) = false := decide_eq_false c10
                  clear c10
                  have H' := Aside0.mk H
                  clear H
                  have p4 : 0 ≤ (x3_1 : Int) := DT
                  have q4 : x3_1 < (a0.size : Int) := DT
                  have hx4 := bt_at a0 x3_1
                  replace p4 := eq_true p4
                  replace q4 := eq_true q4
                  go_wp2
                  go_roundg k1
                  case measure => have := HK1.out; omega
                  case rel => exact ⟨(wrap64 (x3_1 + 1)), FR, H', ⟨by have := HK1.out; omega⟩, by repeat (first | exact Drawn0.refl _ | apply Drawn0.step)⟩
            · rw [if_neg c8] at H
              have c8b0 : decide (122 < (bt a0 x3_1)) = false := decide_eq_false c8
              clear c8
              have H' := Aside0.mk H
              clear H
              have p4 : 0 ≤ (x3_1 : Int) := DT
              have q4 : x3_1 < (a0.size : Int) := DT
              have hx4 := bt_at a0 x3_1
              replace p4 := eq_true p4
              replace q4 := eq_true q4
              go_wp2
              go_roundg k1
              case measure => have := HK1.out; omega
              case rel => exact ⟨(wrap64 (x3_1 + 1)), FR, H', ⟨by have := HK1.out; omega⟩, by repeat (first | exact Drawn0.refl _ | apply Drawn0.step)⟩
        · rw [if_neg c3] at H
          exact absurd H (by simp)
      · rw [if_neg c2] at H
        have c2b0 : decide (x3_1 < (a0.size : Int)) = false := decide_eq_false c2
        clear c2
        replace H := Option.bind_eq_some_iff.mp H
        obtain ⟨t440, A110, H⟩ := H
        replace H : (some t440) = some r := H
        have A11 := Aside0.mk A110
        clear A110
        obtain rfl := Option.some.inj H
        go_wp2_with (first | ((with_reducible refine gate_callee (f := 30) rfl ?_); refine GL (some 30) rfl rfl Tryd.func30 #[.int .i64 (a0.size : Int), .int .i64 1, .int .i64 8] rfl ?_; (with_reducible refine (impl_within.calls (a0.size : Int) 1 8 t440 _ A11.out).mono ?_); rintro e w' ⟨rfl, ⟨nd, rfl⟩⟩; refine ⟨_, rfl, ?_⟩))
        go_ret
        exact ⟨FR, by repeat (first | exact Drawn0.refl _ | apply Drawn0.step)⟩

end Go.Proofs.YtfgnaneajonapaaDoor.Pr

namespace Go.Proofs.YtfgnaneajonapaaDoor.Pu
open Go.RowKit Go.Proofs.YtfgnaneajonapaaDoorW.PrintWords Go.Proofs.YtfgnaneajonapaaDoor.Pr Go.Proofs.YtfgnaneajonapaaDoor.Evs
set_option linter.unusedVariables false
def okc (c : UInt8) : Bool := decide ((97 ≤ (c.toNat : Int) ∧ (c.toNat : Int) ≤ 122) ∨ (48 ≤ (c.toNat : Int) ∧ (c.toNat : Int) ≤ 57))
def nameL (l : List UInt8) : Bool := l.all okc && decide (1 ≤ l.length ∧ l.length ≤ 8)
def isNamed : List UInt8 → Bool
  | [] => false
  | c :: r => decide (c = 47) && (!r.isEmpty && (decide ((cutS r).length ≤ 4) && (cutS r).all nameL))
theorem size_len (s : ByteArray) : s.data.toList.length = s.size := by rw [Array.length_toList]; rfl
theorem bt_nat (s : ByteArray) (i : Nat) (c : UInt8) (r : List UInt8) (h : s.data.toList.drop i = c :: r) : bt s (i : Int) = (c.toNat : Int) := by
  have hi : i < s.data.toList.length := by
    rcases Nat.lt_or_ge i s.data.toList.length with h1 | h1
    · exact h1
    · rw [List.drop_eq_nil_of_le h1] at h; cases h
  have hs : i < s.size := by rw [← size_len]; exact hi
  have e := List.drop_eq_getElem_cons hi
  rw [e] at h
  injection h with h1 h2
  unfold bt
  rw [dif_pos (by simpa using hs)]
  rw [← h1]
  rfl
theorem drop_size (s : ByteArray) (i : Nat) (hi : i < s.size) : ∃ c r, s.data.toList.drop i = c :: r ∧ s.data.toList.drop (i + 1) = r := by
  have h : i < s.data.toList.length := by rw [size_len]; exact hi
  exact ⟨_, _, List.drop_eq_getElem_cons h, rfl⟩
theorem impl_loop (s : ByteArray) (hs : s.size < 9223372036854775807) (m : Nat) : ∀ (i : Nat), i + m = s.size → Ev (fun k => impl_NameOk.l0 k s (i : Int)) ((s.data.toList.drop i).all okc && decide (1 ≤ s.size ∧ s.size ≤ 8)) := by
  induction m with
  | zero =>
    intro i hi
    have e : s.data.toList.drop i = [] := List.drop_eq_nil_of_le (by rw [size_len]; omega)
    rw [e]
    refine ev_step (fun k => impl_NameOk.l0.eq_2 _ _ k) (ev_neg (by omega) ?_)
    refine ev_const ?_
    unfold impl_within.f
    by_cases h1 : (s.size : Int) ≥ 1
    · rw [if_pos h1]
      simp only [Option.bind_some, List.all_nil, Bool.true_and]
      congr 1
      by_cases h2 : (s.size : Int) ≤ 8
      · rw [decide_eq_true h2, decide_eq_true (by omega)]
      · rw [decide_eq_false h2, decide_eq_false (by omega)]
    · rw [if_neg h1]
      simp only [Option.bind_some, List.all_nil, Bool.true_and]
      rw [decide_eq_false (by omega)]
  | succ m ih =>
    intro i hi
    obtain ⟨c, r, hd, hr⟩ := drop_size s i (by omega)
    have hb := bt_nat s i c r hd
    have ih' := ih (i + 1) (by omega)
    rw [hr] at ih'
    have ew : wrap64 ((i : Int) + 1) = ((i + 1 : Nat) : Int) := by rw [wrap_in (by omega) (by omega)]; rfl
    rw [hd, List.all_cons]
    refine ev_step (fun k => impl_NameOk.l0.eq_2 _ _ k) (ev_pos (by omega) (ev_pos (by omega) ?_))
    rw [hb, ew]
    have yes : okc c = true → Ev (fun k => impl_NameOk.l0 k s ((i + 1 : Nat) : Int)) ((okc c && r.all okc) && decide (1 ≤ s.size ∧ s.size ≤ 8)) := fun h => by rw [h, Bool.true_and]; exact ih'
    have no : okc c = false → Ev (fun _ => some false) ((okc c && r.all okc) && decide (1 ≤ s.size ∧ s.size ≤ 8)) := fun h => by rw [h, Bool.false_and, Bool.false_and]; exact ev_some _
    by_cases c1 : (c.toNat : Int) < 97
    · refine ev_pos c1 ?_
      by_cases c2 : (c.toNat : Int) < 48
      · exact ev_pos c2 (no (decide_eq_false (by omega)))
      · by_cases c3 : (c.toNat : Int) > 57
        · exact ev_neg c2 (ev_pos c3 (no (decide_eq_false (by omega))))
        · exact ev_neg c2 (ev_neg c3 (yes (decide_eq_true (by omega))))
    · refine ev_neg c1 ?_
      by_cases c2 : (c.toNat : Int) > 122
      · have c3 : ¬ (c.toNat : Int) < 48 := by omega
        have c4 : (c.toNat : Int) > 57 := by omega
        exact ev_pos c2 (ev_neg c3 (ev_pos c4 (no (decide_eq_false (by omega)))))
      · exact ev_neg c2 (yes (decide_eq_true (by omega)))
theorem impl_NameOk_ev (s : ByteArray) (hs : s.size < 9223372036854775807) : Ev (fun k => impl_NameOk.f k s) (nameL s.data.toList) := by
  have h := impl_loop s hs s.size 0 (by omega)
  rw [List.drop_zero] at h
  unfold impl_NameOk.f nameL
  rw [size_len]
  exact h
theorem spec_loop (s : ByteArray) (hs : s.size < 9223372036854775807) (m : Nat) : ∀ (i : Nat), i + m = s.size → Ev (fun k => spec_NameOk.l0 k s (i : Int)) ((s.data.toList.drop i).all okc && decide (1 ≤ s.size ∧ s.size ≤ 8)) := by
  induction m with
  | zero =>
    intro i hi
    have e : s.data.toList.drop i = [] := List.drop_eq_nil_of_le (by rw [size_len]; omega)
    rw [e]
    refine ev_step (fun k => spec_NameOk.l0.eq_2 _ _ k) (ev_neg (by omega) ?_)
    refine ev_const ?_
    unfold spec_l01In.f
    by_cases h1 : (s.size : Int) ≥ 1
    · rw [if_pos h1]
      simp only [Option.bind_some, List.all_nil, Bool.true_and]
      congr 1
      by_cases h2 : (s.size : Int) ≤ 8
      · rw [decide_eq_true h2, decide_eq_true (by omega)]
      · rw [decide_eq_false h2, decide_eq_false (by omega)]
    · rw [if_neg h1]
      simp only [Option.bind_some, List.all_nil, Bool.true_and]
      rw [decide_eq_false (by omega)]
  | succ m ih =>
    intro i hi
    obtain ⟨c, r, hd, hr⟩ := drop_size s i (by omega)
    have hb := bt_nat s i c r hd
    have ih' := ih (i + 1) (by omega)
    rw [hr] at ih'
    have ew : wrap64 ((i : Int) + 1) = ((i + 1 : Nat) : Int) := by rw [wrap_in (by omega) (by omega)]; rfl
    rw [hd, List.all_cons]
    refine ev_step (fun k => spec_NameOk.l0.eq_2 _ _ k) (ev_pos (by omega) (ev_pos (by omega) ?_))
    rw [hb, ew]
    have yes : okc c = true → Ev (fun k => spec_NameOk.l0 k s ((i + 1 : Nat) : Int)) ((okc c && r.all okc) && decide (1 ≤ s.size ∧ s.size ≤ 8)) := fun h => by rw [h, Bool.true_and]; exact ih'
    have no : okc c = false → Ev (fun _ => some false) ((okc c && r.all okc) && decide (1 ≤ s.size ∧ s.size ≤ 8)) := fun h => by rw [h, Bool.false_and, Bool.false_and]; exact ev_some _
    by_cases c1 : (c.toNat : Int) < 97
    · refine ev_pos c1 ?_
      by_cases c2 : (c.toNat : Int) < 48
      · exact ev_pos c2 (no (decide_eq_false (by omega)))
      · by_cases c3 : (c.toNat : Int) > 57
        · exact ev_neg c2 (ev_pos c3 (no (decide_eq_false (by omega))))
        · exact ev_neg c2 (ev_neg c3 (yes (decide_eq_true (by omega))))
    · refine ev_neg c1 ?_
      by_cases c2 : (c.toNat : Int) > 122
      · have c3 : ¬ (c.toNat : Int) < 48 := by omega
        have c4 : (c.toNat : Int) > 57 := by omega
        exact ev_pos c2 (ev_neg c3 (ev_pos c4 (no (decide_eq_false (by omega)))))
      · exact ev_neg c2 (yes (decide_eq_true (by omega)))
theorem spec_NameOk_ev (s : ByteArray) (hs : s.size < 9223372036854775807) : Ev (fun k => spec_NameOk.f k s) (nameL s.data.toList) := by
  have h := spec_loop s hs s.size 0 (by omega)
  rw [List.drop_zero] at h
  unfold spec_NameOk.f nameL
  rw [size_len]
  exact h
end Go.Proofs.YtfgnaneajonapaaDoor.Pu

namespace Go.Proofs.YtfgnaneajonapaaDoor.Pr
open Go.RowKit Go.Proofs.YtfgnaneajonapaaDoorW.PrintWords Go.Proofs.YtfgnaneajonapaaDoorW.PrintLast Go.Proofs.YtfgnaneajonapaaDoorW.PrintMore
attribute [local go_sem] max2_int min2_int max_two min_two max_three min_three max_four min_four
set_option linter.unusedVariables false
set_option linter.unusedSimpArgs false
mutual
def spec_SplitPath.j0 : Nat → ByteArray → List ByteArray → Bool → Option (List ByteArray × Bool)
  | 0, _, _, _ => none
  | k + 1, x0, x4, x15 => if x15 = true then (some (x4, false)) else (if x0.toList = ([47] : List UInt8) then (some (x4, true)) else (spec_SplitPath.l0 k x0 x4 1 1))
def spec_SplitPath.l0 : Nat → ByteArray → List ByteArray → Int → Int → Option (List ByteArray × Bool)
  | 0, _, _, _, _ => none
  | k + 1, x0, x4, x5, x6 => if x6 ≤ (x0.size : Int) then (if x6 < (x0.size : Int) then (if 0 ≤ x6 then (spec_SplitPath.j2 k x0 x4 x5 x6 ((bt x0 x6) != 47)) else (none)) else (spec_SplitPath.j2 k x0 x4 x5 x6 false)) else (if (x4.length : Int) > 4 then (some ((([] : List ByteArray)), false)) else (some (x4, true)))
def spec_SplitPath.j2 : Nat → ByteArray → List ByteArray → Int → Int → Bool → Option (List ByteArray × Bool)
  | 0, _, _, _, _, _ => none
  | k + 1, x0, x4, x5, x6, x35 => if x35 = true then (spec_SplitPath.l0 k x0 x4 x5 (wrap64 (x6 + 1))) else (if 0 ≤ x5 then (if x5 ≤ x6 then (if x6 ≤ (x0.size : Int) then ((spec_NameOk.f k (x0.extract (x5 : Int).toNat (x6 : Int).toNat)).bind fun t111 => (if t111 = true then (if x4.length < 8796093022208 then (spec_SplitPath.l0 k x0 (x4 ++ [x0.extract (x5 : Int).toNat (x6 : Int).toNat]) (wrap64 (x6 + 1)) (wrap64 (x6 + 1))) else (none)) else (some ((([] : List ByteArray)), false)))) else (none)) else (none)) else (none))
end
def spec_SplitPath.f (k : Nat) (a0 : ByteArray) : Option (List ByteArray × Bool) := (some (([] : List ByteArray) : List ByteArray)).bind fun y105 => (if (a0.size : Int) = 0 then (spec_SplitPath.j0 k a0 y105 true) else (if 0 < (a0.size : Int) then (spec_SplitPath.j0 k a0 y105 ((bt a0 0) != 47)) else (none)))
set_option maxHeartbeats 8000000 in
set_option maxRecDepth 100000 in
theorem spec_SplitPath.calls (k : Nat) (a0 : ByteArray) (r1 : List ByteArray) (r2 : Bool) (w : World) (h : spec_SplitPath.f k a0 = some (r1, r2)) :
    Calls Tryd.prog 52 #[.string a0] w fun e w' => ∃ v0_ : Value, e = .returned (.tuple #[v0_, .bool r2]) ∧ Kd.R Kd.string 9 w' w.heap.size (fun _ => True) v0_ r1 ∧ Below w.heap.size w w' := by
  have HB := Aside0.mk (Below.refl w.heap.size w)
  have H : ((some (([] : List ByteArray) : List ByteArray)).bind fun y105 => (if (a0.size : Int) = 0 then (spec_SplitPath.j0 k a0 y105 true) else (if 0 < (a0.size : Int) then (spec_SplitPath.j0 k a0 y105 ((bt a0 0) != 47)) else (none)))) = some (r1, r2) := h
  clear h
  obtain ⟨y105, hy105⟩ : ∃ y_ : List ByteArray, y_ = (([] : List ByteArray)) := ⟨_, rfl⟩
  replace H : (if (a0.size : Int) = 0 then (spec_SplitPath.j0 k a0 y105 true) else (if 0 < (a0.size : Int) then (spec_SplitPath.j0 k a0 y105 ((bt a0 0) != 47)) else (none))) = some (r1, r2) := by first | (rw [hy105]; with_reducible exact H) | (have H2_ := (Option.bind_some _ _).symm.trans H; rw [hy105]; with_reducible exact H2_) | (have H2_ := (Option.bind_some _ _).symm.trans H; with_reducible exact H2_) | with_reducible exact H | (rw [hy105]; exact H) | exact H
  have Ny105 := Aside0.mk hy105
  clear hy105
  have HC2 := Aside0.mk H
  clear H
  go_enter Tryd.func52, Tryd.ntmps52
  go_upto_region 2 with (first | ((with_reducible refine gate_dst (N := 7) rfl ?_); refine Kd.R_lit Kd.string _ 9 ?hg (N := 7) ?hd (xs := ([] : List ByteArray)) (inner := []) (ok := fun _ => True) (okp := fun _ => True) ?hr ?hp (fun _ hk => hk) trivial (Below.refl _ _) (Nat.le_refl _) (by simp) ?_; (case hd => rfl); (case hg => rfl); (case hr => first | (go_simp; done) | (go_simp; rfl)); (case hp => exact (Reps.none _ _)); intro v106 w3 ho4 hb hg_ hnew_; clear hg_ hnew_; (first | rw [← Ny105.out] at ho4 | (simp only [Int.reduceToNat] at ho4; rw [← Ny105.out] at ho4)); have HO107 := Aside0.mk (Kd.R_lower ho4 (below_size (BB HB.out))); replace HB := Aside0.mk (below_step (BB HB.out) hb); clear hb ho4))
  (try simp only [Act.put, List.setIfInBounds_toArray, List.set_cons_zero, List.set_cons_succ])
  go_cut [15] (fun v15 wc => ∃ (kq : Nat) (x15_1 : Bool), v15 = .bool x15_1 ∧ Aside0 (spec_SplitPath.j0 kq a0 y105 x15_1 = some (r1, r2)) ∧ Aside0 (kq ≤ k) ∧ Aside0 (Kd.R Kd.string 9 wc w.heap.size (fun _ => True) v106 y105) ∧ Aside0 (Below w.heap.size w wc))
  case first =>
    have H := HC2.out
    clear HC2
    by_cases c5 : (a0.size : Int) = 0
    · rw [if_pos c5] at H
      have c5b0 : ((a0.size : Int) == 0) = true := beq_iff_eq.mpr c5
      have c5b1 : ((a0.size : Int) != 0) = false := bne_eq_false_iff_eq.mpr c5
      clear c5
      (first | rw [c5b0] | (simp only [i64_w, i32_w]; rw [c5b0]) | skip)
      have H' := Aside0.mk H
      clear H
      go_wp2
      go_meet
      case rel => exact ⟨_, (true), FR, H', ⟨by first | omega | exact Nat.le_refl _⟩, ⟨(RR HO107.out)⟩, ⟨(BB HB.out)⟩⟩
    · rw [if_neg c5] at H
      have c5b0 : ((a0.size : Int) == 0) = false := beq_eq_false_iff_ne.mpr c5
      have c5b1 : ((a0.size : Int) != 0) = true := bne_iff_ne.mpr c5
      (first | rw [c5b0] | (simp only [i64_w, i32_w]; rw [c5b0]) | skip)
      by_cases c6 : 0 < (a0.size : Int)
      · rw [if_pos c6] at H
        have c6b0 : decide (0 < (a0.size : Int)) = true := decide_eq_true c6
        have c6b1 : decide (0 < a0.size) = true := decide_eq_true (by omega)
        clear c6
        have H' := Aside0.mk H
        clear H
        have p7 : 0 ≤ (0 : Int) := (by omega)
        have q7 : 0 < a0.size := (by have : (0 : Int) < (a0.size : Int) := DT; omega)
        have hx7 : ∀ h : 0 < a0.size, ((a0[0]'h).toNat : Int) = bt a0 0 := bt_at a0 0
        clear p7
        have qi7 : (0 < (a0.size : Int)) = True := eq_true DT
        replace q7 := eq_true q7
        go_wp2
        go_meet
        case rel => exact ⟨_, (((bt a0 0) != 47)), FR, H', ⟨by first | omega | exact Nat.le_refl _⟩, ⟨(RR HO107.out)⟩, ⟨(BB HB.out)⟩⟩
      · rw [if_neg c6] at H
        exact absurd H (by simp)
  case rest =>
    clear HC2
    try clear p2
    try clear c5
    try clear c5b0
    try clear c5b1
    try clear c6
    try clear c6b0
    try clear c6b1
    try clear p7
    try clear q7
    try clear hx7
    try clear qi7
    try clear p7
    try clear q7
    obtain ⟨kq, x15_1, rfl, HA, HJ1, HO_4, HB⟩ := hcut
    cases kq with
    | zero => exact absurd HA.out (by simp [spec_SplitPath.j0])
    | succ kj1 =>
      have H := HA.out
      clear HA
      simp only [spec_SplitPath.j0] at H
      by_cases c8 : x15_1 = true
      · subst c8
        have H1 : (some (y105, false)) = some (r1, r2) := by rw [if_pos rfl] at H; exact H
        clear H
        have H := H1
        clear H1
        simp only [Option.some.injEq, Prod.mk.injEq] at H
        obtain ⟨rfl, rfl⟩ := H
        go_wp2
        go_ret2
        exact ⟨_, ER, by (with_reducible repeat (first | apply Kd.R_alloc | apply Kd.R_drewN | apply Kd.R_drew)); exact HO_4.out, (BB HB.out)⟩
      · replace c8 := Bool.eq_false_iff.mpr c8
        subst c8
        have H1 : (if a0.toList = ([47] : List UInt8) then (some (y105, true)) else (spec_SplitPath.l0 kj1 a0 y105 1 1)) = some (r1, r2) := by rw [if_neg (show ¬ (false = true) by decide)] at H; exact H
        clear H
        have H := H1
        clear H1
        by_cases c9 : a0.toList = ([47] : List UInt8)
        · rw [if_pos c9] at H
          have c9b0 : (a0.toList == ([47] : List UInt8)) = true := beq_iff_eq.mpr c9
          have c9b1 : (a0.toList != ([47] : List UInt8)) = false := bne_eq_false_iff_eq.mpr c9
          clear c9
          simp only [Option.some.injEq, Prod.mk.injEq] at H
          obtain ⟨rfl, rfl⟩ := H
          go_wp2
          go_ret2
          exact ⟨_, ER, by (with_reducible repeat (first | apply Kd.R_alloc | apply Kd.R_drewN | apply Kd.R_drew)); exact HO_4.out, (BB HB.out)⟩
        · rw [if_neg c9] at H
          have c9b0 : (a0.toList == ([47] : List UInt8)) = false := beq_eq_false_iff_ne.mpr c9
          have c9b1 : (a0.toList != ([47] : List UInt8)) = true := bne_iff_ne.mpr c9
          have H' := Aside0.mk H
          clear H
          go_wp2
          go_loopg [4, 5, 6] kj1 (fun kq v4 v5 v6 w' => ∃ (x4_2 : List ByteArray) (x5_2 : Int) (x6_2 : Int), v5 = .int .i64 x5_2 ∧ v6 = .int .i64 x6_2 ∧ Aside0 (spec_SplitPath.l0 kq a0 x4_2 x5_2 x6_2 = some (r1, r2)) ∧ Aside0 (kq ≤ kj1) ∧ Aside0 (Kd.R Kd.string 9 w' w.heap.size (fun _ => True) v4 x4_2) ∧ Aside0 (Below w.heap.size w w'))
          case atStart => exact ⟨(y105), (1), (1), FR, FR, H', ⟨Nat.le_refl _⟩, ⟨(RR HO_4.out)⟩, ⟨(BB HB.out)⟩⟩
          case round =>
            clear H'
            try clear p2
            try clear c5
            try clear c5b0
            try clear c5b1
            try clear c6
            try clear c6b0
            try clear c6b1
            try clear p7
            try clear q7
            try clear hx7
            try clear qi7
            try clear c8
            try clear c9
            try clear c9b0
            try clear c9b1
            try clear p2
            try clear p7
            try clear q7
            obtain ⟨x4_2, x5_2, x6_2, rfl, rfl, HA, HK2, HO_4, HB⟩ := hrel
            cases gk with
            | zero => exact absurd HA.out (by simp [spec_SplitPath.l0])
            | succ k2 =>
              have H := HA.out
              clear HA
              simp only [spec_SplitPath.l0] at H
              by_cases c10 : x6_2 ≤ (a0.size : Int)
              · rw [if_pos c10] at H
                have c10b0 : decide (x6_2 ≤ (a0.size : Int)) = true := decide_eq_true c10
                clear c10
                have HC11 := Aside0.mk H
                clear H
                go_upto_region 10 with (fail)
                go_cut [35] (fun v35 wc => ∃ (kq : Nat) (x35_10 : Bool), v35 = .bool x35_10 ∧ Aside0 (spec_SplitPath.j2 kq a0 x4_2 x5_2 x6_2 x35_10 = some (r1, r2)) ∧ Aside0 (kq ≤ k2) ∧ Aside0 (Kd.R Kd.string 9 wc w.heap.size (fun _ => True) u4 x4_2) ∧ Aside0 (Below w.heap.size w wc))
                case first =>
                  have H := HC11.out
                  clear HC11
                  by_cases c12 : x6_2 < (a0.size : Int)
                  · rw [if_pos c12] at H
                    have c12b0 : decide (x6_2 < (a0.size : Int)) = true := decide_eq_true c12
                    clear c12
                    (first | rw [c12b0] | (simp only [i64_w, i32_w]; rw [c12b0]) | skip)
                    by_cases c13 : 0 ≤ x6_2
                    · rw [if_pos c13] at H
                      have c13b0 : decide (0 ≤ x6_2) = true := decide_eq_true c13
                      clear c13
                      have H' := Aside0.mk H
                      clear H
                      have p14 : 0 ≤ (x6_2 : Int) := DT
                      have q14 : x6_2 < (a0.size : Int) := DT
                      have hx14 := bt_at a0 x6_2
                      replace p14 := eq_true p14
                      replace q14 := eq_true q14
                      go_wp2
                      go_meet
                      case rel => exact ⟨_, (((bt a0 x6_2) != 47)), FR, H', ⟨by have := HJ1.out; have := HK2.out; first | omega | exact Nat.le_refl _⟩, ⟨(RR HO_4.out)⟩, ⟨(BB HB.out)⟩⟩
                    · rw [if_neg c13] at H
                      exact absurd H (by simp)
                  · rw [if_neg c12] at H
                    have c12b0 : decide (x6_2 < (a0.size : Int)) = false := decide_eq_false c12
                    clear c12
                    (first | rw [c12b0] | (simp only [i64_w, i32_w]; rw [c12b0]) | skip)
                    have H' := Aside0.mk H
                    clear H
                    go_wp2
                    go_meet
                    case rel => exact ⟨_, (false), FR, H', ⟨by have := HJ1.out; have := HK2.out; first | omega | exact Nat.le_refl _⟩, ⟨(RR HO_4.out)⟩, ⟨(BB HB.out)⟩⟩
                case rest =>
                  clear HC11
                  try clear c1
                  try clear p1
                  try clear q1
                  try clear hx1
                  try clear p2
                  try clear c5
                  try clear c5b0
                  try clear c5b1
                  try clear c6
                  try clear c6b0
                  try clear c6b1
                  try clear p7
                  try clear q7
                  try clear hx7
                  try clear qi7
                  try clear c8
                  try clear c9
                  try clear c9b0
                  try clear c9b1
                  try clear c10
                  try clear c10b0
                  try clear c12
                  try clear c12b0
                  try clear c13
                  try clear c13b0
                  try clear p14
                  try clear q14
                  try clear hx14
                  try clear p14
                  try clear p2
                  try clear p7
                  try clear q14
                  try clear q7
                  obtain ⟨kq, x35_10, rfl, HA, HJ10, HO_4, HB⟩ := hcut
                  cases kq with
                  | zero => exact absurd HA.out (by simp [spec_SplitPath.j2])
                  | succ kj10 =>
                    have H := HA.out
                    clear HA
                    simp only [spec_SplitPath.j2] at H
                    by_cases c15 : x35_10 = true
                    · subst c15
                      have H1 : (spec_SplitPath.l0 kj10 a0 x4_2 x5_2 (wrap64 (x6_2 + 1))) = some (r1, r2) := by rw [if_pos rfl] at H; exact H
                      clear H
                      have H := H1
                      clear H1
                      have H' := Aside0.mk H
                      clear H
                      go_wp2
                      go_roundg kj10
                      case measure => have := HJ1.out; have := HK2.out; have := HJ10.out; omega
                      case rel => exact ⟨(x4_2), (x5_2), (wrap64 (x6_2 + 1)), FR, FR, H', ⟨by have := HJ1.out; have := HK2.out; have := HJ10.out; omega⟩, ⟨(RR HO_4.out)⟩, ⟨(BB HB.out)⟩⟩
                    · replace c15 := Bool.eq_false_iff.mpr c15
                      subst c15
                      have H1 : (if 0 ≤ x5_2 then (if x5_2 ≤ x6_2 then (if x6_2 ≤ (a0.size : Int) then ((spec_NameOk.f kj10 (a0.extract (x5_2 : Int).toNat (x6_2 : Int).toNat)).bind fun t111 => (if t111 = true then (if x4_2.length < 8796093022208 then (spec_SplitPath.l0 kj10 a0 (x4_2 ++ [a0.extract (x5_2 : Int).toNat (x6_2 : Int).toNat]) (wrap64 (x6_2 + 1)) (wrap64 (x6_2 + 1))) else (none)) else (some ((([] : List ByteArray)), false)))) else (none)) else (none)) else (none)) = some (r1, r2) := by rw [if_neg (show ¬ (false = true) by decide)] at H; exact H
                      clear H
                      have H := H1
                      clear H1
                      by_cases c16 : 0 ≤ x5_2
                      · rw [if_pos c16] at H
                        have c16b0 := eq_true c16
                        have c16b1 : decide (0 ≤ x5_2) = true := decide_eq_true c16
                        clear c16
                        by_cases c17 : x5_2 ≤ x6_2
                        · rw [if_pos c17] at H
                          have c17b0 := eq_true c17
                          have c17b1 : decide (x5_2 ≤ x6_2) = true := decide_eq_true c17
                          clear c17
                          by_cases c18 : x6_2 ≤ (a0.size : Int)
                          · rw [if_pos c18] at H
                            have c18b0 := eq_true c18
                            have c18b1 : decide (x6_2 ≤ (a0.size : Int)) = true := decide_eq_true c18
                            clear c18
                            replace H := Option.bind_eq_some_iff.mp H
                            obtain ⟨t111, A190, H⟩ := H
                            replace H : (if t111 = true then (if x4_2.length < 8796093022208 then (spec_SplitPath.l0 kj10 a0 (x4_2 ++ [a0.extract (x5_2 : Int).toNat (x6_2 : Int).toNat]) (wrap64 (x6_2 + 1)) (wrap64 (x6_2 + 1))) else (none)) else (some ((([] : List ByteArray)), false))) = some (r1, r2) := H
                            have A19 := Aside0.mk A190
                            clear A190
                            by_cases c20 : t111 = true
                            · subst c20
                              have H1 : (if x4_2.length < 8796093022208 then (spec_SplitPath.l0 kj10 a0 (x4_2 ++ [a0.extract (x5_2 : Int).toNat (x6_2 : Int).toNat]) (wrap64 (x6_2 + 1)) (wrap64 (x6_2 + 1))) else (none)) = some (r1, r2) := by rw [if_pos rfl] at H; exact H
                              clear H
                              have H := H1
                              clear H1
                              have c21b0 := eq_true (DT : 0 ≤ x5_2)
                              have c22b0 := eq_true (DT : x5_2 ≤ x6_2)
                              have c23b0 := eq_true (DT : x6_2 ≤ (a0.size : Int))
                              by_cases c24 : x4_2.length < 8796093022208
                              · rw [if_pos c24] at H
                                have LMc24 := Aside0.mk c24
                                clear c24
                                obtain ⟨y112, hy112⟩ : ∃ y_ : List ByteArray, y_ = (x4_2 ++ [a0.extract (x5_2 : Int).toNat (x6_2 : Int).toNat]) := ⟨_, rfl⟩
                                replace H : (spec_SplitPath.l0 kj10 a0 y112 (wrap64 (x6_2 + 1)) (wrap64 (x6_2 + 1))) = some (r1, r2) := by first | (rw [hy112]; with_reducible exact H) | (have H2_ := (Option.bind_some _ _).symm.trans H; rw [hy112]; with_reducible exact H2_) | (have H2_ := (Option.bind_some _ _).symm.trans H; with_reducible exact H2_) | with_reducible exact H | (rw [hy112]; exact H) | exact H
                                have Ny112 := Aside0.mk hy112
                                clear hy112
                                have H' := Aside0.mk H
                                clear H
                                go_wp2_with (first | ((with_reducible refine gate_callee (f := 58) rfl ?_); refine GL (some 40) rfl rfl Tryd.func58 #[.string (a0.extract (x5_2 : Int).toNat (x6_2 : Int).toNat)] rfl ?_; (with_reducible refine (spec_NameOk.calls kj10 (a0.extract (x5_2 : Int).toNat (x6_2 : Int).toNat) true _ A19.out).mono ?_); rintro e w' ⟨rfl, ⟨nd, rfl⟩⟩; refine ⟨_, rfl, ?_⟩) | ((with_reducible refine gate_builtin (b := .append) (xs := #[.tmp 43, .tmp 48]) rfl ?_); at_builtin; refine Kd.R_append Kd.string (w0 := w) w.heap.size rfl (.tmp 43) (.tmp 48) 78 9 (.string ⟨#[]⟩) 16 rfl Tryd.underlying78 info9 rfl (by decide) (by omega) u4 x4_2 (a0.extract (x5_2 : Int).toNat (x6_2 : Int).toNat) [.string (a0.extract (x5_2 : Int).toNat (x6_2 : Int).toNat)] (fun _ => True) (fun _ => False) rfl rfl ?aP (fun _ hk => hk.elim) ?aF ?aO ?aB ?aS ?aL ?_; (case aP => exact rfl); (case aB => exact (BB HB.out)); (case aF => exact (fun _ _ => trivial)); (case aO => exact (RR HO_4.out)); (case aS => exact (below_size (BB HB.out))); (case aL => have := LMc24.out; omega); intro v113 w25 ho hb hg hat; rw [← Ny112.out] at ho; have HO114 := Aside0.mk (ho); replace HB := Aside0.mk (hb); clear HO_4; clear ho hb hg hat))
                                go_roundg kj10
                                case measure => have := HJ1.out; have := HK2.out; have := HJ10.out; omega
                                case rel => exact ⟨(y112), (wrap64 (x6_2 + 1)), (wrap64 (x6_2 + 1)), FR, FR, H', ⟨by have := HJ1.out; have := HK2.out; have := HJ10.out; omega⟩, ⟨(RR HO114.out)⟩, ⟨(BB HB.out)⟩⟩
                              · rw [if_neg c24] at H
                                exact absurd H (by simp)
                            · replace c20 := Bool.eq_false_iff.mpr c20
                              subst c20
                              have H1 : (some ((([] : List ByteArray)), false)) = some (r1, r2) := by rw [if_neg (show ¬ (false = true) by decide)] at H; exact H
                              clear H
                              have H := H1
                              clear H1
                              obtain ⟨y115, hy115⟩ : ∃ y_ : List ByteArray, y_ = (([] : List ByteArray)) := ⟨_, rfl⟩
                              replace H : (some (y115, false)) = some (r1, r2) := by first | (rw [hy115]; with_reducible exact H) | (have H2_ := (Option.bind_some _ _).symm.trans H; rw [hy115]; with_reducible exact H2_) | (have H2_ := (Option.bind_some _ _).symm.trans H; with_reducible exact H2_) | with_reducible exact H | (rw [hy115]; exact H) | exact H
                              have Ny115 := Aside0.mk hy115
                              clear hy115
                              simp only [Option.some.injEq, Prod.mk.injEq] at H
                              obtain ⟨rfl, rfl⟩ := H
                              go_wp2_with (first | ((with_reducible refine gate_callee (f := 58) rfl ?_); refine GL (some 40) rfl rfl Tryd.func58 #[.string (a0.extract (x5_2 : Int).toNat (x6_2 : Int).toNat)] rfl ?_; (with_reducible refine (spec_NameOk.calls kj10 (a0.extract (x5_2 : Int).toNat (x6_2 : Int).toNat) false _ A19.out).mono ?_); rintro e w' ⟨rfl, ⟨nd, rfl⟩⟩; refine ⟨_, rfl, ?_⟩) | ((with_reducible refine gate_dst (N := 42) rfl ?_); refine Kd.R_lit Kd.string _ 9 ?hg (N := 42) ?hd (xs := ([] : List ByteArray)) (inner := []) (ok := fun _ => True) (okp := fun _ => True) ?hr ?hp (fun _ hk => hk) trivial (Below.refl _ _) (Nat.le_refl _) (by simp) ?_; (case hd => rfl); (case hg => rfl); (case hr => first | (go_simp; done) | (go_simp; rfl)); (case hp => exact (Reps.none _ _)); intro v116 w26 ho27 hb hg_ hnew_; clear hg_ hnew_; (first | rw [← Ny115.out] at ho27 | (simp only [Int.reduceToNat] at ho27; rw [← Ny115.out] at ho27)); have HO117 := Aside0.mk (Kd.R_lower (Kd.R_new' ho27 (Kd.R_lt (RR HO_4.out))) (below_size (BB HB.out))); replace HO_4 := Aside0.mk (Kd.R_elder' (RR HO_4.out) (Kd.R_base ho27) hb); replace HB := Aside0.mk (below_step (BB HB.out) hb); clear hb ho27))
                              go_ret2
                              exact ⟨_, ER, by (with_reducible repeat (first | apply Kd.R_alloc | apply Kd.R_drewN | apply Kd.R_drew)); exact Kd.R_mono HO117.out (fun _ hk => trivial), (BB HB.out)⟩
                          · rw [if_neg c18] at H
                            exact absurd H (by simp)
                        · rw [if_neg c17] at H
                          exact absurd H (by simp)
                      · rw [if_neg c16] at H
                        exact absurd H (by simp)
              · rw [if_neg c10] at H
                have c10b0 : decide (x6_2 ≤ (a0.size : Int)) = false := decide_eq_false c10
                clear c10
                by_cases c28 : (x4_2.length : Int) > 4
                · rw [if_pos c28] at H
                  have c28b0 : decide (4 < (x4_2.length : Int)) = true := decide_eq_true c28
                  have c28b1 : decide (4 < x4_2.length) = true := decide_eq_true (by omega)
                  clear c28
                  obtain ⟨y108, hy108⟩ : ∃ y_ : List ByteArray, y_ = (([] : List ByteArray)) := ⟨_, rfl⟩
                  replace H : (some (y108, false)) = some (r1, r2) := by first | (rw [hy108]; with_reducible exact H) | (have H2_ := (Option.bind_some _ _).symm.trans H; rw [hy108]; with_reducible exact H2_) | (have H2_ := (Option.bind_some _ _).symm.trans H; with_reducible exact H2_) | with_reducible exact H | (rw [hy108]; exact H) | exact H
                  have Ny108 := Aside0.mk hy108
                  clear hy108
                  simp only [Option.some.injEq, Prod.mk.injEq] at H
                  obtain ⟨rfl, rfl⟩ := H
                  obtain ⟨Ao29, co29, eo29⟩ := Kd.R_slice HO_4.out
                  subst eo29
                  go_wp2_with (first | ((with_reducible refine gate_dst (N := 55) rfl ?_); refine Kd.R_lit Kd.string _ 9 ?hg (N := 55) ?hd (xs := ([] : List ByteArray)) (inner := []) (ok := fun _ => True) (okp := fun _ => True) ?hr ?hp (fun _ hk => hk) trivial (Below.refl _ _) (Nat.le_refl _) (by simp) ?_; (case hd => rfl); (case hg => rfl); (case hr => first | (go_simp; done) | (go_simp; rfl)); (case hp => exact (Reps.none _ _)); intro v109 w30 ho31 hb hg_ hnew_; clear hg_ hnew_; (first | rw [← Ny108.out] at ho31 | (simp only [Int.reduceToNat] at ho31; rw [← Ny108.out] at ho31)); have HO110 := Aside0.mk (Kd.R_lower (Kd.R_new' ho31 (Kd.R_lt (RR HO_4.out))) (below_size (BB HB.out))); replace HO_4 := Aside0.mk (Kd.R_elder' (RR HO_4.out) (Kd.R_base ho31) hb); replace HB := Aside0.mk (below_step (BB HB.out) hb); clear hb ho31))
                  go_ret2
                  exact ⟨_, ER, by (with_reducible repeat (first | apply Kd.R_alloc | apply Kd.R_drewN | apply Kd.R_drew)); exact Kd.R_mono HO110.out (fun _ hk => trivial), (BB HB.out)⟩
                · rw [if_neg c28] at H
                  have c28b0 : decide (4 < (x4_2.length : Int)) = false := decide_eq_false c28
                  have c28b1 : decide (4 < x4_2.length) = false := decide_eq_false (by omega)
                  clear c28
                  simp only [Option.some.injEq, Prod.mk.injEq] at H
                  obtain ⟨rfl, rfl⟩ := H
                  obtain ⟨Ao32, co32, eo32⟩ := Kd.R_slice HO_4.out
                  subst eo32
                  go_wp2
                  go_ret2
                  exact ⟨_, ER, by (with_reducible repeat (first | apply Kd.R_alloc | apply Kd.R_drewN | apply Kd.R_drew)); exact HO_4.out, (BB HB.out)⟩

end Go.Proofs.YtfgnaneajonapaaDoor.Pr

namespace Go.Proofs.YtfgnaneajonapaaDoor.Pr
open Go.RowKit Go.Proofs.YtfgnaneajonapaaDoorW.PrintWords Go.Proofs.YtfgnaneajonapaaDoorW.PrintLast Go.Proofs.YtfgnaneajonapaaDoorW.PrintMore
attribute [local go_sem] max2_int min2_int max_two min_two max_three min_three max_four min_four
set_option linter.unusedVariables false
set_option linter.unusedSimpArgs false
def spec_JoinPath.l0 : Nat → List ByteArray → ByteArray → Int → Option (ByteArray)
  | 0, _, _, _ => none
  | k + 1, x0, x3, x4 => if x4 < (x0.length : Int) then (if x3.size + 1 ≤ 9223372036854775807 then (if 0 ≤ x4 then (if (x3 ++ (⟨#[47]⟩ : ByteArray)).size + (rdOf ByteArray.empty x0 x4).size ≤ 9223372036854775807 then (spec_JoinPath.l0 k x0 ((x3 ++ (⟨#[47]⟩ : ByteArray)) ++ (rdOf ByteArray.empty x0 x4)) (wrap64 (x4 + 1))) else (none)) else (none)) else (none)) else (some x3)
def spec_JoinPath.f (k : Nat) (l0 : List ByteArray) : Option (ByteArray) := if (l0.length : Int) = 0 then (some (⟨#[47]⟩ : ByteArray)) else (spec_JoinPath.l0 k l0 (⟨#[]⟩ : ByteArray) 0)
set_option maxHeartbeats 8000000 in
set_option maxRecDepth 100000 in
theorem spec_JoinPath.calls (k : Nat) (A0 : Option Addr) (c0 : Nat) (l0 : List ByteArray) (r : ByteArray) (w : World) (hr0 : Kd.C Kd.string w A0 l0.length l0) (hc0 : l0.length ≤ c0) (h : spec_JoinPath.f k l0 = some r) :
    Calls Tryd.prog 53 #[.slice A0 l0.length c0] w fun e w' => e = .returned (.string r) ∧ Drawn0 w w' := by
  have HR0 := Aside0.mk hr0
  have HC0 := Aside0.mk hc0
  clear hr0 hc0
  have H : (if (l0.length : Int) = 0 then (some (⟨#[47]⟩ : ByteArray)) else (spec_JoinPath.l0 k l0 (⟨#[]⟩ : ByteArray) 0)) = some r := h
  clear h
  by_cases c2 : (l0.length : Int) = 0
  · rw [if_pos c2] at H
    have c2b0 : ((l0.length : Int) == 0) = true := beq_iff_eq.mpr c2
    have c2b1 : ((l0.length : Int) != 0) = false := bne_eq_false_iff_eq.mpr c2
    clear c2
    obtain rfl := Option.some.inj H
    go_enter Tryd.func53, Tryd.ntmps53
    go_wp2
    go_ret
    exact ⟨FR, by repeat (first | exact Drawn0.refl _ | apply Drawn0.step)⟩
  · rw [if_neg c2] at H
    have c2b0 : ((l0.length : Int) == 0) = false := beq_eq_false_iff_ne.mpr c2
    have c2b1 : ((l0.length : Int) != 0) = true := bne_iff_ne.mpr c2
    have c2b2 : ¬ (l0 = []) := fun h_ => c2 (by rw [h_]; rfl)
    have H' := Aside0.mk H
    clear H
    go_enter Tryd.func53, Tryd.ntmps53
    go_wp2
    go_loopg [3, 4] k (fun kq v3 v4 w' => ∃ (x3_1 : ByteArray) (x4_1 : Int), v3 = .string x3_1 ∧ v4 = .int .i64 x4_1 ∧ Aside0 (spec_JoinPath.l0 kq l0 x3_1 x4_1 = some r) ∧ Aside0 (kq ≤ k) ∧ Drawn0 w w')
    case atStart => exact ⟨((⟨#[]⟩ : ByteArray)), (0), FR, FR, H', ⟨Nat.le_refl _⟩, by repeat (first | exact Drawn0.refl _ | apply Drawn0.step)⟩
    case round =>
      clear H'
      try clear c2
      try clear c2b0
      try clear c2b1
      try clear c2b2
      try clear p2
      obtain ⟨x3_1, x4_1, rfl, rfl, HA, HK1, ⟨m1, rfl⟩⟩ := hrel
      cases gk with
      | zero => exact absurd HA.out (by simp [spec_JoinPath.l0])
      | succ k1 =>
        have H := HA.out
        clear HA
        simp only [spec_JoinPath.l0] at H
        by_cases c3 : x4_1 < (l0.length : Int)
        · rw [if_pos c3] at H
          have c3b0 : decide (x4_1 < (l0.length : Int)) = true := decide_eq_true c3
          clear c3
          by_cases c4 : x3_1.size + 1 ≤ 9223372036854775807
          · rw [if_pos c4] at H
            have c4b0 := eq_true c4
            have c4b1 : decide (x3_1.size + 1 ≤ 9223372036854775807) = true := decide_eq_true c4
            try have c4b2 : (9223372036854775807 < x3_1.size + 1) = False := eq_false (Nat.not_lt.2 c4)
            by_cases c5 : 0 ≤ x4_1
            · rw [if_pos c5] at H
              have c5b0 : decide (0 ≤ x4_1) = true := decide_eq_true c5
              clear c5
              by_cases c6 : (x3_1 ++ (⟨#[47]⟩ : ByteArray)).size + (rdOf ByteArray.empty l0 x4_1).size ≤ 9223372036854775807
              · rw [if_pos c6] at H
                have c6b0 := eq_true c6
                have c6b1 : decide ((x3_1 ++ (⟨#[47]⟩ : ByteArray)).size + (rdOf ByteArray.empty l0 x4_1).size ≤ 9223372036854775807) = true := decide_eq_true c6
                try have c6b2 : (9223372036854775807 < (x3_1 ++ (⟨#[47]⟩ : ByteArray)).size + (rdOf ByteArray.empty l0 x4_1).size) = False := eq_false (Nat.not_lt.2 c6)
                have H' := Aside0.mk H
                clear H
                have p118 : 0 ≤ (x4_1 : Int) := DT
                have q118 : x4_1 < (l0.length : Int) := DT
                obtain ⟨ad118, e118, hx118_0⟩ := Kd.at_string HR0.out x4_1 p118 q118
                cases e118
                replace p118 := eq_true p118
                replace q118 := eq_true q118
                go_wp2
                go_roundg k1
                case measure => have := HK1.out; omega
                case rel => exact ⟨((x3_1 ++ (⟨#[47]⟩ : ByteArray)) ++ (rdOf ByteArray.empty l0 x4_1)), (wrap64 (x4_1 + 1)), FR, FR, H', ⟨by have := HK1.out; omega⟩, by repeat (first | exact Drawn0.refl _ | apply Drawn0.step)⟩
              · rw [if_neg c6] at H
                exact absurd H (by simp)
            · rw [if_neg c5] at H
              exact absurd H (by simp)
          · rw [if_neg c4] at H
            exact absurd H (by simp)
        · rw [if_neg c3] at H
          have c3b0 : decide (x4_1 < (l0.length : Int)) = false := decide_eq_false c3
          clear c3
          obtain rfl := Option.some.inj H
          go_wp2
          go_ret
          exact ⟨FR, by repeat (first | exact Drawn0.refl _ | apply Drawn0.step)⟩

end Go.Proofs.YtfgnaneajonapaaDoor.Pr

namespace Go.Proofs.YtfgnaneajonapaaDoor.Pr
open Go.RowKit Go.Proofs.YtfgnaneajonapaaDoorW.PrintWords Go.Proofs.YtfgnaneajonapaaDoorW.PrintLast Go.Proofs.YtfgnaneajonapaaDoorW.PrintMore
attribute [local go_sem] max2_int min2_int max_two min_two max_three min_three max_four min_four
set_option linter.unusedVariables false
set_option linter.unusedSimpArgs false
def spec_ParentPath.f (k : Nat) (a0 : ByteArray) : Option (ByteArray × ByteArray × Bool) := (spec_SplitPath.f k a0).bind fun bt119 => (if bt119.2 = true then (if (bt119.1.length : Int) = 0 then (some ((⟨#[]⟩ : ByteArray), (⟨#[]⟩ : ByteArray), false)) else (if 0 ≤ (wrap64 ((bt119.1.length : Int) - 1)) then (if (wrap64 ((bt119.1.length : Int) - 1)) ≤ (bt119.1.length : Int) then ((spec_JoinPath.f k (bt119.1.take ((wrap64 ((bt119.1.length : Int) - 1)) : Int).toNat)).bind fun t127 => (if (wrap64 ((bt119.1.length : Int) - 1)) < (bt119.1.length : Int) then (some (t127, rdOf ByteArray.empty bt119.1 (wrap64 ((bt119.1.length : Int) - 1)), true)) else (none))) else (none)) else (none))) else (some ((⟨#[]⟩ : ByteArray), (⟨#[]⟩ : ByteArray), false)))
set_option maxHeartbeats 8000000 in
set_option maxRecDepth 100000 in
theorem spec_ParentPath.calls (k : Nat) (a0 : ByteArray) (r1 : ByteArray) (r2 : ByteArray) (r3 : Bool) (w : World) (h : spec_ParentPath.f k a0 = some (r1, r2, r3)) :
    Calls Tryd.prog 47 #[.string a0] w fun e w' => e = .returned (.tuple #[.string r1, .string r2, .bool r3]) ∧ Below w.heap.size w w' := by
  have HB := Aside0.mk (Below.refl w.heap.size w)
  have H : ((spec_SplitPath.f k a0).bind fun bt119 => (if bt119.2 = true then (if (bt119.1.length : Int) = 0 then (some ((⟨#[]⟩ : ByteArray), (⟨#[]⟩ : ByteArray), false)) else (if 0 ≤ (wrap64 ((bt119.1.length : Int) - 1)) then (if (wrap64 ((bt119.1.length : Int) - 1)) ≤ (bt119.1.length : Int) then ((spec_JoinPath.f k (bt119.1.take ((wrap64 ((bt119.1.length : Int) - 1)) : Int).toNat)).bind fun t127 => (if (wrap64 ((bt119.1.length : Int) - 1)) < (bt119.1.length : Int) then (some (t127, rdOf ByteArray.empty bt119.1 (wrap64 ((bt119.1.length : Int) - 1)), true)) else (none))) else (none)) else (none))) else (some ((⟨#[]⟩ : ByteArray), (⟨#[]⟩ : ByteArray), false)))) = some (r1, r2, r3) := h
  clear h
  replace H := Option.bind_eq_some_iff.mp H
  obtain ⟨⟨t119, t120⟩, A20, H⟩ := H
  replace H : (if t120 = true then (if (t119.length : Int) = 0 then (some ((⟨#[]⟩ : ByteArray), (⟨#[]⟩ : ByteArray), false)) else (if 0 ≤ (wrap64 ((t119.length : Int) - 1)) then (if (wrap64 ((t119.length : Int) - 1)) ≤ (t119.length : Int) then ((spec_JoinPath.f k (t119.take ((wrap64 ((t119.length : Int) - 1)) : Int).toNat)).bind fun t127 => (if (wrap64 ((t119.length : Int) - 1)) < (t119.length : Int) then (some (t127, rdOf ByteArray.empty t119 (wrap64 ((t119.length : Int) - 1)), true)) else (none))) else (none)) else (none))) else (some ((⟨#[]⟩ : ByteArray), (⟨#[]⟩ : ByteArray), false))) = some (r1, r2, r3) := H
  have A2 := Aside0.mk A20
  clear A20
  by_cases c3 : t120 = true
  · subst c3
    have H1 : (if (t119.length : Int) = 0 then (some ((⟨#[]⟩ : ByteArray), (⟨#[]⟩ : ByteArray), false)) else (if 0 ≤ (wrap64 ((t119.length : Int) - 1)) then (if (wrap64 ((t119.length : Int) - 1)) ≤ (t119.length : Int) then ((spec_JoinPath.f k (t119.take ((wrap64 ((t119.length : Int) - 1)) : Int).toNat)).bind fun t127 => (if (wrap64 ((t119.length : Int) - 1)) < (t119.length : Int) then (some (t127, rdOf ByteArray.empty t119 (wrap64 ((t119.length : Int) - 1)), true)) else (none))) else (none)) else (none))) = some (r1, r2, r3) := by rw [if_pos rfl] at H; exact H
    clear H
    have H := H1
    clear H1
    by_cases c4 : (t119.length : Int) = 0
    · rw [if_pos c4] at H
      have c4b0 : ((t119.length : Int) == 0) = true := beq_iff_eq.mpr c4
      have c4b1 : ((t119.length : Int) != 0) = false := bne_eq_false_iff_eq.mpr c4
      clear c4
      simp only [Option.some.injEq, Prod.mk.injEq] at H
      obtain ⟨rfl, rfl, rfl⟩ := H
      go_enter Tryd.func47, Tryd.ntmps47
      go_wp2_with (first | (go_at_call 52; (with_reducible refine (spec_SplitPath.calls k a0 t119 true _ A2.out).mono ?_); rintro e w5 ⟨v121, rfl, ho0, hb⟩; have HO122 := Aside0.mk (Kd.R_lower ho0 (below_size (BB HB.out))); replace HB := Aside0.mk (below_step (BB HB.out) hb); (try clear hb); (try clear hb2); (try clear hk); (try clear hi); (try clear ho0); obtain ⟨Ao6, co6, eo6⟩ := Kd.R_slice HO122.out; subst eo6))
      repeat (go_quiet (first | (go_at_call 52; (with_reducible refine (spec_SplitPath.calls k a0 t119 true _ A2.out).mono ?_); rintro e w5 ⟨v121, rfl, ho0, hb⟩; have HO122 := Aside0.mk (Kd.R_lower ho0 (below_size (BB HB.out))); replace HB := Aside0.mk (below_step (BB HB.out) hb); (try clear hb); (try clear hb2); (try clear hk); (try clear hi); (try clear ho0); obtain ⟨Ao6, co6, eo6⟩ := Kd.R_slice HO122.out; subst eo6)); try go_wp2_with (first | (go_at_call 52; (with_reducible refine (spec_SplitPath.calls k a0 t119 true _ A2.out).mono ?_); rintro e w5 ⟨v121, rfl, ho0, hb⟩; have HO122 := Aside0.mk (Kd.R_lower ho0 (below_size (BB HB.out))); replace HB := Aside0.mk (below_step (BB HB.out) hb); (try clear hb); (try clear hb2); (try clear hk); (try clear hi); (try clear ho0); obtain ⟨Ao6, co6, eo6⟩ := Kd.R_slice HO122.out; subst eo6)))
      go_ret3
      exact ⟨ER, (BB HB.out)⟩
    · rw [if_neg c4] at H
      have c4b0 : ((t119.length : Int) == 0) = false := beq_eq_false_iff_ne.mpr c4
      have c4b1 : ((t119.length : Int) != 0) = true := bne_iff_ne.mpr c4
      have c4b2 : ¬ (t119 = []) := fun h_ => c4 (by rw [h_]; rfl)
      obtain ⟨ji7, hji7⟩ : ∃ j_ : Int, (wrap64 ((t119.length : Int) - 1)) = j_ := ⟨_, rfl⟩
      replace H : (if 0 ≤ (ji7) then (if (ji7) ≤ (t119.length : Int) then ((spec_JoinPath.f k (t119.take ((ji7) : Int).toNat)).bind fun t127 => (if (ji7) < (t119.length : Int) then (some (t127, rdOf ByteArray.empty t119 (ji7), true)) else (none))) else (none)) else (none)) = some (r1, r2, r3) := by first | (rw [hji7] at H; exact H) | (simp only [hji7] at H ⊢; exact H)
      (try rw [hji7] at A2)
      have hji7w : (IntKind.i64.wrap ((t119.length : Int) - 1)) = ji7 := (i64_w _).trans hji7
      by_cases c8 : 0 ≤ (ji7)
      · rw [if_pos c8] at H
        have c8b0 := eq_true c8
        have c8b1 : decide (0 ≤ (ji7)) = true := decide_eq_true c8
        clear c8
        by_cases c9 : (ji7) ≤ (t119.length : Int)
        · rw [if_pos c9] at H
          have c9b0 := eq_true c9
          have c9b1 : decide ((ji7) ≤ (t119.length : Int)) = true := decide_eq_true c9
          clear c9
          obtain ⟨y123, hy123⟩ : ∃ y_ : List ByteArray, y_ = (t119.take ((ji7) : Int).toNat) := ⟨_, rfl⟩
          replace H : ((spec_JoinPath.f k y123).bind fun t127 => (if (ji7) < (t119.length : Int) then (some (t127, rdOf ByteArray.empty t119 (ji7), true)) else (none))) = some (r1, r2, r3) := by first | (rw [hy123]; with_reducible exact H) | (have H2_ := (Option.bind_some _ _).symm.trans H; rw [hy123]; with_reducible exact H2_) | (have H2_ := (Option.bind_some _ _).symm.trans H; with_reducible exact H2_) | with_reducible exact H | (rw [hy123]; exact H) | exact H
          have Ny123 := Aside0.mk hy123
          clear hy123
          replace H := Option.bind_eq_some_iff.mp H
          obtain ⟨t127, A100, H⟩ := H
          replace H : (if (ji7) < (t119.length : Int) then (some (t127, rdOf ByteArray.empty t119 (ji7), true)) else (none)) = some (r1, r2, r3) := H
          have A10 := Aside0.mk A100
          clear A100
          by_cases c11 : (ji7) < (t119.length : Int)
          · rw [if_pos c11] at H
            have c11b0 : decide ((ji7) < (t119.length : Int)) = true := decide_eq_true c11
            clear c11
            simp only [Option.some.injEq, Prod.mk.injEq] at H
            obtain ⟨rfl, rfl, rfl⟩ := H
            go_enter Tryd.func47, Tryd.ntmps47
            go_wp2_with (first | (go_at_call 52; (with_reducible refine (spec_SplitPath.calls k a0 t119 true _ A2.out).mono ?_); rintro e w12 ⟨v121, rfl, ho0, hb⟩; have HO122 := Aside0.mk (Kd.R_lower ho0 (below_size (BB HB.out))); replace HB := Aside0.mk (below_step (BB HB.out) hb); (try clear hb); (try clear hb2); (try clear hk); (try clear hi); (try clear ho0); obtain ⟨Ao13, co13, eo13⟩ := Kd.R_slice HO122.out; subst eo13; have q14 : ((ji7) : Int) ≤ ((t119.length : Int) : Int) := DT; obtain ⟨i014, hi014, _, hsz14, _⟩ := info_parts info9; have hroom14 : t119.length ≤ co13 := (Kd.R_reads' HO122.out).2.1; have hC14 : Kd.C Kd.string _ Ao13 t119.length t119 := (Kd.R_reads' HO122.out).2.2; have hcut14 := cut_to (P := Tryd.prog) 78 9 .i64 Tryd.underlying78 hi014 Ao13 t119.length co13 (ji7) DT q14 hroom14; have hr14 := Kd.C_take (m := ((ji7) : Int).toNat) hC14 (by omega); have hy14 : y123.length = ((ji7) : Int).toNat := (by rw [Ny123.out, List.length_take]; omega); rw [← Ny123.out] at hr14; rw [← hy14] at hcut14; have HR126 := Aside0.mk hr14; have HC126 := Aside0.mk (show y123.length ≤ co13 from by omega); clear hr14 hC14 hroom14 hi014 hsz14; have KY14 := Aside0.mk hy14; clear hy14; have KL14 := Aside0.mk (show ((ji7) : Int).toNat ≤ t119.length from by omega); replace q14 := eq_true q14) | (go_at_call 53; (with_reducible refine (spec_JoinPath.calls k _ _ y123 t127 _ ?side1 ?side2 A10.out).mono ?_); (case side1 => repeat (first | exact (by repeat (first | (with_reducible exact HR126.out) | (with_reducible refine Kd.C_alloc ?_ _) | (with_reducible refine Kd.C_drewN ?_ _) | (with_reducible refine Kd.C_drew ?_) | exact HR126.out)) | (with_reducible refine Kd.C_alloc ?_ _) | (with_reducible refine Kd.C_drewN ?_ _) | (with_reducible refine Kd.C_drew ?_))); (case side2 => exact HC126.out); rintro e w' ⟨rfl, ⟨nd, rfl⟩⟩; (try first | exact ⟨rfl, _, World.drewN_drewN _ _ _⟩ | exact ⟨rfl, _, Eq.trans (World.drewN_drewN _ _ _) (congrArg (World.drewN _) (Nat.add_assoc _ _ _))⟩); have p128 : 0 ≤ ((ji7) : Int) := DT; have q128 : (ji7) < (t119.length : Int) := DT; obtain ⟨ad128, e128, hx128_0⟩ := Kd.at_string (Kd.R_reads' HO122.out).2.2 (ji7) p128 q128; cases e128; replace p128 := eq_true p128; replace q128 := eq_true q128))
            repeat (go_quiet (first | (go_at_call 52; (with_reducible refine (spec_SplitPath.calls k a0 t119 true _ A2.out).mono ?_); rintro e w12 ⟨v121, rfl, ho0, hb⟩; have HO122 := Aside0.mk (Kd.R_lower ho0 (below_size (BB HB.out))); replace HB := Aside0.mk (below_step (BB HB.out) hb); (try clear hb); (try clear hb2); (try clear hk); (try clear hi); (try clear ho0); obtain ⟨Ao13, co13, eo13⟩ := Kd.R_slice HO122.out; subst eo13; have q14 : ((ji7) : Int) ≤ ((t119.length : Int) : Int) := DT; obtain ⟨i014, hi014, _, hsz14, _⟩ := info_parts info9; have hroom14 : t119.length ≤ co13 := (Kd.R_reads' HO122.out).2.1; have hC14 : Kd.C Kd.string _ Ao13 t119.length t119 := (Kd.R_reads' HO122.out).2.2; have hcut14 := cut_to (P := Tryd.prog) 78 9 .i64 Tryd.underlying78 hi014 Ao13 t119.length co13 (ji7) DT q14 hroom14; have hr14 := Kd.C_take (m := ((ji7) : Int).toNat) hC14 (by omega); have hy14 : y123.length = ((ji7) : Int).toNat := (by rw [Ny123.out, List.length_take]; omega); rw [← Ny123.out] at hr14; rw [← hy14] at hcut14; have HR126 := Aside0.mk hr14; have HC126 := Aside0.mk (show y123.length ≤ co13 from by omega); clear hr14 hC14 hroom14 hi014 hsz14; have KY14 := Aside0.mk hy14; clear hy14; have KL14 := Aside0.mk (show ((ji7) : Int).toNat ≤ t119.length from by omega); replace q14 := eq_true q14) | (go_at_call 53; (with_reducible refine (spec_JoinPath.calls k _ _ y123 t127 _ ?side1 ?side2 A10.out).mono ?_); (case side1 => repeat (first | exact (by repeat (first | (with_reducible exact HR126.out) | (with_reducible refine Kd.C_alloc ?_ _) | (with_reducible refine Kd.C_drewN ?_ _) | (with_reducible refine Kd.C_drew ?_) | exact HR126.out)) | (with_reducible refine Kd.C_alloc ?_ _) | (with_reducible refine Kd.C_drewN ?_ _) | (with_reducible refine Kd.C_drew ?_))); (case side2 => exact HC126.out); rintro e w' ⟨rfl, ⟨nd, rfl⟩⟩; (try first | exact ⟨rfl, _, World.drewN_drewN _ _ _⟩ | exact ⟨rfl, _, Eq.trans (World.drewN_drewN _ _ _) (congrArg (World.drewN _) (Nat.add_assoc _ _ _))⟩); have p128 : 0 ≤ ((ji7) : Int) := DT; have q128 : (ji7) < (t119.length : Int) := DT; obtain ⟨ad128, e128, hx128_0⟩ := Kd.at_string (Kd.R_reads' HO122.out).2.2 (ji7) p128 q128; cases e128; replace p128 := eq_true p128; replace q128 := eq_true q128)); try go_wp2_with (first | (go_at_call 52; (with_reducible refine (spec_SplitPath.calls k a0 t119 true _ A2.out).mono ?_); rintro e w12 ⟨v121, rfl, ho0, hb⟩; have HO122 := Aside0.mk (Kd.R_lower ho0 (below_size (BB HB.out))); replace HB := Aside0.mk (below_step (BB HB.out) hb); (try clear hb); (try clear hb2); (try clear hk); (try clear hi); (try clear ho0); obtain ⟨Ao13, co13, eo13⟩ := Kd.R_slice HO122.out; subst eo13; have q14 : ((ji7) : Int) ≤ ((t119.length : Int) : Int) := DT; obtain ⟨i014, hi014, _, hsz14, _⟩ := info_parts info9; have hroom14 : t119.length ≤ co13 := (Kd.R_reads' HO122.out).2.1; have hC14 : Kd.C Kd.string _ Ao13 t119.length t119 := (Kd.R_reads' HO122.out).2.2; have hcut14 := cut_to (P := Tryd.prog) 78 9 .i64 Tryd.underlying78 hi014 Ao13 t119.length co13 (ji7) DT q14 hroom14; have hr14 := Kd.C_take (m := ((ji7) : Int).toNat) hC14 (by omega); have hy14 : y123.length = ((ji7) : Int).toNat := (by rw [Ny123.out, List.length_take]; omega); rw [← Ny123.out] at hr14; rw [← hy14] at hcut14; have HR126 := Aside0.mk hr14; have HC126 := Aside0.mk (show y123.length ≤ co13 from by omega); clear hr14 hC14 hroom14 hi014 hsz14; have KY14 := Aside0.mk hy14; clear hy14; have KL14 := Aside0.mk (show ((ji7) : Int).toNat ≤ t119.length from by omega); replace q14 := eq_true q14) | (go_at_call 53; (with_reducible refine (spec_JoinPath.calls k _ _ y123 t127 _ ?side1 ?side2 A10.out).mono ?_); (case side1 => repeat (first | exact (by repeat (first | (with_reducible exact HR126.out) | (with_reducible refine Kd.C_alloc ?_ _) | (with_reducible refine Kd.C_drewN ?_ _) | (with_reducible refine Kd.C_drew ?_) | exact HR126.out)) | (with_reducible refine Kd.C_alloc ?_ _) | (with_reducible refine Kd.C_drewN ?_ _) | (with_reducible refine Kd.C_drew ?_))); (case side2 => exact HC126.out); rintro e w' ⟨rfl, ⟨nd, rfl⟩⟩; (try first | exact ⟨rfl, _, World.drewN_drewN _ _ _⟩ | exact ⟨rfl, _, Eq.trans (World.drewN_drewN _ _ _) (congrArg (World.drewN _) (Nat.add_assoc _ _ _))⟩); have p128 : 0 ≤ ((ji7) : Int) := DT; have q128 : (ji7) < (t119.length : Int) := DT; obtain ⟨ad128, e128, hx128_0⟩ := Kd.at_string (Kd.R_reads' HO122.out).2.2 (ji7) p128 q128; cases e128; replace p128 := eq_true p128; replace q128 := eq_true q128)))
            go_ret3
            exact ⟨by first | rfl | (simp [errW_none, errW_some] <;> rfl) | (simp only [← hji7]; first | rfl | (simp [errW_none, errW_some] <;> rfl)) | (simp [*, errW_none, errW_some] <;> rfl), (BB HB.out)⟩
          · rw [if_neg c11] at H
            exact absurd H (by simp)
        · rw [if_neg c9] at H
          exact absurd H (by simp)
      · rw [if_neg c8] at H
        exact absurd H (by simp)
  · replace c3 := Bool.eq_false_iff.mpr c3
    subst c3
    have H1 : (some ((⟨#[]⟩ : ByteArray), (⟨#[]⟩ : ByteArray), false)) = some (r1, r2, r3) := by rw [if_neg (show ¬ (false = true) by decide)] at H; exact H
    clear H
    have H := H1
    clear H1
    simp only [Option.some.injEq, Prod.mk.injEq] at H
    obtain ⟨rfl, rfl, rfl⟩ := H
    go_enter Tryd.func47, Tryd.ntmps47
    go_wp2_with (first | (go_at_call 52; (with_reducible refine (spec_SplitPath.calls k a0 t119 false _ A2.out).mono ?_); rintro e w15 ⟨v121, rfl, ho0, hb⟩; have HO122 := Aside0.mk (Kd.R_lower ho0 (below_size (BB HB.out))); replace HB := Aside0.mk (below_step (BB HB.out) hb); (try clear hb); (try clear hb2); (try clear hk); (try clear hi); (try clear ho0)))
    repeat (go_quiet (first | (go_at_call 52; (with_reducible refine (spec_SplitPath.calls k a0 t119 false _ A2.out).mono ?_); rintro e w15 ⟨v121, rfl, ho0, hb⟩; have HO122 := Aside0.mk (Kd.R_lower ho0 (below_size (BB HB.out))); replace HB := Aside0.mk (below_step (BB HB.out) hb); (try clear hb); (try clear hb2); (try clear hk); (try clear hi); (try clear ho0))); try go_wp2_with (first | (go_at_call 52; (with_reducible refine (spec_SplitPath.calls k a0 t119 false _ A2.out).mono ?_); rintro e w15 ⟨v121, rfl, ho0, hb⟩; have HO122 := Aside0.mk (Kd.R_lower ho0 (below_size (BB HB.out))); replace HB := Aside0.mk (below_step (BB HB.out) hb); (try clear hb); (try clear hb2); (try clear hk); (try clear hi); (try clear ho0))))
    go_ret3
    exact ⟨ER, (BB HB.out)⟩

end Go.Proofs.YtfgnaneajonapaaDoor.Pr

namespace Go.Proofs.YtfgnaneajonapaaDoor.Pr
open Go.RowKit Go.Proofs.YtfgnaneajonapaaDoorW.PrintWords Go.Proofs.YtfgnaneajonapaaDoorW.PrintLast Go.Proofs.YtfgnaneajonapaaDoorW.PrintMore
attribute [local go_sem] max2_int min2_int max_two min_two max_three min_three max_four min_four
set_option linter.unusedVariables false
set_option linter.unusedSimpArgs false
def spec_l11Named.f (k : Nat) (a0 : ByteArray) : Option (Bool) := (spec_ParentPath.f k a0).bind fun bt129 => (some bt129.2.2)
set_option maxHeartbeats 8000000 in
set_option maxRecDepth 100000 in
theorem spec_l11Named.calls (k : Nat) (a0 : ByteArray) (r : Bool) (w : World) (h : spec_l11Named.f k a0 = some r) :
    Calls Tryd.prog 26 #[.string a0] w fun e w' => e = .returned (.bool r) ∧ Below w.heap.size w w' := by
  have HB := Aside0.mk (Below.refl w.heap.size w)
  have H : ((spec_ParentPath.f k a0).bind fun bt129 => (some bt129.2.2)) = some r := h
  clear h
  replace H := Option.bind_eq_some_iff.mp H
  obtain ⟨⟨t129, t130, t131⟩, A20, H⟩ := H
  replace H : (some t131) = some r := H
  have A2 := Aside0.mk A20
  clear A20
  obtain rfl := Option.some.inj H
  go_enter Tryd.func26, Tryd.ntmps26
  go_wp2_with (first | ((with_reducible refine gate_callee (f := 47) rfl ?_); refine GL (some 8) rfl rfl Tryd.func47 #[.string a0] rfl ?_; (with_reducible refine (spec_ParentPath.calls k a0 t129 t130 t131 _ A2.out).mono ?_); rintro e w3 ⟨rfl, hb⟩; refine ⟨_, rfl, ?_⟩; replace HB := Aside0.mk (below_step (BB HB.out) hb); (try clear hb)))
  go_ret
  exact ⟨ER, (BB HB.out)⟩

end Go.Proofs.YtfgnaneajonapaaDoor.Pr

namespace Go.Proofs.YtfgnaneajonapaaDoor.Pu
open Go.RowKit Go.Proofs.YtfgnaneajonapaaDoorW.PrintWords Go.Proofs.YtfgnaneajonapaaDoor.Pr Go.Proofs.YtfgnaneajonapaaDoor.Evs
set_option linter.unusedVariables false
theorem cut_snoc (s : ByteArray) (b i : Nat) (c : UInt8) (r : List UInt8) (hb : b ≤ i) (h : s.data.toList.drop i = c :: r) : (s.extract b (i + 1)).data.toList = (s.extract b i).data.toList ++ [c] := by
  rw [Lib.extract_data, Lib.extract_data]
  have hi : i < s.data.toList.length := by
    rcases Nat.lt_or_ge i s.data.toList.length with h1 | h1
    · exact h1
    · rw [List.drop_eq_nil_of_le h1] at h; cases h
  have e : (s.data.toList.drop b).drop (i - b) = c :: r := by rw [List.drop_drop, show b + (i - b) = i by omega]; exact h
  have hl : i - b < (s.data.toList.drop b).length := by rw [List.length_drop]; omega
  have e2 := List.drop_eq_getElem_cons hl
  rw [e] at e2
  injection e2 with e3 e4
  rw [show i + 1 - b = i - b + 1 by omega, List.take_add_one, List.getElem?_eq_getElem hl, ← e3]
  rfl
theorem cut_nil (s : ByteArray) (b : Nat) : (s.extract b b).data.toList = [] := by rw [Lib.extract_data, Nat.sub_self, List.take_zero]
def told (s : ByteArray) (out : List ByteArray) (P : List (List UInt8)) (r : List ByteArray × Bool) : Prop :=
  if P.all nameL = true then (if out.length + P.length > 4 then r = ([], false) else r.2 = true ∧ r.1.length = out.length + P.length ∧ ∀ x ∈ r.1, x.size ≤ 8) else r = ([], false)
theorem name_size (s : ByteArray) (h : nameL s.data.toList = true) : s.size ≤ 8 := by
  unfold nameL at h
  rw [Bool.and_eq_true, decide_eq_true_eq, size_len] at h
  exact h.2.2
theorem told_push (s x : ByteArray) (out : List ByteArray) (P : List (List UInt8)) (r : List ByteArray × Bool) (hx : nameL x.data.toList = true) (h : told s (out ++ [x]) P r) : told s out (x.data.toList :: P) r := by
  unfold told at h ⊢
  rw [List.all_cons, hx, Bool.true_and]
  rw [List.length_append, List.length_singleton] at h
  rw [List.length_cons]
  have e : out.length + (P.length + 1) = out.length + 1 + P.length := by omega
  rw [e]
  exact h
theorem told_not (s x : ByteArray) (out : List ByteArray) (P : List (List UInt8)) (hx : nameL x.data.toList = false) : told s out (x.data.toList :: P) ([], false) := by
  unfold told
  rw [List.all_cons, hx, Bool.false_and]
  rfl
theorem split_loop (s : ByteArray) (hs : s.size < 8796093022000) (m : Nat) : ∀ (i b : Nat) (out : List ByteArray), i + m = s.size → b ≤ i → out.length ≤ i → (∀ x ∈ out, x.size ≤ 8) →
    ∃ r, Ev (fun k => spec_SplitPath.l0 k s out (b : Int) (i : Int)) r ∧ told s out (((s.extract b i).data.toList ++ (cutS (s.data.toList.drop i)).headD []) :: (cutS (s.data.toList.drop i)).tail) r := by
  induction m with
  | zero =>
    intro i b out hi hb hl ho
    have e : s.data.toList.drop i = [] := List.drop_eq_nil_of_le (by rw [size_len]; omega)
    have ec : (cutS []).headD [] = ([] : List UInt8) := rfl
    have et : (cutS ([] : List UInt8)).tail = [] := rfl
    rw [e, ec, et, List.append_nil]
    have hn := spec_NameOk_ev (s.extract b i) (by rw [ByteArray.size_extract]; omega)
    have ew : wrap64 ((i : Int) + 1) = ((i + 1 : Nat) : Int) := by rw [wrap_in (by omega) (by omega)]; rfl
    cases hx : nameL (s.extract b i).data.toList with
    | false =>
      rw [hx] at hn
      refine ⟨_, ?_, told_not s _ out [] hx⟩
      refine ev_step (fun k => spec_SplitPath.l0.eq_2 _ _ _ _ k) (ev_pos (by omega) (ev_neg (by omega) ?_))
      refine ev_step (fun k => spec_SplitPath.j2.eq_2 _ _ _ _ _ k) (ev_neg (by decide) (ev_pos (by omega) (ev_pos (by omega) (ev_pos (by omega) ?_))))
      simp only [Int.toNat_natCast]
      exact ev_bind hn (ev_neg (by decide) (ev_some _))
    | true =>
      rw [hx] at hn
      by_cases h4 : (out.length : Int) + 1 > 4
      · refine ⟨([], false), ?_, ?_⟩
        · refine ev_step (fun k => spec_SplitPath.l0.eq_2 _ _ _ _ k) (ev_pos (by omega) (ev_neg (by omega) ?_))
          refine ev_step (fun k => spec_SplitPath.j2.eq_2 _ _ _ _ _ k) (ev_neg (by decide) (ev_pos (by omega) (ev_pos (by omega) (ev_pos (by omega) ?_))))
          simp only [Int.toNat_natCast]
          refine ev_bind hn (ev_pos rfl (ev_pos (by omega) ?_))
          rw [ew]
          refine ev_step (fun k => spec_SplitPath.l0.eq_2 _ _ _ _ k) (ev_neg (by omega) (ev_pos (by rw [List.length_append, List.length_singleton]; omega) (ev_some _)))
        · unfold told
          rw [List.all_cons, hx, if_pos (show (true && [].all nameL) = true from rfl), if_pos (by rw [List.length_singleton]; omega)]
      · refine ⟨(out ++ [s.extract b i], true), ?_, ?_⟩
        · refine ev_step (fun k => spec_SplitPath.l0.eq_2 _ _ _ _ k) (ev_pos (by omega) (ev_neg (by omega) ?_))
          refine ev_step (fun k => spec_SplitPath.j2.eq_2 _ _ _ _ _ k) (ev_neg (by decide) (ev_pos (by omega) (ev_pos (by omega) (ev_pos (by omega) ?_))))
          simp only [Int.toNat_natCast]
          refine ev_bind hn (ev_pos rfl (ev_pos (by omega) ?_))
          rw [ew]
          refine ev_step (fun k => spec_SplitPath.l0.eq_2 _ _ _ _ k) (ev_neg (by omega) (ev_neg (by rw [List.length_append, List.length_singleton]; omega) (ev_some _)))
        · unfold told
          rw [List.all_cons, hx, if_pos (show (true && [].all nameL) = true from rfl), if_neg (by rw [List.length_singleton]; omega)]
          refine ⟨rfl, by rw [List.length_append]; rfl, fun x hm => ?_⟩
          rcases List.mem_append.1 hm with hm | hm
          · exact ho x hm
          · rw [List.mem_singleton.1 hm]; exact name_size _ hx
  | succ m ih =>
    intro i b out hi hb hl ho
    obtain ⟨c, r, hd, hr⟩ := drop_size s i (by omega)
    have hbt := bt_nat s i c r hd
    have ew : wrap64 ((i : Int) + 1) = ((i + 1 : Nat) : Int) := by rw [wrap_in (by omega) (by omega)]; rfl
    by_cases hc : c = 47
    · have hn := spec_NameOk_ev (s.extract b i) (by rw [ByteArray.size_extract]; omega)
      have hbf : (bt s (i : Int) != 47) = false := by rw [hbt, hc]; rfl
      have ec : cutS (s.data.toList.drop i) = [] :: cutS r := by rw [hd, cutS, if_pos hc]
      have eh : ([] :: cutS r).headD [] = ([] : List UInt8) := rfl
      have et : (([] : List UInt8) :: cutS r).tail = cutS r := rfl
      rw [ec, eh, et, List.append_nil]
      cases hx : nameL (s.extract b i).data.toList with
      | false =>
        rw [hx] at hn
        refine ⟨_, ?_, told_not s _ out _ hx⟩
        refine ev_step (fun k => spec_SplitPath.l0.eq_2 _ _ _ _ k) (ev_pos (by omega) (ev_pos (by omega) (ev_pos (by omega) ?_)))
        rw [hbf]
        refine ev_step (fun k => spec_SplitPath.j2.eq_2 _ _ _ _ _ k) (ev_neg (by decide) (ev_pos (by omega) (ev_pos (by omega) (ev_pos (by omega) ?_))))
        simp only [Int.toNat_natCast]
        exact ev_bind hn (ev_neg (by decide) (ev_some _))
      | true =>
        rw [hx] at hn
        obtain ⟨q, hq, ht⟩ := ih (i + 1) (i + 1) (out ++ [s.extract b i]) (by omega) (Nat.le_refl _) (by rw [List.length_append, List.length_singleton]; omega) (fun x hm => by
          rcases List.mem_append.1 hm with hm | hm
          · exact ho x hm
          · rw [List.mem_singleton.1 hm]; exact name_size _ hx)
        rw [hr, cut_nil, List.nil_append] at ht
        have ej : (cutS r).headD [] :: (cutS r).tail = cutS r := by
          cases hcs : cutS r with
          | nil => exact absurd hcs (cutS_ne r)
          | cons a t => rfl
        rw [ej] at ht
        refine ⟨q, ?_, told_push s _ out _ q hx ht⟩
        refine ev_step (fun k => spec_SplitPath.l0.eq_2 _ _ _ _ k) (ev_pos (by omega) (ev_pos (by omega) (ev_pos (by omega) ?_)))
        rw [hbf]
        refine ev_step (fun k => spec_SplitPath.j2.eq_2 _ _ _ _ _ k) (ev_neg (by decide) (ev_pos (by omega) (ev_pos (by omega) (ev_pos (by omega) ?_))))
        simp only [Int.toNat_natCast]
        refine ev_bind hn (ev_pos rfl (ev_pos (by omega) ?_))
        rw [ew]
        exact hq
    · have hbf : (bt s (i : Int) != 47) = true := by
        rw [hbt, bne_iff_ne]
        intro h
        refine hc (UInt8.toNat_inj.1 ?_)
        have : ((47 : UInt8).toNat : Int) = 47 := rfl
        omega
      have ec : cutS (s.data.toList.drop i) = (c :: (cutS r).headD []) :: (cutS r).tail := by rw [hd, cutS, if_neg hc]
      have eh : ((c :: (cutS r).headD []) :: (cutS r).tail).headD [] = c :: (cutS r).headD [] := rfl
      have et : ((c :: (cutS r).headD []) :: (cutS r).tail).tail = (cutS r).tail := rfl
      obtain ⟨q, hq, ht⟩ := ih (i + 1) b out (by omega) (by omega) (by omega) ho
      rw [hr, cut_snoc s b i c r hb hd, List.append_assoc] at ht
      rw [ec, eh, et]
      refine ⟨q, ?_, ht⟩
      refine ev_step (fun k => spec_SplitPath.l0.eq_2 _ _ _ _ k) (ev_pos (by omega) (ev_pos (by omega) (ev_pos (by omega) ?_)))
      rw [hbf]
      refine ev_step (fun k => spec_SplitPath.j2.eq_2 _ _ _ _ _ k) (ev_pos rfl ?_)
      rw [ew]
      exact hq
theorem splitPath_ev (p : ByteArray) (hs : p.size < 8796093022000) : ∃ r, Ev (fun k => spec_SplitPath.f k p) r ∧ (r.2 && !r.1.isEmpty) = isNamed p.data.toList ∧ r.1.length ≤ 4 ∧ ∀ x ∈ r.1, x.size ≤ 8 := by
  have hz := size_len p
  cases hl : p.data.toList with
  | nil =>
    rw [hl, List.length_nil] at hz
    refine ⟨([], false), ?_, rfl, by simp, by simp⟩
    unfold spec_SplitPath.f
    exact ev_call rfl (ev_pos (by omega) (ev_step (fun k => spec_SplitPath.j0.eq_2 _ _ _ k) (ev_pos rfl (ev_some _))))
  | cons c rest =>
    rw [hl, List.length_cons] at hz
    have hb : bt p 0 = (c.toNat : Int) := bt_nat p 0 c rest (by rw [List.drop_zero]; exact hl)
    by_cases hc : c = 47
    · have hbf : (bt p 0 != 47) = false := by rw [hb, hc]; rfl
      by_cases hr : rest = []
      · refine ⟨([], true), ?_, by rw [isNamed, hr]; simp, by simp, by simp⟩
        unfold spec_SplitPath.f
        refine ev_call rfl (ev_neg (by omega) (ev_pos (by omega) ?_))
        rw [hbf]
        refine ev_step (fun k => spec_SplitPath.j0.eq_2 _ _ _ k) (ev_neg (by decide) (ev_pos ?_ (ev_some _)))
        rw [Lib.toList_data, hl, hr, hc]
      · obtain ⟨r, hE, ht⟩ := split_loop p hs (p.size - 1) 1 1 [] (by omega) (Nat.le_refl _) (by simp) (by simp)
        have hd : p.data.toList.drop 1 = rest := by rw [hl]; rfl
        have ej : (cutS rest).headD [] :: (cutS rest).tail = cutS rest := by
          cases hcs : cutS rest with
          | nil => exact absurd hcs (cutS_ne rest)
          | cons a t => rfl
        rw [cut_nil, List.nil_append, hd, ej] at ht
        have hne : rest.isEmpty = false := by cases rest with | nil => exact absurd rfl hr | cons _ _ => rfl
        have hf : Ev (fun k => spec_SplitPath.f k p) r := by
          unfold spec_SplitPath.f
          refine ev_call rfl (ev_neg (by omega) (ev_pos (by omega) ?_))
          rw [hbf]
          refine ev_step (fun k => spec_SplitPath.j0.eq_2 _ _ _ k) (ev_neg (by decide) (ev_neg ?_ hE))
          rw [Lib.toList_data, hl, hc]
          intro h
          injection h with _ h
          exact hr h
        refine ⟨r, hf, ?_⟩
        unfold told at ht
        rw [isNamed, decide_eq_true hc, hne]
        rw [List.length_nil, Nat.zero_add] at ht
        cases ha : (cutS rest).all nameL with
        | false =>
          rw [ha, if_neg (by decide)] at ht
          rw [ht]
          simp
        | true =>
          rw [ha, if_pos rfl] at ht
          by_cases h4 : (cutS rest).length > 4
          · rw [if_pos h4] at ht
            rw [ht, decide_eq_false (by omega)]
            simp
          · rw [if_neg h4] at ht
            obtain ⟨t1, t2, t3⟩ := ht
            refine ⟨?_, by omega, t3⟩
            rw [t1, decide_eq_true (by omega)]
            cases hr1 : r.1 with
            | nil =>
              rw [hr1, List.length_nil] at t2
              exact absurd (List.length_eq_zero_iff.1 t2.symm) (cutS_ne rest)
            | cons _ _ => rfl
    · have hbf : (bt p 0 != 47) = true := by
        rw [hb, bne_iff_ne]
        intro h
        refine hc (UInt8.toNat_inj.1 ?_)
        have : ((47 : UInt8).toNat : Int) = 47 := rfl
        omega
      refine ⟨([], false), ?_, by rw [isNamed, decide_eq_false hc]; rfl, by simp, by simp⟩
      unfold spec_SplitPath.f
      refine ev_call rfl (ev_neg (by omega) (ev_pos (by omega) ?_))
      rw [hbf]
      exact ev_step (fun k => spec_SplitPath.j0.eq_2 _ _ _ k) (ev_pos rfl (ev_some _))
theorem rd_size (l : List ByteArray) (h8 : ∀ x ∈ l, x.size ≤ 8) (i : Int) : (rdOf ByteArray.empty l i).size ≤ 8 := by
  unfold rdOf
  rw [List.getD_eq_getElem?_getD]
  cases h : l[i.toNat]? with
  | none => exact Nat.zero_le _
  | some x => exact h8 x (List.mem_of_getElem? h)
theorem join_loop (l : List ByteArray) (h4 : l.length ≤ 4) (h8 : ∀ x ∈ l, x.size ≤ 8) (m : Nat) : ∀ (i : Nat) (acc : ByteArray), i + m = l.length → acc.size ≤ 9 * i → ∃ t, Ev (fun k => spec_JoinPath.l0 k l acc (i : Int)) t := by
  induction m with
  | zero => intro i acc hi ha; exact ⟨_, ev_step (fun k => spec_JoinPath.l0.eq_2 _ _ _ k) (ev_neg (by omega) (ev_some _))⟩
  | succ m ih =>
    intro i acc hi ha
    have hr := rd_size l h8 (i : Int)
    have ew : wrap64 ((i : Int) + 1) = ((i + 1 : Nat) : Int) := by rw [wrap_in (by omega) (by omega)]; rfl
    have hz : (acc ++ (⟨#[47]⟩ : ByteArray)).size = acc.size + 1 := by rw [ByteArray.size_append]; rfl
    obtain ⟨t, ht⟩ := ih (i + 1) ((acc ++ (⟨#[47]⟩ : ByteArray)) ++ rdOf ByteArray.empty l (i : Int)) (by omega) (by rw [ByteArray.size_append, hz]; omega)
    refine ⟨t, ev_step (fun k => spec_JoinPath.l0.eq_2 _ _ _ k) (ev_pos (by omega) (ev_pos (by omega) (ev_pos (by omega) (ev_pos (by rw [hz]; omega) ?_))))⟩
    rw [ew]
    exact ht
theorem joinPath_some (l : List ByteArray) (h4 : l.length ≤ 4) (h8 : ∀ x ∈ l, x.size ≤ 8) : ∃ t, Ev (fun k => spec_JoinPath.f k l) t := by
  unfold spec_JoinPath.f
  by_cases h : (l.length : Int) = 0
  · exact ⟨_, ev_pos h (ev_some _)⟩
  · obtain ⟨t, ht⟩ := join_loop l h4 h8 l.length 0 ⟨#[]⟩ (by omega) (Nat.le_refl _)
    exact ⟨t, ev_neg h ht⟩
theorem l11Named_ev (p : ByteArray) (hs : p.size < 8796093022000) : Ev (fun k => spec_l11Named.f k p) (isNamed p.data.toList) := by
  obtain ⟨r, hE, hn, h4, h8⟩ := splitPath_ev p hs
  unfold spec_l11Named.f spec_ParentPath.f
  rw [← hn]
  obtain ⟨l, ok⟩ := r
  simp only at h4 h8 hn ⊢
  cases ok with
  | false => exact ev_bind (a := (⟨#[]⟩, ⟨#[]⟩, false)) (ev_bind hE (ev_neg Bool.false_ne_true (ev_some _))) (ev_some _)
  | true =>
    cases l with
    | nil => exact ev_bind (a := (⟨#[]⟩, ⟨#[]⟩, false)) (ev_bind hE (ev_pos rfl (ev_pos rfl (ev_some _)))) (ev_some _)
    | cons x s =>
      rw [List.length_cons] at h4
      have ew : wrap64 (((x :: s).length : Int) - 1) = (s.length : Int) := by rw [List.length_cons, wrap_in (by omega) (by omega)]; omega
      obtain ⟨t, ht⟩ := joinPath_some ((x :: s).take s.length) (by rw [List.length_take]; omega) (fun y hy => h8 y (List.mem_of_mem_take hy))
      refine ev_bind (a := (t, rdOf ByteArray.empty (x :: s) (s.length : Int), true)) (ev_bind hE (ev_pos rfl (ev_neg (by rw [List.length_cons]; omega) ?_))) (ev_some _)
      simp only [ew, Int.toNat_natCast]
      exact ev_pos (by omega) (ev_pos (by rw [List.length_cons]; omega) (ev_bind ht (ev_pos (by rw [List.length_cons]; omega) (ev_some _))))
end Go.Proofs.YtfgnaneajonapaaDoor.Pu
