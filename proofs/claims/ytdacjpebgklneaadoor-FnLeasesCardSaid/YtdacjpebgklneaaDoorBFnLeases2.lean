/- A part of the proof of the law FnLeases: its texts, one behind the other. -/
import Derived.ArgAppend
import Derived.Below
import Derived.BigQuiet
import Derived.Deep.AppendLies
import Derived.Deep.CutBlock
import Derived.Deep.DeepCutAuto
import Derived.Deep.Draws
import Derived.Deep.LoopGhost
import Derived.Deep.OwnRows
import Derived.Deep.QuietTactic
import Derived.Deep.RegionHeld3
import Derived.Deep.RegionLaw
import Derived.Ground.SlgfProg
import Derived.KernelRfl
import Derived.Laws.Alloc2
import Derived.Laws.BitsLemmas
import Derived.Laws.BytesArg
import Derived.Laws.CopyOwn
import Derived.Laws.CopyRow
import Derived.Laws.Entries
import Derived.Laws.IdiomCopy
import Derived.Laws.MakeOwn
import Derived.Laws.OwnMore
import Derived.Laws.Rows
import Derived.Laws.Slices
import Derived.Laws.Strings
import Derived.Lib.AppendStr
import Derived.Lib.AppendZerosOnto
import Derived.Lib.ConvBytes
import Derived.Lib.Overlaps
import Derived.Lib.SliceRun
import Derived.Lib.Split
import Derived.Lib.Strings
import Derived.Maps.AppendAt
import Derived.OrdersHeld
import Derived.OwnWalk
import Derived.RowKit
import Derived.RowKit3
import Derived.Shelf.Abstract
import Derived.Shelf.LaysM
import Derived.Shelf.SlicesE.IndexFunc
import Derived.Shelf.Small.Strs
import Derived.Shelf.Small.Wraps
import Derived.Shelf.Spec.SlicesInsert
import Derived.Shelf.Strings.Builder1
import Derived.Shelf.Strings.Builder2
import Derived.Shelf.Strings.Builder2Cap
import Derived.Shelf.Strings.BuilderF
import Derived.Shelf.Strings.BuilderK
import Derived.Shelf.Strings.Count
import Derived.Shelf.Strings.Explode
import Derived.Shelf.Strings.OnBuilder
import Derived.Shelf.Strings.Prefix
import Derived.Shelf.Strings.RuneCount
import Derived.Shelf.Strings.Search1
import Derived.Shelf.Strings.Search2
import Derived.Shelf.Strings.Search3
import Derived.Shelf.Strings.Shaped
import Derived.Shelf.Strings.Split
import Derived.Shelf.Strings.SplitShaped
import Derived.Shelf.Unicode.Decode
import Derived.Shelf.Unicode.DecodeAny
import Derived.Shelf.Unicode.DecodeSlow
import Derived.Shelf.Utf8.RuneCount
import Derived.Tactics
import Derived.Test.YtdacjpebgklneaaDoorProg
import Derived.WalkKit
import Derived.WalkLawsBesides
import Derived.WideLaws
import Derived.Test.YtdacjpebgklneaaDoorBFnLeases1
namespace Go.Proofs.YtdacjpebgklneaaDoor.Pr
open Go.RowKit Go.Proofs.YtdacjpebgklneaaDoorW.PrintWords Go.Proofs.YtdacjpebgklneaaDoorW.PrintLast Go.Proofs.YtdacjpebgklneaaDoorW.PrintMore
attribute [local go_sem] max2_int min2_int max_two min_two max_three min_three max_four min_four
set_option linter.unusedVariables false
set_option linter.unusedSimpArgs false
def errW : Option Int → Value
  | none => .nilIface
  | some c => .iface 0 (.int .i64 c)
theorem errW_none : errW none = .nilIface := rfl
theorem errW_some (c : Int) : errW (some c) = .iface 0 (.int .i64 c) := rfl

theorem CC {p q : Prop} (h : q) (f : q → p := by intro h_; repeat (first | exact h_ | (with_reducible refine Kd.C_alloc ?_ _) | (with_reducible refine Kd.C_drewN ?_ _) | (with_reducible refine Kd.C_drew ?_))) : p := f h
theorem BB {p q : Prop} (h : q) (f : q → p := by intro h_; repeat (first | (with_reducible first | exact h_ | apply below_alloc | apply pw_below_drewN | apply below_drew1) | exact h_)) : p := f h
theorem BB1 {p q q1 : Prop} (h : q) (h1 : q1) (f : q → q1 → p := by intro h_ g1_; repeat (first | (with_reducible first | exact h_ | apply below_alloc | apply pw_below_drewN | apply below_drew1 | refine below_set ?_ g1_) | exact h_)) : p := f h h1
theorem RR {p q : Prop} (h : q) (f : q → p := by intro h_; (with_reducible repeat (first | apply Kd.R_alloc | apply Kd.R_drewN | apply Kd.R_drew)); exact h_) : p := f h
theorem FR {p : Prop} (h : p := by first | rfl | (simp; done) | (simp [*]; done)) : p := h
theorem ER {p : Prop} (h : p := by first | rfl | (simp [errW_none, errW_some] <;> rfl) | (simp [*, errW_none, errW_some] <;> rfl)) : p := h
theorem DT {p : Prop} [Decidable p] (h : decide p = true := by first | (with_reducible assumption) | assumption) : p := of_decide_eq_true h
theorem KB {w W w1 : World} {g : Nat} {o : Obj} (h : w.heap[g]? = some o) (hb : Below W.heap.size W w1) (f : w.heap[g]? = some o → W.heap[g]? = some o := by intro h_; (with_reducible repeat (first | refine blk_drewN ?_ _ | refine blk_drew ?_ | refine blk_alloc ?_ _)); exact h_) : w1.heap[g]? = some o := blk_below (f h) hb
theorem WG {w W : World} {g : Nat} (hg : g = W.heap.size) (h : Below w.heap.size w W) : Aside0 (w.heap.size ≤ g) := ⟨by rw [hg]; exact below_size h⟩
theorem BX {P : Program} {ops : Array Oper} {Q : Exit → Act → World → Prop} {rest : List Oper} {o : Oper} {a : Act} {W : World} (N : Tmp) (cs : Array Value) (t : TypeId)
    (h : ∀ g, g = W.heap.size → ∀ w1, w1.heap[g]? = some (.cells cs t (0, 0)) → Below W.heap.size W w1 → wpList P ops Q rest (a.put o.dst (.pointer (some ⟨g, 0, none⟩))) w1)
    (hd : o.dst = some N := by rfl) (hg : o.guard = none := by rfl) (hr : (execOp a.eval o).run P W = .ok (.value (.pointer (some ⟨W.heap.size, 0, none⟩))) (W.alloc (.cells cs t (0, 0))) := by first | (go_simp; done) | (go_simp; rfl)) : wpList P ops Q (o :: rest) a W := box_event hg hd hr h
theorem GL {P : Program} {ops : Array Oper} {Q : Exit → Act → World → Prop} {rest : List Oper} {oi : Oper} {a : Act} {w : World} (N : Option Tmp) (hd : oi.dst = N) (hg : oi.guard = none) {f : FuncId} {fn : Func} {os_ : Array Operand} {ts : Array TypeId} (hf : P.funcs[f]? = some fn) (args : Array Value)
    (hop : oi.op = .call { callee := .value (.func f), args := os_, argTypes := ts }) (h : Calls P f args w fun e w' => ∃ v, e = .returned v ∧ wpList P ops Q rest (a.put N v) w')
    (hname : (fn.name == "runtime.NumGoroutine") = false := by kernel_rfl) (hb : fn.body.isSome = true := by rfl) (hargs : os_.map a.eval = args := by (try simp only [List.map_toArray, List.map_cons, List.map_nil]); first | done | rfl | (simp only [List.length_drop, List.length_take]; rfl)) : wpList P ops Q (oi :: rest) a w :=
  goesL_ N hd hg hf hname hb args hop hargs h

theorem info3 : (Tryd.prog.info? 3).map (fun i => (i.zero, i.size, i.bytes)) = some (some (.int .i64 0), 1, 8) := by kernel_rfl
theorem info9 : (Tryd.prog.info? 9).map (fun i => (i.zero, i.size, i.bytes)) = some (some (.string ⟨#[]⟩), 1, 16) := by kernel_rfl
theorem info35 : (Tryd.prog.info? 35).map (fun i => (i.zero, i.size, i.bytes)) = some (some (.agg #[(.string ⟨#[]⟩), (.int .i64 0), (.int .i64 0)]), 3, 32) := by kernel_rfl
structure S35 where
  f0 : ByteArray
  f1 : Int
  f2 : Int
def z35 : S35 := ⟨(⟨#[]⟩ : ByteArray), (0 : Int), (0 : Int)⟩
def k35 : Kd S35 := Kd.iso (Kd.pair Kd.string (Kd.pair (Kd.int .i64) (Kd.int .i64))) (fun x : S35 => (x.f0, x.f1, x.f2))
theorem k35_open {w : World} {x : S35} {cs : List Value} (h : k35.K w x cs) : cs = [.string x.f0, .int .i64 x.f1, .int .i64 x.f2] := by
  obtain ⟨_, _, rfl, rfl, ⟨_, _, rfl, rfl, rfl⟩⟩ := h
  exact rfl
theorem k35_openM {w : World} {base : Nat} {ok : Nat → Prop} {x : S35} {cs : List Value} (h : k35.M w base ok x cs) : cs = [.string x.f0, .int .i64 x.f1, .int .i64 x.f2] := by
  obtain ⟨_, _, rfl, rfl, ⟨_, _, rfl, rfl, rfl⟩⟩ := h
  exact rfl
theorem k35_mk (w : World) (x : S35)  : k35.K w x [.string x.f0, .int .i64 x.f1, .int .i64 x.f2] := ⟨[.string x.f0], [.int .i64 x.f1, .int .i64 x.f2], rfl, rfl, ⟨[.int .i64 x.f1], [.int .i64 x.f2], rfl, rfl, rfl⟩⟩
theorem k35_mkM (w : World) (base : Nat) (ok : Nat → Prop) (x : S35)  : k35.M w base ok x [.string x.f0, .int .i64 x.f1, .int .i64 x.f2] := ⟨[.string x.f0], [.int .i64 x.f1, .int .i64 x.f2], rfl, rfl, ⟨[.int .i64 x.f1], [.int .i64 x.f2], rfl, rfl, rfl⟩⟩
def rd_T35 (xs : List S35) (i : Int) : S35 := xs.getD i.toNat z35
theorem at_T35 {w : World} {A : Option Addr} {n : Nat} {xs : List S35} (h : Kd.C k35 w A n xs) (i : Int) (h0 : 0 ≤ i) (h1 : i < n) : ∃ ad , A = some ad ∧ w.cell? (ad.add (i.toNat * 3)) = some (.string (rd_T35 xs i).f0) ∧ w.cell? ⟨(ad.add (i.toNat * 3)).block, (ad.add (i.toNat * 3)).off + 1, none⟩ = some (.int .i64 (rd_T35 xs i).f1) ∧ w.cell? ⟨(ad.add (i.toNat * 3)).block, (ad.add (i.toNat * 3)).off + 2, none⟩ = some (.int .i64 (rd_T35 xs i).f2) := by
  obtain ⟨ad, c, e, _, hK, hc0⟩ := Kd.C_get h z35 i h0 h1
  have hc : ∀ j u, c[j]? = some u → w.cell? (ad.add (i.toNat * 3 + j)) = some u := hc0
  obtain rfl := k35_open hK
  exact ⟨ad, e, hc 0 _ rfl, by rw [← add_field _ _ 1 (by omega)]; exact hc 1 _ rfl, by rw [← add_field _ _ 2 (by omega)]; exact hc 2 _ rfl⟩

end Go.Proofs.YtdacjpebgklneaaDoor.Pr

namespace Go.Proofs.YtdacjpebgklneaaDoor.Pr
open Go.RowKit Go.Proofs.YtdacjpebgklneaaDoorW.PrintWords Go.Proofs.YtdacjpebgklneaaDoorW.PrintLast Go.Proofs.YtdacjpebgklneaaDoorW.PrintMore
set_option linter.unusedVariables false
set_option linter.unusedSimpArgs false
def idxF {α : Type} (p : α → Bool) : List α → Nat → Int
  | [], _ => -1
  | x :: s, j => if p x = true then (j : Int) else idxF p s (j + 1)
theorem idxF_drop_hit {α : Type} (p : α → Bool) (xs : List α) (d : α) (j : Nat) (h : j < xs.length) (hp : p (xs.getD j d) = true) : idxF p (xs.drop j) j = (j : Int) := by
  rw [List.drop_eq_getElem_cons h, idxF, if_pos]
  simpa [List.getD, List.getElem?_eq_getElem h] using hp
theorem idxF_drop_miss {α : Type} (p : α → Bool) (xs : List α) (d : α) (j : Nat) (h : j < xs.length) (hp : p (xs.getD j d) = false) : idxF p (xs.drop j) j = idxF p (xs.drop (j + 1)) (j + 1) := by
  rw [List.drop_eq_getElem_cons h, idxF, if_neg]
  simpa [List.getD, List.getElem?_eq_getElem h] using hp
end Go.Proofs.YtdacjpebgklneaaDoor.Pr

namespace Go.Proofs.YtdacjpebgklneaaDoor.Pr
open Go.RowKit Go.Proofs.YtdacjpebgklneaaDoorW.PrintWords Go.Proofs.YtdacjpebgklneaaDoorW.PrintLast Go.Proofs.YtdacjpebgklneaaDoorW.PrintMore
set_option linter.unusedVariables false
set_option linter.unusedSimpArgs false
set_option maxHeartbeats 2000000 in
set_option maxRecDepth 100000 in
theorem ixLease (g : Nat) (lb : Array Value) (eg : ∀ args w, (callFunc g args).run Tryd.prog w = .ok (.enter g args) w) (p : S35 → Bool) (A : Option Addr) (c : Nat) (xs : List S35) (w : World)
    (hp : ∀ (W : World) (x : S35), x ∈ xs → Below w.heap.size w W → Calls Tryd.prog g (#[.agg #[.string x.f0, .int .i64 x.f1, .int .i64 x.f2]] ++ lb) W fun e w' => e = .returned (.bool (p x)) ∧ Below w.heap.size w w')
    (hr : Kd.C k35 w A xs.length xs) :
    Calls Tryd.prog 34 #[.slice A xs.length c, .func (.func g) #[] lb] w fun e w' => e = .returned (.int .i64 (idxF p xs 0)) ∧ Below w.heap.size w w' := by
  have hu35 := Tryd.underlying35
  have HR := Aside0.mk hr
  have HL := Aside0.mk hr.2.1
  have HP := Aside0.mk hp
  have HG := Aside0.mk (show idxF p (xs.drop 0) 0 = idxF p xs 0 from rfl)
  clear hr hp
  generalize hre : idxF p xs 0 = res at HG
  clear hre
  go_enter Tryd.func34, Tryd.ntmps34
  go_wp2
  go_loopg [5, 8] xs.length (fun gg _ s8 wr => ∃ kk : Nat, kk ≤ xs.length ∧ xs.length - kk ≤ gg ∧ s8 = .int .i64 kk ∧ Aside0 (Below w.heap.size w wr) ∧ Aside0 (idxF p (xs.drop kk) kk = res))
  case atStart => exact ⟨0, Nat.zero_le _, by omega, rfl, ⟨Below.refl _ w⟩, HG⟩
  case round =>
    obtain ⟨kk, hkk, hg, rfl, BW, A1⟩ := hrel
    have hlen := HL.out
    by_cases hlt : kk < xs.length
    · have hltz : (kk : Int) < (xs.length : Int) := by omega
      obtain ⟨ad, e1, hx0, hx1, hx2⟩ := at_T35 HR.out (kk : Int) (by omega) hltz
      have hmem : rd_T35 xs (kk : Int) ∈ xs := by
        have e : rd_T35 xs (kk : Int) = xs[kk] := by unfold rd_T35; simp [List.getD, List.getElem?_eq_getElem hlt]
        rw [e]
        exact List.getElem_mem hlt
      have hcall := HP.out wr (rd_T35 xs (kk : Int)) hmem BW.out
      clear hmem
      have hy : rd_T35 xs (kk : Int) = xs.getD kk z35 := rfl
      have hmiss := Aside0.mk (idxF_drop_miss p xs z35 kk hlt)
      have hhit := Aside0.mk (idxF_drop_hit p xs z35 kk hlt)
      replace hx0 := (BW.out.cell (World.block_lt_of_cell? w _ hx0)).trans hx0
      replace hx1 := (BW.out.cell (World.block_lt_of_cell? w _ hx1)).trans hx1
      replace hx2 := (BW.out.cell (World.block_lt_of_cell? w _ hx2)).trans hx2
      simp only [Int.toNat_natCast] at hx0 hx1 hx2
      rw [← hy] at hmiss hhit
      clear hy
      generalize rd_T35 xs (kk : Int) = y at hx0 hx1 hx2 hcall hmiss hhit
      subst e1
      cases hq : p y with
      | true =>
        rw [hq] at hcall
        have A2 := Aside0.mk (((hhit.out hq).symm.trans A1.out).symm)
        clear hq hmiss hhit A1
        go_wp2_with (go_at_fn g; refine hcall.mono ?_; rintro e w' ⟨rfl, hb'⟩)
        go_ret
        exact ⟨by rw [A2.out]; try rfl, hb'⟩
      | false =>
        rw [hq] at hcall
        have A2 := Aside0.mk ((hmiss.out hq).symm.trans A1.out)
        clear hq hmiss hhit A1
        go_wp2_with (go_at_fn g; refine hcall.mono ?_; rintro e w' ⟨rfl, hb'⟩)
        go_roundg (xs.length - (kk + 1))
        case measure => omega
        case rel => exact ⟨kk + 1, by omega, by omega, by go_num, ⟨hb'⟩, A2⟩
    · have hltz : ¬ (kk : Int) < (xs.length : Int) := by omega
      have hd1 : decide ((kk : Int) < (xs.length : Int)) = false := decide_eq_false hltz
      have hd2 : decide (kk < xs.length) = false := decide_eq_false hlt
      have A2 := Aside0.mk (show res = -1 by rw [← A1.out, List.drop_eq_nil_of_le (by omega)]; rfl)
      clear A1
      go_wp2
      go_ret
      exact ⟨by rw [A2.out]; try rfl, BW.out⟩
end Go.Proofs.YtdacjpebgklneaaDoor.Pr

namespace Go.Proofs.YtdacjpebgklneaaDoor.Pr
open Go.RowKit Go.Proofs.YtdacjpebgklneaaDoorW.PrintWords Go.Proofs.YtdacjpebgklneaaDoorW.PrintLast Go.Proofs.YtdacjpebgklneaaDoorW.PrintMore
set_option linter.unusedVariables false
set_option linter.unusedSimpArgs false
theorem setCells_app (g : Nat) : ∀ (a b : List Value) (o : Nat) (w : World), w.setCells g o (a ++ b) = (w.setCells g o a).setCells g (o + a.length) b
  | [], _, _, _ => rfl
  | v :: r, b, o, w => by
    rw [List.cons_append, World.setCells, World.setCells, setCells_app g r b]
    congr 1
    simp
    omega
theorem below_cells {B g : Nat} (hg : B ≤ g) : ∀ (vs : List Value) (o : Nat) (a w : World), Below B a w → Below B a (w.setCells g o vs)
  | [], _, _, _, h => h
  | v :: r, o, a, w, h => below_cells hg r (o + 1) a _ (h.setCell hg v)
end Go.Proofs.YtdacjpebgklneaaDoor.Pr

namespace Go.Proofs.YtdacjpebgklneaaDoor.Pr
open Go.RowKit Go.Proofs.YtdacjpebgklneaaDoorW.PrintWords Go.Proofs.YtdacjpebgklneaaDoorW.PrintLast Go.Proofs.YtdacjpebgklneaaDoorW.PrintMore
set_option linter.unusedVariables false
set_option linter.unusedSimpArgs false
structure DelInv {α : Type} (p : α → Bool) (xs ys : List α) (i j : Nat) : Prop where
  len : ys.length = xs.length
  lt : i < j
  low : ys.take i = (xs.take j).filter (fun x => !p x)
  high : ys.drop j = xs.drop j
theorem DelInv.get {α : Type} {p : α → Bool} {xs ys : List α} {i j : Nat} (h : DelInv p xs ys i j) (d : α) (hj : j < xs.length) : ys.getD j d = xs.getD j d := by
  have e : (ys.drop j)[0]? = (xs.drop j)[0]? := by rw [h.high]
  simp only [List.getElem?_drop, Nat.add_zero] at e
  simp [List.getD, e]
theorem DelInv.skip {α : Type} {p : α → Bool} {xs ys : List α} {i j : Nat} (h : DelInv p xs ys i j) (d : α) (hj : j < xs.length) (hp : p (xs.getD j d) = true) : DelInv p xs ys i (j + 1) where
  len := h.len
  lt := by have := h.lt; omega
  low := by
    have e : xs.getD j d = xs[j] := by simp [List.getD, List.getElem?_eq_getElem hj]
    rw [e] at hp
    rw [h.low, ← List.take_append_getElem hj, List.filter_append]
    simp [hp]
  high := by
    have := congrArg (List.drop 1) h.high
    simpa [List.drop_drop, Nat.add_comm] using this
theorem DelInv.keep {α : Type} {p : α → Bool} {xs ys : List α} {i j : Nat} (h : DelInv p xs ys i j) (d : α) (hj : j < xs.length) (hp : p (xs.getD j d) = false) : DelInv p xs (ys.set i (xs.getD j d)) (i + 1) (j + 1) where
  len := by rw [List.length_set]; exact h.len
  lt := by have := h.lt; omega
  low := by
    have e : xs.getD j d = xs[j] := by simp [List.getD, List.getElem?_eq_getElem hj]
    have hi : i < ys.length := by have := h.lt; have := h.len; omega
    rw [e] at hp ⊢
    rw [← List.take_append_getElem hj, List.filter_append, ← h.low]
    have e2 : (ys.set i xs[j]).take (i + 1) = ys.take i ++ [xs[j]] := by
      rw [← List.take_append_getElem (by rw [List.length_set]; exact hi), List.take_set, List.set_eq_of_length_le (by simp; omega), List.getElem_set_self]
    rw [e2]
    simp [hp]
  high := by
    have hl := h.lt
    rw [List.drop_set_of_lt (by omega)]
    have := congrArg (List.drop 1) h.high
    simpa [List.drop_drop, Nat.add_comm] using this
theorem idxF_spec {α : Type} (p : α → Bool) : ∀ (xs : List α) (i : Nat), (idxF p xs i = -1 ∧ xs.filter (fun x => !p x) = xs) ∨ ∃ k, k < xs.length ∧ idxF p xs i = ((i + k : Nat) : Int) ∧ (xs.take (k + 1)).filter (fun x => !p x) = xs.take k
  | [], _ => .inl ⟨rfl, rfl⟩
  | x :: s, i => by
    by_cases c : p x = true
    · exact .inr ⟨0, by simp, by rw [idxF, if_pos c]; rfl, by simp [c]⟩
    · rcases idxF_spec p s (i + 1) with ⟨e, hf⟩ | ⟨k, hk, e, hf⟩
      · exact .inl ⟨by rw [idxF, if_neg c, e], by simp [c, hf]⟩
      · refine .inr ⟨k + 1, by simpa using hk, by rw [idxF, if_neg c, e]; congr 1; omega, ?_⟩
        rw [List.take_succ_cons, List.take_succ_cons, List.filter_cons, hf]
        simp [c]
theorem DelInv.start {α : Type} {p : α → Bool} {xs : List α} {k : Nat} (hf : (xs.take (k + 1)).filter (fun x => !p x) = xs.take k) : DelInv p xs xs k (k + 1) := ⟨rfl, by omega, hf.symm, rfl⟩
theorem DelInv.done {α : Type} {p : α → Bool} {xs ys : List α} {i : Nat} (h : DelInv p xs ys i xs.length) : ys.take i = xs.filter (fun x => !p x) := by
  rw [h.low, List.take_length]
theorem zeroCells_flat (z : Value) (zs : List Value) (hz : z.cells = zs.toArray) (n : Nat) : (Builtin.zeroCells z.cells n).toList = (List.replicate n zs).flatten := by
  rw [hz]
  simp only [Builtin.zeroCells, Array.toList_map, Array.toList_range, List.size_toArray]
  induction n with
  | zero => simp
  | succ n ih =>
    rw [List.replicate_succ', List.flatten_append, ← ih, Nat.succ_mul, List.range_add, List.map_append]
    congr 1
    simp only [List.flatten_cons, List.flatten_nil, List.append_nil, List.map_map]
    refine List.ext_getElem (by simp) fun t h1 h2 => ?_
    have ht : t < zs.length := h2
    simp [Nat.add_mod, Nat.mod_eq_of_lt ht, ht]
theorem run_clear_rows {P : Program} (w : World) (t e ty : TypeId) (z : Value) (zs : List Value) (ht : P.underlying t = some (.slice e)) (hv : ∀ w, (zeroValue e).run P w = .ok z w) (hz : z.cells = zs.toArray) (h1 : ∀ v ∈ zs, v.oneCell' = true) (b o n c : Nat) (hn : 0 < n)
    (hc : ∀ j, j < n * zs.length → (w.cell? ⟨b, o + j, none⟩).isSome = true) (hf : ∀ j, j < n * zs.length → w.frozen? ⟨b, o + j, none⟩ = false) :
    (Builtin.clear_ #[t] ty #[.slice (some ⟨b, o, none⟩) n c]).run P w = .ok (.tuple #[]) (w.setCells b o (List.replicate n zs).flatten) := by
  have hzc := zeroCells_flat z zs hz n
  have hlen : (List.replicate n zs).flatten.length = n * zs.length := by simp
  have hst := run_storeCells_cells (P := P) b o (List.replicate n zs).flatten 0 w (by rw [hlen]; simpa using hc) (by rw [hlen]; simpa using hf) (by intro v hv'; simp only [List.mem_flatten, List.mem_replicate] at hv'; obtain ⟨l, ⟨_, rfl⟩, hl⟩ := hv'; exact h1 v hl)
  simp only [Nat.add_zero] at hst
  obtain ⟨m, rfl⟩ : ∃ m, n = m + 1 := ⟨n - 1, by omega⟩
  simp [Builtin.clear_, run_underlying ht, hv, hzc, hst]
theorem R_clear {α : Type} {d : Kd α} {e g cap : Nat} {base : Nat} (zs : List Value) (z : α) (hzl : zs.length = d.sz) (hM : ∀ W okp, d.M W base okp z zs) :
    ∀ (m i : Nat) (ys : List α) (W : World), d.R e W base (fun _ => True) (.slice (some ⟨g, 0, none⟩) ys.length cap) ys → i + m = ys.length →
      ∃ ys', ys'.length = ys.length ∧ ys'.take i = ys.take i ∧ d.R e (W.setCells g (i * d.sz) (List.replicate m zs).flatten) base (fun _ => True) (.slice (some ⟨g, 0, none⟩) ys.length cap) ys'
  | 0, i, ys, W, h, _ => ⟨ys, rfl, rfl, h⟩
  | m + 1, i, ys, W, h, hm => by
    obtain ⟨c, hcl, _, hcc, _⟩ := Kd.R_elem h z (i : Int) (by omega) (by omega)
    have h1 := Kd.R_seg (okp := fun k => True ∧ k ≠ g) h (i : Int) (by omega) (by omega) (seg := zs) (j := 0) hcl hcc (by omega) (x' := z) (by simpa [hzl, ← hcl] using hM W _) (fun _ hk => hk)
    have h2 := h1.1
    simp only [Int.toNat_natCast, Nat.add_zero] at h2
    have hl : (ys.set i z).length = ys.length := List.length_set
    rw [← hl] at h2
    obtain ⟨ys', e1, e2, h3⟩ := R_clear (d := d) (e := e) (cap := cap) zs z hzl hM m (i + 1) (ys.set i z) _ h2 (by rw [hl]; omega)
    rw [hl] at e1 h3
    refine ⟨ys', e1, ?_, ?_⟩
    · have := congrArg (List.take i) e2
      rw [List.take_take, List.take_take, Nat.min_eq_left (by omega), List.take_set_of_le (Nat.le_refl _)] at this
      exact this
    · rw [List.replicate_succ, List.flatten_cons, setCells_app, hzl, ← Nat.succ_mul]
      exact h3
theorem R_cells {α : Type} {d : Kd α} {e g cap : Nat} {base n : Nat} {W : World} {ok : Nat → Prop} {ys : List α} (z : α) (h : d.R e W base ok (.slice (some ⟨g, 0, none⟩) n cap) ys) (t : Nat) (ht : t < n * d.sz) :
    (W.cell? ⟨g, t, none⟩).isSome = true ∧ W.frozen? ⟨g, t, none⟩ = false := by
  have hd : 0 < d.sz := by rcases Nat.eq_zero_or_pos d.sz with h0 | h0; · rw [h0] at ht; simp at ht
                           · exact h0
  have hi : t / d.sz < n := (Nat.div_lt_iff_lt_mul hd).2 ht
  have e1 : t / d.sz * d.sz + t % d.sz = t := Nat.div_add_mod' t d.sz
  have hlt : t % d.sz < d.sz := Nat.mod_lt _ hd
  generalize t / d.sz = q at hi e1
  obtain ⟨c, hcl, _, hcc, hf⟩ := Kd.R_elem h z (q : Int) (by omega) (by omega)
  simp only [Int.toNat_natCast] at hcc hf
  have h1 := hcc (t % d.sz) _ (List.getElem?_eq_getElem (by omega))
  have h2 := hf (t % d.sz)
  rw [e1] at h1 h2
  exact ⟨by rw [h1]; rfl, h2⟩
end Go.Proofs.YtdacjpebgklneaaDoor.Pr

namespace Go.Proofs.YtdacjpebgklneaaDoor.Pr
open Go.RowKit Go.Proofs.YtdacjpebgklneaaDoorW.PrintWords Go.Proofs.YtdacjpebgklneaaDoorW.PrintLast Go.Proofs.YtdacjpebgklneaaDoorW.PrintMore
set_option linter.unusedVariables false
set_option linter.unusedSimpArgs false
set_option maxHeartbeats 4000000 in
set_option maxRecDepth 100000 in
theorem dfLease (g : Nat) (lb : Array Value) (eg : ∀ args w, (callFunc g args).run Tryd.prog w = .ok (.enter g args) w) (p : S35 → Bool) (base : Nat) (A : Option Addr) (c : Nat) (xs : List S35) (w : World)
    (hp : ∀ (W : World) (x : S35), x ∈ xs → Below base w W → Calls Tryd.prog g (#[.agg #[.string x.f0, .int .i64 x.f1, .int .i64 x.f2]] ++ lb) W fun e w' => e = .returned (.bool (p x)) ∧ Below W.heap.size W w')
    (hr : Kd.R k35 35 w base (fun _ => True) (.slice A xs.length c) xs) (hbs : base ≤ w.heap.size) :
    Calls Tryd.prog 24 #[.slice A xs.length c, .func (.func g) #[] lb] w fun e w' => ∃ v, e = .returned v ∧ Kd.R k35 35 w' base (fun _ => True) v (xs.filter (fun x => !p x)) ∧ Below base w w' := by
  have hu35 := Tryd.underlying35
  have hI := ixLease g lb eg p A c xs w (fun W x hx hb => (hp W x hx (hb.mono hbs)).mono fun e w' ⟨he, hb'⟩ => ⟨he, hb.trans (hb'.mono hb.size)⟩) (Kd.R_reads' hr).2.2
  rcases idxF_spec p xs 0 with ⟨e1, hf⟩ | ⟨k0, hk0, e1, hf⟩
  · rw [e1] at hI
    rw [hf]
    have HR := Aside0.mk hr
    have HI := Aside0.mk hI
    clear hp hr hI e1 hf
    go_enter Tryd.func24, Tryd.ntmps24
    go_wp2_with fail
    refine HI.out.mono ?_
    rintro e w' ⟨rfl, hb⟩
    go_wp2
    go_ret
    exact ⟨_, rfl, Kd.R_below HR.out hb, hb.mono hbs⟩
  · rw [e1] at hI
    simp only [Nat.zero_add] at hI
    obtain ⟨g0, cap, ev, hg1, hg2, _⟩ := Kd.R_form hr (by omega)
    injection ev with ea _ ec
    subst ea; subst ec
    have hne1 : ((k0 : Int) == -1) = false := beq_eq_false_iff_ne.2 (by omega)
    have HP := Aside0.mk hp
    have HR0 := Aside0.mk hr
    have HI := Aside0.mk hI
    have HF := Aside0.mk (DelInv.start hf)
    have hlen : xs.length ≤ 9223372036854775807 := (Kd.R_reads' hr).2.2.2.1
    have hcap : xs.length ≤ c := (Kd.R_reads' hr).2.1
    clear hp hr hI e1 hf
    go_enter Tryd.func24, Tryd.ntmps24
    go_wp2_with fail
    refine HI.out.mono ?_
    rintro e w1 ⟨rfl, hb1⟩
    have HB1 := Aside0.mk hb1
    clear hb1
    go_wp2
    go_loopg [5, 6, 7] xs.length (fun gg s5 s6 _ wr => ∃ (ii jj : Nat) (ys : List S35), s5 = .int .i64 ii ∧ s6 = .int .i64 jj ∧ jj ≤ xs.length ∧ xs.length - jj ≤ gg ∧ Aside0 (DelInv p xs ys ii jj) ∧ Aside0 (Kd.R k35 35 wr base (fun _ => True) (.slice (some ⟨g0, 0, none⟩) xs.length c) ys) ∧ Aside0 (Below base w wr))
    case atStart => exact ⟨k0, k0 + 1, xs, rfl, by go_num, by omega, by omega, HF, ⟨Kd.R_below HR0.out HB1.out⟩, ⟨HB1.out.mono hbs⟩⟩
    case round =>
      obtain ⟨ii, jj, ys, rfl, rfl, hjj, hgg, HD, HR, HB⟩ := hrel
      have hij := HD.out.lt
      have hsz : g0 < wr.heap.size := by have := HB.out.size; omega
      by_cases hlt : jj < xs.length
      · have hltz : (jj : Int) < (xs.length : Int) := by omega
        obtain ⟨cj, hclj, hMj, hcj, _⟩ := Kd.R_elem HR.out z35 (jj : Int) (by omega) hltz
        obtain ⟨ci, hcli, hMi, hci, hfi⟩ := Kd.R_elem HR.out z35 (ii : Int) (by omega) (by omega)
        obtain rfl := k35_openM hMj
        obtain rfl := k35_openM hMi
        simp only [Int.toNat_natCast, HD.out.get z35 hlt] at hcj hci hfi
        have hmem : xs.getD jj z35 ∈ xs := by simp [List.getD, List.getElem?_eq_getElem hlt]
        have hcall := fun W => HP.out W (xs.getD jj z35) hmem
        have HK := Aside0.mk (fun h => HD.out.keep z35 hlt h)
        have HS := Aside0.mk (fun h => HD.out.skip z35 hlt h)
        clear hmem hclj hMj hMi hcli
        generalize xs.getD jj z35 = y at hcj hcall HK HS
        generalize ys.getD ii z35 = o at hci
        have hj0 : wr.cell? ⟨g0, jj * 3, none⟩ = some (.string y.f0) := hcj 0 _ rfl
        have hj1 : wr.cell? ⟨g0, jj * 3 + 1, none⟩ = some (.int .i64 y.f1) := hcj 1 _ rfl
        have hj2 : wr.cell? ⟨g0, jj * 3 + 2, none⟩ = some (.int .i64 y.f2) := hcj 2 _ rfl
        have hi0 : wr.cell? ⟨g0, ii * 3, none⟩ = some (.string o.f0) := hci 0 _ rfl
        have fi0 : wr.frozen? ⟨g0, ii * 3, none⟩ = false := hfi 0
        have hi1 : wr.cell? ⟨g0, ii * 3 + 1, none⟩ = some (.int .i64 o.f1) := hci 1 _ rfl
        have fi1 : wr.frozen? ⟨g0, ii * 3 + 1, none⟩ = false := hfi 1
        have hi2 : wr.cell? ⟨g0, ii * 3 + 2, none⟩ = some (.int .i64 o.f2) := hci 2 _ rfl
        have fi2 : wr.frozen? ⟨g0, ii * 3 + 2, none⟩ = false := hfi 2
        clear hcj hci hfi
        have HC := Aside0.mk hcall
        clear hcall
        have hsafe : wr.heap.size ≠ g0 := by omega
        cases hq : p y with
        | true =>
          go_wp2_with (go_at_fn g; refine (HC.out _ (HB.out.alloc (by omega) _)).mono ?_; rw [hq]; rintro e w' ⟨rfl, hb'⟩)
          go_roundg (xs.length - (jj + 1))
          case measure => omega
          case rel => exact ⟨ii, jj + 1, ys, rfl, by go_num, by omega, Nat.le_refl _, ⟨HS.out hq⟩, ⟨Kd.R_below (Kd.R_alloc HR.out _) hb'⟩, ⟨(HB.out.alloc (by omega) _).trans (hb'.mono (by simp; omega))⟩⟩
        | false =>
          go_wp2_with fail
          refine (HC.out _ (HB.out.alloc (by omega) _)).mono ?_
          rw [hq]
          rintro e w' ⟨rfl, hb'⟩
          have HRW := Aside0.mk (Kd.R_below (Kd.R_alloc HR.out _) hb')
          have bx0 := (hb'.cell (p := ⟨wr.heap.size, 0, none⟩) (by simp)).trans (show _ = some (.string y.f0) by go_simp)
          have bx1 := (hb'.cell (p := ⟨wr.heap.size, 1, none⟩) (by simp)).trans (show _ = some (.int .i64 y.f1) by go_simp)
          have bx2 := (hb'.cell (p := ⟨wr.heap.size, 2, none⟩) (by simp)).trans (show _ = some (.int .i64 y.f2) by go_simp)
          have HBW := Aside0.mk ((HB.out.alloc (by omega : base ≤ wr.heap.size) (.cells #[.string y.f0, .int .i64 y.f1, .int .i64 y.f2] 35 (0, 0))).trans (hb'.mono (by simp; omega)))
          clear hb'
          obtain ⟨c2, hcl2, hM2, hci2, hfi2⟩ := Kd.R_elem HRW.out z35 (ii : Int) (by omega) (by omega)
          have HP2 := Aside0.mk (Kd.R_seg (okp := fun k => True ∧ k ≠ g0) HRW.out (ii : Int) (by omega) (by omega) (seg := [.string y.f0, .int .i64 y.f1, .int .i64 y.f2]) (j := 0) hcl2 hci2 (show 0 + 3 ≤ 3 by decide) (x' := y) (by obtain rfl := k35_openM hM2; exact k35_mkM _ _ _ y) (fun _ hk => hk)).1
          obtain rfl := k35_openM hM2
          simp only [Int.toNat_natCast] at hci2 hfi2
          generalize ys.getD ii z35 = o2 at hci2
          have hi0 : w'.cell? ⟨g0, ii * 3, none⟩ = some (.string o2.f0) := hci2 0 _ rfl
          have fi0 : w'.frozen? ⟨g0, ii * 3, none⟩ = false := hfi2 0
          have hi1 : w'.cell? ⟨g0, ii * 3 + 1, none⟩ = some (.int .i64 o2.f1) := hci2 1 _ rfl
          have fi1 : w'.frozen? ⟨g0, ii * 3 + 1, none⟩ = false := hfi2 1
          have hi2 : w'.cell? ⟨g0, ii * 3 + 2, none⟩ = some (.int .i64 o2.f2) := hci2 2 _ rfl
          have fi2 : w'.frozen? ⟨g0, ii * 3 + 2, none⟩ = false := hfi2 2
          clear hci2 hfi2 hcl2
          go_wp2
          go_roundg (xs.length - (jj + 1))
          case measure => omega
          case rel => exact ⟨ii + 1, jj + 1, ys.set ii y, by go_num, by go_num, by omega, Nat.le_refl _, ⟨HK.out hq⟩, ⟨HP2.out⟩, ⟨(((HBW.out).setCell hg1 _).setCell hg1 _).setCell hg1 _⟩⟩
      · obtain rfl : jj = xs.length := by omega
        have hltz : ¬ (xs.length : Int) < (xs.length : Int) := by omega
        have hyl := HD.out.len
        have hRy := HR.out
        have hz : ∀ w, (zeroValue 35).run Tryd.prog w = .ok (.agg #[.string ⟨#[]⟩, .int .i64 0, .int .i64 0]) w := by
          obtain ⟨i0, hi, hz0, -, -⟩ := info_parts info35
          intro w
          simp [zeroValue, typeInfo, hi, hz0]
        have hcl : ∀ ty, (Builtin.clear_ #[24] ty #[.slice (some ⟨g0, ii * 3, none⟩) (xs.length - ii) (c - ii)]).run Tryd.prog wr = .ok (.tuple #[]) (wr.setCells g0 (ii * 3) (List.replicate (xs.length - ii) [.string ⟨#[]⟩, .int .i64 0, .int .i64 0]).flatten) := by
          intro ty
          refine run_clear_rows wr 24 35 ty _ [.string ⟨#[]⟩, .int .i64 0, .int .i64 0] Tryd.underlying24 hz rfl (by intro v hv; simp at hv; rcases hv with rfl | rfl <;> rfl) g0 (ii * 3) _ _ (by omega) (fun t ht => ?_) (fun t ht => ?_)
          · exact (R_cells z35 hRy _ (by show _ < xs.length * 3; simp at ht; omega)).1
          · exact (R_cells z35 hRy _ (by show _ < xs.length * 3; simp at ht; omega)).2
        have hRy2 : Kd.R k35 35 wr base (fun _ => True) (.slice (some ⟨g0, 0, none⟩) ys.length c) ys := by rw [hyl]; exact hRy
        obtain ⟨ys', e3, e4, hR4⟩ := R_clear (d := k35) [.string ⟨#[]⟩, .int .i64 0, .int .i64 0] z35 rfl (fun W okp => k35_mkM _ _ _ z35) (xs.length - ii) ii ys wr hRy2 (by omega)
        have HR4 := Aside0.mk (Kd.R_take hR4 (m := ii) (by omega))
        have HE := Aside0.mk (e4.trans HD.out.done)
        clear hRy hRy2 hR4 hz
        have hii : ii ≤ xs.length := by omega
        have hic : ii ≤ c := by omega
        go_wp2
        go_ret
        exact ⟨_, rfl, by rw [← HE.out]; exact HR4.out, below_cells hg1 _ _ _ _ HB.out⟩
end Go.Proofs.YtdacjpebgklneaaDoor.Pr

namespace Go.Proofs.YtdacjpebgklneaaDoor.Pr
open Go.RowKit Go.Proofs.YtdacjpebgklneaaDoorW.PrintWords Go.Proofs.YtdacjpebgklneaaDoorW.PrintLast Go.Proofs.YtdacjpebgklneaaDoorW.PrintMore
attribute [local go_sem] max2_int min2_int max_two min_two max_three min_three max_four min_four
set_option linter.unusedVariables false
set_option linter.unusedSimpArgs false
def impl_copyLeases.f (l0 : List (S35)) : Option ((List (S35))) := if ([] : List (S35)).length + l0.length < 4398046511104 then (some (([] : List (S35)) ++ l0)) else (none)
set_option maxHeartbeats 8000000 in
set_option maxRecDepth 100000 in
theorem impl_copyLeases.calls (A0 : Option Addr) (c0 : Nat) (l0 : List (S35)) (r : List (S35)) (w : World) (hr0 : Kd.C k35 w A0 l0.length l0) (hc0 : l0.length ≤ c0) (h : impl_copyLeases.f l0 = some r) :
    Calls Tryd.prog 19 #[.slice A0 l0.length c0] w fun e w' => ∃ v0_ : Value, e = .returned (v0_) ∧ Kd.R k35 35 w' w.heap.size (fun _ => True) v0_ r ∧ Below w.heap.size w w' := by
  have HR0 := Aside0.mk hr0
  have HC0 := Aside0.mk hc0
  clear hr0 hc0
  have HB := Aside0.mk (Below.refl w.heap.size w)
  have H : (if ([] : List (S35)).length + l0.length < 4398046511104 then (some (([] : List (S35)) ++ l0)) else (none)) = some r := h
  clear h
  by_cases c2 : ([] : List (S35)).length + l0.length < 4398046511104
  · rw [if_pos c2] at H
    have LMc2 := Aside0.mk c2
    clear c2
    obtain ⟨y263, hy263⟩ : ∃ y_ : List (S35), y_ = (([] : List (S35)) ++ l0) := ⟨_, rfl⟩
    replace H : (some y263) = some r := by first | (rw [hy263]; with_reducible exact H) | (have H2_ := (Option.bind_some _ _).symm.trans H; rw [hy263]; with_reducible exact H2_) | (have H2_ := (Option.bind_some _ _).symm.trans H; with_reducible exact H2_) | with_reducible exact H | (rw [hy263]; exact H) | exact H
    have Ny263 := Aside0.mk hy263
    clear hy263
    obtain rfl := Option.some.inj H
    go_enter Tryd.func19, Tryd.ntmps19
    go_wp2_with (first | ((with_reducible refine gate_builtin (b := .append) (xs := #[.const (.slice none 0 0), .tmp 3]) rfl ?_); at_builtin; refine Kd.R_append_rows k35 (w0 := w) w.heap.size rfl (.const (.slice none 0 0)) (.tmp 3) 24 35 (.agg #[(.string ⟨#[]⟩), (.int .i64 0), (.int .i64 0)]) 32 rfl Tryd.underlying24 info35 rfl (by decide) (by omega) (.slice none 0 0) ([] : List (S35)) l0 _ _ _ (fun _ => True) (fun _ => False) rfl rfl ?aO ?aR (fun _ _ h => h) (fun _ h => h.elim) ?aF ?aB ?aS ?aL ?_; (case aR => exact CC HR0.out); (case aB => exact (BB HB.out)); (case aF => exact (fun _ _ => trivial)); (case aO => exact ((Kd.R_nil _ _ _ _ (fun _ => True)))); (case aS => exact (below_size (BB HB.out))); (case aL => have := LMc2.out; omega); intro v264 w3 ho hb hg hat; rw [← Ny263.out] at ho; have HO265 := Aside0.mk (ho); replace HB := Aside0.mk (hb); clear ho hb hg hat))
    go_ret
    exact ⟨_, ER, by (with_reducible repeat (first | apply Kd.R_alloc | apply Kd.R_drewN | apply Kd.R_drew)); exact HO265.out, (BB HB.out)⟩
  · rw [if_neg c2] at H
    exact absurd H (by simp)

end Go.Proofs.YtdacjpebgklneaaDoor.Pr

namespace Go.Proofs.YtdacjpebgklneaaDoor.Pr
open Go.RowKit Go.Proofs.YtdacjpebgklneaaDoorW.PrintWords Go.Proofs.YtdacjpebgklneaaDoorW.PrintLast Go.Proofs.YtdacjpebgklneaaDoorW.PrintMore
set_option linter.unusedVariables false
set_option linter.unusedSimpArgs false
def leaseAt (p : ByteArray) (x : S35) : Bool := x.f0.toList == p.toList
set_option maxHeartbeats 2000000 in
set_option maxRecDepth 100000 in
theorem cl_DropLease (x : S35) (p : ByteArray) (B : Nat) (w : World) (h1 : w.cell? ⟨B, 0, none⟩ = some (.string p)) :
    Calls Tryd.prog 25 #[.agg #[.string x.f0, .int .i64 x.f1, .int .i64 x.f2], .pointer (some ⟨B, 0, none⟩)] w fun e w' => e = .returned (.bool (leaseAt p x)) ∧ Below w.heap.size w w' := by
  have l1 := World.block_lt_of_cell? w _ h1
  simp only at l1
  unfold leaseAt
  generalize hq : (x.f0.toList == p.toList) = q
  have hu2 := Tryd.underlying35
  go_enter Tryd.func25, Tryd.ntmps25
  go_wp2
  go_ret
  exact ⟨rfl, (Below.refl _ _).alloc (Nat.le_refl _) _⟩
def impl_DropLease.f (l0 : List (S35)) (a1 : ByteArray) : Option (List (S35)) := (impl_copyLeases.f l0).bind fun t => some (t.filter fun x => !leaseAt a1 x)
set_option maxHeartbeats 2000000 in
set_option maxRecDepth 100000 in
theorem impl_DropLease.calls (A0 : Option Addr) (c0 : Nat) (l0 : List (S35)) (a1 : ByteArray) (r : List (S35)) (w : World) (hr0 : Kd.C k35 w A0 l0.length l0) (hc0 : l0.length ≤ c0) (h : impl_DropLease.f l0 a1 = some r) :
    Calls Tryd.prog 9 #[.slice A0 l0.length c0, .string a1] w fun e w' => ∃ v0_ : Value, e = .returned (v0_) ∧ Kd.R k35 35 w' w.heap.size (fun _ => True) v0_ r ∧ Below w.heap.size w w' := by
  unfold impl_DropLease.f at h
  obtain ⟨t, ht, h⟩ := Option.bind_eq_some_iff.mp h
  obtain rfl := Option.some.inj h
  clear h
  have HR := Aside0.mk hr0
  clear hr0
  go_enter Tryd.func9, Tryd.ntmps9
  go_wp2_with fail
  refine (impl_copyLeases.calls A0 c0 l0 t _ (Kd.C_alloc HR.out _) hc0 ht).mono ?_
  rintro e w1 ⟨v, rfl, hv, hb⟩
  obtain ⟨Av, cv, rfl⟩ := Kd.R_slice hv
  have f0 := (hb.cell (p := ⟨w.heap.size, 0, none⟩) (by simp)).trans (show _ = some (.string a1) by go_simp)
  have HB := Aside0.mk hb
  have HV := Aside0.mk hv
  have hs := hb.size
  simp at hs
  clear hb hv
  go_wp2_with fail
  refine (dfLease 25 _ (enters_of Tryd.func25 (by kernel_rfl) rfl) (leaseAt a1) _ Av cv t _ ?hp HV.out (by simp; omega)).mono ?_
  case hp =>
    intro W x hm hB
    exact cl_DropLease x a1 w.heap.size W ((hB.cell (p := ⟨w.heap.size, 0, none⟩) (by simp)).trans f0)
  rintro e w2 ⟨v2, rfl, hv2, hb2⟩
  have HB2 := Aside0.mk hb2
  have HV2 := Aside0.mk hv2
  clear hb2 hv2
  go_wp2
  go_ret
  exact ⟨_, rfl, Kd.R_lower HV2.out (by simp), ((Below.refl _ _).alloc (Nat.le_refl _) _).trans ((HB.out.mono (by simp)).trans (HB2.out.mono (by simp)))⟩
end Go.Proofs.YtdacjpebgklneaaDoor.Pr

namespace Go.Proofs
open Go.Shelf
def Tryd.lays156_ren : Go.Shelf.Ren := ⟨fun | 156 => 51 | 165 => 57 | 166 => 58 | 169 => 59 | 240 => 65 | 241 => 66 | 276 => 71 | 277 => 72 | n => n, fun | 31 => 32 | 9 => 9 | 3 => 3 | 4 => 4 | 0 => 0 | 20 => 20 | 72 => 77 | 76 => 81 | 70 => 75 | 37 => 22 | 75 => 80 | 127 => 86 | 164 => 91 | 5 => 5 | 80 => 83 | n => n, fun | n => n⟩
theorem Tryd.lays156 : Go.Proofs.Lays.n156 Tryd.prog Tryd.lays156_ren := {
  mixed := by kernel_rfl
  f156 := Tryd.func51.trans (congrArg some (by kernel_rfl))
  f165 := Tryd.func57.trans (congrArg some (by kernel_rfl))
  f166 := Tryd.func58.trans (congrArg some (by kernel_rfl))
  f169 := Tryd.func59.trans (congrArg some (by kernel_rfl))
  f240 := Tryd.func65.trans (congrArg some (by kernel_rfl))
  f241 := Tryd.func66.trans (congrArg some (by kernel_rfl))
  f276 := Tryd.func71.trans (congrArg some (by kernel_rfl))
  f277 := Tryd.func72.trans (congrArg some (by kernel_rfl))
  t0 := Tryd.underlying0
  a0 := Tryd.isAgg0
  z0 := Tryd.sizeOf0
  v0 := Tryd.zeroValue0
  t3 := Tryd.underlying3
  a3 := Tryd.isAgg3
  z3 := Tryd.sizeOf3
  v3 := Tryd.zeroValue3
  t4 := Tryd.underlying4
  a4 := Tryd.isAgg4
  z4 := Tryd.sizeOf4
  v4 := Tryd.zeroValue4
  t9 := Tryd.underlying9
  a9 := Tryd.isAgg9
  z9 := Tryd.sizeOf9
  v9 := Tryd.zeroValue9
  t20 := Tryd.underlying20
  a20 := Tryd.isAgg20
  z20 := Tryd.sizeOf20
  v20 := Tryd.zeroValue20
  t31 := Tryd.underlying32
  a31 := Tryd.isAgg32
  z31 := Tryd.sizeOf32
  v31 := Tryd.zeroValue32
  t37 := Tryd.underlying22
  a37 := Tryd.isAgg22
  z37 := Tryd.sizeOf22
  v37 := Tryd.zeroValue22
  t70 := Tryd.underlying75
  a70 := Tryd.isAgg75
  z70 := Tryd.sizeOf75
  v70 := Tryd.zeroValue75
  t72 := Tryd.underlying77
  a72 := Tryd.isAgg77
  z72 := Tryd.sizeOf77
  v72 := Tryd.zeroValue77
  t75 := Tryd.underlying80
  a75 := Tryd.isAgg80
  z75 := Tryd.sizeOf80
  v75 := Tryd.zeroValue80
  t76 := Tryd.underlying81
  a76 := Tryd.isAgg81
  z76 := Tryd.sizeOf81
  v76 := Tryd.zeroValue81
  t127 := Tryd.underlying86
  a127 := Tryd.isAgg86
  z127 := Tryd.sizeOf86
  v127 := Tryd.zeroValue86
  t164 := Tryd.underlying91
  a164 := Tryd.isAgg91
  z164 := Tryd.sizeOf91
  v164 := Tryd.zeroValue91 }
theorem Tryd.Builder_Extra_156 : Builder.Extra Tryd.prog Tryd.lays156_ren := {
  sizeBuilder := by kernel_rfl
  liesBuilder := by kernel_rfl
  t5 := Tryd.underlying5
  a5 := Tryd.isAgg5
  z5 := Tryd.sizeOf5
  v5 := Tryd.zeroValue5
  infoByte := by kernel_rfl
  cellsByte := by kernel_rfl
  sizeByte := by kernel_rfl
  neB5 := by decide }
open Go.RowKit in
theorem Tryd.strings_Join (bk o c : Nat) (xs : List ByteArray) (sep : ByteArray) (w : World) (hcells : ∀ (j : Nat) x, xs[j]? = some x → w.cell? ⟨bk, o + j, none⟩ = some (.string x)) (hbk : bk < w.heap.size) (hN : xs.length ≤ 140737488355328) (hcap : xs.length ≤ c) (hlen : (Lib.join (xs.map (·.data.toList)) sep.data.toList).length ≤ 140737488355328) :
    Calls Tryd.prog 51 #[.slice (some ⟨bk, o, none⟩) xs.length c, .string sep] w fun e w' => e = .returned (.string ⟨(Lib.join (xs.map (·.data.toList)) sep.data.toList).toArray⟩) ∧ Below w.heap.size w w' := Any.strings_Join Tryd.lays156 Tryd.Builder_Extra_156 bk o c xs sep w hcells hbk hN hcap hlen
def Tryd.lays106_ren : Go.Shelf.Ren := ⟨fun | 106 => 22 | 213 => 31 | 265 => 40 | n => n, fun | 9 => 9 | 3 => 3 | n => n, fun | n => n⟩
theorem Tryd.lays106 : Go.Proofs.Lays.n106 Tryd.prog Tryd.lays106_ren := {
  mixed := by kernel_rfl
  f106 := Tryd.func22.trans (congrArg some (by kernel_rfl))
  f213 := Tryd.func31.trans (congrArg some (by kernel_rfl))
  f265 := Tryd.func40.trans (congrArg some (by kernel_rfl))
  t3 := Tryd.underlying3
  a3 := Tryd.isAgg3
  z3 := Tryd.sizeOf3
  v3 := Tryd.zeroValue3
  t9 := Tryd.underlying9
  a9 := Tryd.isAgg9
  z9 := Tryd.sizeOf9
  v9 := Tryd.zeroValue9 }
open Go.RowKit in
theorem Tryd.strings_Compare (a b : ByteArray) (w : World) :
    Calls Tryd.prog 22 #[.string a, .string b] w fun e w' => e = .returned (.int .i64 (Lib.compareBytes a.data.toList b.data.toList)) ∧ w' = w := Any.strings_Compare Tryd.lays106 a b w
def Tryd.lays103_ren : Go.Shelf.Ren := ⟨fun | 103 => 46 | 210 => 54 | 206 => 61 | n => n, fun | 9 => 9 | 4 => 4 | 24 => 68 | 3 => 3 | n => n, fun | n => n⟩
theorem Tryd.lays103 : Go.Proofs.Lays.n103 Tryd.prog Tryd.lays103_ren := {
  mixed := by kernel_rfl
  f103 := Tryd.func46.trans (congrArg some (by kernel_rfl))
  f206 := Tryd.func61.trans (congrArg some (by kernel_rfl))
  f210 := Tryd.func54.trans (congrArg some (by kernel_rfl))
  t3 := Tryd.underlying3
  a3 := Tryd.isAgg3
  z3 := Tryd.sizeOf3
  v3 := Tryd.zeroValue3
  t4 := Tryd.underlying4
  a4 := Tryd.isAgg4
  z4 := Tryd.sizeOf4
  v4 := Tryd.zeroValue4
  t9 := Tryd.underlying9
  a9 := Tryd.isAgg9
  z9 := Tryd.sizeOf9
  v9 := Tryd.zeroValue9
  t24 := Tryd.underlying68
  a24 := Tryd.isAgg68
  z24 := Tryd.sizeOf68
  v24 := Tryd.zeroValue68 }
open Go.RowKit in
theorem Tryd.strings_CutPrefix (s p : ByteArray) (w : World) :
    Calls Tryd.prog 46 #[.string s, .string p] w fun e w' => e = .returned (.tuple #[.string ⟨(Lib.trimPrefix s.data.toList p.data.toList).toArray⟩, .bool (Lib.hasPrefix s.data.toList p.data.toList)]) ∧ w' = w := Any.strings_CutPrefix Tryd.lays103 s p w
def Tryd.lays143_ren : Go.Shelf.Ren := ⟨fun | 143 => 64 | 219 => 70 | 217 => 74 | 225 => 75 | 224 => 76 | 267 => 77 | 266 => 78 | 314 => 79 | n => n, fun | 9 => 9 | 3 => 3 | 4 => 4 | 5 => 5 | 46 => 57 | 146 => 100 | 51 => 99 | n => n, fun | 1 => 0 | n => n⟩
theorem Tryd.lays143 : Go.Proofs.Lays.n143 Tryd.prog Tryd.lays143_ren := {
  mixed := by kernel_rfl
  f143 := Tryd.func64.trans (congrArg some (by kernel_rfl))
  f217 := Tryd.func74.trans (congrArg some (by kernel_rfl))
  f219 := Tryd.func70.trans (congrArg some (by kernel_rfl))
  f224 := Tryd.func76.trans (congrArg some (by kernel_rfl))
  f225 := Tryd.func75.trans (congrArg some (by kernel_rfl))
  f266 := Tryd.func78.trans (congrArg some (by kernel_rfl))
  f267 := Tryd.func77.trans (congrArg some (by kernel_rfl))
  f314 := Tryd.func79.trans (congrArg some (by kernel_rfl))
  t3 := Tryd.underlying3
  a3 := Tryd.isAgg3
  z3 := Tryd.sizeOf3
  v3 := Tryd.zeroValue3
  t4 := Tryd.underlying4
  a4 := Tryd.isAgg4
  z4 := Tryd.sizeOf4
  v4 := Tryd.zeroValue4
  t5 := Tryd.underlying5
  a5 := Tryd.isAgg5
  z5 := Tryd.sizeOf5
  v5 := Tryd.zeroValue5
  t9 := Tryd.underlying9
  a9 := Tryd.isAgg9
  z9 := Tryd.sizeOf9
  v9 := Tryd.zeroValue9
  t46 := Tryd.underlying57
  a46 := Tryd.isAgg57
  z46 := Tryd.sizeOf57
  v46 := Tryd.zeroValue57
  t51 := Tryd.underlying99
  a51 := Tryd.isAgg99
  z51 := Tryd.sizeOf99
  v51 := Tryd.zeroValue99
  t146 := Tryd.underlying100
  a146 := Tryd.isAgg100
  z146 := Tryd.sizeOf100
  v146 := Tryd.zeroValue100
  g1 := by kernel_rfl }
open Go.RowKit Go.Lib in
theorem Tryd.strings_Index_one (s : ByteArray) (c : UInt8) (w : World) :
    Calls Tryd.prog 64 #[.string s, .string ⟨#[c]⟩] w fun e w' => e = .returned (.int .i64 (Lib.indexByte s.data.toList c)) ∧ w' = w := Any.strings_Index_one Tryd.lays143 s c w
def Tryd.lays138_ren : Go.Shelf.Ren := ⟨fun | 138 => 63 | 195 => 67 | 218 => 69 | 143 => 64 | 219 => 70 | 217 => 74 | 225 => 75 | 224 => 76 | 267 => 77 | 266 => 78 | 314 => 79 | n => n, fun | 9 => 9 | 3 => 3 | 4 => 4 | 5 => 5 | 0 => 0 | 46 => 57 | 146 => 100 | 51 => 99 | n => n, fun | 1 => 0 | n => n⟩
theorem Tryd.lays138 : Go.Proofs.Lays.n138 Tryd.prog Tryd.lays138_ren := {
  mixed := by kernel_rfl
  f138 := Tryd.func63.trans (congrArg some (by kernel_rfl))
  f143 := Tryd.func64.trans (congrArg some (by kernel_rfl))
  f195 := Tryd.func67.trans (congrArg some (by kernel_rfl))
  f217 := Tryd.func74.trans (congrArg some (by kernel_rfl))
  f218 := Tryd.func69.trans (congrArg some (by kernel_rfl))
  f219 := Tryd.func70.trans (congrArg some (by kernel_rfl))
  f224 := Tryd.func76.trans (congrArg some (by kernel_rfl))
  f225 := Tryd.func75.trans (congrArg some (by kernel_rfl))
  f266 := Tryd.func78.trans (congrArg some (by kernel_rfl))
  f267 := Tryd.func77.trans (congrArg some (by kernel_rfl))
  f314 := Tryd.func79.trans (congrArg some (by kernel_rfl))
  t0 := Tryd.underlying0
  a0 := Tryd.isAgg0
  z0 := Tryd.sizeOf0
  v0 := Tryd.zeroValue0
  t3 := Tryd.underlying3
  a3 := Tryd.isAgg3
  z3 := Tryd.sizeOf3
  v3 := Tryd.zeroValue3
  t4 := Tryd.underlying4
  a4 := Tryd.isAgg4
  z4 := Tryd.sizeOf4
  v4 := Tryd.zeroValue4
  t5 := Tryd.underlying5
  a5 := Tryd.isAgg5
  z5 := Tryd.sizeOf5
  v5 := Tryd.zeroValue5
  t9 := Tryd.underlying9
  a9 := Tryd.isAgg9
  z9 := Tryd.sizeOf9
  v9 := Tryd.zeroValue9
  t46 := Tryd.underlying57
  a46 := Tryd.isAgg57
  z46 := Tryd.sizeOf57
  v46 := Tryd.zeroValue57
  t51 := Tryd.underlying99
  a51 := Tryd.isAgg99
  z51 := Tryd.sizeOf99
  v51 := Tryd.zeroValue99
  t146 := Tryd.underlying100
  a146 := Tryd.isAgg100
  z146 := Tryd.sizeOf100
  v146 := Tryd.zeroValue100
  g1 := by kernel_rfl }
open Go.RowKit Go.Lib in
theorem Tryd.strings_Count_one (s : ByteArray) (c : UInt8) (w : World) :
    Calls Tryd.prog 63 #[.string s, .string ⟨#[c]⟩] w fun e w' => e = .returned (.int .i64 (Lib.countByte s.data.toList c)) ∧ w' = w := Any.strings_Count_one Tryd.lays138 s c w
def Tryd.lays221_ren : Go.Shelf.Ren := ⟨fun | 221 => 55 | 268 => 62 | 138 => 63 | 143 => 64 | 195 => 67 | 197 => 68 | 218 => 69 | 219 => 70 | 260 => 73 | 217 => 74 | 225 => 75 | 224 => 76 | 267 => 77 | 266 => 78 | 314 => 79 | n => n, fun | 9 => 9 | 3 => 3 | 31 => 32 | 4 => 4 | 0 => 0 | 105 => 88 | 21 => 21 | 5 => 5 | 46 => 57 | 119 => 95 | 139 => 98 | 138 => 97 | 146 => 100 | 51 => 99 | n => n, fun | 1 => 0 | 3 => 1 | 4 => 2 | n => n⟩
theorem Tryd.lays221 : Go.Proofs.Lays.n221 Tryd.prog Tryd.lays221_ren := {
  mixed := by kernel_rfl
  f138 := Tryd.func63.trans (congrArg some (by kernel_rfl))
  f143 := Tryd.func64.trans (congrArg some (by kernel_rfl))
  f195 := Tryd.func67.trans (congrArg some (by kernel_rfl))
  f197 := Tryd.func68.trans (congrArg some (by kernel_rfl))
  f217 := Tryd.func74.trans (congrArg some (by kernel_rfl))
  f218 := Tryd.func69.trans (congrArg some (by kernel_rfl))
  f219 := Tryd.func70.trans (congrArg some (by kernel_rfl))
  f221 := Tryd.func55.trans (congrArg some (by kernel_rfl))
  f224 := Tryd.func76.trans (congrArg some (by kernel_rfl))
  f225 := Tryd.func75.trans (congrArg some (by kernel_rfl))
  f260 := Tryd.func73.trans (congrArg some (by kernel_rfl))
  f266 := Tryd.func78.trans (congrArg some (by kernel_rfl))
  f267 := Tryd.func77.trans (congrArg some (by kernel_rfl))
  f268 := Tryd.func62.trans (congrArg some (by kernel_rfl))
  f314 := Tryd.func79.trans (congrArg some (by kernel_rfl))
  t0 := Tryd.underlying0
  a0 := Tryd.isAgg0
  z0 := Tryd.sizeOf0
  v0 := Tryd.zeroValue0
  t3 := Tryd.underlying3
  a3 := Tryd.isAgg3
  z3 := Tryd.sizeOf3
  v3 := Tryd.zeroValue3
  t4 := Tryd.underlying4
  a4 := Tryd.isAgg4
  z4 := Tryd.sizeOf4
  v4 := Tryd.zeroValue4
  t5 := Tryd.underlying5
  a5 := Tryd.isAgg5
  z5 := Tryd.sizeOf5
  v5 := Tryd.zeroValue5
  t9 := Tryd.underlying9
  a9 := Tryd.isAgg9
  z9 := Tryd.sizeOf9
  v9 := Tryd.zeroValue9
  t21 := Tryd.underlying21
  a21 := Tryd.isAgg21
  z21 := Tryd.sizeOf21
  v21 := Tryd.zeroValue21
  t31 := Tryd.underlying32
  a31 := Tryd.isAgg32
  z31 := Tryd.sizeOf32
  v31 := Tryd.zeroValue32
  t46 := Tryd.underlying57
  a46 := Tryd.isAgg57
  z46 := Tryd.sizeOf57
  v46 := Tryd.zeroValue57
  t51 := Tryd.underlying99
  a51 := Tryd.isAgg99
  z51 := Tryd.sizeOf99
  v51 := Tryd.zeroValue99
  t105 := Tryd.underlying88
  a105 := Tryd.isAgg88
  z105 := Tryd.sizeOf88
  v105 := Tryd.zeroValue88
  t119 := Tryd.underlying95
  a119 := Tryd.isAgg95
  z119 := Tryd.sizeOf95
  t138 := Tryd.underlying97
  a138 := Tryd.isAgg97
  z138 := Tryd.sizeOf97
  v138 := Tryd.zeroValue97
  t139 := Tryd.underlying98
  a139 := Tryd.isAgg98
  z139 := Tryd.sizeOf98
  v139 := Tryd.zeroValue98
  t146 := Tryd.underlying100
  a146 := Tryd.isAgg100
  z146 := Tryd.sizeOf100
  v146 := Tryd.zeroValue100
  g1 := by kernel_rfl
  g3 := by kernel_rfl
  g4 := by kernel_rfl }
def Tryd.laysSlH8_f48_ren : Go.Shelf.Ren := ⟨fun | 8 => 48 | 6 => 56 | n => n, fun | 22 => 32 | 23 => 9 | 25 => 53 | 4 => 4 | 3 => 3 | 0 => 0 | n => n, fun | n => n⟩
theorem Tryd.laysSlH8_f48 : Go.Proofs.SlLaysH.n8 Tryd.prog Tryd.laysSlH8_f48_ren := {
  mixed := by kernel_rfl
  f6 := ⟨Tryd.f56.name, by decide, Tryd.func56.trans (congrArg some (by kernel_rfl))⟩
  f8 := ⟨Tryd.f48.name, by decide, Tryd.func48.trans (congrArg some (by kernel_rfl))⟩
  t0 := Tryd.underlying0
  a0 := Tryd.isAgg0
  z0 := Tryd.sizeOf0
  v0 := Tryd.zeroValue0
  t3 := Tryd.underlying3
  a3 := Tryd.isAgg3
  z3 := Tryd.sizeOf3
  v3 := Tryd.zeroValue3
  t4 := Tryd.underlying4
  a4 := Tryd.isAgg4
  z4 := Tryd.sizeOf4
  v4 := Tryd.zeroValue4
  t22 := Tryd.underlying32
  a22 := Tryd.isAgg32
  z22 := Tryd.sizeOf32
  v22 := Tryd.zeroValue32
  a23 := Tryd.isAgg9
  z23 := Tryd.sizeOf9
  t25 := Tryd.underlying53
  a25 := Tryd.isAgg53
  z25 := Tryd.sizeOf53
  v25 := Tryd.zeroValue53 }
open Go.RowKit Go.Lib in
theorem Tryd.slices_ContainsFunc {α : Type} [Inhabited α] (enc : α → Value) (p : α → Bool) (g : Nat) (lb : Array Value) (eg : ∀ args w, (callFunc g args).run Tryd.prog w = .ok (.enter g args) w) (b off n c : Nat) (zs : List α) (w : World) (hp : PredAt Tryd.prog g lb enc p w) (hz : n ≤ zs.length) (hbig : n ≤ 9223372036854775807) (hc : ∀ j, j < zs.length → w.cell? ⟨b, off + j, none⟩ = some (enc zs[j]!)) :
    Calls Tryd.prog 48 #[.slice (some ⟨b, off, none⟩) n c, .func (.func g) #[] lb] w fun e w' => e = .returned (.bool ((zs.take n).any p)) ∧ ∃ q, w' = w.drewN q := AnyE.slices_ContainsFunc Tryd.laysSlH8_f48 enc p g lb eg b off n c zs w hp hz hbig hc
end Go.Proofs

namespace Go.Proofs.YtdacjpebgklneaaDoor.Evs
open Go.RowKit Go.Proofs.YtdacjpebgklneaaDoorW.PrintWords
theorem ev_some {α : Type} (r : α) : Ev (fun _ => some r) r := Ev.now r
theorem ev_pos {α : Type} {c : Prop} [Decidable c] {f g : Nat → Option α} {r : α} (h : c) (k : Ev f r) : Ev (fun n => if c then f n else g n) r := by
  simpa [h] using k
theorem ev_neg {α : Type} {c : Prop} [Decidable c] {f g : Nat → Option α} {r : α} (h : ¬ c) (k : Ev g r) : Ev (fun n => if c then f n else g n) r := by
  simpa [h] using k
theorem ev_bind {α β : Type} {g : Nat → Option α} {f : Nat → α → Option β} {a : α} {r : β} (h : Ev g a) (k : Ev (fun n => f n a) r) : Ev (fun n => (g n).bind (f n)) r := Ev.bind h k
theorem ev_call {α β : Type} {g : Option α} {f : Nat → α → Option β} {a : α} {r : β} (h : g = some a) (k : Ev (fun n => f n a) r) : Ev (fun n => g.bind (f n)) r := by
  subst h
  exact k
theorem ev_eq {α : Type} {g : Nat → Option α} {r s : α} (h : Ev g r) (e : r = s) : Ev g s := e ▸ h
theorem ev_step {α : Type} {g f : Nat → Option α} {r : α} (h : ∀ k, g (k + 1) = f k) (k : Ev f r) : Ev g r := Ev.step h k
theorem ev_rounds {α : Type} {g : Nat → Option α} {r : α} (h : Ev g r) : ∃ k, g k = some r := h.rounds
theorem ev_const {α : Type} {g : Option α} {r : α} (h : g = some r) : Ev (fun _ => g) r := ⟨0, fun _ _ => h⟩

theorem wrap_in {i : Int} (h0 : -9223372036854775808 ≤ i) (h1 : i ≤ 9223372036854775807) : wrap64 i = i := by unfold wrap64; omega
theorem getD_mid' {α : Type} (p s : List α) (x d : α) (i : Int) (hi : i = (p.length : Int)) : (p ++ x :: s).getD i.toNat d = x := by
  subst hi
  simp [List.getD]
theorem set_mid {α : Type} (p s : List α) (x y : α) (i : Int) (hi : i = (p.length : Int)) : (p ++ x :: s).set i.toNat y = p ++ y :: s := by
  subst hi
  simp
theorem toList_inj {a b : ByteArray} (h : a.toList = b.toList) : a = b := by
  rw [ByteArray.toList_eq, ByteArray.toList_eq] at h
  cases a with | mk x => cases b with | mk y =>
  cases x with | mk x => cases y with | mk y =>
  simp at h
  rw [h]
end Go.Proofs.YtdacjpebgklneaaDoor.Evs

namespace Go.Proofs.YtdacjpebgklneaaDoor.Pr
open Go.RowKit Go.Proofs.YtdacjpebgklneaaDoorW.PrintWords Go.Proofs.YtdacjpebgklneaaDoorW.PrintLast Go.Proofs.YtdacjpebgklneaaDoorW.PrintMore
set_option linter.unusedVariables false
set_option linter.unusedSimpArgs false
def ltP (p : ByteArray) (x : S35) : Prop := Lib.compareBytes x.f0.data.toList p.data.toList < 0
set_option maxHeartbeats 2000000 in
set_option maxRecDepth 100000 in
theorem cl_take (x : S35) (p : ByteArray) (w : World) : Calls Tryd.prog 21 #[.agg #[.string x.f0, .int .i64 x.f1, .int .i64 x.f2], .string p] w fun e w' => e = .returned (.int .i64 (Lib.compareBytes x.f0.data.toList p.data.toList)) ∧ Below w.heap.size w w' := by
  have hu := Tryd.underlying35
  have c : ∀ W, Calls Tryd.prog 22 #[.string x.f0, .string p] W fun e w' => e = .returned (.int .i64 (Lib.compareBytes x.f0.data.toList p.data.toList)) ∧ w' = W := fun W => Tryd.strings_Compare x.f0 p W
  generalize Lib.compareBytes x.f0.data.toList p.data.toList = r at c ⊢
  go_enter Tryd.func21, Tryd.ntmps21
  go_wp2_with (go_at_call 22; refine (c _).mono ?_; rintro e w' ⟨rfl, hw⟩; rw [hw])
  go_ret
  exact ⟨rfl, (Below.refl _ _).alloc (Nat.le_refl _) _⟩
def BsPost (xs : List S35) (p : ByteArray) (w : World) (e : Ending) (w' : World) : Prop := ∃ (k : Nat) (t : Bool), e = .returned (.tuple #[.int .i64 k, .bool t]) ∧ Below w.heap.size w w' ∧ k ≤ xs.length ∧ (∀ q, q < k → ltP p (xs.getD q z35)) ∧ (∀ q, k ≤ q → q < xs.length → ¬ ltP p (xs.getD q z35)) ∧ (t = true ↔ k < xs.length ∧ Lib.compareBytes (xs.getD k z35).f0.data.toList p.data.toList = 0)
set_option maxHeartbeats 4000000 in
set_option maxRecDepth 100000 in
theorem bsearch (A : Option Addr) (c : Nat) (xs : List S35) (p : ByteArray) (w : World) (hr : Kd.C k35 w A xs.length xs) (hc : xs.length ≤ c) (hn : xs.length < 1000000)
    (hm : ∀ a b, a ≤ b → b < xs.length → ltP p (xs.getD b z35) → ltP p (xs.getD a z35)) :
    Calls Tryd.prog 20 #[.slice A xs.length c, .string p, .func (.func 21) #[] #[]] w fun e w' => BsPost xs p w e w' := by
  have hu35 := Tryd.underlying35
  have eg : ∀ args w, (callFunc 21 args).run Tryd.prog w = .ok (.enter 21 args) w := enters_of Tryd.func21 (by kernel_rfl) rfl
  have HR := Aside0.mk hr
  have HM := Aside0.mk hm
  have HN := Aside0.mk hn
  clear hr hm hn
  go_enter Tryd.func20, Tryd.ntmps20
  go_wp2
  go_loopg [9, 10, 11] xs.length (fun gg s9 s10 _ wr => ∃ i j : Nat, s9 = .int .i64 i ∧ s10 = .int .i64 j ∧ i ≤ j ∧ j ≤ xs.length ∧ j - i ≤ gg ∧ Aside0 (Below w.heap.size w wr) ∧ Aside0 (∀ q, q < i → ltP p (xs.getD q z35)) ∧ Aside0 (∀ q, j ≤ q → q < xs.length → ¬ ltP p (xs.getD q z35)))
  case atStart => exact ⟨0, xs.length, rfl, rfl, Nat.zero_le _, Nat.le_refl _, by omega, ⟨Below.refl _ w⟩, ⟨fun q hq => absurd hq (Nat.not_lt_zero _)⟩, ⟨fun q h1 h2 => absurd h2 (Nat.not_lt.2 h1)⟩⟩
  case round =>
    obtain ⟨i, j, rfl, rfl, hij, hj, hg, BW, LO, HI⟩ := hrel
    have hn := HN.out
    by_cases hlt : i < j
    · have hltz : (i : Int) < (j : Int) := by omega
      obtain ⟨h, hh⟩ : ∃ h : Nat, ((i : Int) + (j : Int)) / 2 = (h : Int) := ⟨(i + j) / 2, by omega⟩
      have h1 : i ≤ h := by omega
      have h2 : h < j := by omega
      have h3 : (h : Int) < (xs.length : Int) := by omega
      have hw1 : IntKind.i64.wrap ((h : Int) + 1) = (h : Int) + 1 := by rw [IntKind.wrap_i64]; omega
      obtain ⟨ad, e1, hx0, hx1, hx2⟩ := at_T35 HR.out (h : Int) (by omega) (by omega)
      simp only [Int.toNat_natCast] at hx0 hx1 hx2
      replace hx0 := (BW.out.cell (World.block_lt_of_cell? w _ hx0)).trans hx0
      replace hx1 := (BW.out.cell (World.block_lt_of_cell? w _ hx1)).trans hx1
      replace hx2 := (BW.out.cell (World.block_lt_of_cell? w _ hx2)).trans hx2
      have hy : rd_T35 xs (h : Int) = xs.getD h z35 := rfl
      generalize rd_T35 xs (h : Int) = y at hx0 hx1 hx2 hy
      subst e1
      cases hq : decide (Lib.compareBytes y.f0.data.toList p.data.toList < 0) with
      | true =>
        have hq2 := of_decide_eq_true hq
        have LO' := Aside0.mk (show ∀ q, q < h + 1 → ltP p (xs.getD q z35) from fun q hq3 => HM.out q h (by omega) (by omega) (by rw [← hy]; exact hq2))
        have hcall := cl_take y p wr
        generalize Lib.compareBytes y.f0.data.toList p.data.toList = r at hcall hq hq2
        clear LO hy
        go_wp2_with (go_at_fn 21; refine hcall.mono ?_; rintro e w' ⟨rfl, hb'⟩)
        go_roundg (j - (h + 1))
        case measure => omega
        case rel => exact ⟨h + 1, j, by go_num, rfl, by omega, hj, by omega, ⟨BW.out.trans (hb'.mono BW.out.size)⟩, LO', HI⟩
      | false =>
        have hq2 := of_decide_eq_false hq
        have HI' := Aside0.mk (show ∀ q, h ≤ q → q < xs.length → ¬ ltP p (xs.getD q z35) from fun q hq3 hq4 hq5 => hq2 (by have := HM.out h q hq3 hq4 hq5; rw [← hy] at this; exact this))
        have hcall := cl_take y p wr
        generalize Lib.compareBytes y.f0.data.toList p.data.toList = r at hcall hq hq2
        clear HI hy
        go_wp2_with (go_at_fn 21; refine hcall.mono ?_; rintro e w' ⟨rfl, hb'⟩)
        go_roundg (h - i)
        case measure => omega
        case rel => exact ⟨i, h, rfl, rfl, h1, by omega, Nat.le_refl _, ⟨BW.out.trans (hb'.mono BW.out.size)⟩, LO, HI'⟩
    · have hltz : ¬ (i : Int) < (j : Int) := by omega
      obtain rfl : i = j := by omega
      by_cases hin : i < xs.length
      · have hinz : decide ((i : Int) < (xs.length : Int)) = true := decide_eq_true (by omega)
        have hiz : ((i : Int) < (xs.length : Int)) = True := eq_true (by omega)
        obtain ⟨ad, e1, hx0, hx1, hx2⟩ := at_T35 HR.out (i : Int) (by omega) (by omega)
        simp only [Int.toNat_natCast] at hx0 hx1 hx2
        replace hx0 := (BW.out.cell (World.block_lt_of_cell? w _ hx0)).trans hx0
        replace hx1 := (BW.out.cell (World.block_lt_of_cell? w _ hx1)).trans hx1
        replace hx2 := (BW.out.cell (World.block_lt_of_cell? w _ hx2)).trans hx2
        have hy : rd_T35 xs (i : Int) = xs.getD i z35 := rfl
        generalize rd_T35 xs (i : Int) = y at hx0 hx1 hx2 hy
        subst e1
        have hcall := cl_take y p wr
        have HY := Aside0.mk hy
        have hr : Aside0 (Lib.compareBytes (xs.getD i z35).f0.data.toList p.data.toList = Lib.compareBytes y.f0.data.toList p.data.toList) := ⟨by rw [← HY.out]⟩
        generalize Lib.compareBytes y.f0.data.toList p.data.toList = r at hcall hr
        clear hy
        cases hq : (r == 0) with
        | true =>
          have hq2 : r = 0 := beq_iff_eq.1 hq
          go_wp2_with (go_at_fn 21; refine hcall.mono ?_; rintro e w' ⟨rfl, hb'⟩)
          go_ret2
          unfold BsPost
          exact ⟨i, true, rfl, BW.out.trans (hb'.mono BW.out.size), hj, LO.out, HI.out, ⟨fun _ => ⟨hin, hr.out.trans hq2⟩, fun _ => rfl⟩⟩
        | false =>
          have hq2 : ¬ r = 0 := beq_eq_false_iff_ne.1 hq
          go_wp2_with (go_at_fn 21; refine hcall.mono ?_; rintro e w' ⟨rfl, hb'⟩)
          go_ret2
          unfold BsPost
          exact ⟨i, false, rfl, BW.out.trans (hb'.mono BW.out.size), hj, LO.out, HI.out, ⟨fun h => absurd h (by decide), fun h => absurd (hr.out.symm.trans h.2) hq2⟩⟩
      · have hinz : decide ((i : Int) < (xs.length : Int)) = false := decide_eq_false (by omega)
        have hiz : ((i : Int) < (xs.length : Int)) = False := eq_false (by omega)
        go_wp2
        go_ret2
        unfold BsPost
        exact ⟨i, false, rfl, BW.out, hj, LO.out, HI.out, ⟨fun h => absurd h (by decide), fun h => absurd h.1 hin⟩⟩
end Go.Proofs.YtdacjpebgklneaaDoor.Pr

namespace Go.Proofs.YtdacjpebgklneaaDoor.Pr
open Go.RowKit Go.Proofs.YtdacjpebgklneaaDoorW.PrintWords Go.Proofs.YtdacjpebgklneaaDoorW.PrintLast Go.Proofs.YtdacjpebgklneaaDoorW.PrintMore
set_option linter.unusedVariables false
set_option linter.unusedSimpArgs false
def lc (x : S35) : List Value := [.string x.f0, .int .i64 x.f1, .int .i64 x.f2]
def flat (xs : List S35) : List Value := xs.flatMap lc
theorem flat_cons (x : S35) (xs : List S35) : flat (x :: xs) = lc x ++ flat xs := rfl
theorem flat_app (xs ys : List S35) : flat (xs ++ ys) = flat xs ++ flat ys := by unfold flat; exact List.flatMap_append
theorem flat_len (xs : List S35) : (flat xs).length = xs.length * 3 := by
  induction xs with
  | nil => rfl
  | cons x s ih => rw [flat_cons, List.length_append, ih, List.length_cons, Nat.add_mul, Nat.add_comm]; rfl
theorem flat_one (xs : List S35) : ∀ v ∈ flat xs, v.oneCell' = true := by
  induction xs with
  | nil => intro v h; cases h
  | cons x s ih =>
    intro v h
    rw [flat_cons] at h
    rcases List.mem_append.1 h with h | h
    · simp [lc] at h
      rcases h with rfl | rfl | rfl <;> rfl
    · exact ih v h
theorem flat_take (xs : List S35) (k : Nat) (hk : k ≤ xs.length) : (flat xs).take (k * 3) = flat (xs.take k) := by
  have e : flat xs = flat (xs.take k) ++ flat (xs.drop k) := by rw [← flat_app, List.take_append_drop]
  rw [e, List.take_left' (by rw [flat_len, List.length_take, Nat.min_eq_left hk])]
theorem flat_drop (xs : List S35) (k : Nat) (hk : k ≤ xs.length) : (flat xs).drop (k * 3) = flat (xs.drop k) := by
  have e : flat xs = flat (xs.take k) ++ flat (xs.drop k) := by rw [← flat_app, List.take_append_drop]
  rw [e, List.drop_left' (by rw [flat_len, List.length_take, Nat.min_eq_left hk])]
theorem reps_flat {W : World} {base : Nat} {ok : Nat → Prop} : ∀ xs : List S35, Reps (k35.M W base ok) 3 xs (flat xs)
  | [] => Reps.none _ _
  | x :: s => by
    have h : Reps (k35.M W base ok) 3 ([] ++ [x]) ([] ++ lc x) := Reps.snoc (Reps.none _ _) (k35_mkM _ _ _ x) rfl
    exact Kd.reps_append h (reps_flat s)
theorem reps_inv {W : World} {base : Nat} {ok : Nat → Prop} : ∀ (xs : List S35) (cs : List Value), Reps (k35.M W base ok) 3 xs cs → cs = flat xs
  | [], cs, h => List.eq_nil_of_length_eq_zero (by rw [h.1]; rfl)
  | x :: s, cs, h => by
    have h0 := k35_openM (h.2 0 x rfl)
    rw [Nat.zero_mul, List.drop_zero] at h0
    have ht : Reps (k35.M W base ok) 3 s (cs.drop 3) := ⟨by rw [List.length_drop, h.1, List.length_cons]; omega, fun j p hj => by
      have := h.2 (j + 1) p (by simpa using hj)
      rw [List.drop_drop, show 3 + j * 3 = (j + 1) * 3 by omega]
      exact this⟩
    have := reps_inv s _ ht
    rw [flat_cons, ← this]
    have e : cs = cs.take 3 ++ cs.drop 3 := (List.take_append_drop 3 cs).symm
    rw [h0] at e
    exact e
theorem row_open {W : World} {base : Nat} {ok : Nat → Prop} {v : Value} {xs : List S35} (h : Kd.R k35 35 W base ok v xs) : (v = .slice none 0 0 ∧ xs = []) ∨ ∃ g cap cur, v = .slice (some ⟨g, 0, none⟩) xs.length cap ∧ base ≤ g ∧ ok g ∧ W.heap[g]? = some (.cells cur 35 (0, 0)) ∧ xs.length ≤ cap ∧ cap ≤ maxLen ∧ cur.size = cap * 3 ∧ cur.toList.take (xs.length * 3) = flat xs := by
  obtain ⟨h0, inner, ho, hr⟩ := h
  rcases ho.2 with ⟨rfl, hn⟩ | ⟨g, cap, cur, rfl, hb, hg, hn, hm, hs, ht⟩
  · exact .inl ⟨rfl, List.eq_nil_of_length_eq_zero hn⟩
  · exact .inr ⟨g, cap, cur, rfl, hb, h0 g rfl, hg, hn, hm, hs, by rw [← reps_inv _ _ hr]; exact ht⟩
theorem row_close {W : World} {base : Nat} {ok : Nat → Prop} {xs : List S35} {g cap n : Nat} {cur : Array Value} (hn0 : xs.length = n) (hb : base ≤ g) (ho : ok g) (hg : W.heap[g]? = some (.cells cur 35 (0, 0))) (hn : n ≤ cap) (hm : cap ≤ maxLen) (hs : cur.size = cap * 3) (ht : cur.toList.take (n * 3) = flat xs) :
    Kd.R k35 35 W base ok (.slice (some ⟨g, 0, none⟩) n cap) xs := by
  subst hn0
  exact ⟨fun k hk => by simp [Value.ownBlock] at hk; rw [← hk]; exact ho, flat xs, ⟨flat_len xs, .inr ⟨g, cap, cur, rfl, hb, hg, hn, hm, hs, ht⟩⟩, reps_flat xs⟩
theorem copy3 {P : Program} (w : World) (dT sT ty elem : TypeId) (g o dLen dCap : Nat) (a : Addr) (sLen sCap : Nat) (cur : Array Value) (t : TypeId) (cs : List Value)
    (hu : P.underlying dT = some (.slice elem)) (hs : (P.info? elem).map (·.size) = some 3) (hg : w.heap[g]? = some (.cells cur t (0, 0))) (hn : cs.length = Nat.min sLen dLen * 3)
    (hsrc : ∀ j v, cs[j]? = some v → w.cell? (a.add j) = some v) (hfit : o + cs.length ≤ cur.size) (h1 : ∀ v ∈ cs, v.oneCell' = true) :
    (Builtin.copy_ #[dT, sT] ty #[.slice (some ⟨g, o, none⟩) dLen dCap, .slice (some a) sLen sCap]).run P w =
      .ok (goInt (Nat.min sLen dLen)) (w.setRow g (cur.toList.take o ++ cs ++ cur.toList.drop (o + cs.length)).toArray) := by
  have hl := run_loadCells_list (P := P) w a cs hsrc
  have hst := run_storeCells_at P g o t cs 0 cur w hg (by simpa using hfit) h1
  cases hq : P.info? elem with
  | none => simp [hq] at hs
  | some i =>
    have hi : i.size = 3 := by simpa [hq] using hs
    simp [Builtin.copy_, run_underlying hu, Builtin.lenOf, Builtin.firstCells, sizeOf, typeInfo, hq, hi, ← hn, hl, hst]
theorem kc_one (w : World) (bx : Nat) (x : S35) (cur : Array Value) (hc : cur = #[.string x.f0, .int .i64 x.f1, .int .i64 x.f2]) (hx : w.heap[bx]? = some (.cells cur 35 (0, 0))) : ReadsRow (k35.K w) 3 w (some ⟨bx, 0, none⟩) 1 [x] := by
  subst hc
  refine ⟨rfl, by decide, fun _ => ⟨_, rfl, fun j p hj => ?_⟩⟩
  cases j with
  | zero =>
    obtain rfl : x = p := by simpa using hj
    refine ⟨lc x, rfl, k35_mk w x, fun i u hu => ?_⟩
    rw [Addr.add_lit]
    simp only [Nat.zero_mul, Nat.zero_add, World.cell?, hx]
    simpa [lc] using hu
  | succ j => simp at hj
set_option maxHeartbeats 4000000 in
set_option maxRecDepth 100000 in
theorem insert_end (ok : Nat → Prop) (w0 w : World) (base : Nat) (hok : ∀ k, w.heap.size ≤ k → ok k) (hB : Below base w0 w) (hbs : base ≤ w.heap.size) (A : Option Addr) (c : Nat) (xs : List S35) (x : S35) (bx : Nat)
    (hR : Kd.R k35 35 w base ok (.slice A xs.length c) xs) (hx : ReadsRow (k35.K w) 3 w (some ⟨bx, 0, none⟩) 1 [x]) (hl : xs.length ≤ 1000) :
    Calls Tryd.prog 23 #[.slice A xs.length c, .int .i64 xs.length, .slice (some ⟨bx, 0, none⟩) 1 1] w fun e w' => ∃ v', e = .returned v' ∧ Kd.R k35 35 w' base ok v' (xs ++ [x]) ∧ Below base w0 w' := by
  have hu35 := Tryd.underlying35
  have hcap : xs.length ≤ c := (Kd.R_reads' hR).2.1
  have HR := Aside0.mk hR
  have HX := Aside0.mk hx
  have HB := Aside0.mk hB
  have HO := Aside0.mk hok
  have HS := Aside0.mk hbs
  have HL := Aside0.mk hl
  clear hR hx hB hok hbs
  obtain ⟨n, hn⟩ : ∃ n, n = xs.length := ⟨_, rfl⟩
  rw [← hn] at hl hcap HR ⊢
  have HN := Aside0.mk hn
  clear hn
  have c1 : (n : Int) ≤ (c : Int) := by omega
  go_enter Tryd.func23, Tryd.ntmps23
  go_wp2_with (first | (at_builtin; refine Kd.R_append_rows k35 (w0 := w0) base rfl (.tmp 23) (.tmp 24) 24 35 (.agg #[(.string ⟨#[]⟩), (.int .i64 0), (.int .i64 0)]) 32 rfl Tryd.underlying24 info35 rfl (by decide) (by decide) (.slice A n c) xs [x] (some ⟨bx, 0, none⟩) 1 1 ok (fun _ => False) rfl rfl HR.out HX.out (fun x cs h => by obtain rfl := k35_open h; exact k35_mkM _ _ _ x) (fun _ h => h.elim) HO.out HB.out HS.out (by have := HL.out; omega) ?_; intro v1 w1 ho hb hg hat; clear hg hat))
  all_goals (go_ret; exact ⟨_, rfl, ho, hb⟩)
theorem cells_src (w : World) (g o : Nat) (cur : Array Value) (t : TypeId) (f : Nat × Nat) (cs : List Value) (hg : w.heap[g]? = some (.cells cur t f)) (hs : (cur.toList.drop o).take cs.length = cs) : ∀ j v, cs[j]? = some v → w.cell? ((⟨g, o, none⟩ : Addr).add j) = some v := fun j v hj => by
  rw [Addr.add_lit]
  have hlt : j < cs.length := (List.getElem?_eq_some_iff.1 hj).1
  rw [← hs, List.getElem?_take_of_lt hlt, List.getElem?_drop] at hj
  simpa [World.cell?, hg] using hj
set_option maxHeartbeats 8000000 in
set_option maxRecDepth 100000 in
theorem insert_grow (ok : Nat → Prop) (w0 w : World) (base : Nat) (hok : ∀ k, w.heap.size ≤ k → ok k) (hB : Below base w0 w) (hbs : base ≤ w.heap.size) (g c n k : Nat) (xs : List S35) (x : S35) (bx : Nat) (cur bc : Array Value)
    (hn : xs.length = n) (hl : n ≤ 1000) (hk : k < n) (hc : n ≤ c) (hroom : c < n + 1) (hg : w.heap[g]? = some (.cells cur 35 (0, 0))) (hcur : cur.toList.take (n * 3) = flat xs) (hx : w.heap[bx]? = some (.cells bc 35 (0, 0))) (hbc : bc.toList = lc x) :
    Calls Tryd.prog 23 #[.slice (some ⟨g, 0, none⟩) n c, .int .i64 k, .slice (some ⟨bx, 0, none⟩) 1 1] w fun e w' => ∃ v', e = .returned v' ∧ Kd.R k35 35 w' base ok v' (xs.take k ++ x :: xs.drop k) ∧ Below base w0 w' := by
  obtain ⟨i0, hi0, hz0, hzs, hzb⟩ := info_parts info35
  have hsz : (Tryd.prog.info? 35).map (·.size) = some 3 := by rw [hi0]; simp [hzs]
  have hgl : g < w.heap.size := (Array.getElem?_eq_some_iff.1 hg).1
  have hxl : bx < w.heap.size := (Array.getElem?_eq_some_iff.1 hx).1
  have lT : (flat (xs.take k)).length = k * 3 := by rw [flat_len, List.length_take]; omega
  have lD : (flat (xs.drop k)).length = (n - k) * 3 := by rw [flat_len, List.length_drop]; omega
  have hold : (Builtin.firstCells i0.size k (.slice (some ⟨g, 0, none⟩) k c)).run Tryd.prog w.drew = .ok (flat (xs.take k)).toArray w.drew := by
    rw [hzs]
    refine run_firstCells_some w.drew 3 k ⟨g, 0, none⟩ k c (flat (xs.take k)) lT (cells_src w.drew g 0 cur _ _ _ hg ?_)
    rw [List.drop_zero, lT, ← flat_take xs k (by omega), ← hcur, List.take_take]
    congr 1
    omega
  obtain ⟨G, hG⟩ : ∃ G, G = grownCap w (n + 1) c 35 := ⟨_, rfl⟩
  have hGn : n + 1 ≤ G := by rw [hG]; exact grownCap_ge w _ _ _
  have hGm : G ≤ maxLen := by rw [hG]; exact grownCap_le_maxLen w (n + 1) c 35 (by unfold maxLen; omega)
  obtain ⟨ROW, hROW, hRs, W1, hrz, hg1, hb1⟩ : ∃ ROW : Array Value, ROW.toList.take (k * 3) = flat (xs.take k) ∧ ROW.size = G * 3 ∧ ∃ W1, (∀ ty, (Builtin.append_ #[24, 3] ty #[.slice (some ⟨g, 0, none⟩) k c, .int .i64 ((n : Int) + 1 - (k : Int))]).run Tryd.prog w = .ok (.slice (some ⟨w.heap.size, 0, none⟩) (n + 1) G) W1) ∧ W1.heap[w.heap.size]? = some (.cells ROW 35 (0, 0)) ∧ Below w.heap.size w W1 := by
    refine ⟨(flat (xs.take k)).toArray ++ Builtin.zeroCells (Value.agg #[(.string ⟨#[]⟩), (.int .i64 0), (.int .i64 0)]).cells (n + 1 - k) ++ Builtin.zeroCells (Value.agg #[(.string ⟨#[]⟩), (.int .i64 0), (.int .i64 0)]).cells (G - (n + 1)), ?_, ?_, w.drew.alloc (.cells _ 35), fun ty => ?_, Array.getElem?_push_size, ((Below.refl w.heap.size w).drew).alloc (Nat.le_refl _) _⟩
    · simp only [Array.toList_append, List.append_assoc]
      rw [List.take_left' lT]
    · simp [Builtin.zeroCells, Value.cells, lT]
      omega
    · have h := Lib.run_append_grow_zeros w 24 3 ty 35 i0 _ .i64 .i64 Tryd.underlying24 Tryd.underlying3 hi0 hz0 (some ⟨g, 0, none⟩) k c (flat (xs.take k)) hold (n + 1 - k) (by omega) (by omega) (by omega) (by omega) (by rw [hzb]; omega) (by rw [hzb, show k + (n + 1 - k) = n + 1 by omega]; exact growslice_fits hroom (by omega))
      rw [show k + (n + 1 - k) = n + 1 by omega, ← hG] at h
      rw [show (n : Int) + 1 - (k : Int) = ((n + 1 - k : Nat) : Int) by omega]
      exact h
  clear hold hG
  obtain ⟨g', hg'⟩ : ∃ g', g' = w.heap.size := ⟨_, rfl⟩
  rw [← hg'] at hrz hg1
  obtain ⟨ROW1, hR1⟩ : ∃ R : Array Value, R = (ROW.toList.take (k * 3) ++ lc x ++ ROW.toList.drop (k * 3 + 3)).toArray := ⟨_, rfl⟩
  have z1 : ROW1.size = G * 3 := by rw [hR1]; simp [lc]; omega
  have hx1 : W1.heap[bx]? = some (.cells bc 35 (0, 0)) := (hb1.block bx hxl).trans hx
  have hgg : W1.heap[g]? = some (.cells cur 35 (0, 0)) := (hb1.block g hgl).trans hg
  have hcA : ∀ ty dc, (Builtin.copy_ #[24, 24] ty #[.slice (some ⟨g', k * 3, none⟩) (n + 1 - k) dc, .slice (some ⟨bx, 0, none⟩) 1 1]).run Tryd.prog W1 = .ok (goInt 1) (W1.setRow g' ROW1) := fun ty dc => by
    have h := copy3 W1 24 24 ty 35 g' (k * 3) (n + 1 - k) dc ⟨bx, 0, none⟩ 1 1 ROW 35 (lc x) Tryd.underlying24 hsz hg1 (by rw [show Nat.min 1 (n + 1 - k) = 1 from Nat.min_eq_left (by omega)]; rfl) (cells_src W1 bx 0 bc _ _ _ hx1 (by rw [hbc, List.drop_zero]; rfl)) (by simp [lc]; omega) (by intro v hv; simp [lc] at hv; rcases hv with rfl | rfl | rfl <;> rfl)
    rw [show Nat.min 1 (n + 1 - k) = 1 from Nat.min_eq_left (by omega)] at h
    rw [h, hR1]
    rfl
  obtain ⟨W2, hW2⟩ : ∃ W2, W2 = (W1.setRow g' ROW1).drew := ⟨_, rfl⟩
  have hg2 : W2.heap[g']? = some (.cells ROW1 35 (0, 0)) := by rw [hW2]; exact setRow_heap W1 g' ROW ROW1 _ _ hg1
  have hgg2 : W2.heap[g]? = some (.cells cur 35 (0, 0)) := by rw [hW2]; exact (setRow_other W1 g' g ROW1 (by omega)).trans hgg
  obtain ⟨ROW2, hR2⟩ : ∃ R : Array Value, R = (ROW1.toList.take ((k + 1) * 3) ++ flat (xs.drop k) ++ ROW1.toList.drop ((k + 1) * 3 + (n - k) * 3)).toArray := ⟨_, rfl⟩
  have z2 : ROW2.size = G * 3 := by rw [hR2]; simp [lD]; omega
  have hcB : ∀ ty dc sc, (Builtin.copy_ #[24, 24] ty #[.slice (some ⟨g', (k + 1) * 3, none⟩) (n - k) dc, .slice (some ⟨g, k * 3, none⟩) (n - k) sc]).run Tryd.prog W2 = .ok (goInt (n - k : Nat)) (W2.setRow g' ROW2) := fun ty dc sc => by
    have h := copy3 W2 24 24 ty 35 g' ((k + 1) * 3) (n - k) dc ⟨g, k * 3, none⟩ (n - k) sc ROW1 35 (flat (xs.drop k)) Tryd.underlying24 hsz hg2 (by rw [lD]; simp [Nat.min_def]) (cells_src W2 g (k * 3) cur _ _ _ hgg2 (by
      have e : (cur.toList.take (n * 3)).drop (k * 3) = flat (xs.drop k) := by rw [hcur, flat_drop xs k (by omega)]
      rw [lD, ← e, List.drop_take]
      congr 1
      omega)) (by rw [lD]; omega) (flat_one _)
    rw [show Nat.min (n - k) (n - k) = n - k by simp [Nat.min_def]] at h
    rw [h, hR2, lD]
  have hB2 : Below base w0 (W2.setRow g' ROW2) := by
    refine below_setRow ?_ (by omega) _
    rw [hW2]
    exact (below_setRow (hB.trans (hb1.mono hbs)) (by omega) _).drew
  have hg3 : (W2.setRow g' ROW2).heap[g']? = some (.cells ROW2 35 (0, 0)) := setRow_heap W2 g' ROW1 ROW2 _ _ hg2
  have hfin : ROW2.toList.take ((n + 1) * 3) = flat (xs.take k ++ x :: xs.drop k) := by
    have eR1 : ROW1.toList = flat (xs.take k) ++ (lc x ++ ROW.toList.drop (k * 3 + 3)) := by rw [hR1, hROW, List.append_assoc]
    have e1 : ROW1.toList.take ((k + 1) * 3) = flat (xs.take k) ++ lc x := by
      rw [eR1, ← List.append_assoc, List.take_left' (by rw [List.length_append, lT]; simp [lc]; omega)]
    rw [hR2, e1, flat_app, flat_cons]
    rw [List.take_left' (by rw [List.length_append, List.length_append, lT, lD]; simp [lc]; omega)]
    rw [List.append_assoc]
  have hfl : (xs.take k ++ x :: xs.drop k).length = n + 1 := by rw [List.length_append, List.length_take, List.length_cons, List.length_drop]; omega
  have HF := Aside0.mk (row_close (base := base) (ok := ok) hfl (show base ≤ g' by omega) (hok g' (by omega)) hg3 hGn hGm z2 hfin)
  have HB := Aside0.mk hB2
  have hz3 : (c : Int) < (n : Int) + 1 := by omega
  have hz2 : ¬ ((k : Int) = (n : Int)) := by omega
  have hb3 : (k : Int) ≤ (n : Int) := by omega
  have hb4 : (k : Int) ≤ (c : Int) := by omega
  have hw1 : IntKind.i64.wrap ((k : Int) + 1) = (k : Int) + 1 := by rw [IntKind.wrap_i64]; omega
  have hb1' : (0 : Int) ≤ (k : Int) + 1 := by omega
  have htn : ((k : Int) + 1).toNat = k + 1 := by omega
  have hin : k ≤ n := by omega
  have hGi : ¬ (G = k) := by omega
  have hGim : ¬ (G = k + 1) := by omega
  have hci : ¬ (c = k) := by omega
  have hu35 := Tryd.underlying35
  have HC1 : Aside0 (n + 1 ≤ G) := ⟨hGn⟩
  clear hfin hg3 hB2 hR1 hR2 hgg hgg2 hx1 hg2 hg1 hROW hRs z1 z2 lT lD hfl hcur hbc hx hg hi0 hz0 hzs hzb hGm hb1 hgl hxl hn hB hok hbs hg'
  subst hW2
  go_enter Tryd.func23, Tryd.ntmps23
  go_wp2_with (first
    | (at_builtin; refine Lib.wpList_append_run _ rfl _ _ _ _ rfl _ _ rfl rfl _ _ (hrz _) ?_)
    | (at_builtin; refine wpList_copy_runI _ rfl _ _ 24 24 rfl _ _ rfl rfl (hcA _ _) ?_))
  go_region_law (refine step_copy_runI rfl _ _ 24 24 rfl (.slice (some ⟨g', (k + 1) * 3, none⟩) (n - k) (G - (k + 1))) (.slice (some ⟨g, k * 3, none⟩) (n - k) (c - k)) (by simp [Act.eval, Act.put]) (by simp [Act.eval, Act.put]) (hcB 3 (G - (k + 1)) (c - k)) ?_)
  go_wp2
  go_ret
  exact ⟨_, rfl, HF.out, HB.out⟩
set_option maxHeartbeats 8000000 in
set_option maxRecDepth 100000 in
theorem insert_room (ok : Nat → Prop) (w0 w : World) (base : Nat) (hB : Below base w0 w) (g c n k : Nat) (hbg : base ≤ g) (hog : ok g) (xs : List S35) (x : S35) (bx : Nat) (cur bc : Array Value)
    (hn : xs.length = n) (hl : n ≤ 1000) (hk : k < n) (hroom : n + 1 ≤ c) (hcm : c ≤ maxLen) (hs : cur.size = c * 3) (hg : w.heap[g]? = some (.cells cur 35 (0, 0))) (hcur : cur.toList.take (n * 3) = flat xs) (hx : w.heap[bx]? = some (.cells bc 35 (0, 0))) (hbc : bc.toList = lc x) (hne : bx ≠ g) :
    Calls Tryd.prog 23 #[.slice (some ⟨g, 0, none⟩) n c, .int .i64 k, .slice (some ⟨bx, 0, none⟩) 1 1] w fun e w' => ∃ v', e = .returned v' ∧ Kd.R k35 35 w' base ok v' (xs.take k ++ x :: xs.drop k) ∧ Below base w0 w' := by
  obtain ⟨i0, hi0, hz0, hzs, hzb⟩ := info_parts info35
  have hsz : (Tryd.prog.info? 35).map (·.size) = some 3 := by rw [hi0]; simp [hzs]
  have hzr : ∀ w, (Go.sizeOf 35).run Tryd.prog w = .ok 3 w := fun w => by simp [sizeOf, typeInfo, hi0, hzs]
  have lD : (flat (xs.drop k)).length = (n - k) * 3 := by rw [flat_len, List.length_drop]; omega
  have lT : (flat (xs.take k)).length = k * 3 := by rw [flat_len, List.length_take]; omega
  have lb : bc.size = 3 := by rw [← Array.length_toList, hbc]; rfl
  have hov : ∀ lb cb, (callFunc 32 #[.slice (some ⟨bx, 0, none⟩) 1 1, .slice (some ⟨g, (k + 1) * 3, none⟩) lb cb]).run Tryd.prog w = .ok (.value (.bool false)) w := fun lb cb => by
    rw [run_callFunc_extern Tryd.func32 (by kernel_rfl) (by kernel_rfl) (by kernel_rfl) (e := Extern.SlicesOverlaps.overlaps #[24, 24] #[4]) (by kernel_rfl),
      Lib.run_overlaps_apart w 24 4 35 Tryd.underlying24 3 hzr ⟨bx, 0, none⟩ ⟨g, (k + 1) * 3, none⟩ 1 1 lb cb hne 35 35 bc.size cur.size (by simp [World.shape?, hx]) (by simp [World.shape?, hg]) (by omega) (by simp [World.frozen?, hx]) (by simp [World.frozen?, hx])]
    rfl
  obtain ⟨CUR1, hR1⟩ : ∃ R : Array Value, R = (cur.toList.take ((k + 1) * 3) ++ flat (xs.drop k) ++ cur.toList.drop ((k + 1) * 3 + (n - k) * 3)).toArray := ⟨_, rfl⟩
  have z1 : CUR1.size = c * 3 := by rw [hR1]; simp [lD]; omega
  obtain ⟨W1, hW1⟩ : ∃ W1, W1 = w.drew.setRow g CUR1 := ⟨_, rfl⟩
  have hcA : ∀ ty dc sc, (Builtin.copy_ #[24, 24] ty #[.slice (some ⟨g, (k + 1) * 3, none⟩) (n - k) dc, .slice (some ⟨g, k * 3, none⟩) (n + 1 - k) sc]).run Tryd.prog w.drew = .ok (goInt (n - k : Nat)) W1 := fun ty dc sc => by
    have hm : Nat.min (n + 1 - k) (n - k) = n - k := by simp only [Nat.min_def]; split <;> omega
    have h := copy3 w.drew 24 24 ty 35 g ((k + 1) * 3) (n - k) dc ⟨g, k * 3, none⟩ (n + 1 - k) sc cur 35 (flat (xs.drop k)) Tryd.underlying24 hsz hg (by rw [lD, hm]) (cells_src w.drew g (k * 3) cur _ _ _ hg (by
      have e : (cur.toList.take (n * 3)).drop (k * 3) = flat (xs.drop k) := by rw [hcur, flat_drop xs k (by omega)]
      rw [lD, ← e, List.drop_take]
      congr 1
      omega)) (by rw [lD]; omega) (flat_one _)
    rw [hm] at h
    rw [h, hW1, hR1, lD]
  have hg1 : W1.heap[g]? = some (.cells CUR1 35 (0, 0)) := by rw [hW1]; exact setRow_heap w.drew g cur CUR1 _ _ hg
  have hx1 : W1.heap[bx]? = some (.cells bc 35 (0, 0)) := by rw [hW1]; exact (setRow_other w.drew g bx CUR1 hne).trans hx
  have hB1 : Below base w0 W1 := by rw [hW1]; exact below_setRow hB.drew hbg _
  obtain ⟨CUR2, hR2⟩ : ∃ R : Array Value, R = (CUR1.toList.take (k * 3) ++ lc x ++ CUR1.toList.drop (k * 3 + 3)).toArray := ⟨_, rfl⟩
  have z2 : CUR2.size = c * 3 := by rw [hR2]; simp [lc]; omega
  have hcB : ∀ ty dc, (Builtin.copy_ #[24, 24] ty #[.slice (some ⟨g, k * 3, none⟩) (n + 1 - k) dc, .slice (some ⟨bx, 0, none⟩) 1 1]).run Tryd.prog W1 = .ok (goInt 1) (W1.setRow g CUR2) := fun ty dc => by
    have hm : Nat.min 1 (n + 1 - k) = 1 := Nat.min_eq_left (by omega)
    have h := copy3 W1 24 24 ty 35 g (k * 3) (n + 1 - k) dc ⟨bx, 0, none⟩ 1 1 CUR1 35 (lc x) Tryd.underlying24 hsz hg1 (by rw [hm]; rfl) (cells_src W1 bx 0 bc _ _ _ hx1 (by rw [hbc, List.drop_zero]; rfl)) (by simp [lc]; omega) (by intro v hv; simp [lc] at hv; rcases hv with rfl | rfl | rfl <;> rfl)
    rw [hm] at h
    rw [h, hR2]
    rfl
  have hB2 : Below base w0 (W1.setRow g CUR2) := below_setRow hB1 hbg _
  have hg2 : (W1.setRow g CUR2).heap[g]? = some (.cells CUR2 35 (0, 0)) := setRow_heap W1 g CUR1 CUR2 _ _ hg1
  have hfin : CUR2.toList.take ((n + 1) * 3) = flat (xs.take k ++ x :: xs.drop k) := by
    have e0 : cur.toList.take (k * 3) = flat (xs.take k) := by
      rw [← flat_take xs k (by omega), ← hcur, List.take_take]
      congr 1
      omega
    have l1 : (cur.toList.take ((k + 1) * 3)).length = (k + 1) * 3 := by simp; omega
    have e1 : CUR1.toList.take (k * 3) = flat (xs.take k) := by
      rw [hR1, ← e0]
      show List.take (k * 3) (_ ++ _ ++ _) = _
      rw [List.append_assoc, List.take_append_of_le_length (by rw [l1]; omega), List.take_take]
      congr 1
      omega
    have e2 : CUR1.toList.drop (k * 3 + 3) = flat (xs.drop k) ++ cur.toList.drop ((k + 1) * 3 + (n - k) * 3) := by
      rw [hR1]
      show List.drop (k * 3 + 3) (_ ++ _ ++ _) = _
      rw [List.append_assoc, List.drop_left' (by rw [l1]; omega)]
    rw [hR2, e1, e2]
    show List.take ((n + 1) * 3) (flat (xs.take k) ++ lc x ++ (flat (xs.drop k) ++ _)) = _
    rw [← List.append_assoc, List.take_left' (by rw [List.length_append, List.length_append, lT, lD]; simp [lc]; omega), flat_app, flat_cons, List.append_assoc]
  have hfl : (xs.take k ++ x :: xs.drop k).length = n + 1 := by rw [List.length_append, List.length_take, List.length_cons, List.length_drop]; omega
  have HF := Aside0.mk (row_close (base := base) (ok := ok) hfl hbg hog hg2 hroom hcm z2 hfin)
  have HB := Aside0.mk hB2
  have hz3 : ¬ ((c : Int) < (n : Int) + 1) := by omega
  have hz2 : ¬ ((k : Int) = (n : Int)) := by omega
  have hb3 : (k : Int) ≤ (n : Int) := by omega
  have hb4 : (k : Int) ≤ (c : Int) := by omega
  have hb5 : (n : Int) + 1 ≤ (c : Int) := by omega
  have hb6 : (k : Int) ≤ (n : Int) + 1 := by omega
  have hw1 : IntKind.i64.wrap ((k : Int) + 1) = (k : Int) + 1 := by rw [IntKind.wrap_i64]; omega
  have hb1' : (0 : Int) ≤ (k : Int) + 1 := by omega
  have hb2' : (0 : Int) ≤ (n : Int) + 1 := by omega
  have htn : ((k : Int) + 1).toNat = k + 1 := by omega
  have htn2 : ((n : Int) + 1).toNat = n + 1 := by omega
  have hin : k ≤ n := by omega
  have hcim : ¬ (c = k + 1) := by omega
  have hci : ¬ (c = k) := by omega
  have hu35 := Tryd.underlying35
  clear hW1 hfin hg2 hB2 hB1 hR1 hR2 hx1 hg1 z1 z2 lT lD lb hfl hcur hbc hx hg hi0 hz0 hzs hzb hzr hn hB hs hsz hog
  go_enter Tryd.func23, Tryd.ntmps23
  go_wp2_with (simp only [hov])
  go_region_law (refine step_copy_runI rfl _ _ 24 24 rfl (.slice (some ⟨g, (k + 1) * 3, none⟩) (n - k) (c - (k + 1))) (.slice (some ⟨g, k * 3, none⟩) (n + 1 - k) (c - k)) (by simp [Act.eval, Act.put]) (by simp [Act.eval, Act.put]) (hcA 3 (c - (k + 1)) (c - k)) ?_)
  go_wp2_with (at_builtin; refine wpList_copy_runI _ rfl _ _ 24 24 rfl _ _ rfl rfl (hcB _ _) ?_)

  go_ret
  exact ⟨_, rfl, HF.out, HB.out⟩
theorem insert_one (ok : Nat → Prop) (w0 w : World) (base : Nat) (hok : ∀ k, w.heap.size ≤ k → ok k) (hB : Below base w0 w) (hbs : base ≤ w.heap.size) (A : Option Addr) (c k : Nat) (xs : List S35) (x : S35) (bx : Nat) (bc : Array Value)
    (hR : Kd.R k35 35 w base ok (.slice A xs.length c) xs) (hk : k ≤ xs.length) (hx : w.heap[bx]? = some (.cells bc 35 (0, 0))) (hbc : bc = #[.string x.f0, .int .i64 x.f1, .int .i64 x.f2]) (hne : A ≠ some ⟨bx, 0, none⟩) (hl : xs.length ≤ 1000) :
    Calls Tryd.prog 23 #[.slice A xs.length c, .int .i64 k, .slice (some ⟨bx, 0, none⟩) 1 1] w fun e w' => ∃ v', e = .returned v' ∧ Kd.R k35 35 w' base ok v' (xs.take k ++ x :: xs.drop k) ∧ Below base w0 w' := by
  rcases Nat.lt_or_eq_of_le hk with h | rfl
  · rcases row_open hR with ⟨_, hn⟩ | ⟨g, cap, cur, ev, hb, hg0, hg, hn, hm, hs, ht⟩
    · rw [hn] at h
      exact absurd h (Nat.not_lt_zero _)
    · injection ev with ea eb ec
      subst ea
      subst ec
      by_cases hr : c < xs.length + 1
      · exact insert_grow ok w0 w base hok hB hbs g c xs.length k xs x bx cur bc rfl hl h hn hr hg ht hx (by rw [hbc]; rfl)
      · exact insert_room ok w0 w base hB g c xs.length k hb hg0 xs x bx cur bc rfl hl h (by omega) hm hs hg ht hx (by rw [hbc]; rfl) (fun e => hne (by rw [e]))
  · have h := insert_end ok w0 w base hok hB hbs A c xs x bx hR (kc_one w bx x bc hbc hx) hl
    rw [List.take_length, List.drop_length]
    exact h
end Go.Proofs.YtdacjpebgklneaaDoor.Pr

namespace Go.Proofs.YtdacjpebgklneaaDoor.Pu
set_option linter.unusedVariables false
def cutS : List UInt8 → List (List UInt8)
  | [] => [[]]
  | c :: s => if c = 47 then [] :: cutS s else ((c :: (cutS s).headD []) :: (cutS s).tail)
theorem cutS_ne : ∀ s, cutS s ≠ []
  | [] => by simp [cutS]
  | c :: s => by unfold cutS; split <;> simp
theorem index_cons (c : UInt8) (s : List UInt8) : Lib.index (c :: s) [47] = if c = 47 then 0 else if Lib.index s [47] = -1 then -1 else Lib.index s [47] + 1 := by
  rw [Lib.index]
  by_cases h : c = 47
  · subst h
    simp [List.isPrefixOf]
  · have h' : ¬ (47 : UInt8) = c := fun e => h e.symm
    simp [List.isPrefixOf, h, h']
theorem split_cut (s : List UInt8) : Lib.splitK [47] 0 (Lib.count s [47]) s = cutS s := by
  induction s with
  | nil => rfl
  | cons c s ih =>
    have hi := index_cons c s
    by_cases h : c = 47
    · subst h
      rw [if_pos rfl] at hi
      have hc := Lib.count_hit (s := 47 :: s) (sub := [47]) (i := 0) (by simp) hi
      have ed : (47 :: s).drop (0 + [(47 : UInt8)].length) = s := rfl
      rw [ed] at hc
      rw [hc, Nat.add_comm 1, Lib.splitK, hi]
      have e : cutS (47 :: s) = [] :: cutS s := by rw [cutS, if_pos rfl]
      rw [e, ← ih]
      rfl
    · rw [if_neg h] at hi
      have e : cutS (c :: s) = (c :: (cutS s).headD []) :: (cutS s).tail := by rw [cutS, if_neg h]
      by_cases h2 : Lib.index s [47] = -1
      · rw [if_pos h2] at hi
        rw [Lib.count_miss h2] at ih
        rw [Lib.count_miss hi, e, ← ih]
        rfl
      · rw [if_neg h2] at hi
        obtain ⟨i, hi2⟩ : ∃ i : Nat, Lib.index s [47] = i := ⟨(Lib.index s [47]).toNat, by have := Lib.index_ge s [47]; omega⟩
        rw [hi2] at hi
        have hc1 := Lib.count_hit (s := c :: s) (sub := [47]) (i := i + 1) (by simp) (by rw [hi]; rfl)
        have hc2 := Lib.count_hit (s := s) (sub := [47]) (i := i) (by simp) hi2
        have ed : (c :: s).drop (i + 1 + [(47 : UInt8)].length) = s.drop (i + [(47 : UInt8)].length) := rfl
        rw [ed, ← hc2] at hc1
        rw [hc1, e]
        rw [hc2, Nat.add_comm 1] at ih ⊢
        rw [← ih]
        have b1 : (Lib.index (c :: s) [47] == -1) = false := by rw [hi]; simp; omega
        have b2 : (Lib.index s [47] == -1) = false := by rw [hi2]; simp
        have t1 : (Lib.index (c :: s) [47]).toNat = i + 1 := by rw [hi]; omega
        have t2 : (Lib.index s [47]).toNat = i := by rw [hi2]; omega
        simp only [Lib.splitK, b1, b2, t1, t2]
        rfl
end Go.Proofs.YtdacjpebgklneaaDoor.Pu

namespace Go.Proofs.YtdacjpebgklneaaDoor.Pr
open Go.RowKit Go.Proofs.YtdacjpebgklneaaDoorW.PrintWords Go.Proofs.YtdacjpebgklneaaDoorW.PrintLast Go.Proofs.YtdacjpebgklneaaDoorW.PrintMore
attribute [local go_sem] max2_int min2_int max_two min_two max_three min_three max_four min_four
set_option linter.unusedVariables false
set_option linter.unusedSimpArgs false
def spec_l01In.f (a0 : Int) (a1 : Int) (a2 : Int) : Option (Bool) := if a0 ≥ a1 then (some (decide (a0 ≤ a2))) else (some false)
set_option maxHeartbeats 8000000 in
set_option maxRecDepth 100000 in
theorem spec_l01In.calls (a0 : Int) (a1 : Int) (a2 : Int) (r : Bool) (w : World) (h : spec_l01In.f a0 a1 a2 = some r) :
    Calls Tryd.prog 28 #[.int .i64 a0, .int .i64 a1, .int .i64 a2] w fun e w' => e = .returned (.bool r) ∧ Drawn0 w w' := by
  have H : (if a0 ≥ a1 then (some (decide (a0 ≤ a2))) else (some false)) = some r := h
  clear h
  by_cases c4 : a0 ≥ a1
  · rw [if_pos c4] at H
    have c4b0 : decide (a1 ≤ a0) = true := decide_eq_true c4
    clear c4
    obtain rfl := Option.some.inj H
    go_enter Tryd.func28, Tryd.ntmps28
    go_wp2
    go_ret
    exact ⟨FR, by repeat (first | exact Drawn0.refl _ | apply Drawn0.step)⟩
  · rw [if_neg c4] at H
    have c4b0 : decide (a1 ≤ a0) = false := decide_eq_false c4
    clear c4
    obtain rfl := Option.some.inj H
    go_enter Tryd.func28, Tryd.ntmps28
    go_wp2
    go_ret
    exact ⟨FR, by repeat (first | exact Drawn0.refl _ | apply Drawn0.step)⟩

end Go.Proofs.YtdacjpebgklneaaDoor.Pr

namespace Go.Proofs.YtdacjpebgklneaaDoor.Pr
open Go.RowKit Go.Proofs.YtdacjpebgklneaaDoorW.PrintWords Go.Proofs.YtdacjpebgklneaaDoorW.PrintLast Go.Proofs.YtdacjpebgklneaaDoorW.PrintMore
attribute [local go_sem] max2_int min2_int max_two min_two max_three min_three max_four min_four
set_option linter.unusedVariables false
set_option linter.unusedSimpArgs false
def spec_NameOk.l0 : Nat → ByteArray → Int → Option (Bool)
  | 0, _, _ => none
  | k + 1, x0, x3 => if x3 < (x0.size : Int) then (if 0 ≤ x3 then (if (bt x0 x3) < 97 then (if (bt x0 x3) < 48 then (some false) else (if (bt x0 x3) > 57 then (some false) else (spec_NameOk.l0 k x0 (wrap64 (x3 + 1))))) else (if (bt x0 x3) > 122 then (if (bt x0 x3) < 48 then (some false) else (if (bt x0 x3) > 57 then (some false) else (spec_NameOk.l0 k x0 (wrap64 (x3 + 1))))) else (spec_NameOk.l0 k x0 (wrap64 (x3 + 1))))) else (none)) else ((spec_l01In.f (x0.size : Int) 1 8).bind fun t123 => (some t123))
def spec_NameOk.f (k : Nat) (a0 : ByteArray) : Option (Bool) := spec_NameOk.l0 k a0 0
set_option maxHeartbeats 8000000 in
set_option maxRecDepth 100000 in
theorem spec_NameOk.calls (k : Nat) (a0 : ByteArray) (r : Bool) (w : World) (h : spec_NameOk.f k a0 = some r) :
    Calls Tryd.prog 60 #[.string a0] w fun e w' => e = .returned (.bool r) ∧ Drawn0 w w' := by
  have H : (spec_NameOk.l0 k a0 0) = some r := h
  clear h
  have H' := Aside0.mk H
  clear H
  go_enter Tryd.func60, Tryd.ntmps60
  go_wp2
  go_loopg [3] k (fun kq v3 w' => ∃ (x3_1 : Int), v3 = .int .i64 x3_1 ∧ Aside0 (spec_NameOk.l0 kq a0 x3_1 = some r) ∧ Aside0 (kq ≤ k) ∧ Drawn0 w w')
  case atStart => exact ⟨(0), FR, H', ⟨Nat.le_refl _⟩, by repeat (first | exact Drawn0.refl _ | apply Drawn0.step)⟩
  case round =>
    clear H'
    obtain ⟨x3_1, rfl, HA, HK1, ⟨m1, rfl⟩⟩ := hrel
    cases gk with
    | zero => exact absurd HA.out (by simp [spec_NameOk.l0])
    | succ k1 =>
      have H := HA.out
      clear HA
      simp only [spec_NameOk.l0] at H
      by_cases c2 : x3_1 < (a0.size : Int)
      · rw [if_pos c2] at H
        have c2b0 : decide (x3_1 < (a0.size : Int)) = true := decide_eq_true c2
        clear c2
        by_cases c3 : 0 ≤ x3_1
        · rw [if_pos c3] at H
          have c3b0 : decide (0 ≤ x3_1) = true := decide_eq_true c3
          clear c3
          by_cases c5 : (bt a0 x3_1) < 97
          · rw [if_pos c5] at H
            have c5b0 : decide ((bt a0 x3_1) < 97) = true := decide_eq_true c5
            clear c5
            by_cases c7 : (bt a0 x3_1) < 48
            · rw [if_pos c7] at H
              have c7b0 : decide ((bt a0 x3_1) < 48) = true := decide_eq_true c7
              clear c7
              obtain rfl := Option.some.inj H
              have p4 : 0 ≤ (x3_1 : Int) := DT
              have q4 : x3_1 < (a0.size : Int) := DT
              have hx4 := bt_at a0 x3_1
              replace p4 := eq_true p4
              replace q4 := eq_true q4
              have p6 : 0 ≤ (x3_1 : Int) := DT
              have q6 : x3_1 < (a0.size : Int) := DT
              have hx6 := bt_at a0 x3_1
              replace p6 := eq_true p6
              replace q6 := eq_true q6
              go_wp2
              go_ret
              exact ⟨FR, by repeat (first | exact Drawn0.refl _ | apply Drawn0.step)⟩
            · rw [if_neg c7] at H
              have c7b0 : decide ((bt a0 x3_1) < 48) = false := decide_eq_false c7
              clear c7
              by_cases c9 : (bt a0 x3_1) > 57
              · rw [if_pos c9] at H
                have c9b0 : decide (57 < (bt a0 x3_1)) = true := decide_eq_true c9
                clear c9
                obtain rfl := Option.some.inj H
                have p4 : 0 ≤ (x3_1 : Int) := DT
                have q4 : x3_1 < (a0.size : Int) := DT
                have hx4 := bt_at a0 x3_1
                replace p4 := eq_true p4
                replace q4 := eq_true q4
                have p6 : 0 ≤ (x3_1 : Int) := DT
                have q6 : x3_1 < (a0.size : Int) := DT
                have hx6 := bt_at a0 x3_1
                replace p6 := eq_true p6
                replace q6 := eq_true q6
                have p8 : 0 ≤ (x3_1 : Int) := DT
                have q8 : x3_1 < (a0.size : Int) := DT
                have hx8 := bt_at a0 x3_1
                replace p8 := eq_true p8
                replace q8 := eq_true q8
                go_wp2
                go_ret
                exact ⟨FR, by repeat (first | exact Drawn0.refl _ | apply Drawn0.step)⟩
              · rw [if_neg c9] at H
                have c9b0 : decide (57 < (bt a0 x3_1)) = false := decide_eq_false c9
                clear c9
                have H' := Aside0.mk H
                clear H
                have p4 : 0 ≤ (x3_1 : Int) := DT
                have q4 : x3_1 < (a0.size : Int) := DT
                have hx4 := bt_at a0 x3_1
                replace p4 := eq_true p4
                replace q4 := eq_true q4
                have p6 : 0 ≤ (x3_1 : Int) := DT
                have q6 : x3_1 < (a0.size : Int) := DT
                have hx6 := bt_at a0 x3_1
                replace p6 := eq_true p6
                replace q6 := eq_true q6
                have p8 : 0 ≤ (x3_1 : Int) := DT
                have q8 : x3_1 < (a0.size : Int) := DT
                have hx8 := bt_at a0 x3_1
                replace p8 := eq_true p8
                replace q8 := eq_true q8
                go_wp2
                go_roundg k1
                case measure => have := HK1.out; omega
                case rel => exact ⟨(wrap64 (x3_1 + 1)), FR, H', ⟨by have := HK1.out; omega⟩, by repeat (first | exact Drawn0.refl _ | apply Drawn0.step)⟩
          · rw [if_neg c5] at H
            have c5b0 : decide ((bt a0 x3_1) < 97) = false := decide_eq_false c5
            clear c5
            by_cases c11 : (bt a0 x3_1) > 122
            · rw [if_pos c11] at H
              have c11b0 : decide (122 < (bt a0 x3_1)) = true := decide_eq_true c11
              clear c11
              by_cases c13 : (bt a0 x3_1) < 48
              · rw [if_pos c13] at H
                have c13b0 : decide ((bt a0 x3_1) < 48) = true := decide_eq_true c13
                clear c13
                obtain rfl := Option.some.inj H
                have p4 : 0 ≤ (x3_1 : Int) := DT
                have q4 : x3_1 < (a0.size : Int) := DT
                have hx4 := bt_at a0 x3_1
                replace p4 := eq_true p4
                replace q4 := eq_true q4
                have p10 : 0 ≤ (x3_1 : Int) := DT
                have q10 : x3_1 < (a0.size : Int) := DT
                have hx10 := bt_at a0 x3_1
                replace p10 := eq_true p10
                replace q10 := eq_true q10
                have p12 : 0 ≤ (x3_1 : Int) := DT
                have q12 : x3_1 < (a0.size : Int) := DT
                have hx12 := bt_at a0 x3_1
                replace p12 := eq_true p12
                replace q12 := eq_true q12
                go_wp2
                go_ret
                exact ⟨FR, by repeat (first | exact Drawn0.refl _ | apply Drawn0.step)⟩
              · rw [if_neg c13] at H
                have c13b0 : decide ((bt a0 x3_1) < 48) = false := decide_eq_false c13
                clear c13
                by_cases c15 : (bt a0 x3_1) > 57
                · rw [if_pos c15] at H
                  have c15b0 : decide (57 < (bt a0 x3_1)) = true := decide_eq_true c15
                  clear c15
                  obtain rfl := Option.some.inj H
                  have p4 : 0 ≤ (x3_1 : Int) := DT
                  have q4 : x3_1 < (a0.size : Int) := DT
                  have hx4 := bt_at a0 x3_1
                  replace p4 := eq_true p4
                  replace q4 := eq_true q4
                  have p10 : 0 ≤ (x3_1 : Int) := DT
                  have q10 : x3_1 < (a0.size : Int) := DT
                  have hx10 := bt_at a0 x3_1
                  replace p10 := eq_true p10
                  replace q10 := eq_true q10
                  have p12 : 0 ≤ (x3_1 : Int) := DT
                  have q12 : x3_1 < (a0.size : Int) := DT
                  have hx12 := bt_at a0 x3_1
                  replace p12 := eq_true p12
                  replace q12 := eq_true q12
                  have p14 : 0 ≤ (x3_1 : Int) := DT
                  have q14 : x3_1 < (a0.size : Int) := DT
                  have hx14 := bt_at a0 x3_1
                  replace p14 := eq_true p14
                  replace q14 := eq_true q14
                  go_wp2
                  go_ret
                  exact ⟨FR, by repeat (first | exact Drawn0.refl _ | apply Drawn0.step)⟩
                · rw [if_neg c15] at H
                  have c15b0 : decide (57 < (bt a0 x3_1)) = false := decide_eq_false c15
                  clear c15
                  have H' := Aside0.mk H
                  clear H
                  have p4 : 0 ≤ (x3_1 : Int) := DT
                  have q4 : x3_1 < (a0.size : Int) := DT
                  have hx4 := bt_at a0 x3_1
                  replace p4 := eq_true p4
                  replace q4 := eq_true q4
                  have p10 : 0 ≤ (x3_1 : Int) := DT
                  have q10 : x3_1 < (a0.size : Int) := DT
                  have hx10 := bt_at a0 x3_1
                  replace p10 := eq_true p10
                  replace q10 := eq_true q10
                  have p12 : 0 ≤ (x3_1 : Int) := DT
                  have q12 : x3_1 < (a0.size : Int) := DT
                  have hx12 := bt_at a0 x3_1
                  replace p12 := eq_true p12
                  replace q12 := eq_true q12
                  have p14 : 0 ≤ (x3_1 : Int) := DT
                  have q14 : x3_1 < (a0.size : Int) := DT
                  have hx14 := bt_at a0 x3_1
                  replace p14 := eq_true p14
                  replace q14 := eq_true q14
                  go_wp2
                  go_roundg k1
                  case measure => have := HK1.out; omega
                  case rel => exact ⟨(wrap64 (x3_1 + 1)), FR, H', ⟨by have := HK1.out; omega⟩, by repeat (first | exact Drawn0.refl _ | apply Drawn0.step)⟩
            · rw [if_neg c11] at H
              have c11b0 : decide (122 < (bt a0 x3_1)) = false := decide_eq_false c11
              clear c11
              have H' := Aside0.mk H
              clear H
              have p4 : 0 ≤ (x3_1 : Int) := DT
              have q4 : x3_1 < (a0.size : Int) := DT
              have hx4 := bt_at a0 x3_1
              replace p4 := eq_true p4
              replace q4 := eq_true q4
              have p10 : 0 ≤ (x3_1 : Int) := DT
              have q10 : x3_1 < (a0.size : Int) := DT
              have hx10 := bt_at a0 x3_1
              replace p10 := eq_true p10
              replace q10 := eq_true q10
              go_wp2
              go_roundg k1
              case measure => have := HK1.out; omega
              case rel => exact ⟨(wrap64 (x3_1 + 1)), FR, H', ⟨by have := HK1.out; omega⟩, by repeat (first | exact Drawn0.refl _ | apply Drawn0.step)⟩
        · rw [if_neg c3] at H
          exact absurd H (by simp)
      · rw [if_neg c2] at H
        have c2b0 : decide (x3_1 < (a0.size : Int)) = false := decide_eq_false c2
        clear c2
        replace H := Option.bind_eq_some_iff.mp H
        obtain ⟨t123, A160, H⟩ := H
        replace H : (some t123) = some r := H
        have A16 := Aside0.mk A160
        clear A160
        obtain rfl := Option.some.inj H
        go_wp2_with (first | ((with_reducible refine gate_callee (f := 28) rfl ?_); refine GL (some 34) rfl rfl Tryd.func28 #[.int .i64 (a0.size : Int), .int .i64 1, .int .i64 8] rfl ?_; (with_reducible refine (spec_l01In.calls (a0.size : Int) 1 8 t123 _ A16.out).mono ?_); rintro e w' ⟨rfl, ⟨nd, rfl⟩⟩; refine ⟨_, rfl, ?_⟩))
        go_ret
        exact ⟨FR, by repeat (first | exact Drawn0.refl _ | apply Drawn0.step)⟩

end Go.Proofs.YtdacjpebgklneaaDoor.Pr

namespace Go.Proofs.YtdacjpebgklneaaDoor.Pr
open Go.RowKit Go.Proofs.YtdacjpebgklneaaDoorW.PrintWords Go.Proofs.YtdacjpebgklneaaDoorW.PrintLast Go.Proofs.YtdacjpebgklneaaDoorW.PrintMore
attribute [local go_sem] max2_int min2_int max_two min_two max_three min_three max_four min_four
set_option linter.unusedVariables false
set_option linter.unusedSimpArgs false
def impl_within.f (a0 : Int) (a1 : Int) (a2 : Int) : Option (Bool) := if a0 ≥ a1 then (some (decide (a0 ≤ a2))) else (some false)
set_option maxHeartbeats 8000000 in
set_option maxRecDepth 100000 in
theorem impl_within.calls (a0 : Int) (a1 : Int) (a2 : Int) (r : Bool) (w : World) (h : impl_within.f a0 a1 a2 = some r) :
    Calls Tryd.prog 26 #[.int .i64 a0, .int .i64 a1, .int .i64 a2] w fun e w' => e = .returned (.bool r) ∧ Drawn0 w w' := by
  have H : (if a0 ≥ a1 then (some (decide (a0 ≤ a2))) else (some false)) = some r := h
  clear h
  by_cases c4 : a0 ≥ a1
  · rw [if_pos c4] at H
    have c4b0 : decide (a1 ≤ a0) = true := decide_eq_true c4
    clear c4
    obtain rfl := Option.some.inj H
    go_enter Tryd.func26, Tryd.ntmps26
    go_wp2
    go_ret
    exact ⟨FR, by repeat (first | exact Drawn0.refl _ | apply Drawn0.step)⟩
  · rw [if_neg c4] at H
    have c4b0 : decide (a1 ≤ a0) = false := decide_eq_false c4
    clear c4
    obtain rfl := Option.some.inj H
    go_enter Tryd.func26, Tryd.ntmps26
    go_wp2
    go_ret
    exact ⟨FR, by repeat (first | exact Drawn0.refl _ | apply Drawn0.step)⟩

end Go.Proofs.YtdacjpebgklneaaDoor.Pr

namespace Go.Proofs.YtdacjpebgklneaaDoor.Pr
open Go.RowKit Go.Proofs.YtdacjpebgklneaaDoorW.PrintWords Go.Proofs.YtdacjpebgklneaaDoorW.PrintLast Go.Proofs.YtdacjpebgklneaaDoorW.PrintMore
attribute [local go_sem] max2_int min2_int max_two min_two max_three min_three max_four min_four
set_option linter.unusedVariables false
set_option linter.unusedSimpArgs false
def impl_NameOk.l0 : Nat → ByteArray → Int → Option (Bool)
  | 0, _, _ => none
  | k + 1, x0, x3 => if x3 < (x0.size : Int) then (if 0 ≤ x3 then (if (bt x0 x3) < 97 then (if (bt x0 x3) < 48 then (some false) else (if (bt x0 x3) > 57 then (some false) else (impl_NameOk.l0 k x0 (wrap64 (x3 + 1))))) else (if (bt x0 x3) > 122 then (if (bt x0 x3) < 48 then (some false) else (if (bt x0 x3) > 57 then (some false) else (impl_NameOk.l0 k x0 (wrap64 (x3 + 1))))) else (impl_NameOk.l0 k x0 (wrap64 (x3 + 1))))) else (none)) else ((impl_within.f (x0.size : Int) 1 8).bind fun t359 => (some t359))
def impl_NameOk.f (k : Nat) (a0 : ByteArray) : Option (Bool) := impl_NameOk.l0 k a0 0
set_option maxHeartbeats 8000000 in
set_option maxRecDepth 100000 in
theorem impl_NameOk.calls (k : Nat) (a0 : ByteArray) (r : Bool) (w : World) (h : impl_NameOk.f k a0 = some r) :
    Calls Tryd.prog 50 #[.string a0] w fun e w' => e = .returned (.bool r) ∧ Drawn0 w w' := by
  have H : (impl_NameOk.l0 k a0 0) = some r := h
  clear h
  have H' := Aside0.mk H
  clear H
  go_enter Tryd.func50, Tryd.ntmps50
  go_wp2
  go_loopg [3] k (fun kq v3 w' => ∃ (x3_1 : Int), v3 = .int .i64 x3_1 ∧ Aside0 (impl_NameOk.l0 kq a0 x3_1 = some r) ∧ Aside0 (kq ≤ k) ∧ Drawn0 w w')
  case atStart => exact ⟨(0), FR, H', ⟨Nat.le_refl _⟩, by repeat (first | exact Drawn0.refl _ | apply Drawn0.step)⟩
  case round =>
    clear H'
    obtain ⟨x3_1, rfl, HA, HK1, ⟨m1, rfl⟩⟩ := hrel
    cases gk with
    | zero => exact absurd HA.out (by simp [impl_NameOk.l0])
    | succ k1 =>
      have H := HA.out
      clear HA
      simp only [impl_NameOk.l0] at H
      by_cases c2 : x3_1 < (a0.size : Int)
      · rw [if_pos c2] at H
        have c2b0 : decide (x3_1 < (a0.size : Int)) = true := decide_eq_true c2
        clear c2
        by_cases c3 : 0 ≤ x3_1
        · rw [if_pos c3] at H
          have c3b0 : decide (0 ≤ x3_1) = true := decide_eq_true c3
          clear c3
          by_cases c5 : (bt a0 x3_1) < 97
          · rw [if_pos c5] at H
            have c5b0 : decide ((bt a0 x3_1) < 97) = true := decide_eq_true c5
            clear c5
            by_cases c6 : (bt a0 x3_1) < 48
            · rw [if_pos c6] at H
              have c6b0 : decide ((bt a0 x3_1) < 48) = true := decide_eq_true c6
              clear c6
              obtain rfl := Option.some.inj H
              have p4 : 0 ≤ (x3_1 : Int) := DT
              have q4 : x3_1 < (a0.size : Int) := DT
              have hx4 := bt_at a0 x3_1
              replace p4 := eq_true p4
              replace q4 := eq_true q4
              go_wp2
              go_ret
              exact ⟨FR, by repeat (first | exact Drawn0.refl _ | apply Drawn0.step)⟩
            · rw [if_neg c6] at H
              have c6b0 : decide ((bt a0 x3_1) < 48) = false := decide_eq_false c6
              clear c6
              by_cases c7 : (bt a0 x3_1) > 57
              · rw [if_pos c7] at H
                have c7b0 : decide (57 < (bt a0 x3_1)) = true := decide_eq_true c7
                clear c7
                obtain rfl := Option.some.inj H
                have p4 : 0 ≤ (x3_1 : Int) := DT
                have q4 : x3_1 < (a0.size : Int) := DT
                have hx4 := bt_at a0 x3_1
                replace p4 := eq_true p4
                replace q4 := eq_true q4
                go_wp2
                go_ret
                exact ⟨FR, by repeat (first | exact Drawn0.refl _ | apply Drawn0.step)⟩
              · rw [if_neg c7] at H
                have c7b0 : decide (57 < (bt a0 x3_1)) = false := decide_eq_false c7
                clear c7
                have H' := Aside0.mk H
                clear H
                have p4 : 0 ≤ (x3_1 : Int) := DT
                have q4 : x3_1 < (a0.size : Int) := DT
                have hx4 := bt_at a0 x3_1
                replace p4 := eq_true p4
                replace q4 := eq_true q4
                go_wp2
                go_roundg k1
                case measure => have := HK1.out; omega
                case rel => exact ⟨(wrap64 (x3_1 + 1)), FR, H', ⟨by have := HK1.out; omega⟩, by repeat (first | exact Drawn0.refl _ | apply Drawn0.step)⟩
          · rw [if_neg c5] at H
            have c5b0 : decide ((bt a0 x3_1) < 97) = false := decide_eq_false c5
            clear c5
            by_cases c8 : (bt a0 x3_1) > 122
            · rw [if_pos c8] at H
              have c8b0 : decide (122 < (bt a0 x3_1)) = true := decide_eq_true c8
              clear c8
              by_cases c9 : (bt a0 x3_1) < 48
              · rw [if_pos c9] at H
                have c9b0 : decide ((bt a0 x3_1) < 48) = true := decide_eq_true c9
                clear c9
                obtain rfl := Option.some.inj H
                have p4 : 0 ≤ (x3_1 : Int) := DT
                have q4 : x3_1 < (a0.size : Int) := DT
                have hx4 := bt_at a0 x3_1
                replace p4 := eq_true p4
                replace q4 := eq_true q4
                go_wp2
                go_ret
                exact ⟨FR, by repeat (first | exact Drawn0.refl _ | apply Drawn0.step)⟩
              · rw [if_neg c9] at H
                have c9b0 : decide ((bt a0 x3_1) < 48) = false := decide_eq_false c9
                clear c9
                by_cases c10 : (bt a0 x3_1) > 57
                · rw [if_pos c10] at H
                  have c10b0 : decide (57 < (bt a0 x3_1)) = true := decide_eq_true c10
                  clear c10
                  obtain rfl := Option.some.inj H
                  have p4 : 0 ≤ (x3_1 : Int) := DT
                  have q4 : x3_1 < (a0.size : Int) := DT
                  have hx4 := bt_at a0 x3_1
                  replace p4 := eq_true p4
                  replace q4 := eq_true q4
                  go_wp2
                  go_ret
                  exact ⟨FR, by repeat (first | exact Drawn0.refl _ | apply Drawn0.step)⟩
                · rw [if_neg c10] at H
                  have c10b0 : decide (57 < (bt a0 x3_1)) = false := decide_eq_false c10
                  clear c10
                  have H' := Aside0.mk H
                  clear H
                  have p4 : 0 ≤ (x3_1 : Int) := DT
                  have q4 : x3_1 < (a0.size : Int) := DT
                  have hx4 := bt_at a0 x3_1
                  replace p4 := eq_true p4
                  replace q4 := eq_true q4
                  go_wp2
                  go_roundg k1
                  case measure => have := HK1.out; omega
                  case rel => exact ⟨(wrap64 (x3_1 + 1)), FR, H', ⟨by have := HK1.out; omega⟩, by repeat (first | exact Drawn0.refl _ | apply Drawn0.step)⟩
            · rw [if_neg c8] at H
              have c8b0 : decide (122 < (bt a0 x3_1)) = false := decide_eq_false c8
              clear c8
              have H' := Aside0.mk H
              clear H
              have p4 : 0 ≤ (x3_1 : Int) := DT
              have q4 : x3_1 < (a0.size : Int) := DT
              have hx4 := bt_at a0 x3_1
              replace p4 := eq_true p4
              replace q4 := eq_true q4
              go_wp2
              go_roundg k1
              case measure => have := HK1.out; omega
              case rel => exact ⟨(wrap64 (x3_1 + 1)), FR, H', ⟨by have := HK1.out; omega⟩, by repeat (first | exact Drawn0.refl _ | apply Drawn0.step)⟩
        · rw [if_neg c3] at H
          exact absurd H (by simp)
      · rw [if_neg c2] at H
        have c2b0 : decide (x3_1 < (a0.size : Int)) = false := decide_eq_false c2
        clear c2
        replace H := Option.bind_eq_some_iff.mp H
        obtain ⟨t359, A110, H⟩ := H
        replace H : (some t359) = some r := H
        have A11 := Aside0.mk A110
        clear A110
        obtain rfl := Option.some.inj H
        go_wp2_with (first | ((with_reducible refine gate_callee (f := 26) rfl ?_); refine GL (some 30) rfl rfl Tryd.func26 #[.int .i64 (a0.size : Int), .int .i64 1, .int .i64 8] rfl ?_; (with_reducible refine (impl_within.calls (a0.size : Int) 1 8 t359 _ A11.out).mono ?_); rintro e w' ⟨rfl, ⟨nd, rfl⟩⟩; refine ⟨_, rfl, ?_⟩))
        go_ret
        exact ⟨FR, by repeat (first | exact Drawn0.refl _ | apply Drawn0.step)⟩

end Go.Proofs.YtdacjpebgklneaaDoor.Pr

namespace Go.Proofs.YtdacjpebgklneaaDoor.Pu
open Go.RowKit Go.Proofs.YtdacjpebgklneaaDoorW.PrintWords Go.Proofs.YtdacjpebgklneaaDoor.Pr Go.Proofs.YtdacjpebgklneaaDoor.Evs
set_option linter.unusedVariables false
def okc (c : UInt8) : Bool := decide ((97 ≤ (c.toNat : Int) ∧ (c.toNat : Int) ≤ 122) ∨ (48 ≤ (c.toNat : Int) ∧ (c.toNat : Int) ≤ 57))
def nameL (l : List UInt8) : Bool := l.all okc && decide (1 ≤ l.length ∧ l.length ≤ 8)
def isNamed : List UInt8 → Bool
  | [] => false
  | c :: r => decide (c = 47) && (!r.isEmpty && (decide ((cutS r).length ≤ 4) && (cutS r).all nameL))
theorem size_len (s : ByteArray) : s.data.toList.length = s.size := by rw [Array.length_toList]; rfl
theorem bt_nat (s : ByteArray) (i : Nat) (c : UInt8) (r : List UInt8) (h : s.data.toList.drop i = c :: r) : bt s (i : Int) = (c.toNat : Int) := by
  have hi : i < s.data.toList.length := by
    rcases Nat.lt_or_ge i s.data.toList.length with h1 | h1
    · exact h1
    · rw [List.drop_eq_nil_of_le h1] at h; cases h
  have hs : i < s.size := by rw [← size_len]; exact hi
  have e := List.drop_eq_getElem_cons hi
  rw [e] at h
  injection h with h1 h2
  unfold bt
  rw [dif_pos (by simpa using hs)]
  rw [← h1]
  rfl
theorem drop_size (s : ByteArray) (i : Nat) (hi : i < s.size) : ∃ c r, s.data.toList.drop i = c :: r ∧ s.data.toList.drop (i + 1) = r := by
  have h : i < s.data.toList.length := by rw [size_len]; exact hi
  exact ⟨_, _, List.drop_eq_getElem_cons h, rfl⟩
theorem impl_loop (s : ByteArray) (hs : s.size < 9223372036854775807) (m : Nat) : ∀ (i : Nat), i + m = s.size → Ev (fun k => impl_NameOk.l0 k s (i : Int)) ((s.data.toList.drop i).all okc && decide (1 ≤ s.size ∧ s.size ≤ 8)) := by
  induction m with
  | zero =>
    intro i hi
    have e : s.data.toList.drop i = [] := List.drop_eq_nil_of_le (by rw [size_len]; omega)
    rw [e]
    refine ev_step (fun k => impl_NameOk.l0.eq_2 _ _ k) (ev_neg (by omega) ?_)
    refine ev_const ?_
    unfold impl_within.f
    by_cases h1 : (s.size : Int) ≥ 1
    · rw [if_pos h1]
      simp only [Option.bind_some, List.all_nil, Bool.true_and]
      congr 1
      by_cases h2 : (s.size : Int) ≤ 8
      · rw [decide_eq_true h2, decide_eq_true (by omega)]
      · rw [decide_eq_false h2, decide_eq_false (by omega)]
    · rw [if_neg h1]
      simp only [Option.bind_some, List.all_nil, Bool.true_and]
      rw [decide_eq_false (by omega)]
  | succ m ih =>
    intro i hi
    obtain ⟨c, r, hd, hr⟩ := drop_size s i (by omega)
    have hb := bt_nat s i c r hd
    have ih' := ih (i + 1) (by omega)
    rw [hr] at ih'
    have ew : wrap64 ((i : Int) + 1) = ((i + 1 : Nat) : Int) := by rw [wrap_in (by omega) (by omega)]; rfl
    rw [hd, List.all_cons]
    refine ev_step (fun k => impl_NameOk.l0.eq_2 _ _ k) (ev_pos (by omega) (ev_pos (by omega) ?_))
    rw [hb, ew]
    have yes : okc c = true → Ev (fun k => impl_NameOk.l0 k s ((i + 1 : Nat) : Int)) ((okc c && r.all okc) && decide (1 ≤ s.size ∧ s.size ≤ 8)) := fun h => by rw [h, Bool.true_and]; exact ih'
    have no : okc c = false → Ev (fun _ => some false) ((okc c && r.all okc) && decide (1 ≤ s.size ∧ s.size ≤ 8)) := fun h => by rw [h, Bool.false_and, Bool.false_and]; exact ev_some _
    by_cases c1 : (c.toNat : Int) < 97
    · refine ev_pos c1 ?_
      by_cases c2 : (c.toNat : Int) < 48
      · exact ev_pos c2 (no (decide_eq_false (by omega)))
      · by_cases c3 : (c.toNat : Int) > 57
        · exact ev_neg c2 (ev_pos c3 (no (decide_eq_false (by omega))))
        · exact ev_neg c2 (ev_neg c3 (yes (decide_eq_true (by omega))))
    · refine ev_neg c1 ?_
      by_cases c2 : (c.toNat : Int) > 122
      · have c3 : ¬ (c.toNat : Int) < 48 := by omega
        have c4 : (c.toNat : Int) > 57 := by omega
        exact ev_pos c2 (ev_neg c3 (ev_pos c4 (no (decide_eq_false (by omega)))))
      · exact ev_neg c2 (yes (decide_eq_true (by omega)))
theorem impl_NameOk_ev (s : ByteArray) (hs : s.size < 9223372036854775807) : Ev (fun k => impl_NameOk.f k s) (nameL s.data.toList) := by
  have h := impl_loop s hs s.size 0 (by omega)
  rw [List.drop_zero] at h
  unfold impl_NameOk.f nameL
  rw [size_len]
  exact h
theorem spec_loop (s : ByteArray) (hs : s.size < 9223372036854775807) (m : Nat) : ∀ (i : Nat), i + m = s.size → Ev (fun k => spec_NameOk.l0 k s (i : Int)) ((s.data.toList.drop i).all okc && decide (1 ≤ s.size ∧ s.size ≤ 8)) := by
  induction m with
  | zero =>
    intro i hi
    have e : s.data.toList.drop i = [] := List.drop_eq_nil_of_le (by rw [size_len]; omega)
    rw [e]
    refine ev_step (fun k => spec_NameOk.l0.eq_2 _ _ k) (ev_neg (by omega) ?_)
    refine ev_const ?_
    unfold spec_l01In.f
    by_cases h1 : (s.size : Int) ≥ 1
    · rw [if_pos h1]
      simp only [Option.bind_some, List.all_nil, Bool.true_and]
      congr 1
      by_cases h2 : (s.size : Int) ≤ 8
      · rw [decide_eq_true h2, decide_eq_true (by omega)]
      · rw [decide_eq_false h2, decide_eq_false (by omega)]
    · rw [if_neg h1]
      simp only [Option.bind_some, List.all_nil, Bool.true_and]
      rw [decide_eq_false (by omega)]
  | succ m ih =>
    intro i hi
    obtain ⟨c, r, hd, hr⟩ := drop_size s i (by omega)
    have hb := bt_nat s i c r hd
    have ih' := ih (i + 1) (by omega)
    rw [hr] at ih'
    have ew : wrap64 ((i : Int) + 1) = ((i + 1 : Nat) : Int) := by rw [wrap_in (by omega) (by omega)]; rfl
    rw [hd, List.all_cons]
    refine ev_step (fun k => spec_NameOk.l0.eq_2 _ _ k) (ev_pos (by omega) (ev_pos (by omega) ?_))
    rw [hb, ew]
    have yes : okc c = true → Ev (fun k => spec_NameOk.l0 k s ((i + 1 : Nat) : Int)) ((okc c && r.all okc) && decide (1 ≤ s.size ∧ s.size ≤ 8)) := fun h => by rw [h, Bool.true_and]; exact ih'
    have no : okc c = false → Ev (fun _ => some false) ((okc c && r.all okc) && decide (1 ≤ s.size ∧ s.size ≤ 8)) := fun h => by rw [h, Bool.false_and, Bool.false_and]; exact ev_some _
    by_cases c1 : (c.toNat : Int) < 97
    · refine ev_pos c1 ?_
      by_cases c2 : (c.toNat : Int) < 48
      · exact ev_pos c2 (no (decide_eq_false (by omega)))
      · by_cases c3 : (c.toNat : Int) > 57
        · exact ev_neg c2 (ev_pos c3 (no (decide_eq_false (by omega))))
        · exact ev_neg c2 (ev_neg c3 (yes (decide_eq_true (by omega))))
    · refine ev_neg c1 ?_
      by_cases c2 : (c.toNat : Int) > 122
      · have c3 : ¬ (c.toNat : Int) < 48 := by omega
        have c4 : (c.toNat : Int) > 57 := by omega
        exact ev_pos c2 (ev_neg c3 (ev_pos c4 (no (decide_eq_false (by omega)))))
      · exact ev_neg c2 (yes (decide_eq_true (by omega)))
theorem spec_NameOk_ev (s : ByteArray) (hs : s.size < 9223372036854775807) : Ev (fun k => spec_NameOk.f k s) (nameL s.data.toList) := by
  have h := spec_loop s hs s.size 0 (by omega)
  rw [List.drop_zero] at h
  unfold spec_NameOk.f nameL
  rw [size_len]
  exact h
end Go.Proofs.YtdacjpebgklneaaDoor.Pu

namespace Go.Proofs.YtdacjpebgklneaaDoor.Pr
open Go.RowKit Go.Proofs.YtdacjpebgklneaaDoorW.PrintWords Go.Proofs.YtdacjpebgklneaaDoorW.PrintLast Go.Proofs.YtdacjpebgklneaaDoorW.PrintMore
attribute [local go_sem] max2_int min2_int max_two min_two max_three min_three max_four min_four
set_option linter.unusedVariables false
set_option linter.unusedSimpArgs false
mutual
def spec_SplitPath.j0 : Nat → ByteArray → List ByteArray → Bool → Option (List ByteArray × Bool)
  | 0, _, _, _ => none
  | k + 1, x0, x4, x15 => if x15 = true then (some (x4, false)) else (if x0.toList = ([47] : List UInt8) then (some (x4, true)) else (spec_SplitPath.l0 k x0 x4 1 1))
def spec_SplitPath.l0 : Nat → ByteArray → List ByteArray → Int → Int → Option (List ByteArray × Bool)
  | 0, _, _, _, _ => none
  | k + 1, x0, x4, x5, x6 => if x6 ≤ (x0.size : Int) then (if x6 < (x0.size : Int) then (if 0 ≤ x6 then (spec_SplitPath.j2 k x0 x4 x5 x6 ((bt x0 x6) != 47)) else (none)) else (spec_SplitPath.j2 k x0 x4 x5 x6 false)) else (if (x4.length : Int) > 4 then (some ((([] : List ByteArray)), false)) else (some (x4, true)))
def spec_SplitPath.j2 : Nat → ByteArray → List ByteArray → Int → Int → Bool → Option (List ByteArray × Bool)
  | 0, _, _, _, _, _ => none
  | k + 1, x0, x4, x5, x6, x35 => if x35 = true then (spec_SplitPath.l0 k x0 x4 x5 (wrap64 (x6 + 1))) else (if 0 ≤ x5 then (if x5 ≤ x6 then (if x6 ≤ (x0.size : Int) then ((spec_NameOk.f k (x0.extract (x5 : Int).toNat (x6 : Int).toNat)).bind fun t130 => (if t130 = true then (if x4.length < 8796093022208 then (spec_SplitPath.l0 k x0 (x4 ++ [x0.extract (x5 : Int).toNat (x6 : Int).toNat]) (wrap64 (x6 + 1)) (wrap64 (x6 + 1))) else (none)) else (some ((([] : List ByteArray)), false)))) else (none)) else (none)) else (none))
end
def spec_SplitPath.f (k : Nat) (a0 : ByteArray) : Option (List ByteArray × Bool) := (some (([] : List ByteArray) : List ByteArray)).bind fun y124 => (if (a0.size : Int) = 0 then (spec_SplitPath.j0 k a0 y124 true) else (if 0 < (a0.size : Int) then (spec_SplitPath.j0 k a0 y124 ((bt a0 0) != 47)) else (none)))
set_option maxHeartbeats 8000000 in
set_option maxRecDepth 100000 in
theorem spec_SplitPath.calls (k : Nat) (a0 : ByteArray) (r1 : List ByteArray) (r2 : Bool) (w : World) (h : spec_SplitPath.f k a0 = some (r1, r2)) :
    Calls Tryd.prog 52 #[.string a0] w fun e w' => ∃ v0_ : Value, e = .returned (.tuple #[v0_, .bool r2]) ∧ Kd.R Kd.string 9 w' w.heap.size (fun _ => True) v0_ r1 ∧ Below w.heap.size w w' := by
  have HB := Aside0.mk (Below.refl w.heap.size w)
  have H : ((some (([] : List ByteArray) : List ByteArray)).bind fun y124 => (if (a0.size : Int) = 0 then (spec_SplitPath.j0 k a0 y124 true) else (if 0 < (a0.size : Int) then (spec_SplitPath.j0 k a0 y124 ((bt a0 0) != 47)) else (none)))) = some (r1, r2) := h
  clear h
  obtain ⟨y124, hy124⟩ : ∃ y_ : List ByteArray, y_ = (([] : List ByteArray)) := ⟨_, rfl⟩
  replace H : (if (a0.size : Int) = 0 then (spec_SplitPath.j0 k a0 y124 true) else (if 0 < (a0.size : Int) then (spec_SplitPath.j0 k a0 y124 ((bt a0 0) != 47)) else (none))) = some (r1, r2) := by first | (rw [hy124]; with_reducible exact H) | (have H2_ := (Option.bind_some _ _).symm.trans H; rw [hy124]; with_reducible exact H2_) | (have H2_ := (Option.bind_some _ _).symm.trans H; with_reducible exact H2_) | with_reducible exact H | (rw [hy124]; exact H) | exact H
  have Ny124 := Aside0.mk hy124
  clear hy124
  have HC2 := Aside0.mk H
  clear H
  go_enter Tryd.func52, Tryd.ntmps52
  go_upto_region 2 with (first | ((with_reducible refine gate_dst (N := 7) rfl ?_); refine Kd.R_lit Kd.string _ 9 ?hg (N := 7) ?hd (xs := ([] : List ByteArray)) (inner := []) (ok := fun _ => True) (okp := fun _ => True) ?hr ?hp (fun _ hk => hk) trivial (Below.refl _ _) (Nat.le_refl _) (by simp) ?_; (case hd => rfl); (case hg => rfl); (case hr => first | (go_simp; done) | (go_simp; rfl)); (case hp => exact (Reps.none _ _)); intro v125 w3 ho4 hb hg_ hnew_; clear hg_ hnew_; (first | rw [← Ny124.out] at ho4 | (simp only [Int.reduceToNat] at ho4; rw [← Ny124.out] at ho4)); have HO126 := Aside0.mk (Kd.R_lower ho4 (below_size (BB HB.out))); replace HB := Aside0.mk (below_step (BB HB.out) hb); clear hb ho4))
  (try simp only [Act.put, List.setIfInBounds_toArray, List.set_cons_zero, List.set_cons_succ])
  go_cut [15] (fun v15 wc => ∃ (kq : Nat) (x15_1 : Bool), v15 = .bool x15_1 ∧ Aside0 (spec_SplitPath.j0 kq a0 y124 x15_1 = some (r1, r2)) ∧ Aside0 (kq ≤ k) ∧ Aside0 (Kd.R Kd.string 9 wc w.heap.size (fun _ => True) v125 y124) ∧ Aside0 (Below w.heap.size w wc))
  case first =>
    have H := HC2.out
    clear HC2
    by_cases c5 : (a0.size : Int) = 0
    · rw [if_pos c5] at H
      have c5b0 : ((a0.size : Int) == 0) = true := beq_iff_eq.mpr c5
      have c5b1 : ((a0.size : Int) != 0) = false := bne_eq_false_iff_eq.mpr c5
      clear c5
      (first | rw [c5b0] | (simp only [i64_w, i32_w]; rw [c5b0]) | skip)
      have H' := Aside0.mk H
      clear H
      go_wp2
      go_meet
      case rel => exact ⟨_, (true), FR, H', ⟨by first | omega | exact Nat.le_refl _⟩, ⟨(RR HO126.out)⟩, ⟨(BB HB.out)⟩⟩
    · rw [if_neg c5] at H
      have c5b0 : ((a0.size : Int) == 0) = false := beq_eq_false_iff_ne.mpr c5
      have c5b1 : ((a0.size : Int) != 0) = true := bne_iff_ne.mpr c5
      (first | rw [c5b0] | (simp only [i64_w, i32_w]; rw [c5b0]) | skip)
      by_cases c6 : 0 < (a0.size : Int)
      · rw [if_pos c6] at H
        have c6b0 : decide (0 < (a0.size : Int)) = true := decide_eq_true c6
        have c6b1 : decide (0 < a0.size) = true := decide_eq_true (by omega)
        clear c6
        have H' := Aside0.mk H
        clear H
        have p7 : 0 ≤ (0 : Int) := (by omega)
        have q7 : 0 < a0.size := (by have : (0 : Int) < (a0.size : Int) := DT; omega)
        have hx7 : ∀ h : 0 < a0.size, ((a0[0]'h).toNat : Int) = bt a0 0 := bt_at a0 0
        clear p7
        have qi7 : (0 < (a0.size : Int)) = True := eq_true DT
        replace q7 := eq_true q7
        go_wp2
        go_meet
        case rel => exact ⟨_, (((bt a0 0) != 47)), FR, H', ⟨by first | omega | exact Nat.le_refl _⟩, ⟨(RR HO126.out)⟩, ⟨(BB HB.out)⟩⟩
      · rw [if_neg c6] at H
        exact absurd H (by simp)
  case rest =>
    clear HC2
    try clear p2
    try clear c5
    try clear c5b0
    try clear c5b1
    try clear c6
    try clear c6b0
    try clear c6b1
    try clear p7
    try clear q7
    try clear hx7
    try clear qi7
    try clear p7
    try clear q7
    obtain ⟨kq, x15_1, rfl, HA, HJ1, HO_4, HB⟩ := hcut
    cases kq with
    | zero => exact absurd HA.out (by simp [spec_SplitPath.j0])
    | succ kj1 =>
      have H := HA.out
      clear HA
      simp only [spec_SplitPath.j0] at H
      by_cases c8 : x15_1 = true
      · subst c8
        have H1 : (some (y124, false)) = some (r1, r2) := by rw [if_pos rfl] at H; exact H
        clear H
        have H := H1
        clear H1
        simp only [Option.some.injEq, Prod.mk.injEq] at H
        obtain ⟨rfl, rfl⟩ := H
        go_wp2
        go_ret2
        exact ⟨_, ER, by (with_reducible repeat (first | apply Kd.R_alloc | apply Kd.R_drewN | apply Kd.R_drew)); exact HO_4.out, (BB HB.out)⟩
      · replace c8 := Bool.eq_false_iff.mpr c8
        subst c8
        have H1 : (if a0.toList = ([47] : List UInt8) then (some (y124, true)) else (spec_SplitPath.l0 kj1 a0 y124 1 1)) = some (r1, r2) := by rw [if_neg (show ¬ (false = true) by decide)] at H; exact H
        clear H
        have H := H1
        clear H1
        by_cases c9 : a0.toList = ([47] : List UInt8)
        · rw [if_pos c9] at H
          have c9b0 : (a0.toList == ([47] : List UInt8)) = true := beq_iff_eq.mpr c9
          have c9b1 : (a0.toList != ([47] : List UInt8)) = false := bne_eq_false_iff_eq.mpr c9
          clear c9
          simp only [Option.some.injEq, Prod.mk.injEq] at H
          obtain ⟨rfl, rfl⟩ := H
          go_wp2
          go_ret2
          exact ⟨_, ER, by (with_reducible repeat (first | apply Kd.R_alloc | apply Kd.R_drewN | apply Kd.R_drew)); exact HO_4.out, (BB HB.out)⟩
        · rw [if_neg c9] at H
          have c9b0 : (a0.toList == ([47] : List UInt8)) = false := beq_eq_false_iff_ne.mpr c9
          have c9b1 : (a0.toList != ([47] : List UInt8)) = true := bne_iff_ne.mpr c9
          have H' := Aside0.mk H
          clear H
          go_wp2
          go_loopg [4, 5, 6] kj1 (fun kq v4 v5 v6 w' => ∃ (x4_2 : List ByteArray) (x5_2 : Int) (x6_2 : Int), v5 = .int .i64 x5_2 ∧ v6 = .int .i64 x6_2 ∧ Aside0 (spec_SplitPath.l0 kq a0 x4_2 x5_2 x6_2 = some (r1, r2)) ∧ Aside0 (kq ≤ kj1) ∧ Aside0 (Kd.R Kd.string 9 w' w.heap.size (fun _ => True) v4 x4_2) ∧ Aside0 (Below w.heap.size w w'))
          case atStart => exact ⟨(y124), (1), (1), FR, FR, H', ⟨Nat.le_refl _⟩, ⟨(RR HO_4.out)⟩, ⟨(BB HB.out)⟩⟩
          case round =>
            clear H'
            try clear p2
            try clear c5
            try clear c5b0
            try clear c5b1
            try clear c6
            try clear c6b0
            try clear c6b1
            try clear p7
            try clear q7
            try clear hx7
            try clear qi7
            try clear c8
            try clear c9
            try clear c9b0
            try clear c9b1
            try clear p2
            try clear p7
            try clear q7
            obtain ⟨x4_2, x5_2, x6_2, rfl, rfl, HA, HK2, HO_4, HB⟩ := hrel
            cases gk with
            | zero => exact absurd HA.out (by simp [spec_SplitPath.l0])
            | succ k2 =>
              have H := HA.out
              clear HA
              simp only [spec_SplitPath.l0] at H
              by_cases c10 : x6_2 ≤ (a0.size : Int)
              · rw [if_pos c10] at H
                have c10b0 : decide (x6_2 ≤ (a0.size : Int)) = true := decide_eq_true c10
                clear c10
                have HC11 := Aside0.mk H
                clear H
                go_upto_region 10 with (fail)
                go_cut [35] (fun v35 wc => ∃ (kq : Nat) (x35_10 : Bool), v35 = .bool x35_10 ∧ Aside0 (spec_SplitPath.j2 kq a0 x4_2 x5_2 x6_2 x35_10 = some (r1, r2)) ∧ Aside0 (kq ≤ k2) ∧ Aside0 (Kd.R Kd.string 9 wc w.heap.size (fun _ => True) u4 x4_2) ∧ Aside0 (Below w.heap.size w wc))
                case first =>
                  have H := HC11.out
                  clear HC11
                  by_cases c12 : x6_2 < (a0.size : Int)
                  · rw [if_pos c12] at H
                    have c12b0 : decide (x6_2 < (a0.size : Int)) = true := decide_eq_true c12
                    clear c12
                    (first | rw [c12b0] | (simp only [i64_w, i32_w]; rw [c12b0]) | skip)
                    by_cases c13 : 0 ≤ x6_2
                    · rw [if_pos c13] at H
                      have c13b0 : decide (0 ≤ x6_2) = true := decide_eq_true c13
                      clear c13
                      have H' := Aside0.mk H
                      clear H
                      have p14 : 0 ≤ (x6_2 : Int) := DT
                      have q14 : x6_2 < (a0.size : Int) := DT
                      have hx14 := bt_at a0 x6_2
                      replace p14 := eq_true p14
                      replace q14 := eq_true q14
                      go_wp2
                      go_meet
                      case rel => exact ⟨_, (((bt a0 x6_2) != 47)), FR, H', ⟨by have := HJ1.out; have := HK2.out; first | omega | exact Nat.le_refl _⟩, ⟨(RR HO_4.out)⟩, ⟨(BB HB.out)⟩⟩
                    · rw [if_neg c13] at H
                      exact absurd H (by simp)
                  · rw [if_neg c12] at H
                    have c12b0 : decide (x6_2 < (a0.size : Int)) = false := decide_eq_false c12
                    clear c12
                    (first | rw [c12b0] | (simp only [i64_w, i32_w]; rw [c12b0]) | skip)
                    have H' := Aside0.mk H
                    clear H
                    go_wp2
                    go_meet
                    case rel => exact ⟨_, (false), FR, H', ⟨by have := HJ1.out; have := HK2.out; first | omega | exact Nat.le_refl _⟩, ⟨(RR HO_4.out)⟩, ⟨(BB HB.out)⟩⟩
                case rest =>
                  clear HC11
                  try clear c1
                  try clear p1
                  try clear q1
                  try clear hx1
                  try clear p2
                  try clear c5
                  try clear c5b0
                  try clear c5b1
                  try clear c6
                  try clear c6b0
                  try clear c6b1
                  try clear p7
                  try clear q7
                  try clear hx7
                  try clear qi7
                  try clear c8
                  try clear c9
                  try clear c9b0
                  try clear c9b1
                  try clear c10
                  try clear c10b0
                  try clear c12
                  try clear c12b0
                  try clear c13
                  try clear c13b0
                  try clear p14
                  try clear q14
                  try clear hx14
                  try clear p14
                  try clear p2
                  try clear p7
                  try clear q14
                  try clear q7
                  obtain ⟨kq, x35_10, rfl, HA, HJ10, HO_4, HB⟩ := hcut
                  cases kq with
                  | zero => exact absurd HA.out (by simp [spec_SplitPath.j2])
                  | succ kj10 =>
                    have H := HA.out
                    clear HA
                    simp only [spec_SplitPath.j2] at H
                    by_cases c15 : x35_10 = true
                    · subst c15
                      have H1 : (spec_SplitPath.l0 kj10 a0 x4_2 x5_2 (wrap64 (x6_2 + 1))) = some (r1, r2) := by rw [if_pos rfl] at H; exact H
                      clear H
                      have H := H1
                      clear H1
                      have H' := Aside0.mk H
                      clear H
                      go_wp2
                      go_roundg kj10
                      case measure => have := HJ1.out; have := HK2.out; have := HJ10.out; omega
                      case rel => exact ⟨(x4_2), (x5_2), (wrap64 (x6_2 + 1)), FR, FR, H', ⟨by have := HJ1.out; have := HK2.out; have := HJ10.out; omega⟩, ⟨(RR HO_4.out)⟩, ⟨(BB HB.out)⟩⟩
                    · replace c15 := Bool.eq_false_iff.mpr c15
                      subst c15
                      have H1 : (if 0 ≤ x5_2 then (if x5_2 ≤ x6_2 then (if x6_2 ≤ (a0.size : Int) then ((spec_NameOk.f kj10 (a0.extract (x5_2 : Int).toNat (x6_2 : Int).toNat)).bind fun t130 => (if t130 = true then (if x4_2.length < 8796093022208 then (spec_SplitPath.l0 kj10 a0 (x4_2 ++ [a0.extract (x5_2 : Int).toNat (x6_2 : Int).toNat]) (wrap64 (x6_2 + 1)) (wrap64 (x6_2 + 1))) else (none)) else (some ((([] : List ByteArray)), false)))) else (none)) else (none)) else (none)) = some (r1, r2) := by rw [if_neg (show ¬ (false = true) by decide)] at H; exact H
                      clear H
                      have H := H1
                      clear H1
                      by_cases c16 : 0 ≤ x5_2
                      · rw [if_pos c16] at H
                        have c16b0 := eq_true c16
                        have c16b1 : decide (0 ≤ x5_2) = true := decide_eq_true c16
                        clear c16
                        by_cases c17 : x5_2 ≤ x6_2
                        · rw [if_pos c17] at H
                          have c17b0 := eq_true c17
                          have c17b1 : decide (x5_2 ≤ x6_2) = true := decide_eq_true c17
                          clear c17
                          by_cases c18 : x6_2 ≤ (a0.size : Int)
                          · rw [if_pos c18] at H
                            have c18b0 := eq_true c18
                            have c18b1 : decide (x6_2 ≤ (a0.size : Int)) = true := decide_eq_true c18
                            clear c18
                            replace H := Option.bind_eq_some_iff.mp H
                            obtain ⟨t130, A190, H⟩ := H
                            replace H : (if t130 = true then (if x4_2.length < 8796093022208 then (spec_SplitPath.l0 kj10 a0 (x4_2 ++ [a0.extract (x5_2 : Int).toNat (x6_2 : Int).toNat]) (wrap64 (x6_2 + 1)) (wrap64 (x6_2 + 1))) else (none)) else (some ((([] : List ByteArray)), false))) = some (r1, r2) := H
                            have A19 := Aside0.mk A190
                            clear A190
                            by_cases c20 : t130 = true
                            · subst c20
                              have H1 : (if x4_2.length < 8796093022208 then (spec_SplitPath.l0 kj10 a0 (x4_2 ++ [a0.extract (x5_2 : Int).toNat (x6_2 : Int).toNat]) (wrap64 (x6_2 + 1)) (wrap64 (x6_2 + 1))) else (none)) = some (r1, r2) := by rw [if_pos rfl] at H; exact H
                              clear H
                              have H := H1
                              clear H1
                              have c21b0 := eq_true (DT : 0 ≤ x5_2)
                              have c22b0 := eq_true (DT : x5_2 ≤ x6_2)
                              have c23b0 := eq_true (DT : x6_2 ≤ (a0.size : Int))
                              by_cases c24 : x4_2.length < 8796093022208
                              · rw [if_pos c24] at H
                                have LMc24 := Aside0.mk c24
                                clear c24
                                obtain ⟨y131, hy131⟩ : ∃ y_ : List ByteArray, y_ = (x4_2 ++ [a0.extract (x5_2 : Int).toNat (x6_2 : Int).toNat]) := ⟨_, rfl⟩
                                replace H : (spec_SplitPath.l0 kj10 a0 y131 (wrap64 (x6_2 + 1)) (wrap64 (x6_2 + 1))) = some (r1, r2) := by first | (rw [hy131]; with_reducible exact H) | (have H2_ := (Option.bind_some _ _).symm.trans H; rw [hy131]; with_reducible exact H2_) | (have H2_ := (Option.bind_some _ _).symm.trans H; with_reducible exact H2_) | with_reducible exact H | (rw [hy131]; exact H) | exact H
                                have Ny131 := Aside0.mk hy131
                                clear hy131
                                have H' := Aside0.mk H
                                clear H
                                go_wp2_with (first | ((with_reducible refine gate_callee (f := 60) rfl ?_); refine GL (some 40) rfl rfl Tryd.func60 #[.string (a0.extract (x5_2 : Int).toNat (x6_2 : Int).toNat)] rfl ?_; (with_reducible refine (spec_NameOk.calls kj10 (a0.extract (x5_2 : Int).toNat (x6_2 : Int).toNat) true _ A19.out).mono ?_); rintro e w' ⟨rfl, ⟨nd, rfl⟩⟩; refine ⟨_, rfl, ?_⟩) | ((with_reducible refine gate_builtin (b := .append) (xs := #[.tmp 43, .tmp 48]) rfl ?_); at_builtin; refine Kd.R_append Kd.string (w0 := w) w.heap.size rfl (.tmp 43) (.tmp 48) 32 9 (.string ⟨#[]⟩) 16 rfl Tryd.underlying32 info9 rfl (by decide) (by omega) u4 x4_2 (a0.extract (x5_2 : Int).toNat (x6_2 : Int).toNat) [.string (a0.extract (x5_2 : Int).toNat (x6_2 : Int).toNat)] (fun _ => True) (fun _ => False) rfl rfl ?aP (fun _ hk => hk.elim) ?aF ?aO ?aB ?aS ?aL ?_; (case aP => exact rfl); (case aB => exact (BB HB.out)); (case aF => exact (fun _ _ => trivial)); (case aO => exact (RR HO_4.out)); (case aS => exact (below_size (BB HB.out))); (case aL => have := LMc24.out; omega); intro v132 w25 ho hb hg hat; rw [← Ny131.out] at ho; have HO133 := Aside0.mk (ho); replace HB := Aside0.mk (hb); clear HO_4; clear ho hb hg hat))
                                go_roundg kj10
                                case measure => have := HJ1.out; have := HK2.out; have := HJ10.out; omega
                                case rel => exact ⟨(y131), (wrap64 (x6_2 + 1)), (wrap64 (x6_2 + 1)), FR, FR, H', ⟨by have := HJ1.out; have := HK2.out; have := HJ10.out; omega⟩, ⟨(RR HO133.out)⟩, ⟨(BB HB.out)⟩⟩
                              · rw [if_neg c24] at H
                                exact absurd H (by simp)
                            · replace c20 := Bool.eq_false_iff.mpr c20
                              subst c20
                              have H1 : (some ((([] : List ByteArray)), false)) = some (r1, r2) := by rw [if_neg (show ¬ (false = true) by decide)] at H; exact H
                              clear H
                              have H := H1
                              clear H1
                              obtain ⟨y134, hy134⟩ : ∃ y_ : List ByteArray, y_ = (([] : List ByteArray)) := ⟨_, rfl⟩
                              replace H : (some (y134, false)) = some (r1, r2) := by first | (rw [hy134]; with_reducible exact H) | (have H2_ := (Option.bind_some _ _).symm.trans H; rw [hy134]; with_reducible exact H2_) | (have H2_ := (Option.bind_some _ _).symm.trans H; with_reducible exact H2_) | with_reducible exact H | (rw [hy134]; exact H) | exact H
                              have Ny134 := Aside0.mk hy134
                              clear hy134
                              simp only [Option.some.injEq, Prod.mk.injEq] at H
                              obtain ⟨rfl, rfl⟩ := H
                              go_wp2_with (first | ((with_reducible refine gate_callee (f := 60) rfl ?_); refine GL (some 40) rfl rfl Tryd.func60 #[.string (a0.extract (x5_2 : Int).toNat (x6_2 : Int).toNat)] rfl ?_; (with_reducible refine (spec_NameOk.calls kj10 (a0.extract (x5_2 : Int).toNat (x6_2 : Int).toNat) false _ A19.out).mono ?_); rintro e w' ⟨rfl, ⟨nd, rfl⟩⟩; refine ⟨_, rfl, ?_⟩) | ((with_reducible refine gate_dst (N := 42) rfl ?_); refine Kd.R_lit Kd.string _ 9 ?hg (N := 42) ?hd (xs := ([] : List ByteArray)) (inner := []) (ok := fun _ => True) (okp := fun _ => True) ?hr ?hp (fun _ hk => hk) trivial (Below.refl _ _) (Nat.le_refl _) (by simp) ?_; (case hd => rfl); (case hg => rfl); (case hr => first | (go_simp; done) | (go_simp; rfl)); (case hp => exact (Reps.none _ _)); intro v135 w26 ho27 hb hg_ hnew_; clear hg_ hnew_; (first | rw [← Ny134.out] at ho27 | (simp only [Int.reduceToNat] at ho27; rw [← Ny134.out] at ho27)); have HO136 := Aside0.mk (Kd.R_lower (Kd.R_new' ho27 (Kd.R_lt (RR HO_4.out))) (below_size (BB HB.out))); replace HO_4 := Aside0.mk (Kd.R_elder' (RR HO_4.out) (Kd.R_base ho27) hb); replace HB := Aside0.mk (below_step (BB HB.out) hb); clear hb ho27))
                              go_ret2
                              exact ⟨_, ER, by (with_reducible repeat (first | apply Kd.R_alloc | apply Kd.R_drewN | apply Kd.R_drew)); exact Kd.R_mono HO136.out (fun _ hk => trivial), (BB HB.out)⟩
                          · rw [if_neg c18] at H
                            exact absurd H (by simp)
                        · rw [if_neg c17] at H
                          exact absurd H (by simp)
                      · rw [if_neg c16] at H
                        exact absurd H (by simp)
              · rw [if_neg c10] at H
                have c10b0 : decide (x6_2 ≤ (a0.size : Int)) = false := decide_eq_false c10
                clear c10
                by_cases c28 : (x4_2.length : Int) > 4
                · rw [if_pos c28] at H
                  have c28b0 : decide (4 < (x4_2.length : Int)) = true := decide_eq_true c28
                  have c28b1 : decide (4 < x4_2.length) = true := decide_eq_true (by omega)
                  clear c28
                  obtain ⟨y127, hy127⟩ : ∃ y_ : List ByteArray, y_ = (([] : List ByteArray)) := ⟨_, rfl⟩
                  replace H : (some (y127, false)) = some (r1, r2) := by first | (rw [hy127]; with_reducible exact H) | (have H2_ := (Option.bind_some _ _).symm.trans H; rw [hy127]; with_reducible exact H2_) | (have H2_ := (Option.bind_some _ _).symm.trans H; with_reducible exact H2_) | with_reducible exact H | (rw [hy127]; exact H) | exact H
                  have Ny127 := Aside0.mk hy127
                  clear hy127
                  simp only [Option.some.injEq, Prod.mk.injEq] at H
                  obtain ⟨rfl, rfl⟩ := H
                  obtain ⟨Ao29, co29, eo29⟩ := Kd.R_slice HO_4.out
                  subst eo29
                  go_wp2_with (first | ((with_reducible refine gate_dst (N := 55) rfl ?_); refine Kd.R_lit Kd.string _ 9 ?hg (N := 55) ?hd (xs := ([] : List ByteArray)) (inner := []) (ok := fun _ => True) (okp := fun _ => True) ?hr ?hp (fun _ hk => hk) trivial (Below.refl _ _) (Nat.le_refl _) (by simp) ?_; (case hd => rfl); (case hg => rfl); (case hr => first | (go_simp; done) | (go_simp; rfl)); (case hp => exact (Reps.none _ _)); intro v128 w30 ho31 hb hg_ hnew_; clear hg_ hnew_; (first | rw [← Ny127.out] at ho31 | (simp only [Int.reduceToNat] at ho31; rw [← Ny127.out] at ho31)); have HO129 := Aside0.mk (Kd.R_lower (Kd.R_new' ho31 (Kd.R_lt (RR HO_4.out))) (below_size (BB HB.out))); replace HO_4 := Aside0.mk (Kd.R_elder' (RR HO_4.out) (Kd.R_base ho31) hb); replace HB := Aside0.mk (below_step (BB HB.out) hb); clear hb ho31))
                  go_ret2
                  exact ⟨_, ER, by (with_reducible repeat (first | apply Kd.R_alloc | apply Kd.R_drewN | apply Kd.R_drew)); exact Kd.R_mono HO129.out (fun _ hk => trivial), (BB HB.out)⟩
                · rw [if_neg c28] at H
                  have c28b0 : decide (4 < (x4_2.length : Int)) = false := decide_eq_false c28
                  have c28b1 : decide (4 < x4_2.length) = false := decide_eq_false (by omega)
                  clear c28
                  simp only [Option.some.injEq, Prod.mk.injEq] at H
                  obtain ⟨rfl, rfl⟩ := H
                  obtain ⟨Ao32, co32, eo32⟩ := Kd.R_slice HO_4.out
                  subst eo32
                  go_wp2
                  go_ret2
                  exact ⟨_, ER, by (with_reducible repeat (first | apply Kd.R_alloc | apply Kd.R_drewN | apply Kd.R_drew)); exact HO_4.out, (BB HB.out)⟩

end Go.Proofs.YtdacjpebgklneaaDoor.Pr

namespace Go.Proofs.YtdacjpebgklneaaDoor.Pr
open Go.RowKit Go.Proofs.YtdacjpebgklneaaDoorW.PrintWords Go.Proofs.YtdacjpebgklneaaDoorW.PrintLast Go.Proofs.YtdacjpebgklneaaDoorW.PrintMore
attribute [local go_sem] max2_int min2_int max_two min_two max_three min_three max_four min_four
set_option linter.unusedVariables false
set_option linter.unusedSimpArgs false
def spec_JoinPath.l0 : Nat → List ByteArray → ByteArray → Int → Option (ByteArray)
  | 0, _, _, _ => none
  | k + 1, x0, x3, x4 => if x4 < (x0.length : Int) then (if x3.size + 1 ≤ 9223372036854775807 then (if 0 ≤ x4 then (if (x3 ++ (⟨#[47]⟩ : ByteArray)).size + (rdOf ByteArray.empty x0 x4).size ≤ 9223372036854775807 then (spec_JoinPath.l0 k x0 ((x3 ++ (⟨#[47]⟩ : ByteArray)) ++ (rdOf ByteArray.empty x0 x4)) (wrap64 (x4 + 1))) else (none)) else (none)) else (none)) else (some x3)
def spec_JoinPath.f (k : Nat) (l0 : List ByteArray) : Option (ByteArray) := if (l0.length : Int) = 0 then (some (⟨#[47]⟩ : ByteArray)) else (spec_JoinPath.l0 k l0 (⟨#[]⟩ : ByteArray) 0)
set_option maxHeartbeats 8000000 in
set_option maxRecDepth 100000 in
theorem spec_JoinPath.calls (k : Nat) (A0 : Option Addr) (c0 : Nat) (l0 : List ByteArray) (r : ByteArray) (w : World) (hr0 : Kd.C Kd.string w A0 l0.length l0) (hc0 : l0.length ≤ c0) (h : spec_JoinPath.f k l0 = some r) :
    Calls Tryd.prog 53 #[.slice A0 l0.length c0] w fun e w' => e = .returned (.string r) ∧ Drawn0 w w' := by
  have HR0 := Aside0.mk hr0
  have HC0 := Aside0.mk hc0
  clear hr0 hc0
  have H : (if (l0.length : Int) = 0 then (some (⟨#[47]⟩ : ByteArray)) else (spec_JoinPath.l0 k l0 (⟨#[]⟩ : ByteArray) 0)) = some r := h
  clear h
  by_cases c2 : (l0.length : Int) = 0
  · rw [if_pos c2] at H
    have c2b0 : ((l0.length : Int) == 0) = true := beq_iff_eq.mpr c2
    have c2b1 : ((l0.length : Int) != 0) = false := bne_eq_false_iff_eq.mpr c2
    clear c2
    obtain rfl := Option.some.inj H
    go_enter Tryd.func53, Tryd.ntmps53
    go_wp2
    go_ret
    exact ⟨FR, by repeat (first | exact Drawn0.refl _ | apply Drawn0.step)⟩
  · rw [if_neg c2] at H
    have c2b0 : ((l0.length : Int) == 0) = false := beq_eq_false_iff_ne.mpr c2
    have c2b1 : ((l0.length : Int) != 0) = true := bne_iff_ne.mpr c2
    have c2b2 : ¬ (l0 = []) := fun h_ => c2 (by rw [h_]; rfl)
    have H' := Aside0.mk H
    clear H
    go_enter Tryd.func53, Tryd.ntmps53
    go_wp2
    go_loopg [3, 4] k (fun kq v3 v4 w' => ∃ (x3_1 : ByteArray) (x4_1 : Int), v3 = .string x3_1 ∧ v4 = .int .i64 x4_1 ∧ Aside0 (spec_JoinPath.l0 kq l0 x3_1 x4_1 = some r) ∧ Aside0 (kq ≤ k) ∧ Drawn0 w w')
    case atStart => exact ⟨((⟨#[]⟩ : ByteArray)), (0), FR, FR, H', ⟨Nat.le_refl _⟩, by repeat (first | exact Drawn0.refl _ | apply Drawn0.step)⟩
    case round =>
      clear H'
      try clear c2
      try clear c2b0
      try clear c2b1
      try clear c2b2
      try clear p2
      obtain ⟨x3_1, x4_1, rfl, rfl, HA, HK1, ⟨m1, rfl⟩⟩ := hrel
      cases gk with
      | zero => exact absurd HA.out (by simp [spec_JoinPath.l0])
      | succ k1 =>
        have H := HA.out
        clear HA
        simp only [spec_JoinPath.l0] at H
        by_cases c3 : x4_1 < (l0.length : Int)
        · rw [if_pos c3] at H
          have c3b0 : decide (x4_1 < (l0.length : Int)) = true := decide_eq_true c3
          clear c3
          by_cases c4 : x3_1.size + 1 ≤ 9223372036854775807
          · rw [if_pos c4] at H
            have c4b0 := eq_true c4
            have c4b1 : decide (x3_1.size + 1 ≤ 9223372036854775807) = true := decide_eq_true c4
            try have c4b2 : (9223372036854775807 < x3_1.size + 1) = False := eq_false (Nat.not_lt.2 c4)
            by_cases c5 : 0 ≤ x4_1
            · rw [if_pos c5] at H
              have c5b0 : decide (0 ≤ x4_1) = true := decide_eq_true c5
              clear c5
              by_cases c6 : (x3_1 ++ (⟨#[47]⟩ : ByteArray)).size + (rdOf ByteArray.empty l0 x4_1).size ≤ 9223372036854775807
              · rw [if_pos c6] at H
                have c6b0 := eq_true c6
                have c6b1 : decide ((x3_1 ++ (⟨#[47]⟩ : ByteArray)).size + (rdOf ByteArray.empty l0 x4_1).size ≤ 9223372036854775807) = true := decide_eq_true c6
                try have c6b2 : (9223372036854775807 < (x3_1 ++ (⟨#[47]⟩ : ByteArray)).size + (rdOf ByteArray.empty l0 x4_1).size) = False := eq_false (Nat.not_lt.2 c6)
                have H' := Aside0.mk H
                clear H
                have p137 : 0 ≤ (x4_1 : Int) := DT
                have q137 : x4_1 < (l0.length : Int) := DT
                obtain ⟨ad137, e137, hx137_0⟩ := Kd.at_string HR0.out x4_1 p137 q137
                cases e137
                replace p137 := eq_true p137
                replace q137 := eq_true q137
                go_wp2
                go_roundg k1
                case measure => have := HK1.out; omega
                case rel => exact ⟨((x3_1 ++ (⟨#[47]⟩ : ByteArray)) ++ (rdOf ByteArray.empty l0 x4_1)), (wrap64 (x4_1 + 1)), FR, FR, H', ⟨by have := HK1.out; omega⟩, by repeat (first | exact Drawn0.refl _ | apply Drawn0.step)⟩
              · rw [if_neg c6] at H
                exact absurd H (by simp)
            · rw [if_neg c5] at H
              exact absurd H (by simp)
          · rw [if_neg c4] at H
            exact absurd H (by simp)
        · rw [if_neg c3] at H
          have c3b0 : decide (x4_1 < (l0.length : Int)) = false := decide_eq_false c3
          clear c3
          obtain rfl := Option.some.inj H
          go_wp2
          go_ret
          exact ⟨FR, by repeat (first | exact Drawn0.refl _ | apply Drawn0.step)⟩

end Go.Proofs.YtdacjpebgklneaaDoor.Pr

namespace Go.Proofs.YtdacjpebgklneaaDoor.Pr
open Go.RowKit Go.Proofs.YtdacjpebgklneaaDoorW.PrintWords Go.Proofs.YtdacjpebgklneaaDoorW.PrintLast Go.Proofs.YtdacjpebgklneaaDoorW.PrintMore
attribute [local go_sem] max2_int min2_int max_two min_two max_three min_three max_four min_four
set_option linter.unusedVariables false
set_option linter.unusedSimpArgs false
def spec_ParentPath.f (k : Nat) (a0 : ByteArray) : Option (ByteArray × ByteArray × Bool) := (spec_SplitPath.f k a0).bind fun bt138 => (if bt138.2 = true then (if (bt138.1.length : Int) = 0 then (some ((⟨#[]⟩ : ByteArray), (⟨#[]⟩ : ByteArray), false)) else (if 0 ≤ (wrap64 ((bt138.1.length : Int) - 1)) then (if (wrap64 ((bt138.1.length : Int) - 1)) ≤ (bt138.1.length : Int) then ((spec_JoinPath.f k (bt138.1.take ((wrap64 ((bt138.1.length : Int) - 1)) : Int).toNat)).bind fun t146 => (if (wrap64 ((bt138.1.length : Int) - 1)) < (bt138.1.length : Int) then (some (t146, rdOf ByteArray.empty bt138.1 (wrap64 ((bt138.1.length : Int) - 1)), true)) else (none))) else (none)) else (none))) else (some ((⟨#[]⟩ : ByteArray), (⟨#[]⟩ : ByteArray), false)))
set_option maxHeartbeats 8000000 in
set_option maxRecDepth 100000 in
theorem spec_ParentPath.calls (k : Nat) (a0 : ByteArray) (r1 : ByteArray) (r2 : ByteArray) (r3 : Bool) (w : World) (h : spec_ParentPath.f k a0 = some (r1, r2, r3)) :
    Calls Tryd.prog 44 #[.string a0] w fun e w' => e = .returned (.tuple #[.string r1, .string r2, .bool r3]) ∧ Below w.heap.size w w' := by
  have HB := Aside0.mk (Below.refl w.heap.size w)
  have H : ((spec_SplitPath.f k a0).bind fun bt138 => (if bt138.2 = true then (if (bt138.1.length : Int) = 0 then (some ((⟨#[]⟩ : ByteArray), (⟨#[]⟩ : ByteArray), false)) else (if 0 ≤ (wrap64 ((bt138.1.length : Int) - 1)) then (if (wrap64 ((bt138.1.length : Int) - 1)) ≤ (bt138.1.length : Int) then ((spec_JoinPath.f k (bt138.1.take ((wrap64 ((bt138.1.length : Int) - 1)) : Int).toNat)).bind fun t146 => (if (wrap64 ((bt138.1.length : Int) - 1)) < (bt138.1.length : Int) then (some (t146, rdOf ByteArray.empty bt138.1 (wrap64 ((bt138.1.length : Int) - 1)), true)) else (none))) else (none)) else (none))) else (some ((⟨#[]⟩ : ByteArray), (⟨#[]⟩ : ByteArray), false)))) = some (r1, r2, r3) := h
  clear h
  replace H := Option.bind_eq_some_iff.mp H
  obtain ⟨⟨t138, t139⟩, A20, H⟩ := H
  replace H : (if t139 = true then (if (t138.length : Int) = 0 then (some ((⟨#[]⟩ : ByteArray), (⟨#[]⟩ : ByteArray), false)) else (if 0 ≤ (wrap64 ((t138.length : Int) - 1)) then (if (wrap64 ((t138.length : Int) - 1)) ≤ (t138.length : Int) then ((spec_JoinPath.f k (t138.take ((wrap64 ((t138.length : Int) - 1)) : Int).toNat)).bind fun t146 => (if (wrap64 ((t138.length : Int) - 1)) < (t138.length : Int) then (some (t146, rdOf ByteArray.empty t138 (wrap64 ((t138.length : Int) - 1)), true)) else (none))) else (none)) else (none))) else (some ((⟨#[]⟩ : ByteArray), (⟨#[]⟩ : ByteArray), false))) = some (r1, r2, r3) := H
  have A2 := Aside0.mk A20
  clear A20
  by_cases c3 : t139 = true
  · subst c3
    have H1 : (if (t138.length : Int) = 0 then (some ((⟨#[]⟩ : ByteArray), (⟨#[]⟩ : ByteArray), false)) else (if 0 ≤ (wrap64 ((t138.length : Int) - 1)) then (if (wrap64 ((t138.length : Int) - 1)) ≤ (t138.length : Int) then ((spec_JoinPath.f k (t138.take ((wrap64 ((t138.length : Int) - 1)) : Int).toNat)).bind fun t146 => (if (wrap64 ((t138.length : Int) - 1)) < (t138.length : Int) then (some (t146, rdOf ByteArray.empty t138 (wrap64 ((t138.length : Int) - 1)), true)) else (none))) else (none)) else (none))) = some (r1, r2, r3) := by rw [if_pos rfl] at H; exact H
    clear H
    have H := H1
    clear H1
    by_cases c4 : (t138.length : Int) = 0
    · rw [if_pos c4] at H
      have c4b0 : ((t138.length : Int) == 0) = true := beq_iff_eq.mpr c4
      have c4b1 : ((t138.length : Int) != 0) = false := bne_eq_false_iff_eq.mpr c4
      clear c4
      simp only [Option.some.injEq, Prod.mk.injEq] at H
      obtain ⟨rfl, rfl, rfl⟩ := H
      go_enter Tryd.func44, Tryd.ntmps44
      go_wp2_with (first | (go_at_call 52; (with_reducible refine (spec_SplitPath.calls k a0 t138 true _ A2.out).mono ?_); rintro e w5 ⟨v140, rfl, ho0, hb⟩; have HO141 := Aside0.mk (Kd.R_lower ho0 (below_size (BB HB.out))); replace HB := Aside0.mk (below_step (BB HB.out) hb); (try clear hb); (try clear hb2); (try clear hk); (try clear hi); (try clear ho0); obtain ⟨Ao6, co6, eo6⟩ := Kd.R_slice HO141.out; subst eo6))
      repeat (go_quiet (first | (go_at_call 52; (with_reducible refine (spec_SplitPath.calls k a0 t138 true _ A2.out).mono ?_); rintro e w5 ⟨v140, rfl, ho0, hb⟩; have HO141 := Aside0.mk (Kd.R_lower ho0 (below_size (BB HB.out))); replace HB := Aside0.mk (below_step (BB HB.out) hb); (try clear hb); (try clear hb2); (try clear hk); (try clear hi); (try clear ho0); obtain ⟨Ao6, co6, eo6⟩ := Kd.R_slice HO141.out; subst eo6)); try go_wp2_with (first | (go_at_call 52; (with_reducible refine (spec_SplitPath.calls k a0 t138 true _ A2.out).mono ?_); rintro e w5 ⟨v140, rfl, ho0, hb⟩; have HO141 := Aside0.mk (Kd.R_lower ho0 (below_size (BB HB.out))); replace HB := Aside0.mk (below_step (BB HB.out) hb); (try clear hb); (try clear hb2); (try clear hk); (try clear hi); (try clear ho0); obtain ⟨Ao6, co6, eo6⟩ := Kd.R_slice HO141.out; subst eo6)))
      go_ret3
      exact ⟨ER, (BB HB.out)⟩
    · rw [if_neg c4] at H
      have c4b0 : ((t138.length : Int) == 0) = false := beq_eq_false_iff_ne.mpr c4
      have c4b1 : ((t138.length : Int) != 0) = true := bne_iff_ne.mpr c4
      have c4b2 : ¬ (t138 = []) := fun h_ => c4 (by rw [h_]; rfl)
      obtain ⟨ji7, hji7⟩ : ∃ j_ : Int, (wrap64 ((t138.length : Int) - 1)) = j_ := ⟨_, rfl⟩
      replace H : (if 0 ≤ (ji7) then (if (ji7) ≤ (t138.length : Int) then ((spec_JoinPath.f k (t138.take ((ji7) : Int).toNat)).bind fun t146 => (if (ji7) < (t138.length : Int) then (some (t146, rdOf ByteArray.empty t138 (ji7), true)) else (none))) else (none)) else (none)) = some (r1, r2, r3) := by first | (rw [hji7] at H; exact H) | (simp only [hji7] at H ⊢; exact H)
      (try rw [hji7] at A2)
      have hji7w : (IntKind.i64.wrap ((t138.length : Int) - 1)) = ji7 := (i64_w _).trans hji7
      by_cases c8 : 0 ≤ (ji7)
      · rw [if_pos c8] at H
        have c8b0 := eq_true c8
        have c8b1 : decide (0 ≤ (ji7)) = true := decide_eq_true c8
        clear c8
        by_cases c9 : (ji7) ≤ (t138.length : Int)
        · rw [if_pos c9] at H
          have c9b0 := eq_true c9
          have c9b1 : decide ((ji7) ≤ (t138.length : Int)) = true := decide_eq_true c9
          clear c9
          obtain ⟨y142, hy142⟩ : ∃ y_ : List ByteArray, y_ = (t138.take ((ji7) : Int).toNat) := ⟨_, rfl⟩
          replace H : ((spec_JoinPath.f k y142).bind fun t146 => (if (ji7) < (t138.length : Int) then (some (t146, rdOf ByteArray.empty t138 (ji7), true)) else (none))) = some (r1, r2, r3) := by first | (rw [hy142]; with_reducible exact H) | (have H2_ := (Option.bind_some _ _).symm.trans H; rw [hy142]; with_reducible exact H2_) | (have H2_ := (Option.bind_some _ _).symm.trans H; with_reducible exact H2_) | with_reducible exact H | (rw [hy142]; exact H) | exact H
          have Ny142 := Aside0.mk hy142
          clear hy142
          replace H := Option.bind_eq_some_iff.mp H
          obtain ⟨t146, A100, H⟩ := H
          replace H : (if (ji7) < (t138.length : Int) then (some (t146, rdOf ByteArray.empty t138 (ji7), true)) else (none)) = some (r1, r2, r3) := H
          have A10 := Aside0.mk A100
          clear A100
          by_cases c11 : (ji7) < (t138.length : Int)
          · rw [if_pos c11] at H
            have c11b0 : decide ((ji7) < (t138.length : Int)) = true := decide_eq_true c11
            clear c11
            simp only [Option.some.injEq, Prod.mk.injEq] at H
            obtain ⟨rfl, rfl, rfl⟩ := H
            go_enter Tryd.func44, Tryd.ntmps44
            go_wp2_with (first | (go_at_call 52; (with_reducible refine (spec_SplitPath.calls k a0 t138 true _ A2.out).mono ?_); rintro e w12 ⟨v140, rfl, ho0, hb⟩; have HO141 := Aside0.mk (Kd.R_lower ho0 (below_size (BB HB.out))); replace HB := Aside0.mk (below_step (BB HB.out) hb); (try clear hb); (try clear hb2); (try clear hk); (try clear hi); (try clear ho0); obtain ⟨Ao13, co13, eo13⟩ := Kd.R_slice HO141.out; subst eo13; have q14 : ((ji7) : Int) ≤ ((t138.length : Int) : Int) := DT; obtain ⟨i014, hi014, _, hsz14, _⟩ := info_parts info9; have hroom14 : t138.length ≤ co13 := (Kd.R_reads' HO141.out).2.1; have hC14 : Kd.C Kd.string _ Ao13 t138.length t138 := (Kd.R_reads' HO141.out).2.2; have hcut14 := cut_to (P := Tryd.prog) 32 9 .i64 Tryd.underlying32 hi014 Ao13 t138.length co13 (ji7) DT q14 hroom14; have hr14 := Kd.C_take (m := ((ji7) : Int).toNat) hC14 (by omega); have hy14 : y142.length = ((ji7) : Int).toNat := (by rw [Ny142.out, List.length_take]; omega); rw [← Ny142.out] at hr14; rw [← hy14] at hcut14; have HR145 := Aside0.mk hr14; have HC145 := Aside0.mk (show y142.length ≤ co13 from by omega); clear hr14 hC14 hroom14 hi014 hsz14; have KY14 := Aside0.mk hy14; clear hy14; have KL14 := Aside0.mk (show ((ji7) : Int).toNat ≤ t138.length from by omega); replace q14 := eq_true q14) | (go_at_call 53; (with_reducible refine (spec_JoinPath.calls k _ _ y142 t146 _ ?side1 ?side2 A10.out).mono ?_); (case side1 => repeat (first | exact (by repeat (first | (with_reducible exact HR145.out) | (with_reducible refine Kd.C_alloc ?_ _) | (with_reducible refine Kd.C_drewN ?_ _) | (with_reducible refine Kd.C_drew ?_) | exact HR145.out)) | (with_reducible refine Kd.C_alloc ?_ _) | (with_reducible refine Kd.C_drewN ?_ _) | (with_reducible refine Kd.C_drew ?_))); (case side2 => exact HC145.out); rintro e w' ⟨rfl, ⟨nd, rfl⟩⟩; (try first | exact ⟨rfl, _, World.drewN_drewN _ _ _⟩ | exact ⟨rfl, _, Eq.trans (World.drewN_drewN _ _ _) (congrArg (World.drewN _) (Nat.add_assoc _ _ _))⟩); have p147 : 0 ≤ ((ji7) : Int) := DT; have q147 : (ji7) < (t138.length : Int) := DT; obtain ⟨ad147, e147, hx147_0⟩ := Kd.at_string (Kd.R_reads' HO141.out).2.2 (ji7) p147 q147; cases e147; replace p147 := eq_true p147; replace q147 := eq_true q147))
            repeat (go_quiet (first | (go_at_call 52; (with_reducible refine (spec_SplitPath.calls k a0 t138 true _ A2.out).mono ?_); rintro e w12 ⟨v140, rfl, ho0, hb⟩; have HO141 := Aside0.mk (Kd.R_lower ho0 (below_size (BB HB.out))); replace HB := Aside0.mk (below_step (BB HB.out) hb); (try clear hb); (try clear hb2); (try clear hk); (try clear hi); (try clear ho0); obtain ⟨Ao13, co13, eo13⟩ := Kd.R_slice HO141.out; subst eo13; have q14 : ((ji7) : Int) ≤ ((t138.length : Int) : Int) := DT; obtain ⟨i014, hi014, _, hsz14, _⟩ := info_parts info9; have hroom14 : t138.length ≤ co13 := (Kd.R_reads' HO141.out).2.1; have hC14 : Kd.C Kd.string _ Ao13 t138.length t138 := (Kd.R_reads' HO141.out).2.2; have hcut14 := cut_to (P := Tryd.prog) 32 9 .i64 Tryd.underlying32 hi014 Ao13 t138.length co13 (ji7) DT q14 hroom14; have hr14 := Kd.C_take (m := ((ji7) : Int).toNat) hC14 (by omega); have hy14 : y142.length = ((ji7) : Int).toNat := (by rw [Ny142.out, List.length_take]; omega); rw [← Ny142.out] at hr14; rw [← hy14] at hcut14; have HR145 := Aside0.mk hr14; have HC145 := Aside0.mk (show y142.length ≤ co13 from by omega); clear hr14 hC14 hroom14 hi014 hsz14; have KY14 := Aside0.mk hy14; clear hy14; have KL14 := Aside0.mk (show ((ji7) : Int).toNat ≤ t138.length from by omega); replace q14 := eq_true q14) | (go_at_call 53; (with_reducible refine (spec_JoinPath.calls k _ _ y142 t146 _ ?side1 ?side2 A10.out).mono ?_); (case side1 => repeat (first | exact (by repeat (first | (with_reducible exact HR145.out) | (with_reducible refine Kd.C_alloc ?_ _) | (with_reducible refine Kd.C_drewN ?_ _) | (with_reducible refine Kd.C_drew ?_) | exact HR145.out)) | (with_reducible refine Kd.C_alloc ?_ _) | (with_reducible refine Kd.C_drewN ?_ _) | (with_reducible refine Kd.C_drew ?_))); (case side2 => exact HC145.out); rintro e w' ⟨rfl, ⟨nd, rfl⟩⟩; (try first | exact ⟨rfl, _, World.drewN_drewN _ _ _⟩ | exact ⟨rfl, _, Eq.trans (World.drewN_drewN _ _ _) (congrArg (World.drewN _) (Nat.add_assoc _ _ _))⟩); have p147 : 0 ≤ ((ji7) : Int) := DT; have q147 : (ji7) < (t138.length : Int) := DT; obtain ⟨ad147, e147, hx147_0⟩ := Kd.at_string (Kd.R_reads' HO141.out).2.2 (ji7) p147 q147; cases e147; replace p147 := eq_true p147; replace q147 := eq_true q147)); try go_wp2_with (first | (go_at_call 52; (with_reducible refine (spec_SplitPath.calls k a0 t138 true _ A2.out).mono ?_); rintro e w12 ⟨v140, rfl, ho0, hb⟩; have HO141 := Aside0.mk (Kd.R_lower ho0 (below_size (BB HB.out))); replace HB := Aside0.mk (below_step (BB HB.out) hb); (try clear hb); (try clear hb2); (try clear hk); (try clear hi); (try clear ho0); obtain ⟨Ao13, co13, eo13⟩ := Kd.R_slice HO141.out; subst eo13; have q14 : ((ji7) : Int) ≤ ((t138.length : Int) : Int) := DT; obtain ⟨i014, hi014, _, hsz14, _⟩ := info_parts info9; have hroom14 : t138.length ≤ co13 := (Kd.R_reads' HO141.out).2.1; have hC14 : Kd.C Kd.string _ Ao13 t138.length t138 := (Kd.R_reads' HO141.out).2.2; have hcut14 := cut_to (P := Tryd.prog) 32 9 .i64 Tryd.underlying32 hi014 Ao13 t138.length co13 (ji7) DT q14 hroom14; have hr14 := Kd.C_take (m := ((ji7) : Int).toNat) hC14 (by omega); have hy14 : y142.length = ((ji7) : Int).toNat := (by rw [Ny142.out, List.length_take]; omega); rw [← Ny142.out] at hr14; rw [← hy14] at hcut14; have HR145 := Aside0.mk hr14; have HC145 := Aside0.mk (show y142.length ≤ co13 from by omega); clear hr14 hC14 hroom14 hi014 hsz14; have KY14 := Aside0.mk hy14; clear hy14; have KL14 := Aside0.mk (show ((ji7) : Int).toNat ≤ t138.length from by omega); replace q14 := eq_true q14) | (go_at_call 53; (with_reducible refine (spec_JoinPath.calls k _ _ y142 t146 _ ?side1 ?side2 A10.out).mono ?_); (case side1 => repeat (first | exact (by repeat (first | (with_reducible exact HR145.out) | (with_reducible refine Kd.C_alloc ?_ _) | (with_reducible refine Kd.C_drewN ?_ _) | (with_reducible refine Kd.C_drew ?_) | exact HR145.out)) | (with_reducible refine Kd.C_alloc ?_ _) | (with_reducible refine Kd.C_drewN ?_ _) | (with_reducible refine Kd.C_drew ?_))); (case side2 => exact HC145.out); rintro e w' ⟨rfl, ⟨nd, rfl⟩⟩; (try first | exact ⟨rfl, _, World.drewN_drewN _ _ _⟩ | exact ⟨rfl, _, Eq.trans (World.drewN_drewN _ _ _) (congrArg (World.drewN _) (Nat.add_assoc _ _ _))⟩); have p147 : 0 ≤ ((ji7) : Int) := DT; have q147 : (ji7) < (t138.length : Int) := DT; obtain ⟨ad147, e147, hx147_0⟩ := Kd.at_string (Kd.R_reads' HO141.out).2.2 (ji7) p147 q147; cases e147; replace p147 := eq_true p147; replace q147 := eq_true q147)))
            go_ret3
            exact ⟨by first | rfl | (simp [errW_none, errW_some] <;> rfl) | (simp only [← hji7]; first | rfl | (simp [errW_none, errW_some] <;> rfl)) | (simp [*, errW_none, errW_some] <;> rfl), (BB HB.out)⟩
          · rw [if_neg c11] at H
            exact absurd H (by simp)
        · rw [if_neg c9] at H
          exact absurd H (by simp)
      · rw [if_neg c8] at H
        exact absurd H (by simp)
  · replace c3 := Bool.eq_false_iff.mpr c3
    subst c3
    have H1 : (some ((⟨#[]⟩ : ByteArray), (⟨#[]⟩ : ByteArray), false)) = some (r1, r2, r3) := by rw [if_neg (show ¬ (false = true) by decide)] at H; exact H
    clear H
    have H := H1
    clear H1
    simp only [Option.some.injEq, Prod.mk.injEq] at H
    obtain ⟨rfl, rfl, rfl⟩ := H
    go_enter Tryd.func44, Tryd.ntmps44
    go_wp2_with (first | (go_at_call 52; (with_reducible refine (spec_SplitPath.calls k a0 t138 false _ A2.out).mono ?_); rintro e w15 ⟨v140, rfl, ho0, hb⟩; have HO141 := Aside0.mk (Kd.R_lower ho0 (below_size (BB HB.out))); replace HB := Aside0.mk (below_step (BB HB.out) hb); (try clear hb); (try clear hb2); (try clear hk); (try clear hi); (try clear ho0)))
    repeat (go_quiet (first | (go_at_call 52; (with_reducible refine (spec_SplitPath.calls k a0 t138 false _ A2.out).mono ?_); rintro e w15 ⟨v140, rfl, ho0, hb⟩; have HO141 := Aside0.mk (Kd.R_lower ho0 (below_size (BB HB.out))); replace HB := Aside0.mk (below_step (BB HB.out) hb); (try clear hb); (try clear hb2); (try clear hk); (try clear hi); (try clear ho0))); try go_wp2_with (first | (go_at_call 52; (with_reducible refine (spec_SplitPath.calls k a0 t138 false _ A2.out).mono ?_); rintro e w15 ⟨v140, rfl, ho0, hb⟩; have HO141 := Aside0.mk (Kd.R_lower ho0 (below_size (BB HB.out))); replace HB := Aside0.mk (below_step (BB HB.out) hb); (try clear hb); (try clear hb2); (try clear hk); (try clear hi); (try clear ho0))))
    go_ret3
    exact ⟨ER, (BB HB.out)⟩

end Go.Proofs.YtdacjpebgklneaaDoor.Pr

namespace Go.Proofs.YtdacjpebgklneaaDoor.Pr
open Go.RowKit Go.Proofs.YtdacjpebgklneaaDoorW.PrintWords Go.Proofs.YtdacjpebgklneaaDoorW.PrintLast Go.Proofs.YtdacjpebgklneaaDoorW.PrintMore
attribute [local go_sem] max2_int min2_int max_two min_two max_three min_three max_four min_four
set_option linter.unusedVariables false
set_option linter.unusedSimpArgs false
def spec_l11Named.f (k : Nat) (a0 : ByteArray) : Option (Bool) := (spec_ParentPath.f k a0).bind fun bt148 => (some bt148.2.2)
set_option maxHeartbeats 8000000 in
set_option maxRecDepth 100000 in
theorem spec_l11Named.calls (k : Nat) (a0 : ByteArray) (r : Bool) (w : World) (h : spec_l11Named.f k a0 = some r) :
    Calls Tryd.prog 38 #[.string a0] w fun e w' => e = .returned (.bool r) ∧ Below w.heap.size w w' := by
  have HB := Aside0.mk (Below.refl w.heap.size w)
  have H : ((spec_ParentPath.f k a0).bind fun bt148 => (some bt148.2.2)) = some r := h
  clear h
  replace H := Option.bind_eq_some_iff.mp H
  obtain ⟨⟨t148, t149, t150⟩, A20, H⟩ := H
  replace H : (some t150) = some r := H
  have A2 := Aside0.mk A20
  clear A20
  obtain rfl := Option.some.inj H
  go_enter Tryd.func38, Tryd.ntmps38
  go_wp2_with (first | ((with_reducible refine gate_callee (f := 44) rfl ?_); refine GL (some 8) rfl rfl Tryd.func44 #[.string a0] rfl ?_; (with_reducible refine (spec_ParentPath.calls k a0 t148 t149 t150 _ A2.out).mono ?_); rintro e w3 ⟨rfl, hb⟩; refine ⟨_, rfl, ?_⟩; replace HB := Aside0.mk (below_step (BB HB.out) hb); (try clear hb)))
  go_ret
  exact ⟨ER, (BB HB.out)⟩

end Go.Proofs.YtdacjpebgklneaaDoor.Pr

namespace Go.Proofs.YtdacjpebgklneaaDoor.Pu
open Go.RowKit Go.Proofs.YtdacjpebgklneaaDoorW.PrintWords Go.Proofs.YtdacjpebgklneaaDoor.Pr Go.Proofs.YtdacjpebgklneaaDoor.Evs
set_option linter.unusedVariables false
theorem cut_snoc (s : ByteArray) (b i : Nat) (c : UInt8) (r : List UInt8) (hb : b ≤ i) (h : s.data.toList.drop i = c :: r) : (s.extract b (i + 1)).data.toList = (s.extract b i).data.toList ++ [c] := by
  rw [Lib.extract_data, Lib.extract_data]
  have hi : i < s.data.toList.length := by
    rcases Nat.lt_or_ge i s.data.toList.length with h1 | h1
    · exact h1
    · rw [List.drop_eq_nil_of_le h1] at h; cases h
  have e : (s.data.toList.drop b).drop (i - b) = c :: r := by rw [List.drop_drop, show b + (i - b) = i by omega]; exact h
  have hl : i - b < (s.data.toList.drop b).length := by rw [List.length_drop]; omega
  have e2 := List.drop_eq_getElem_cons hl
  rw [e] at e2
  injection e2 with e3 e4
  rw [show i + 1 - b = i - b + 1 by omega, List.take_add_one, List.getElem?_eq_getElem hl, ← e3]
  rfl
theorem cut_nil (s : ByteArray) (b : Nat) : (s.extract b b).data.toList = [] := by rw [Lib.extract_data, Nat.sub_self, List.take_zero]
def told (s : ByteArray) (out : List ByteArray) (P : List (List UInt8)) (r : List ByteArray × Bool) : Prop :=
  if P.all nameL = true then (if out.length + P.length > 4 then r = ([], false) else r.2 = true ∧ r.1.length = out.length + P.length ∧ ∀ x ∈ r.1, x.size ≤ 8) else r = ([], false)
theorem name_size (s : ByteArray) (h : nameL s.data.toList = true) : s.size ≤ 8 := by
  unfold nameL at h
  rw [Bool.and_eq_true, decide_eq_true_eq, size_len] at h
  exact h.2.2
theorem told_push (s x : ByteArray) (out : List ByteArray) (P : List (List UInt8)) (r : List ByteArray × Bool) (hx : nameL x.data.toList = true) (h : told s (out ++ [x]) P r) : told s out (x.data.toList :: P) r := by
  unfold told at h ⊢
  rw [List.all_cons, hx, Bool.true_and]
  rw [List.length_append, List.length_singleton] at h
  rw [List.length_cons]
  have e : out.length + (P.length + 1) = out.length + 1 + P.length := by omega
  rw [e]
  exact h
theorem told_not (s x : ByteArray) (out : List ByteArray) (P : List (List UInt8)) (hx : nameL x.data.toList = false) : told s out (x.data.toList :: P) ([], false) := by
  unfold told
  rw [List.all_cons, hx, Bool.false_and]
  rfl
theorem split_loop (s : ByteArray) (hs : s.size < 8796093022000) (m : Nat) : ∀ (i b : Nat) (out : List ByteArray), i + m = s.size → b ≤ i → out.length ≤ i → (∀ x ∈ out, x.size ≤ 8) →
    ∃ r, Ev (fun k => spec_SplitPath.l0 k s out (b : Int) (i : Int)) r ∧ told s out (((s.extract b i).data.toList ++ (cutS (s.data.toList.drop i)).headD []) :: (cutS (s.data.toList.drop i)).tail) r := by
  induction m with
  | zero =>
    intro i b out hi hb hl ho
    have e : s.data.toList.drop i = [] := List.drop_eq_nil_of_le (by rw [size_len]; omega)
    have ec : (cutS []).headD [] = ([] : List UInt8) := rfl
    have et : (cutS ([] : List UInt8)).tail = [] := rfl
    rw [e, ec, et, List.append_nil]
    have hn := spec_NameOk_ev (s.extract b i) (by rw [ByteArray.size_extract]; omega)
    have ew : wrap64 ((i : Int) + 1) = ((i + 1 : Nat) : Int) := by rw [wrap_in (by omega) (by omega)]; rfl
    cases hx : nameL (s.extract b i).data.toList with
    | false =>
      rw [hx] at hn
      refine ⟨_, ?_, told_not s _ out [] hx⟩
      refine ev_step (fun k => spec_SplitPath.l0.eq_2 _ _ _ _ k) (ev_pos (by omega) (ev_neg (by omega) ?_))
      refine ev_step (fun k => spec_SplitPath.j2.eq_2 _ _ _ _ _ k) (ev_neg (by decide) (ev_pos (by omega) (ev_pos (by omega) (ev_pos (by omega) ?_))))
      simp only [Int.toNat_natCast]
      exact ev_bind hn (ev_neg (by decide) (ev_some _))
    | true =>
      rw [hx] at hn
      by_cases h4 : (out.length : Int) + 1 > 4
      · refine ⟨([], false), ?_, ?_⟩
        · refine ev_step (fun k => spec_SplitPath.l0.eq_2 _ _ _ _ k) (ev_pos (by omega) (ev_neg (by omega) ?_))
          refine ev_step (fun k => spec_SplitPath.j2.eq_2 _ _ _ _ _ k) (ev_neg (by decide) (ev_pos (by omega) (ev_pos (by omega) (ev_pos (by omega) ?_))))
          simp only [Int.toNat_natCast]
          refine ev_bind hn (ev_pos rfl (ev_pos (by omega) ?_))
          rw [ew]
          refine ev_step (fun k => spec_SplitPath.l0.eq_2 _ _ _ _ k) (ev_neg (by omega) (ev_pos (by rw [List.length_append, List.length_singleton]; omega) (ev_some _)))
        · unfold told
          rw [List.all_cons, hx, if_pos (show (true && [].all nameL) = true from rfl), if_pos (by rw [List.length_singleton]; omega)]
      · refine ⟨(out ++ [s.extract b i], true), ?_, ?_⟩
        · refine ev_step (fun k => spec_SplitPath.l0.eq_2 _ _ _ _ k) (ev_pos (by omega) (ev_neg (by omega) ?_))
          refine ev_step (fun k => spec_SplitPath.j2.eq_2 _ _ _ _ _ k) (ev_neg (by decide) (ev_pos (by omega) (ev_pos (by omega) (ev_pos (by omega) ?_))))
          simp only [Int.toNat_natCast]
          refine ev_bind hn (ev_pos rfl (ev_pos (by omega) ?_))
          rw [ew]
          refine ev_step (fun k => spec_SplitPath.l0.eq_2 _ _ _ _ k) (ev_neg (by omega) (ev_neg (by rw [List.length_append, List.length_singleton]; omega) (ev_some _)))
        · unfold told
          rw [List.all_cons, hx, if_pos (show (true && [].all nameL) = true from rfl), if_neg (by rw [List.length_singleton]; omega)]
          refine ⟨rfl, by rw [List.length_append]; rfl, fun x hm => ?_⟩
          rcases List.mem_append.1 hm with hm | hm
          · exact ho x hm
          · rw [List.mem_singleton.1 hm]; exact name_size _ hx
  | succ m ih =>
    intro i b out hi hb hl ho
    obtain ⟨c, r, hd, hr⟩ := drop_size s i (by omega)
    have hbt := bt_nat s i c r hd
    have ew : wrap64 ((i : Int) + 1) = ((i + 1 : Nat) : Int) := by rw [wrap_in (by omega) (by omega)]; rfl
    by_cases hc : c = 47
    · have hn := spec_NameOk_ev (s.extract b i) (by rw [ByteArray.size_extract]; omega)
      have hbf : (bt s (i : Int) != 47) = false := by rw [hbt, hc]; rfl
      have ec : cutS (s.data.toList.drop i) = [] :: cutS r := by rw [hd, cutS, if_pos hc]
      have eh : ([] :: cutS r).headD [] = ([] : List UInt8) := rfl
      have et : (([] : List UInt8) :: cutS r).tail = cutS r := rfl
      rw [ec, eh, et, List.append_nil]
      cases hx : nameL (s.extract b i).data.toList with
      | false =>
        rw [hx] at hn
        refine ⟨_, ?_, told_not s _ out _ hx⟩
        refine ev_step (fun k => spec_SplitPath.l0.eq_2 _ _ _ _ k) (ev_pos (by omega) (ev_pos (by omega) (ev_pos (by omega) ?_)))
        rw [hbf]
        refine ev_step (fun k => spec_SplitPath.j2.eq_2 _ _ _ _ _ k) (ev_neg (by decide) (ev_pos (by omega) (ev_pos (by omega) (ev_pos (by omega) ?_))))
        simp only [Int.toNat_natCast]
        exact ev_bind hn (ev_neg (by decide) (ev_some _))
      | true =>
        rw [hx] at hn
        obtain ⟨q, hq, ht⟩ := ih (i + 1) (i + 1) (out ++ [s.extract b i]) (by omega) (Nat.le_refl _) (by rw [List.length_append, List.length_singleton]; omega) (fun x hm => by
          rcases List.mem_append.1 hm with hm | hm
          · exact ho x hm
          · rw [List.mem_singleton.1 hm]; exact name_size _ hx)
        rw [hr, cut_nil, List.nil_append] at ht
        have ej : (cutS r).headD [] :: (cutS r).tail = cutS r := by
          cases hcs : cutS r with
          | nil => exact absurd hcs (cutS_ne r)
          | cons a t => rfl
        rw [ej] at ht
        refine ⟨q, ?_, told_push s _ out _ q hx ht⟩
        refine ev_step (fun k => spec_SplitPath.l0.eq_2 _ _ _ _ k) (ev_pos (by omega) (ev_pos (by omega) (ev_pos (by omega) ?_)))
        rw [hbf]
        refine ev_step (fun k => spec_SplitPath.j2.eq_2 _ _ _ _ _ k) (ev_neg (by decide) (ev_pos (by omega) (ev_pos (by omega) (ev_pos (by omega) ?_))))
        simp only [Int.toNat_natCast]
        refine ev_bind hn (ev_pos rfl (ev_pos (by omega) ?_))
        rw [ew]
        exact hq
    · have hbf : (bt s (i : Int) != 47) = true := by
        rw [hbt, bne_iff_ne]
        intro h
        refine hc (UInt8.toNat_inj.1 ?_)
        have : ((47 : UInt8).toNat : Int) = 47 := rfl
        omega
      have ec : cutS (s.data.toList.drop i) = (c :: (cutS r).headD []) :: (cutS r).tail := by rw [hd, cutS, if_neg hc]
      have eh : ((c :: (cutS r).headD []) :: (cutS r).tail).headD [] = c :: (cutS r).headD [] := rfl
      have et : ((c :: (cutS r).headD []) :: (cutS r).tail).tail = (cutS r).tail := rfl
      obtain ⟨q, hq, ht⟩ := ih (i + 1) b out (by omega) (by omega) (by omega) ho
      rw [hr, cut_snoc s b i c r hb hd, List.append_assoc] at ht
      rw [ec, eh, et]
      refine ⟨q, ?_, ht⟩
      refine ev_step (fun k => spec_SplitPath.l0.eq_2 _ _ _ _ k) (ev_pos (by omega) (ev_pos (by omega) (ev_pos (by omega) ?_)))
      rw [hbf]
      refine ev_step (fun k => spec_SplitPath.j2.eq_2 _ _ _ _ _ k) (ev_pos rfl ?_)
      rw [ew]
      exact hq
theorem splitPath_ev (p : ByteArray) (hs : p.size < 8796093022000) : ∃ r, Ev (fun k => spec_SplitPath.f k p) r ∧ (r.2 && !r.1.isEmpty) = isNamed p.data.toList ∧ r.1.length ≤ 4 ∧ ∀ x ∈ r.1, x.size ≤ 8 := by
  have hz := size_len p
  cases hl : p.data.toList with
  | nil =>
    rw [hl, List.length_nil] at hz
    refine ⟨([], false), ?_, rfl, by simp, by simp⟩
    unfold spec_SplitPath.f
    exact ev_call rfl (ev_pos (by omega) (ev_step (fun k => spec_SplitPath.j0.eq_2 _ _ _ k) (ev_pos rfl (ev_some _))))
  | cons c rest =>
    rw [hl, List.length_cons] at hz
    have hb : bt p 0 = (c.toNat : Int) := bt_nat p 0 c rest (by rw [List.drop_zero]; exact hl)
    by_cases hc : c = 47
    · have hbf : (bt p 0 != 47) = false := by rw [hb, hc]; rfl
      by_cases hr : rest = []
      · refine ⟨([], true), ?_, by rw [isNamed, hr]; simp, by simp, by simp⟩
        unfold spec_SplitPath.f
        refine ev_call rfl (ev_neg (by omega) (ev_pos (by omega) ?_))
        rw [hbf]
        refine ev_step (fun k => spec_SplitPath.j0.eq_2 _ _ _ k) (ev_neg (by decide) (ev_pos ?_ (ev_some _)))
        rw [Lib.toList_data, hl, hr, hc]
      · obtain ⟨r, hE, ht⟩ := split_loop p hs (p.size - 1) 1 1 [] (by omega) (Nat.le_refl _) (by simp) (by simp)
        have hd : p.data.toList.drop 1 = rest := by rw [hl]; rfl
        have ej : (cutS rest).headD [] :: (cutS rest).tail = cutS rest := by
          cases hcs : cutS rest with
          | nil => exact absurd hcs (cutS_ne rest)
          | cons a t => rfl
        rw [cut_nil, List.nil_append, hd, ej] at ht
        have hne : rest.isEmpty = false := by cases rest with | nil => exact absurd rfl hr | cons _ _ => rfl
        have hf : Ev (fun k => spec_SplitPath.f k p) r := by
          unfold spec_SplitPath.f
          refine ev_call rfl (ev_neg (by omega) (ev_pos (by omega) ?_))
          rw [hbf]
          refine ev_step (fun k => spec_SplitPath.j0.eq_2 _ _ _ k) (ev_neg (by decide) (ev_neg ?_ hE))
          rw [Lib.toList_data, hl, hc]
          intro h
          injection h with _ h
          exact hr h
        refine ⟨r, hf, ?_⟩
        unfold told at ht
        rw [isNamed, decide_eq_true hc, hne]
        rw [List.length_nil, Nat.zero_add] at ht
        cases ha : (cutS rest).all nameL with
        | false =>
          rw [ha, if_neg (by decide)] at ht
          rw [ht]
          simp
        | true =>
          rw [ha, if_pos rfl] at ht
          by_cases h4 : (cutS rest).length > 4
          · rw [if_pos h4] at ht
            rw [ht, decide_eq_false (by omega)]
            simp
          · rw [if_neg h4] at ht
            obtain ⟨t1, t2, t3⟩ := ht
            refine ⟨?_, by omega, t3⟩
            rw [t1, decide_eq_true (by omega)]
            cases hr1 : r.1 with
            | nil =>
              rw [hr1, List.length_nil] at t2
              exact absurd (List.length_eq_zero_iff.1 t2.symm) (cutS_ne rest)
            | cons _ _ => rfl
    · have hbf : (bt p 0 != 47) = true := by
        rw [hb, bne_iff_ne]
        intro h
        refine hc (UInt8.toNat_inj.1 ?_)
        have : ((47 : UInt8).toNat : Int) = 47 := rfl
        omega
      refine ⟨([], false), ?_, by rw [isNamed, decide_eq_false hc]; rfl, by simp, by simp⟩
      unfold spec_SplitPath.f
      refine ev_call rfl (ev_neg (by omega) (ev_pos (by omega) ?_))
      rw [hbf]
      exact ev_step (fun k => spec_SplitPath.j0.eq_2 _ _ _ k) (ev_pos rfl (ev_some _))
theorem rd_size (l : List ByteArray) (h8 : ∀ x ∈ l, x.size ≤ 8) (i : Int) : (rdOf ByteArray.empty l i).size ≤ 8 := by
  unfold rdOf
  rw [List.getD_eq_getElem?_getD]
  cases h : l[i.toNat]? with
  | none => exact Nat.zero_le _
  | some x => exact h8 x (List.mem_of_getElem? h)
theorem join_loop (l : List ByteArray) (h4 : l.length ≤ 4) (h8 : ∀ x ∈ l, x.size ≤ 8) (m : Nat) : ∀ (i : Nat) (acc : ByteArray), i + m = l.length → acc.size ≤ 9 * i → ∃ t, Ev (fun k => spec_JoinPath.l0 k l acc (i : Int)) t := by
  induction m with
  | zero => intro i acc hi ha; exact ⟨_, ev_step (fun k => spec_JoinPath.l0.eq_2 _ _ _ k) (ev_neg (by omega) (ev_some _))⟩
  | succ m ih =>
    intro i acc hi ha
    have hr := rd_size l h8 (i : Int)
    have ew : wrap64 ((i : Int) + 1) = ((i + 1 : Nat) : Int) := by rw [wrap_in (by omega) (by omega)]; rfl
    have hz : (acc ++ (⟨#[47]⟩ : ByteArray)).size = acc.size + 1 := by rw [ByteArray.size_append]; rfl
    obtain ⟨t, ht⟩ := ih (i + 1) ((acc ++ (⟨#[47]⟩ : ByteArray)) ++ rdOf ByteArray.empty l (i : Int)) (by omega) (by rw [ByteArray.size_append, hz]; omega)
    refine ⟨t, ev_step (fun k => spec_JoinPath.l0.eq_2 _ _ _ k) (ev_pos (by omega) (ev_pos (by omega) (ev_pos (by omega) (ev_pos (by rw [hz]; omega) ?_))))⟩
    rw [ew]
    exact ht
theorem joinPath_some (l : List ByteArray) (h4 : l.length ≤ 4) (h8 : ∀ x ∈ l, x.size ≤ 8) : ∃ t, Ev (fun k => spec_JoinPath.f k l) t := by
  unfold spec_JoinPath.f
  by_cases h : (l.length : Int) = 0
  · exact ⟨_, ev_pos h (ev_some _)⟩
  · obtain ⟨t, ht⟩ := join_loop l h4 h8 l.length 0 ⟨#[]⟩ (by omega) (Nat.le_refl _)
    exact ⟨t, ev_neg h ht⟩
theorem l11Named_ev (p : ByteArray) (hs : p.size < 8796093022000) : Ev (fun k => spec_l11Named.f k p) (isNamed p.data.toList) := by
  obtain ⟨r, hE, hn, h4, h8⟩ := splitPath_ev p hs
  unfold spec_l11Named.f spec_ParentPath.f
  rw [← hn]
  obtain ⟨l, ok⟩ := r
  simp only at h4 h8 hn ⊢
  cases ok with
  | false => exact ev_bind (a := (⟨#[]⟩, ⟨#[]⟩, false)) (ev_bind hE (ev_neg Bool.false_ne_true (ev_some _))) (ev_some _)
  | true =>
    cases l with
    | nil => exact ev_bind (a := (⟨#[]⟩, ⟨#[]⟩, false)) (ev_bind hE (ev_pos rfl (ev_pos rfl (ev_some _)))) (ev_some _)
    | cons x s =>
      rw [List.length_cons] at h4
      have ew : wrap64 (((x :: s).length : Int) - 1) = (s.length : Int) := by rw [List.length_cons, wrap_in (by omega) (by omega)]; omega
      obtain ⟨t, ht⟩ := joinPath_some ((x :: s).take s.length) (by rw [List.length_take]; omega) (fun y hy => h8 y (List.mem_of_mem_take hy))
      refine ev_bind (a := (t, rdOf ByteArray.empty (x :: s) (s.length : Int), true)) (ev_bind hE (ev_pos rfl (ev_neg (by rw [List.length_cons]; omega) ?_))) (ev_some _)
      simp only [ew, Int.toNat_natCast]
      exact ev_pos (by omega) (ev_pos (by rw [List.length_cons]; omega) (ev_bind ht (ev_pos (by rw [List.length_cons]; omega) (ev_some _))))
end Go.Proofs.YtdacjpebgklneaaDoor.Pu

namespace Go.Proofs.YtdacjpebgklneaaDoor.Lw
open Go.RowKit Go.Proofs.YtdacjpebgklneaaDoorW.PrintWords Go.Proofs.YtdacjpebgklneaaDoor.Pr Go.Proofs.YtdacjpebgklneaaDoor.Evs
set_option linter.unusedVariables false
abbrev ImLease := S35
theorem rd35 (p s : List S35) (x : S35) : rd_T35 (p ++ x :: s) (p.length : Int) = x := by unfold rd_T35; exact getD_mid' p s x _ _ rfl
def bdLease (x : ImLease) : Prop := (x.f0.size ≤ 1048576)
end Go.Proofs.YtdacjpebgklneaaDoor.Lw
