/- A part of the proof of the law FnLoads: its texts, one behind the other. -/
import Derived.ArgAppend
import Derived.Below
import Derived.BigQuiet
import Derived.Calls
import Derived.ChangeArms
import Derived.Deep.AppendLies
import Derived.Deep.AppendSrc
import Derived.Deep.CutBlock
import Derived.Deep.DeepCutAuto
import Derived.Deep.Draws
import Derived.Deep.LoopGhost
import Derived.Deep.OwnRows
import Derived.Deep.QuietTactic
import Derived.Deep.RegionHeld3
import Derived.Deep.Slices
import Derived.Great.BuildSlice
import Derived.KernelRfl
import Derived.Laws.BitsLemmas
import Derived.Laws.BytesArg
import Derived.Laws.BytesString
import Derived.Laws.Cells
import Derived.Laws.IdiomCopy
import Derived.Laws.IdiomStrings
import Derived.Laws.MakeOwn
import Derived.Laws.OwnMore
import Derived.Laws.Rows
import Derived.Laws.Slices
import Derived.Laws.Tables
import Derived.Lib.AppendStr
import Derived.Lib.ConvBytes
import Derived.Maps.AppendAt
import Derived.Orders
import Derived.OrdersHeld
import Derived.OwnWalk
import Derived.RowKit
import Derived.RowKit3
import Derived.Tactics
import Derived.Test.YthamiihdoicjkaaProg
import Derived.WalkKit
import Derived.WideLaws
import Derived.WideShapes
import GoSem.Core.Sem
import GoSem.Op.String
import Derived.Test.YthamiihdoicjkaaBFnLoads1
set_option linter.unusedVariables false
set_option linter.unusedSimpArgs false
namespace Go.Proofs.Ythamiihdoicjkaa.Pr
open Go.RowKit Go.Proofs.YthamiihdoicjkaaW.PrintWords Go.Proofs.YthamiihdoicjkaaW.PrintLast Go.Proofs.YthamiihdoicjkaaW.PrintMore
attribute [local go_sem] max2_int min2_int max_two min_two max_three min_three max_four min_four
theorem FR {p : Prop} (h : p := by first | rfl | (simp; done) | (simp [*]; done)) : p := h
theorem DT {p : Prop} [Decidable p] (h : decide p = true := by first | (with_reducible assumption) | assumption) : p := of_decide_eq_true h
theorem BX {P : Program} {ops : Array Oper} {Q : Exit → Act → World → Prop} {rest : List Oper} {o : Oper} {a : Act} {W : World} (N : Tmp) (cs : Array Value) (t : TypeId)
  (h : ∀ g, g = W.heap.size → ∀ w1, w1.heap[g]? = some (.cells cs t (0, 0)) → Below W.heap.size W w1 → wpList P ops Q rest (a.put o.dst (.pointer (some ⟨g, 0, none⟩))) w1)
  (hd : o.dst = some N := by rfl) (hg : o.guard = none := by rfl) (hr : (execOp a.eval o).run P W = .ok (.value (.pointer (some ⟨W.heap.size, 0, none⟩))) (W.alloc (.cells cs t (0, 0))) := by first | (go_simp; done) | (go_simp; rfl)) : wpList P ops Q (o :: rest) a W := box_event hg hd hr h
theorem GL {P : Program} {ops : Array Oper} {Q : Exit → Act → World → Prop} {rest : List Oper} {oi : Oper} {a : Act} {w : World} (N : Option Tmp) (hd : oi.dst = N) (hg : oi.guard = none) {f : FuncId} {fn : Func} {os_ : Array Operand} {ts : Array TypeId} (hf : P.funcs[f]? = some fn) (args : Array Value)
  (hop : oi.op = .call { callee := .value (.func f), args := os_, argTypes := ts }) (h : Calls P f args w fun e w' => ∃ v, e = .returned v ∧ wpList P ops Q rest (a.put N v) w')
  (hname : (fn.name == "runtime.NumGoroutine") = false := by kernel_rfl) (hb : fn.body.isSome = true := by rfl) (hargs : os_.map a.eval = args := by (try simp only [List.map_toArray, List.map_cons, List.map_nil]); first | done | rfl | (simp only [List.length_drop, List.length_take]; rfl)) : wpList P ops Q (oi :: rest) a w :=
 goesL_ N hd hg hf hname hb args hop hargs h

theorem info3 : (Try.prog.info? 3).map (fun i => (i.zero, i.size, i.bytes)) = some (some (.int .i64 0), 1, 8) := by kernel_rfl
structure S62 where
 f0 : Int
 f1 : Int
 f2 : ByteArray
 f3 : Int
def k62 : Kd S62 := Kd.iso (Kd.pair (Kd.int .i64) (Kd.pair (Kd.int .i64) (Kd.pair Kd.string (Kd.int .i64)))) (fun x : S62 => (x.f0, x.f1, x.f2, x.f3))
structure S33 where
 f0 : Int
 f1 : Bool
 f2 : (List S62)
def z33 : S33 := ⟨(0 : Int), false, ([] : List S62)⟩
def k33 : Kd S33 := Kd.iso (Kd.pair (Kd.int .i64) (Kd.pair Kd.bool (Kd.slice 62 k62))) (fun x : S33 => (x.f0, x.f1, x.f2))
theorem k33_open {w : World} {x : S33} {cs : List Value} (h : k33.K w x cs) : ∃ A2 c2, cs = [.int .i64 x.f0, .bool x.f1, .slice A2 x.f2.length c2] ∧ x.f2.length ≤ c2 ∧ k62.C w A2 x.f2.length x.f2 := by
 obtain ⟨_, _, rfl, rfl, ⟨_, _, rfl, rfl, ⟨A2, c2, rfl, l2, g2⟩⟩⟩ := h
 exact ⟨A2, c2, rfl, l2, g2⟩
def rd_T33 (xs : List S33) (i : Int) : S33 := xs.getD i.toNat z33
theorem at_T33 {w : World} {A : Option Addr} {n : Nat} {xs : List S33} (h : Kd.C k33 w A n xs) (i : Int) (h0 : 0 ≤ i) (h1 : i < n) : ∃ ad A2 c2, A = some ad ∧ w.cell? (ad.add (i.toNat * 3)) = some (.int .i64 (rd_T33 xs i).f0) ∧ w.cell? ⟨(ad.add (i.toNat * 3)).block, (ad.add (i.toNat * 3)).off + 1, none⟩ = some (.bool (rd_T33 xs i).f1) ∧ w.cell? ⟨(ad.add (i.toNat * 3)).block, (ad.add (i.toNat * 3)).off + 2, none⟩ = some (.slice A2 (rd_T33 xs i).f2.length c2) ∧ (rd_T33 xs i).f2.length ≤ c2 ∧ k62.C w A2 (rd_T33 xs i).f2.length (rd_T33 xs i).f2 := by
 obtain ⟨ad, c, e, _, hK, hc0⟩ := Kd.C_get h z33 i h0 h1
 have hc : ∀ j u, c[j]? = some u → w.cell? (ad.add (i.toNat * 3 + j)) = some u := hc0
 obtain ⟨A2, c2, rfl, l2, g2⟩ := k33_open hK
 exact ⟨ad, A2, c2, e, hc 0 _ rfl, by rw [← add_field _ _ 1 (by omega)]; exact hc 1 _ rfl, by rw [← add_field _ _ 2 (by omega)]; exact hc 2 _ rfl, l2, g2⟩

theorem PU {P : Program} {md : Region.Mode} {ops : Array Oper} {Q : Exit → Act → World → Prop} {S : World → Prop} {ds : List Nat} {fuel : Nat} {l : Array Bool} {a : Act} {w : World} (i : Nat) (N : Tmp) {oi : Oper} {v : Value} {a' : Act}
  (h : wpAnyLast P md ops Q S ds fuel (l.setIfInBounds i true) a' w)
  (hi : ops[i]? = some oi := by rfl) (hN : oi.dst = some N := by rfl) (hc : anyB md ops l (l.setIfInBounds i true) i = true := by kernel_rfl) (hQ : ∀ c a w, Q (.panic c) (a.put oi.dst v) w → Q (.panic c) a w := by exact fun _ _ _ h => h)
  (hy : Yields P ops oi v a := by (refine Or.inl ⟨by rfl, ?_⟩; intro w'; go_simp; with_reducible rfl)) (ha : a.put (some N) v = a' := by (simp only [Act.put, List.setIfInBounds_toArray, List.set_cons_zero, List.set_cons_succ, i64_w, i32_w]; rfl)) : wpAnyLast P md ops Q S ds (fuel + 1) l a w :=
 pure_ (l.setIfInBounds i true) hi hN hc hQ hy ha h
theorem TK {P : Program} {md : Region.Mode} {ops : Array Oper} {Q : Exit → Act → World → Prop} {S : World → Prop} {ds : List Nat} {fuel : Nat} {l : Array Bool} {a : Act} {w : World} (i : Nat) (N : Tmp) {oi : Oper} {v : Value} {a' : Act} (hS : S w)
  (h : wpAnyLast P md ops Q S ds fuel (l.setIfInBounds i true) a' w)
  (hi : ops[i]? = some oi := by rfl) (hN : oi.dst = some N := by rfl) (hc : takeB md ops ds l (l.setIfInBounds i true) i = true := by kernel_rfl) (hQ : ∀ c a w, Q (.panic c) (a.put oi.dst v) w → Q (.panic c) a w := by exact fun _ _ _ h => h)
  (hy : YieldsIf P ops S oi v a := by (refine Or.inl ⟨by rfl, ?_⟩; intro w' s_; (repeat (have h_ := And.left s_; replace s_ := And.right s_)); go_simp; with_reducible rfl)) (ha : a.put (some N) v = a' := by (simp only [Act.put, List.setIfInBounds_toArray, List.set_cons_zero, List.set_cons_succ, i64_w, i32_w]; rfl)) : wpAnyLast P md ops Q S ds (fuel + 1) l a w :=
 take_ (l.setIfInBounds i true) hi hN hc hQ hy hS ha h
theorem NM {P : Program} {md : Region.Mode} {ops : Array Oper} {Q : Exit → Act → World → Prop} {S : World → Prop} {ds : List Nat} {fuel : Nat} {l : Array Bool} {a : Act} {w : World} (N : Tmp) {v : Value} {a' : Act} (h : wpAnyLast P md ops Q S ds fuel l a' w)
  (ha : a.put (some N) v = a' := by (simp only [Act.put, List.setIfInBounds_toArray, List.set_cons_zero, List.set_cons_succ, i64_w, i32_w]; rfl)) : wpAnyLast P md ops Q S ds fuel l (a.put (some N) v) w := norm_ ha h
theorem AM {p : Prop} (h : p) : Aside0 p := ⟨h⟩
end Go.Proofs.Ythamiihdoicjkaa.Pr
namespace Go.Proofs.Ythamiihdoicjkaa.Opn
open Go.RowKit Go.ChangeShapes Go.WideShapes Go.Deep Go.Proofs.YthamiihdoicjkaaW.PrintWords
def Opens {α : Type} (P : Program) (d : Kd α) (wf : α → Prop) (t : TypeId) : Prop :=
 ∀ (H : Type) (enc : TypeId × Value → H) (w : World) (base : Nat) (spare : Nat → Bool) (held : Bool) (fuel : Nat) (cs : List Value) (x : DataW H × List MemPlace),
  DataW.trod enc P w base spare held fuel t cs = some x → ∃ v, d.K w v cs ∧ wf v

theorem opens_int {P : Program} {t : TypeId} (k : IntKind) (ht : P.underlying t = some (.int k)) : Opens P (Kd.int k) (fun n => (Lit.int k n).wf = true) t := by
 intro H enc w base spare held fuel cs x h
 obtain ⟨n, rfl, _, hw⟩ := DataW.trod_int ht h
 exact ⟨n, rfl, hw⟩
theorem list_of_lt {α : Type} {q : Nat → α → Prop} (len : Nat) (key : ∀ i, i < len → ∃ v, q i v) : ∃ xs : List α, xs.length = len ∧ ∀ i v, xs[i]? = some v → q i v := by
 induction len with
 | zero => exact ⟨[], rfl, fun i v h => by simp at h⟩
 | succ k ih =>
  obtain ⟨xs, hxl, hx⟩ := ih (fun i hik => key i (by omega))
  obtain ⟨v, h1⟩ := key k (by omega)
  refine ⟨xs ++ [v], by simp [hxl], fun i u hu => ?_⟩
  by_cases hik : i < xs.length
  ·rw [List.getElem?_append_left hik] at hu
   exact hx i u hu
  ·have hil := (List.getElem?_eq_some_iff.1 hu).1
   simp at hil
   have hi' : i = k := by omega
   subst hi'
   rw [List.getElem?_append_right (by omega)] at hu
   simp [hxl] at hu
   subst hu
   exact h1

theorem opens_slice {α : Type} {P : Program} {t e : TypeId} {d : Kd α} {wf : α → Prop} (ht : P.underlying t = some (.slice e)) (hc : P.cellsOf e = d.sz) (he : Opens P d wf e) :
  Opens P (Kd.slice e d) (fun xs => xs.length ≤ maxLen ∧ ∀ x ∈ xs, wf x) t := by
 intro H enc w base spare held fuel cs x h
 rcases Go.Deep.open_slice ht h with ⟨rfl, _⟩ | ⟨a, len, cap, m, n, D, Pl, rfl, _, hl, hm, hmm, _, hi⟩
 ·refine ⟨[], ⟨none, 0, rfl, Nat.le_refl _, rfl, by simp, fun h => absurd h (by simp)⟩, by simp, fun x hx => by simp at hx⟩
 ·have hlm : len ≤ m := by rw [hmm]; split <;> omega
  have key : ∀ i, i < len → ∃ v c, d.K w v c ∧ wf v ∧ w.cells? base (a.add (i * P.cellsOf e)) (P.cellsOf e) = some c := by
   intro i hil
   obtain ⟨c, h1, h2⟩ := hi i (by omega)
   obtain ⟨v, hk, hw⟩ := he _ _ _ _ _ _ _ _ _ h2
   exact ⟨v, c, hk, hw, h1⟩
  have this := list_of_lt (q := fun i v => ∃ c, d.K w v c ∧ wf v ∧ w.cells? base (a.add (i * P.cellsOf e)) (P.cellsOf e) = some c) len key
  obtain ⟨xs, hxl, hx⟩ := this
  refine ⟨xs, ⟨some a, cap, by rw [hxl], by omega, ?_⟩, by rw [hxl]; omega, ?_⟩
  ·refine ⟨rfl, by unfold maxLen at hm; omega, fun _ => ⟨a, rfl, fun j p hj => ?_⟩⟩
   obtain ⟨c, h1, h2, h3⟩ := hx j p hj
   obtain ⟨_, hcl, hat⟩ := World.cells?_some h3
   refine ⟨c, by rw [hcl, hc], h1, fun i u hu => ?_⟩
   have hil : i < P.cellsOf e := by rw [← hcl]; exact (List.getElem?_eq_some_iff.1 hu).1
   rw [← Go.Deep.add_add, ← hc, hat i hil, hu]
  ·intro y hy
   obtain ⟨i, hi⟩ := List.mem_iff_getElem?.1 hy
   obtain ⟨c, _, h2, _⟩ := hx i y hi
   exact h2

theorem arg_slice {α : Type} {P : Program} {t e : TypeId} {d : Kd α} {wf : List α → Prop} (h : Opens P (Kd.slice e d) wf t) {H : Type} {enc : TypeId × Value → H} {w : World} {base : Nat} {spare : Nat → Bool} {held : Bool}
  {A : Option Addr} {n c : Nat} {x : DataW H} {p : List MemPlace} (hx : DataW.Trod enc P w base spare held t (.slice A n c) x p) : ∃ l : List α, n = l.length ∧ l.length ≤ c ∧ Kd.C d w A l.length l ∧ wf l := by
 obtain ⟨fuel, hf⟩ := hx
 obtain ⟨l, ⟨A', c', he, hl, hC⟩, hw⟩ := h _ _ _ _ _ _ _ _ _ hf
 simp [Value.cells] at he
 obtain ⟨rfl, rfl, rfl⟩ := he
 exact ⟨l, rfl, hl, hC, hw⟩
end Go.Proofs.Ythamiihdoicjkaa.Opn
namespace Go.Proofs.Ythamiihdoicjkaa.SFnLoads
open Go.RowKit Go.Proofs.YthamiihdoicjkaaW.PrintWords Go.Proofs.YthamiihdoicjkaaW.PrintLast Go.Proofs.YthamiihdoicjkaaW.PrintMore Go.Proofs.Ythamiihdoicjkaa.Pr Go.Proofs.Ythamiihdoicjkaa.Opn
def Direct : Prop := ∀ (l0 : List (Int)) (A0 : Option Addr) (c0 : Nat) (w : World), Kd.C (Kd.int .u8) w A0 l0.length l0 → l0.length ≤ c0 → (l0.length ≤ maxLen ∧ ∀ y ∈ l0, (Lit.int .u8 y).wf = true) → Calls Try.prog 3 #[.slice A0 l0.length c0] w fun e w' => e = .returned (.bool true) ∧ Below w.heap.size w w'
end Go.Proofs.Ythamiihdoicjkaa.SFnLoads
namespace Go.Proofs.Ythamiihdoicjkaa.Pv
open Go
def bnd {α β : Type} (a : Option α) (f : α → Option β) : Option β := a.bind f
def cnd {α : Type} (b : Bool) (x y : α) : α := cond b x y
def must (b : Bool) : Option Unit := if b then some () else none
def sel {α : Type} (b : Bool) (x y : α) : α := if b then x else y
def bnot (a : Bool) : Bool := !a
def band (a b : Bool) : Bool := a && b
def beq (a b : Bool) : Bool := a == b
def iadd (k : IntKind) (a b : Int) : Int := k.wrap (a + b)
def isub (k : IntKind) (a b : Int) : Int := k.wrap (a - b)
def imul (k : IntKind) (a b : Int) : Int := k.wrap (a * b)
def iquo (k : IntKind) (a b : Int) : Int := k.wrap (a.tdiv b)
def irem (a b : Int) : Int := a.tmod b
def iand (k : IntKind) (a b : Int) : Int := k.wrap (BitVec.ofInt k.bits a &&& BitVec.ofInt k.bits b).toNat
def ior (k : IntKind) (a b : Int) : Int := k.wrap (BitVec.ofInt k.bits a ||| BitVec.ofInt k.bits b).toNat
def ixor (k : IntKind) (a b : Int) : Int := k.wrap (BitVec.ofInt k.bits a ^^^ BitVec.ofInt k.bits b).toNat
def ishl (k : IntKind) (a b : Int) : Int := k.wrap (a * 2 ^ (min b.toNat k.bits))
def ishr (k : IntKind) (a b : Int) : Int := a.fdiv (2 ^ (min b.toNat k.bits))
def imax (a b : Int) : Int := if b > a then b else a
def imin (a b : Int) : Int := if b < a then b else a
def iwrap (k : IntKind) (a : Int) : Int := k.wrap a
def iplus (a b : Int) : Int := a + b
def iminus (a b : Int) : Int := a - b
def ieq (a b : Int) : Bool := a == b
def ine (a b : Int) : Bool := a != b
def ilt (a b : Int) : Bool := decide (a < b)
def ile (a b : Int) : Bool := decide (a ≤ b)
def igt (a b : Int) : Bool := decide (a > b)
def ige (a b : Int) : Bool := decide (a ≥ b)
def inB (i n : Int) : Bool := decide (0 ≤ i) && decide (i < n)
def cutB (l h n : Int) : Bool := decide (0 ≤ l) && decide (l ≤ h) && decide (h ≤ n)
def scat (a b : ByteArray) : ByteArray := a ++ b
def seq (a b : ByteArray) : Bool := a.toList == b.toList
def slt (a b : ByteArray) : Bool := Op.bytesLess a.toList b.toList
def sle (a b : ByteArray) : Bool := Op.bytesLess a.toList b.toList || a.toList == b.toList
def slen (a : ByteArray) : Int := a.size
def sat (a : ByteArray) (i : Int) : Int := ((a.data.getD i.toNat 0).toNat : Int)
def scut (a : ByteArray) (l h : Int) : ByteArray := a.extract l.toNat h.toNat
def sbytes (a : ByteArray) : List Int := a.data.toList.map fun b => (b.toNat : Int)
def sof (xs : List Int) : ByteArray := ⟨(xs.map fun n => UInt8.ofNat n.toNat).toArray⟩
def rlen {α : Type} (xs : List α) : Int := xs.length
def rget {α : Type} (xs : List α) (i : Int) (d : α) : α := xs.getD i.toNat d
def rset {α : Type} (xs : List α) (i : Int) (x : α) : List α := xs.set i.toNat x
def rapp {α : Type} (xs ys : List α) : List α := xs ++ ys
def rcut {α : Type} (xs : List α) (l h : Int) : List α := (xs.drop l.toNat).take (h - l).toNat
def rrep {α : Type} (n : Int) (x : α) : List α := List.replicate n.toNat x

inductive K where
  | int (k : IntKind) | bool | str | unit | pair (a b : K) | row (e : K) | clo (fn : Nat) (c : K) | iptr (e : K)
  deriving DecidableEq

@[reducible] def K.ty : K → Type
  | .int _ => Int | .bool => Bool | .str => ByteArray | .unit => Unit | .pair a b => a.ty × b.ty | .row e => List e.ty | .clo _ c => c.ty | .iptr e => e.ty

def K.width : K → Nat
  | .unit => 0 | .pair a b => a.width + b.width | _ => 1

def K.dflt : (k : K) → k.ty
  | .int _ => (0 : Int) | .bool => false | .str => (⟨#[]⟩ : ByteArray) | .unit => () | .pair a b => (a.dflt, b.dflt) | .row _ => [] | .clo _ c => c.dflt | .iptr e => e.dflt

structure Leaf where
  k : K
  x : k.ty

def leaves : (k : K) → k.ty → List Leaf
  | .unit, _ => []
  | .pair a b, x => leaves a x.1 ++ leaves b x.2
  | .int k, x => [⟨.int k, x⟩] | .bool, x => [⟨.bool, x⟩] | .str, x => [⟨.str, x⟩] | .row e, x => [⟨.row e, x⟩]
  | .clo f c, x => [⟨.clo f c, x⟩] | .iptr e, x => [⟨.iptr e, x⟩]

def K.kinds : K → List K
  | .unit => [] | .pair a b => a.kinds ++ b.kinds | k => [k]

theorem leaves_length : ∀ (k : K) (x : k.ty), (leaves k x).length = k.width
  | .unit, _ => rfl
  | .pair a b, x => by simp [leaves, K.width, leaves_length a, leaves_length b]
  | .int _, _ | .bool, _ | .str, _ | .row _, _ | .clo _ _, _ | .iptr _, _ => rfl

@[reducible] def cel (w : World) (b o : Nat) : Option Value := w.cell? ⟨b, o, none⟩

def Sh (S : Nat → Prop) (w : World) : (k : K) → k.ty → (Nat → Option Value) → Prop
  | .int k, n, c => c 0 = some (.int k n)
  | .bool, b, c => c 0 = some (.bool b)
  | .str, s, c => c 0 = some (.string s)
  | .unit, _, _ => True
  | .pair a b, x, c => Sh S w a x.1 c ∧ Sh S w b x.2 (fun j => c (a.width + j))
  | .row e, xs, c => ∃ a len cap, c 0 = some (.slice a len cap) ∧ xs.length = len ∧ len ≤ cap ∧
      (xs = [] ∨ ∃ b o, a = some ⟨b, o, none⟩ ∧ S b ∧ ∀ i (h : i < xs.length), Sh S w e xs[i] (fun j => cel w b (o + i * e.width + j)))
  | .clo fn cc, x, c => ∃ caps, c 0 = some (.func (.func fn) #[] caps) ∧ caps.size = cc.width ∧ Sh S w cc x (fun j => caps[j]?)
  | .iptr e, x, c => ∃ b o, c 0 = some (.pointer (some ⟨b, o, none⟩)) ∧ S b ∧ Sh S w e x (fun j => cel w b (o + j))

theorem Sh.mono {S S' : Nat → Prop} {w w' : World} (hS : ∀ b, S b → S' b) (hw : ∀ b, S b → ∀ o, cel w' b o = cel w b o) :
    ∀ (k : K) (x : k.ty) (c : Nat → Option Value), Sh S w k x c → Sh S' w' k x c
  | .int _, _, _, h | .bool, _, _, h | .str, _, _, h | .unit, _, _, h => h
  | .pair a b, x, c, h => ⟨Sh.mono hS hw a _ _ h.1, Sh.mono hS hw b _ _ h.2⟩
  | .row e, xs, c, ⟨a, len, cap, h1, h2, hle, h3⟩ => ⟨a, len, cap, h1, h2, hle, h3.imp id fun ⟨b, o, h4, h5, h6⟩ =>
      ⟨b, o, h4, hS b h5, fun i hi => by
        have h7 := Sh.mono hS hw e _ _ (h6 i hi)
        simpa only [hw b h5] using h7⟩⟩
  | .clo fn cc, x, c, ⟨caps, h1, h2, h3⟩ => ⟨caps, h1, h2, Sh.mono hS hw cc _ _ h3⟩
  | .iptr e, x, c, ⟨b, o, h1, h2, h3⟩ => ⟨b, o, h1, hS b h2, by
      have h7 := Sh.mono hS hw e _ _ h3
      simpa only [hw b h2] using h7⟩

theorem Sh.congr {S : Nat → Prop} {w : World} : ∀ (k : K) (x : k.ty) (c c' : Nat → Option Value), (∀ j, j < k.width → c' j = c j) → Sh S w k x c → Sh S w k x c'
  | .int _, _, _, _, hc, h => (hc 0 (by simp [K.width])).trans h
  | .bool, _, _, _, hc, h => (hc 0 (by simp [K.width])).trans h
  | .str, _, _, _, hc, h => (hc 0 (by simp [K.width])).trans h
  | .unit, _, _, _, _, h => h
  | .pair a b, x, c, c', hc, h => ⟨Sh.congr a _ c c' (fun j hj => hc j (by simp [K.width]; omega)) h.1,
      Sh.congr b _ _ _ (fun j hj => hc (a.width + j) (by simp [K.width]; omega)) h.2⟩
  | .row e, xs, c, c', hc, ⟨a, len, cap, h1, h2⟩ => ⟨a, len, cap, (hc 0 (by simp [K.width])).trans h1, h2⟩
  | .clo fn cc, x, c, c', hc, ⟨caps, h1, h2⟩ => ⟨caps, (hc 0 (by simp [K.width])).trans h1, h2⟩
  | .iptr e, x, c, c', hc, ⟨b, o, h1, h2⟩ => ⟨b, o, (hc 0 (by simp [K.width])).trans h1, h2⟩

theorem Sh.leaf {S : Nat → Prop} {w : World} : ∀ (k : K) (x : k.ty) (c : Nat → Option Value), Sh S w k x c →
    ∀ j l, (leaves k x)[j]? = some l → Sh S w l.k l.x (fun i => c (j + i))
  | .unit, _, _, _, j, l, h => by simp [leaves] at h
  | .pair a b, x, c, h, j, l, hl => by
    simp only [leaves] at hl
    by_cases hj : j < (leaves a x.1).length
    · rw [List.getElem?_append_left hj] at hl
      exact Sh.leaf a _ _ h.1 j l hl
    · rw [List.getElem?_append_right (by omega)] at hl
      have := Sh.leaf b _ _ h.2 _ l hl
      rw [leaves_length] at this
      rw [leaves_length] at hj
      refine Sh.congr _ _ _ _ (fun i _ => ?_) this
      show c (j + i) = c (a.width + (j - a.width + i))
      congr 1
      omega
  | .int _, x, c, h, j, l, hl => by
    cases j with
    | zero => simp [leaves] at hl; subst hl; simpa using h
    | succ j => simp [leaves] at hl
  | .bool, x, c, h, j, l, hl => by
    cases j with
    | zero => simp [leaves] at hl; subst hl; simpa using h
    | succ j => simp [leaves] at hl
  | .str, x, c, h, j, l, hl => by
    cases j with
    | zero => simp [leaves] at hl; subst hl; simpa using h
    | succ j => simp [leaves] at hl
  | .row _, x, c, h, j, l, hl => by
    cases j with
    | zero => simp [leaves] at hl; subst hl; simpa using h
    | succ j => simp [leaves] at hl
  | .clo _ _, x, c, h, j, l, hl => by
    cases j with
    | zero => simp [leaves] at hl; subst hl; simpa using h
    | succ j => simp [leaves] at hl
  | .iptr _, x, c, h, j, l, hl => by
    cases j with
    | zero => simp [leaves] at hl; subst hl; simpa using h
    | succ j => simp [leaves] at hl

theorem Sh_some {S : Nat → Prop} {w : World} : ∀ (k : K) (x : k.ty) (c : Nat → Option Value), Sh S w k x c → ∀ j, j < k.width → ∃ v, c j = some v
  | .unit, _, _, _, j, hj => by simp [K.width] at hj
  | .pair a b, x, c, h, j, hj => by
    simp only [K.width] at hj
    by_cases hj' : j < a.width
    · exact Sh_some a _ _ h.1 j hj'
    · obtain ⟨v, hv⟩ := Sh_some b _ _ h.2 (j - a.width) (by omega)
      exact ⟨v, by rw [← hv]; congr 1; omega⟩
  | .int _, _, _, h, j, hj => by obtain rfl : j = 0 := by simp [K.width] at hj; omega
                                 exact ⟨_, h⟩
  | .bool, _, _, h, j, hj => by obtain rfl : j = 0 := by simp [K.width] at hj; omega
                                exact ⟨_, h⟩
  | .str, _, _, h, j, hj => by obtain rfl : j = 0 := by simp [K.width] at hj; omega
                               exact ⟨_, h⟩
  | .row _, _, _, ⟨_, _, _, h, _⟩, j, hj => by obtain rfl : j = 0 := by simp [K.width] at hj; omega
                                               exact ⟨_, h⟩
  | .clo _ _, _, _, ⟨_, h, _⟩, j, hj => by obtain rfl : j = 0 := by simp [K.width] at hj; omega
                                           exact ⟨_, h⟩
  | .iptr _, _, _, ⟨_, _, h, _⟩, j, hj => by obtain rfl : j = 0 := by simp [K.width] at hj; omega
                                             exact ⟨_, h⟩
inductive Loc where
 | cell (b o : Nat) | fl (r k : Nat)
 deriving DecidableEq

def Loc.add : Loc → Nat → Loc
 | .cell b o, j => .cell b (o + j) | .fl r k, j => .fl r (k + j)

theorem Loc.add_zero (l : Loc) : l.add 0 = l := by cases l <;> rfl
theorem Loc.add_add (l : Loc) (i j : Nat) : (l.add i).add j = l.add (i + j) := by cases l <;> simp [Loc.add, Nat.add_assoc]

inductive Tag where
 | box (r : Nat) | own (ρ : Nat × Nat) (l : Loc)

structure GW where
 w : World
 ω : Nat → Option Tag
 φ : Nat → Nat → Option Value
 S : Nat → Prop

def GW.val (g : GW) : Loc → Option Value
 | .cell b o => cel g.w b o | .fl r k => g.φ r k

def Unfz (fr : Nat × Nat) (n : Nat) : Prop := ∀ o, o < n → ¬ (fr.1 ≤ o ∧ o < fr.2)

def OW (g : GW) (ρ : Nat × Nat) (hole : Option Loc) : (k : K) → Nat → k.ty → Loc → Prop
 | .unit, _, _, _ => True
 | .pair a b, o, x, l => OW g ρ hole a o x.1 l ∧ OW g ρ hole b o x.2 (l.add a.width)
 | .row e, o + 1, xs, l => hole = some l ∨ ∃ a len cap, g.val l = some (.slice a len cap) ∧ xs.length = len ∧
   ((cap = 0 ∧ xs = []) ∨ ∃ b off cs t fr, a = some ⟨b, off, none⟩ ∧ len ≤ cap ∧ g.ω b = some (.own ρ l) ∧ g.w.heap[b]? = some (.cells cs t fr) ∧ Unfz fr cs.size ∧
    off + cap * e.width ≤ cs.size ∧ ∀ i (h : i < xs.length), OW g ρ hole e o xs[i] (.cell b (off + i * e.width)))
 | k, _, x, l => Sh g.S g.w k x (fun j => g.val (l.add j))

theorem OW_zero (g : GW) (ρ : Nat × Nat) (hole : Option Loc) : ∀ (k : K) (x : k.ty) (l : Loc), OW g ρ hole k 0 x l ↔ Sh g.S g.w k x (fun j => g.val (l.add j))
 | .unit, _, _ => by simp [OW, Sh]
 | .pair a b, x, l => by
  simp only [OW, Sh, OW_zero g ρ hole a, OW_zero g ρ hole b, Loc.add_add]
 | .row e, _, _ | .int _, _, _ | .bool, _, _ | .str, _, _ | .clo _ _, _, _ | .iptr _, _, _ => by simp only [OW]

def K.isLeaf : K → Bool
 | .unit => false | .pair _ _ => false | _ => true

theorem leaves_leaf {k : K} (h : k.isLeaf = true) (x : k.ty) : leaves k x = [⟨k, x⟩] := by
 cases k <;> simp [K.isLeaf] at h <;> rfl

theorem leaves_isLeaf : ∀ (k : K) (x : k.ty) (j : Nat) (lf : Leaf), (leaves k x)[j]? = some lf → lf.k.isLeaf = true
 | .unit, _, j, lf, h => by simp [leaves] at h
 | .pair a b, x, j, lf, h => by
  simp only [leaves] at h
  by_cases hj : j < (leaves a x.1).length
  ·rw [List.getElem?_append_left hj] at h; exact leaves_isLeaf a _ _ _ h
  ·rw [List.getElem?_append_right (by omega)] at h; exact leaves_isLeaf b _ _ _ h
 | .int _, x, j, lf, h | .bool, x, j, lf, h | .str, x, j, lf, h | .row _, x, j, lf, h | .clo _ _, x, j, lf, h | .iptr _, x, j, lf, h => by
  cases j with
  | zero => simp [leaves] at h; subst h; rfl
  | succ j => simp [leaves] at h

theorem leaf_width {k : K} (h : k.isLeaf = true) : k.width = 1 := by cases k <;> simp [K.isLeaf] at h <;> rfl

theorem OW_flat {g : GW} {ρ : Nat × Nat} {hole : Option Loc} {k : K} {o : Nat} {x : k.ty} {l : Loc} (hk : ∀ e, k ≠ .row e) (hw : k.isLeaf = true) :
  OW g ρ hole k o x l ↔ Sh g.S g.w k x (fun j => g.val (l.add j)) := by
 cases k <;> first | (exact absurd rfl (hk _)) | (simp [K.isLeaf] at hw; done) | (simp only [OW])

theorem pair_leaf {a b : K} {x : (K.pair a b).ty} {P : Nat → Leaf → Prop} :
  (∀ j lf, (leaves (.pair a b) x)[j]? = some lf → P j lf) ↔
   (∀ j lf, (leaves a x.1)[j]? = some lf → P j lf) ∧ (∀ j lf, (leaves b x.2)[j]? = some lf → P (a.width + j) lf) := by
 constructor
 ·intro h
  refine ⟨fun j lf hj => h j lf ?_, fun j lf hj => h _ lf ?_⟩
  ·have : j < (leaves a x.1).length := (List.getElem?_eq_some_iff.1 hj).1
   simp only [leaves]; rw [List.getElem?_append_left this]; exact hj
  ·simp only [leaves]; rw [List.getElem?_append_right (by rw [leaves_length]; omega), leaves_length, Nat.add_sub_cancel_left]; exact hj
 ·rintro ⟨h1, h2⟩ j lf hj
  simp only [leaves] at hj
  by_cases hlt : j < (leaves a x.1).length
  ·rw [List.getElem?_append_left hlt] at hj; exact h1 _ _ hj
  ·rw [List.getElem?_append_right (by omega), leaves_length] at hj
   rw [leaves_length] at hlt
   have := h2 _ _ hj
   rwa [Nat.add_sub_cancel' (by omega)] at this

theorem one_leaf {k : K} (h : k.isLeaf = true) {x : k.ty} {P : Nat → Leaf → Prop} :
  (∀ j lf, (leaves k x)[j]? = some lf → P j lf) ↔ P 0 ⟨k, x⟩ := by
 rw [leaves_leaf h]
 constructor
 ·intro h; exact h 0 _ rfl
 ·intro h j lf hj
  cases j with
  | zero => simp at hj; exact hj ▸ h
  | succ j => simp at hj

theorem OW_leaves (g : GW) (ρ : Nat × Nat) (hole : Option Loc) : ∀ (k : K) (o : Nat) (x : k.ty) (l : Loc),
  OW g ρ hole k o x l ↔ ∀ j lf, (leaves k x)[j]? = some lf → OW g ρ hole lf.k o lf.x (l.add j)
 | .unit, _, _, _ => by simp [OW, leaves]
 | .pair a b, o, x, l => by
  simp only [OW]
  rw [pair_leaf, OW_leaves g ρ hole a, OW_leaves g ρ hole b]
  simp only [Loc.add_add]
 | .row e, o, x, l => by rw [one_leaf rfl, Loc.add_zero]
 | .int _, o, x, l => by rw [one_leaf rfl, Loc.add_zero]
 | .bool, o, x, l => by rw [one_leaf rfl, Loc.add_zero]
 | .str, o, x, l => by rw [one_leaf rfl, Loc.add_zero]
 | .clo _ _, o, x, l => by rw [one_leaf rfl, Loc.add_zero]
 | .iptr _, o, x, l => by rw [one_leaf rfl, Loc.add_zero]

theorem Sh_leaves {S : Nat → Prop} {w : World} : ∀ (k : K) (x : k.ty) (c : Nat → Option Value),
  Sh S w k x c ↔ ∀ j lf, (leaves k x)[j]? = some lf → Sh S w lf.k lf.x (fun i => c (j + i))
 | .unit, _, _ => by simp [Sh, leaves]
 | .pair a b, x, c => by
  simp only [Sh]
  rw [pair_leaf, Sh_leaves a, Sh_leaves b]
  simp only [Nat.add_assoc]
 | .row e, x, c => by rw [one_leaf rfl]; simp
 | .int _, x, c => by rw [one_leaf rfl]; simp
 | .bool, x, c => by rw [one_leaf rfl]; simp
 | .str, x, c => by rw [one_leaf rfl]; simp
 | .clo _ _, x, c => by rw [one_leaf rfl]; simp
 | .iptr _, x, c => by rw [one_leaf rfl]; simp

theorem OW.frame {g g' : GW} {ρ : Nat × Nat} {hole : Option Loc} (hS : ∀ b, g.S b → g'.S b ∧ ∀ o, cel g'.w b o = cel g.w b o)
  (hb : ∀ b l, g.ω b = some (.own ρ l) → g'.ω b = some (.own ρ l) ∧ g'.w.heap[b]? = g.w.heap[b]?) :
  ∀ (k : K) (o : Nat) (x : k.ty) (l : Loc), (∀ j, j < k.width → g'.val (l.add j) = g.val (l.add j)) → OW g ρ hole k o x l → OW g' ρ hole k o x l
 | .unit, _, _, _, _, _ => by simp [OW]
 | .pair a b, o, x, l, hv, h => by
  simp only [OW] at h ⊢
  exact ⟨OW.frame hS hb a o _ l (fun j hj => hv j (by simp [K.width]; omega)) h.1,
   OW.frame hS hb b o _ _ (fun j hj => by rw [Loc.add_add]; exact hv _ (by simp [K.width]; omega)) h.2⟩
 | .row e, 0, xs, l, hv, h => by
  rw [OW_zero] at h ⊢
  exact Sh.mono (fun b h => (hS b h).1) (fun b h => (hS b h).2) _ _ _ (Sh.congr _ _ _ _ hv h)
 | .row e, o + 1, xs, l, hv, h => by
  simp only [OW] at h ⊢
  refine h.imp id fun ⟨a, len, cap, h1, h2, h3⟩ => ⟨a, len, cap, ?_, h2, h3.imp id fun ⟨b, off, cs, t, fr, h4, h5, h6, h7, hu, h8, h9⟩ =>
   ⟨b, off, cs, t, fr, h4, h5, (hb b l h6).1, (hb b l h6).2 ▸ h7, hu, h8, fun i hi => OW.frame hS hb e o _ _ (fun j _ => ?_) (h9 i hi)⟩⟩
  ·have := hv 0 (by simp [K.width]); rw [Loc.add_zero] at this; exact this.trans h1
  ·simp only [Loc.add, GW.val, cel, World.cell?, (hb b l h6).2]
 | .int _, o, x, l, hv, h => by simp only [OW] at h ⊢; exact Sh.mono (fun b h => (hS b h).1) (fun b h => (hS b h).2) _ _ _ (Sh.congr _ _ _ _ hv h)
 | .bool, o, x, l, hv, h => by simp only [OW] at h ⊢; exact Sh.mono (fun b h => (hS b h).1) (fun b h => (hS b h).2) _ _ _ (Sh.congr _ _ _ _ hv h)
 | .str, o, x, l, hv, h => by simp only [OW] at h ⊢; exact Sh.mono (fun b h => (hS b h).1) (fun b h => (hS b h).2) _ _ _ (Sh.congr _ _ _ _ hv h)
 | .clo _ _, o, x, l, hv, h => by simp only [OW] at h ⊢; exact Sh.mono (fun b h => (hS b h).1) (fun b h => (hS b h).2) _ _ _ (Sh.congr _ _ _ _ hv h)
 | .iptr _, o, x, l, hv, h => by simp only [OW] at h ⊢; exact Sh.mono (fun b h => (hS b h).1) (fun b h => (hS b h).2) _ _ _ (Sh.congr _ _ _ _ hv h)

theorem OW.sh {g : GW} {ρ : Nat × Nat} {S' : Nat → Prop} (hS : ∀ b, g.S b → S' b) (hb : ∀ b l, g.ω b = some (.own ρ l) → S' b) :
  ∀ (k : K) (o : Nat) (x : k.ty) (l : Loc), OW g ρ none k o x l → Sh S' g.w k x (fun j => g.val (l.add j))
 | .unit, _, _, _, _ => trivial
 | .pair a b, o, x, l, h => by
  simp only [OW] at h
  refine ⟨OW.sh hS hb a o _ _ h.1, ?_⟩
  have := OW.sh hS hb b o _ _ h.2
  simpa only [Loc.add_add] using this
 | .row e, 0, xs, l, h => by rw [OW_zero] at h; exact Sh.mono hS (fun _ _ _ => rfl) _ _ _ h
 | .row e, o + 1, xs, l, h => by
  simp only [OW] at h
  obtain ⟨a, len, cap, h1, h2, h3⟩ := h.resolve_left (by simp)
  refine ⟨a, len, cap, by simpa only [Loc.add_zero] using h1, h2, ?_⟩
  rcases h3 with h3 | ⟨b, off, cs, t, fr, h4, h5, h6, h7, hu, h8, h9⟩
  ·exact ⟨by rw [← h2, h3.2]; exact Nat.zero_le _, .inl h3.2⟩
  ·refine ⟨h5, ?_⟩
   exact .inr ⟨b, off, h4, hb _ _ h6, fun i hi => OW.sh hS hb e o _ _ (h9 i hi)⟩
 | .int _, o, x, l, h => by simp only [OW] at h; exact Sh.mono hS (fun _ _ _ => rfl) _ _ _ h
 | .bool, o, x, l, h => by simp only [OW] at h; exact Sh.mono hS (fun _ _ _ => rfl) _ _ _ h
 | .str, o, x, l, h => by simp only [OW] at h; exact Sh.mono hS (fun _ _ _ => rfl) _ _ _ h
 | .clo _ _, o, x, l, h => by simp only [OW] at h; exact Sh.mono hS (fun _ _ _ => rfl) _ _ _ h
 | .iptr _, o, x, l, h => by simp only [OW] at h; exact Sh.mono hS (fun _ _ _ => rfl) _ _ _ h

theorem OW_some {g : GW} {ρ : Nat × Nat} {k : K} {o : Nat} {x : k.ty} {l : Loc} (h : OW g ρ none k o x l) (hk : k.isLeaf = true) : ∃ v, g.val l = some v := by
 obtain ⟨v, hv⟩ := Sh_some _ _ _ (OW.sh (S' := fun _ => True) (fun _ _ => trivial) (fun _ _ _ => trivial) _ _ _ _ h) 0 (by rw [leaf_width hk]; exact Nat.one_pos)
 exact ⟨v, by simpa only [Loc.add_zero] using hv⟩

def castTo (k : K) (l : Leaf) : Option k.ty := if h : l.k = k then some (h ▸ l.x) else none

theorem castTo_eq {k : K} {l : Leaf} {x : k.ty} (h : castTo k l = some x) : l = ⟨k, x⟩ := by
 obtain ⟨lk, lx⟩ := l
 unfold castTo at h
 split at h
 ·rename_i hk; cases hk; cases h; rfl
 ·cases h

def updL : (k : K) → k.ty → Nat → Leaf → Option k.ty
 | .unit, _, _, _ => none
 | .pair a b, x, j, l => if j < a.width then (updL a x.1 j l).map (·, x.2) else (updL b x.2 (j - a.width) l).map (x.1, ·)
 | .int k, _, j, l => if j = 0 then castTo (.int k) l else none
 | .bool, _, j, l => if j = 0 then castTo .bool l else none
 | .str, _, j, l => if j = 0 then castTo .str l else none
 | .row e, _, j, l => if j = 0 then castTo (.row e) l else none
 | .clo f c, _, j, l => if j = 0 then castTo (.clo f c) l else none
 | .iptr e, _, j, l => if j = 0 then castTo (.iptr e) l else none

theorem updL_leaf {k : K} {x x' : k.ty} {j : Nat} {l : Leaf} (hk : k.isLeaf = true) (h : (if j = 0 then castTo k l else none) = some x') :
  j < k.width ∧ leaves k x' = (leaves k x).set j l := by
 split at h
 ·rename_i hj
  rw [leaf_width hk, leaves_leaf hk, leaves_leaf hk, castTo_eq h, hj]; exact ⟨Nat.one_pos, rfl⟩
 ·cases h

theorem leaves_updL : ∀ (k : K) (x : k.ty) (j : Nat) (l : Leaf) (x' : k.ty), updL k x j l = some x' → j < k.width ∧ leaves k x' = (leaves k x).set j l
 | .unit, _, _, _, _, h => by simp [updL] at h
 | .pair a b, x, j, l, x', h => by
  simp only [updL] at h
  split at h
  ·rename_i hj
   obtain ⟨y, hy, rfl⟩ := Option.map_eq_some_iff.1 h
   have := leaves_updL a _ _ _ _ hy
   refine ⟨by simp [K.width]; omega, ?_⟩
   simp only [leaves]
   rw [this.2, List.set_append_left _ _ (by rw [leaves_length]; exact this.1)]
  ·rename_i hj
   obtain ⟨y, hy, rfl⟩ := Option.map_eq_some_iff.1 h
   have := leaves_updL b _ _ _ _ hy
   refine ⟨by simp [K.width]; omega, ?_⟩
   simp only [leaves]
   rw [this.2, List.set_append_right _ _ (by rw [leaves_length]; omega), leaves_length]
 | .int _, _, _, _, _, h | .bool, _, _, _, _, h | .str, _, _, _, _, h | .row _, _, _, _, _, h | .clo _ _, _, _, _, _, h | .iptr _, _, _, _, _, h => updL_leaf rfl h

def ofL : (k : K) → List Leaf → Option (k.ty × List Leaf)
 | .unit, ls => some ((), ls)
 | .pair a b, ls => (ofL a ls).bind fun r => (ofL b r.2).map fun s => ((r.1, s.1), s.2)
 | .int k, l :: ls => (castTo (.int k) l).map (·, ls)
 | .bool, l :: ls => (castTo .bool l).map (·, ls)
 | .str, l :: ls => (castTo .str l).map (·, ls)
 | .row e, l :: ls => (castTo (.row e) l).map (·, ls)
 | .clo f c, l :: ls => (castTo (.clo f c) l).map (·, ls)
 | .iptr e, l :: ls => (castTo (.iptr e) l).map (·, ls)
 | _, [] => none

theorem ofL_leaf {k : K} (hk : k.isLeaf = true) {l : Leaf} {ls ls' : List Leaf} {x : k.ty} (h : (castTo k l).map (·, ls) = some (x, ls')) :
  l :: ls = leaves k x ++ ls' := by
 obtain ⟨y, hy, he⟩ := Option.map_eq_some_iff.1 h
 cases he
 rw [castTo_eq hy, leaves_leaf hk]; rfl

theorem ofL_eq : ∀ (k : K) (ls : List Leaf) (x : k.ty) (ls' : List Leaf), ofL k ls = some (x, ls') → ls = leaves k x ++ ls'
 | .unit, ls, x, ls', h => by simp [ofL] at h; simp [leaves, h]
 | .pair a b, ls, x, ls', h => by
  simp only [ofL] at h
  obtain ⟨r, hr, h⟩ := Option.bind_eq_some_iff.1 h
  obtain ⟨s, hs, he⟩ := Option.map_eq_some_iff.1 h
  cases he
  have h1 := ofL_eq a _ _ _ hr
  have h2 := ofL_eq b _ _ _ hs
  simp only [leaves]
  rw [h1, h2, List.append_assoc]
 | .int _, [], _, _, h | .bool, [], _, _, h | .str, [], _, _, h | .row _, [], _, _, h | .clo _ _, [], _, _, h | .iptr _, [], _, _, h => by simp [ofL] at h
 | .int _, _ :: _, _, _, h | .bool, _ :: _, _, _, h | .str, _ :: _, _, _, h | .row _, _ :: _, _, _, h | .clo _ _, _ :: _, _, _, h | .iptr _, _ :: _, _, _, h => ofL_leaf rfl h

inductive TL where
 /-- plain data -/
 | d (k : K) (x : k.ty)
 /-- the nil slice -/
 | nil
 /-- the row of one's own at the home (r, k) -/
 | ref (r k : Nat)
 /-- n of its elements from lo on, to be read -/
 | sub (r k : Nat) (e : K) (lo n : Int)
 /-- the address of a box's cell -/
 | adr (r off : Nat)
 /-- the address of a cell of element i of the row at the home (r, k) -/
 | ead (r k : Nat) (e : K) (i : Int) (off : Nat)
 /-- the address of a cell of something that is only read -/
 | iad (e : K) (x : e.ty) (off : Nat)
 /-- a function value that holds boxes -/
 | clo (fn : Nat) (caps : List Nat)
 | x

inductive TV where
 | one (l : TL)
 | agg (ls : List TL)
 | tup (vs : List (Bool × List TL))
 /-- v where the bool in temporary t is 'want'; else undefined -/
 | grd (t : Nat) (want : Bool) (v : Bool × List TL)
 | u

inductive LC where
 | own (o : Nat) (e : K) (xs : List e.ty) (hole : Option Loc)
 | tl (l : TL)

structure Root where
 box : Bool
 ls : List LC

structure St where
 t : List TV
 r : List (Nat × Root)

def look (rs : List (Nat × Root)) (n : Nat) : Option Root :=
 match rs with
 | [] => none
 | (m, x) :: rs => if m = n then some x else look rs n

def put (rs : List (Nat × Root)) (n : Nat) (x : Root) : List (Nat × Root) :=
 match rs with
 | [] => [(n, x)]
 | (m, y) :: rs => if m = n then (n, x) :: rs else (m, y) :: put rs n x

def del (rs : List (Nat × Root)) (n : Nat) : List (Nat × Root) :=
 match rs with
 | [] => []
 | (m, y) :: rs => if m = n then del rs n else (m, y) :: del rs n

theorem look_put (rs : List (Nat × Root)) (n m : Nat) (x : Root) : look (put rs n x) m = if n = m then some x else look rs m := by
 induction rs with
 | nil => simp [put, look]
 | cons p rs ih =>
  obtain ⟨q, y⟩ := p
  simp only [put]
  by_cases h : q = n
  ·subst h; simp only [if_true, look]; by_cases h' : q = m <;> simp [h']
  ·simp only [h, if_false, look, ih]
   by_cases h' : q = m
   ·subst h'; simp [Ne.symm h]
   ·simp [h']

theorem look_del (rs : List (Nat × Root)) (n m : Nat) : look (del rs n) m = if n = m then none else look rs m := by
 induction rs with
 | nil => simp [del, look]
 | cons p rs ih =>
  obtain ⟨q, y⟩ := p
  simp only [del]
  by_cases h : q = n
  ·subst h; simp only [if_true, ih, look]; by_cases h' : q = m <;> simp [h']
  ·simp only [h, if_false, look, ih]
   by_cases h' : q = m
   ·subst h'; simp [Ne.symm h]
   ·simp [h']

def fid (d j : Nat) : Nat := d + 4096 * (j + 1)

structure Kill where
 roots : List Nat := []
 homes : List (Nat × Nat) := []

def Kill.hits (q : Kill) (r k : Nat) : Bool := q.roots.elem r || q.homes.any fun h => h.1 == r && h.2 == k

def TL.kill (q : Kill) : TL → TL
 | .ref r k => if q.hits r k then .x else .ref r k
 | .sub r k e lo n => if q.hits r k then .x else .sub r k e lo n
 | .ead r k e i off => if q.hits r k then .x else .ead r k e i off
 | .adr r off => if q.roots.elem r then .x else .adr r off
 | .clo f caps => if caps.any q.roots.elem then .x else .clo f caps
 | l => l

def TV.kill (q : Kill) : TV → TV
 | .one l => .one (l.kill q)
 | .agg ls => .agg (ls.map (TL.kill q))
 | .tup vs => .tup (vs.map fun v => (v.1, v.2.map (TL.kill q)))
 | .grd t w v => .grd t w (v.1, v.2.map (TL.kill q))
 | .u => .u

def LC.kill (q : Kill) : LC → LC
 | .tl l => .tl (l.kill q)
 | c => c

def Root.kill (q : Kill) (x : Root) : Root := { x with ls := x.ls.map (LC.kill q) }

def killRs (q : Kill) : List (Nat × Root) → List (Nat × Root)
 | [] => []
 | (n, x) :: rs => (n, x.kill q) :: killRs q rs

theorem look_killRs (q : Kill) (rs : List (Nat × Root)) (n : Nat) : look (killRs q rs) n = (look rs n).map (Root.kill q) := by
 induction rs with
 | nil => rfl
 | cons p rs ih =>
  obtain ⟨m, x⟩ := p
  simp only [killRs, look, ih]
  split <;> rfl

structure Upd where
 kill : Kill := {}
 put : List (Nat × Option Root) := []
 dst : Option (Nat × TV) := none

def putAll : List (Nat × Option Root) → List (Nat × Root) → List (Nat × Root)
 | [], rs => rs
 | (n, some x) :: ps, rs => putAll ps (put rs n x)
 | (n, none) :: ps, rs => putAll ps (del rs n)

def Kill.onT : Kill → List TV → List TV
 | ⟨[], []⟩, t => t
 | q, t => t.map (TV.kill q)

def Kill.onR : Kill → List (Nat × Root) → List (Nat × Root)
 | ⟨[], []⟩, r => r
 | q, r => killRs q r

def Upd.tmps (u : Upd) (t : List TV) : List TV :=
 match u.dst with | some (d, v) => (u.kill.onT t).set d v | none => u.kill.onT t

def Upd.roots (u : Upd) (r : List (Nat × Root)) : List (Nat × Root) := putAll u.put (u.kill.onR r)

def St.app (s : St) (u : Upd) : St := { t := u.tmps s.t, r := u.roots s.r }

def grdOn (d : Nat) : TV → Bool
 | .grd t _ _ => t == d | _ => false

def kindOf (P : Program) : Nat → TypeId → Option K
 | 0, _ => none
 | n + 1, t =>
  match P.underlying t with
  | some (.int k) => some (.int k)
  | some .bool => some .bool
  | some .string => some .str
  | some (.slice e) => (kindOf P n e).map K.row
  | some (.struct fs) => fs.toList.foldr (fun f acc => (kindOf P n f.type).bind fun k => acc.map fun a => K.pair k a) (some K.unit)
  | _ => none

def isAggT (P : Program) (t : TypeId) : Option Bool :=
 match P.underlying t with
 | some (.struct _) | some (.array _ _) => some true
 | some _ => some false
 | none => none

def sizeT (P : Program) (t : TypeId) : Option Nat := (P.info? t).map (·.size)

def zeroL : K → Value
 | .int k => .int k 0 | .bool => .bool false | .str => .string ⟨#[]⟩ | _ => .slice none 0 0

def isZero : K → Value → Bool
 | .int k, .int k' n => decide (k = k') && decide (n = 0)
 | .bool, .bool b => !b
 | .str, .string s => match s with | ⟨⟨[]⟩⟩ => true | _ => false
 | .row _, .slice none 0 0 => true
 | _, _ => false

theorem isZero_eq {k : K} {v : Value} (h : isZero k v = true) : v = zeroL k := by
 unfold isZero at h
 split at h
 ·simp at h; obtain ⟨rfl, rfl⟩ := h; rfl
 ·simp at h; subst h; rfl
 ·split at h
  ·rfl
  ·cases h
 ·rfl
 ·cases h

def locR (β : Nat → Option Nat) (r k : Nat) : Loc := match β r with | some b => .cell b k | none => .fl r k

def one (v : Value) : Nat → Option Value := fun j => if j = 0 then some v else none

def TLr (g : GW) (β : Nat → Option Nat) : TL → Value → Prop
 | .d k x, v => k.isLeaf = true ∧ Sh g.S g.w k x (one v)
 | .nil, v => v = .slice none 0 0
 | .ref r k, v => g.val (locR β r k) = some v
 | .sub r k e lo n, v => ∃ a len cap a' cap', g.val (locR β r k) = some (.slice a len cap) ∧ v = .slice a' n.toNat cap' ∧ n.toNat ≤ cap' ∧ 0 ≤ lo ∧ 0 ≤ n ∧ lo + n ≤ len ∧
   (n = 0 ∨ ∃ b o, a = some ⟨b, o, none⟩ ∧ a' = some ⟨b, o + lo.toNat * e.width, none⟩)
 | .adr r off, v => ∃ b, β r = some b ∧ v = .pointer (some ⟨b, off, none⟩)
 | .ead r k e i off, v => ∃ b o len cap, g.val (locR β r k) = some (.slice (some ⟨b, o, none⟩) len cap) ∧ 0 ≤ i ∧ i < len ∧ v = .pointer (some ⟨b, o + i.toNat * e.width + off, none⟩)
 | .iad e x off, v => ∃ b o, v = .pointer (some ⟨b, o + off, none⟩) ∧ g.S b ∧ Sh g.S g.w e x (fun j => cel g.w b (o + j))
 | .clo fn caps, v => ∃ vs, v = .func (.func fn) #[] vs ∧ vs.size = caps.length ∧
   ∀ (i r : Nat), caps[i]? = some r → ∃ b : Nat, β r = some b ∧ vs[i]? = some (Value.pointer (some ⟨b, 0, none⟩))
 | .x, _ => True

def listR (R : TL → Value → Prop) (ls : List TL) (cs : Array Value) : Prop := cs.size = ls.length ∧ ∀ (j : Nat) (l : TL), ls[j]? = some l → ∃ c, cs[j]? = some c ∧ R l c

def compR (R : TL → Value → Prop) : Bool × List TL → Value → Prop
 | (true, ls), v => ∃ cs, v = .agg cs ∧ listR R ls cs
 | (false, ls), v => ∃ l, ls = [l] ∧ R l v

def TVr (R : TL → Value → Prop) (tmps : Array Value) : TV → Value → Prop
 | .one l, v => R l v
 | .agg ls, v => ∃ cs, v = .agg cs ∧ listR R ls cs
 | .tup vs, v => ∃ cs : Array Value, v = .tuple cs ∧ cs.size = vs.length ∧ ∀ (j : Nat) (p : Bool × List TL), vs[j]? = some p → ∃ c, cs[j]? = some c ∧ compR R p c
 | .grd t want tv, v => (tmps[t]? = some (.bool want) → compR R tv v) ∧ (tmps[t]? ≠ some (.bool want) → v = undef)
 | .u, _ => True

def LCr (g : GW) (β : Nat → Option Nat) (r k : Nat) : LC → Prop
 | .own o e xs hole => 1 ≤ o ∧ OW g (r, k) hole (.row e) o xs (locR β r k)
 | .tl l => ∃ v, g.val (locR β r k) = some v ∧ TLr g β l v

structure Env where
 base : Nat
 w0 : World
 ω0 : Nat → Option Tag
 St0 : Nat → Prop
 /-- the boxes that came in, by their names -/
 pin : Nat → Option Nat
 pinlt : ∀ r b, pin r = some b → r < 4096

def Env.S (E : Env) (w : World) (ω : Nat → Option Tag) (b : Nat) : Prop := b < w.heap.size ∧ ω b = none ∧ (E.St0 b ∨ E.base ≤ b ∨ E.ω0 b ≠ none)

def Env.g (E : Env) (w : World) (ω : Nat → Option Tag) (φ : Nat → Nat → Option Value) : GW := ⟨w, ω, φ, E.S w ω⟩

def Like (w w' : World) : Prop := w'.os = w.os ∧ w'.tape = w.tape ∧ w'.output = w.output
theorem Like.refl (w : World) : Like w w := ⟨rfl, rfl, rfl⟩
theorem Like.trans {a b c : World} (h : Like a b) (k : Like b c) : Like a c := ⟨k.1.trans h.1, k.2.1.trans h.2.1, k.2.2.trans h.2.2⟩

structure Wr (E : Env) (w : World) (ω : Nat → Option Tag) (β : Nat → Option Nat) : Prop where
 bj : ∀ r b, β r = some b → ω b = some (.box r)
 bd : ∀ b tag, ω b = some tag → b < w.heap.size
 old : ∀ b, b < E.base → E.ω0 b = none → ω b = none ∧ w.heap[b]? = E.w0.heap[b]?
 bs : E.base ≤ w.heap.size
 pin : ∀ r b, E.pin r = some b → β r = some b
 io : Like E.w0 w

structure Glob where
 n : Nat
 ok : World → Prop
 stay : ∀ w w' : World, (∀ b, b < n → w'.heap[b]? = w.heap[b]?) → ok w → ok w'

structure EnvOk (GI : Glob) (E : Env) : Prop where
 base : GI.n ≤ E.base
 ok : GI.ok E.w0
 own : ∀ b, b < GI.n → E.ω0 b = none

theorem EnvOk.now {GI : Glob} {E : Env} {w : World} {ω : Nat → Option Tag} {β : Nat → Option Nat} (hE : EnvOk GI E) (hw : Wr E w ω β) : GI.ok w ∧ GI.n ≤ w.heap.size ∧ ∀ b, b < GI.n → ω b = none :=
 ⟨GI.stay E.w0 w (fun b hb => (hw.old b (Nat.lt_of_lt_of_le hb hE.base) (hE.own b hb)).2) hE.ok, Nat.le_trans hE.base hw.bs, fun b hb => (hw.old b (Nat.lt_of_lt_of_le hb hE.base) (hE.own b hb)).1⟩

theorem Env.pin_fid (E : Env) (d j : Nat) : E.pin (fid d j) = none := by
 cases h : E.pin (fid d j) with
 | none => rfl
 | some b => have := E.pinlt _ _ h; unfold fid at this; rw [Nat.mul_add] at this; omega

def boxOk (w : World) (β : Nat → Option Nat) (r : Nat) (root : Root) : Prop :=
 root.box = (β r).isSome ∧ ∀ b, β r = some b → ∃ cs t fr, w.heap[b]? = some (.cells cs t fr) ∧ Unfz fr cs.size ∧ cs.size = root.ls.length

structure Rel (E : Env) (s : St) (a : Act) (w : World) (ω : Nat → Option Tag) (φ : Nat → Nat → Option Value) (β : Nat → Option Nat) : Prop where
 wr : Wr E w ω β
 df : a.defers = []
 sz : a.tmps.size = s.t.length
 tm : ∀ (t : Nat) (tv : TV), s.t[t]? = some tv → ∃ v, a.tmps[t]? = some v ∧ TVr (TLr (E.g w ω φ) β) a.tmps tv v
 bx : ∀ (r : Nat) (root : Root), look s.r r = some root → boxOk w β r root
 lc : ∀ (r : Nat) (root : Root) (k : Nat) (c : LC), look s.r r = some root → root.ls[k]? = some c → LCr (E.g w ω φ) β r k c

def RelX (E : Env) (s : St) (a : Act) (w : World) : Prop := ∃ ω φ β, Rel E s a w ω φ β

def Stays (R R' : TL → Value → Prop) (q : Kill) : Prop := ∀ l v, R l v → R' (l.kill q) v

theorem listR.stays {R R' : TL → Value → Prop} {q : Kill} (h : Stays R R' q) {ls : List TL} {cs : Array Value} (hl : listR R ls cs) : listR R' (ls.map (TL.kill q)) cs := by
 refine ⟨by simp [hl.1], fun j l hj => ?_⟩
 rw [List.getElem?_map] at hj
 obtain ⟨l0, h0, rfl⟩ := Option.map_eq_some_iff.1 hj
 obtain ⟨c, hc, hr⟩ := hl.2 j l0 h0
 exact ⟨c, hc, h _ _ hr⟩

theorem compR.stays {R R' : TL → Value → Prop} {q : Kill} (h : Stays R R' q) {p : Bool × List TL} {v : Value} (hp : compR R p v) : compR R' (p.1, p.2.map (TL.kill q)) v := by
 obtain ⟨b, ls⟩ := p
 cases b with
 | false => obtain ⟨l, rfl, hr⟩ := hp; exact ⟨_, rfl, h _ _ hr⟩
 | true => obtain ⟨cs, rfl, hl⟩ := hp; exact ⟨cs, rfl, hl.stays h⟩

theorem TVr.stays {R R' : TL → Value → Prop} {q : Kill} (h : Stays R R' q) {tmps : Array Value} : ∀ {tv : TV} {v : Value}, TVr R tmps tv v → TVr R' tmps (tv.kill q) v
 | .one l, v, hv => h l v hv
 | .agg ls, v, ⟨cs, e, hl⟩ => ⟨cs, e, hl.stays h⟩
 | .tup vs, v, ⟨cs, e, hs, hl⟩ => ⟨cs, e, by simp [hs], fun j p hj => by
   rw [List.getElem?_map] at hj
   obtain ⟨p0, h0, rfl⟩ := Option.map_eq_some_iff.1 hj
   obtain ⟨c, hc, hr⟩ := hl j p0 h0
   exact ⟨c, hc, hr.stays h⟩⟩
 | .grd t w tv, v, hv => ⟨fun hc => (hv.1 hc).stays h, hv.2⟩
 | .u, _, _ => trivial

theorem TL.kill_nil (l : TL) : l.kill {} = l := by cases l <;> simp [TL.kill, Kill.hits, List.elem]
theorem TL.map_nil (ls : List TL) : ls.map (TL.kill {}) = ls := by
 rw [List.map_congr_left (g := id) (fun l _ => TL.kill_nil l)]; simp
theorem TV.kill_nil : ∀ (tv : TV), tv.kill {} = tv
 | .one l => by simp [TV.kill, TL.kill_nil]
 | .agg ls => by simp [TV.kill, TL.map_nil]
 | .tup vs => by
  simp only [TV.kill]
  rw [List.map_congr_left (g := id) (fun p _ => by simp [TL.map_nil])]; simp
 | .grd t w tv => by simp [TV.kill, TL.map_nil]
 | .u => rfl
theorem Root.kill_nil (x : Root) : x.kill {} = x := by
 unfold Root.kill
 rw [List.map_congr_left (g := id) (fun c _ => by cases c <;> simp [LC.kill, TL.kill_nil])]; simp

theorem Kill.onT_eq (q : Kill) (t : List TV) : q.onT t = t.map (TV.kill q) := by
 unfold Kill.onT
 split
 ·rw [List.map_congr_left (g := id) (fun tv _ => TV.kill_nil tv)]; simp
 ·rfl

theorem Upd.tmps_eq (u : Upd) (t : List TV) : u.tmps t = match u.dst with | some (d, v) => (t.map (TV.kill u.kill)).set d v | none => t.map (TV.kill u.kill) := by
 unfold Upd.tmps
 rw [Kill.onT_eq]
 try rfl

theorem look_killed (q : Kill) (r : List (Nat × Root)) (n : Nat) : look (q.onR r) n = (look r n).map (Root.kill q) := by
 unfold Kill.onR
 split
 ·cases look r n with
  | none => rfl
  | some x => simp [Root.kill_nil]
 ·rw [look_killRs]

def lastPut : List (Nat × Option Root) → Nat → Option (Option Root)
 | [], _ => none
 | (m, x) :: ps, n => match lastPut ps n with | some y => some y | none => if m = n then some x else none

theorem look_putAll : ∀ (ps : List (Nat × Option Root)) (r : List (Nat × Root)) (n : Nat), look (putAll ps r) n = match lastPut ps n with | some y => y | none => look r n
 | [], _, _ => rfl
 | (m, some x) :: ps, r, n => by
  simp only [putAll, lastPut]
  rw [look_putAll ps]
  cases lastPut ps n with
  | some y => rfl
  | none => simp only [look_put]; by_cases h : m = n <;> simp [h]
 | (m, none) :: ps, r, n => by
  simp only [putAll, lastPut]
  rw [look_putAll ps]
  cases lastPut ps n with
  | some y => rfl
  | none => simp only [look_del]; by_cases h : m = n <;> simp [h]

theorem look_app (u : Upd) (r : List (Nat × Root)) (n : Nat) : look (u.roots r) n = match lastPut u.put n with | some y => y | none => (look r n).map (Root.kill u.kill) := by
 unfold Upd.roots
 rw [look_putAll, look_killed]

theorem Rel.step {E : Env} {s : St} {a : Act} {w w' : World} {ω ω' : Nat → Option Tag} {φ φ' : Nat → Nat → Option Value} {β β' : Nat → Option Nat} {u : Upd}
  (h : Rel E s a w ω φ β) (hw : Wr E w' ω' β') (hs : Stays (TLr (E.g w ω φ) β) (TLr (E.g w' ω' φ') β') u.kill)
  (hroot : ∀ r root, look s.r r = some root → lastPut u.put r = none → boxOk w' β' r root ∧
   ∀ k c, root.ls[k]? = some c → LCr (E.g w ω φ) β r k c → LCr (E.g w' ω' φ') β' r k (c.kill u.kill))
  (hput : ∀ r root, lastPut u.put r = some (some root) → boxOk w' β' r root ∧ ∀ k c, root.ls[k]? = some c → LCr (E.g w' ω' φ') β' r k c)
  {v : Value} (hdst : ∀ d tv, u.dst = some (d, tv) → TVr (TLr (E.g w' ω' φ') β') (a.put (some d) v).tmps tv v ∧ (∀ (t : Nat) (t' : Nat) (wt : Bool) (tv' : Bool × List TL), s.t[t]? = some (.grd t' wt tv') → t' ≠ d)) :
  Rel E (s.app u) (a.put (u.dst.map (·.1)) v) w' ω' φ' β' where
 wr := hw
 df := by cases hd : u.dst <;> simp [Act.put, h.df]
 sz := by
  simp only [St.app]; rw [Upd.tmps_eq]
  cases hd : u.dst with
  | none => simp [Act.put, h.sz]
  | some p => simp [Act.put, h.sz]
 tm := by
  intro t tv ht
  simp only [St.app] at ht; rw [Upd.tmps_eq] at ht
  cases hd : u.dst with
  | none =>
   rw [hd] at ht
   rw [List.getElem?_map] at ht
   obtain ⟨tv0, h0, rfl⟩ := Option.map_eq_some_iff.1 ht
   obtain ⟨x, hx, hr⟩ := h.tm t tv0 h0
   exact ⟨x, hx, hr.stays hs⟩
  | some p =>
   obtain ⟨d, tvd⟩ := p
   rw [hd] at ht
   have hdd := hdst d tvd hd
   by_cases htd : d = t
   ·subst htd
    have hlt : d < s.t.length := by have := (List.getElem?_eq_some_iff.1 ht).1; simpa using this
    rw [List.getElem?_set_self (by simpa using hlt)] at ht
    cases ht
    exact ⟨v, by simp [Act.put, h.sz, hlt], hdd.1⟩
   ·rw [List.getElem?_set_ne htd, List.getElem?_map] at ht
    obtain ⟨tv0, h0, rfl⟩ := Option.map_eq_some_iff.1 ht
    obtain ⟨x, hx, hr⟩ := h.tm t tv0 h0
    refine ⟨x, by simp [Act.put, Array.getElem?_setIfInBounds_ne htd, hx], ?_⟩
    have := hr.stays hs
    cases tv0 with
    | grd t' wt tv' =>
     have hne := hdd.2 t t' wt tv' h0
     simp only [TV.kill, TVr] at this ⊢
     have he : (a.put (some d) v).tmps[t']? = a.tmps[t']? := by simp [Act.put, Array.getElem?_setIfInBounds_ne (Ne.symm hne)]
     simp only [Option.map_some]
     rw [he]
     exact this
    | one l => exact this
    | agg ls => exact this
    | tup vs => exact this
    | u => trivial
 bx := by
  intro r root hr
  simp only [St.app] at hr; rw [look_app] at hr
  cases hp : lastPut u.put r with
  | some y => rw [hp] at hr; subst hr; exact (hput r root hp).1
  | none =>
   rw [hp] at hr
   obtain ⟨root0, h0, rfl⟩ := Option.map_eq_some_iff.1 hr
   have := (hroot r root0 h0 hp).1
   exact ⟨this.1, fun b hb => by obtain ⟨cs, t, fr, h1, h2, h3⟩ := this.2 b hb; exact ⟨cs, t, fr, h1, h2, by simp [Root.kill, h3]⟩⟩
 lc := by
  intro r root k c hr hc
  simp only [St.app] at hr; rw [look_app] at hr
  cases hp : lastPut u.put r with
  | some y => rw [hp] at hr; subst hr; exact (hput r root hp).2 k c hc
  | none =>
   rw [hp] at hr
   obtain ⟨root0, h0, rfl⟩ := Option.map_eq_some_iff.1 hr
   simp only [Root.kill, List.getElem?_map] at hc
   obtain ⟨c0, hc0, rfl⟩ := Option.map_eq_some_iff.1 hc
   exact (hroot r root0 h0 hp).2 k c0 hc0 (h.lc r root0 k c0 h0 hc0)

structure Sig where
 ptr : List Bool
 res : List (Bool × List (K × Nat))
 io : List (List (K × Nat))

structure Ctx where
 P : Program
 sig : Nat → Option Sig
 call : Nat → List Leaf → (k : K) → Option k.ty
 /-- what some functions make of the row of one's own that they are given first -/
 inp : Nat → Option (List Leaf → (e : K) → List e.ty → Option (List e.ty))
 /-- functions that hand back the address of a box of their own: what lies in it -/
 new : Nat → Option (List Leaf → Option (List Leaf))
 /-- a struct that is stored takes its rows with it (else they are frozen) -/
 flt : Bool
 /-- the boxes that came in -/
 pr : List Nat

inductive Step where
 | ok (u : Upd)
 | may (pk : K) (comp : Option pk.ty) (upd : pk.ty → Upd)

def Step.iff (c : Option Unit) (u : Upd) : Step := .may .unit c fun _ => u

def constTL : Value → TL
 | .int k n => .d (.int k) n
 | .bool b => .d .bool b
 | .string s => .d .str s
 | .slice none 0 0 => .nil
 | _ => .x

def constTV : Value → TV
 | .agg cs => .agg (cs.toList.map constTL)
 | v => .one (constTL v)

def tvOf (s : St) (g : Option (Nat × Bool)) : Operand → TV
 | .tmp t =>
  match s.t.getD t .u with
  | .grd t' w p => if g = some (t', w) then (match p with | (true, ls) => .agg ls | (false, [l]) => .one l | _ => .u) else .u
  | v => v
 | .const v => constTV v
 | .func f => .one (.clo f [])
 | .global _ => .u

def TV.tl : TV → TL
 | .one l => l
 | _ => .x

def TV.ls : TV → Option (List TL)
 | .one l => some [l]
 | .agg ls => some ls
 | _ => none

inductive Sc where
 | ok (l : Leaf)
 | may (c : Option Unit) (l : Leaf)

def intBin (op : BinOp) (k : IntKind) (a b : Int) : Option Sc :=
 match op with
 | .add => some (.ok ⟨.int k, iadd k a b⟩)
 | .sub => some (.ok ⟨.int k, isub k a b⟩)
 | .mul => some (.ok ⟨.int k, imul k a b⟩)
 | .quo => some (.may (must (ine b 0)) ⟨.int k, iquo k a b⟩)
 | .rem => some (.may (must (ine b 0)) ⟨.int k, irem a b⟩)
 | .and => some (.ok ⟨.int k, iand k a b⟩)
 | .or => some (.ok ⟨.int k, ior k a b⟩)
 | .xor => some (.ok ⟨.int k, ixor k a b⟩)
 | .eql => some (.ok ⟨.bool, ieq a b⟩)
 | .neq => some (.ok ⟨.bool, ine a b⟩)
 | .lss => some (.ok ⟨.bool, ilt a b⟩)
 | .leq => some (.ok ⟨.bool, ile a b⟩)
 | .gtr => some (.ok ⟨.bool, igt a b⟩)
 | .geq => some (.ok ⟨.bool, ige a b⟩)
 | _ => none

def intBinC (op : BinOp) (k : IntKind) (a b : Int) : Option Sc :=
 match op with
 | .quo => some (.ok ⟨.int k, iquo k a b⟩)
 | .rem => some (.ok ⟨.int k, irem a b⟩)
 | op => intBin op k a b

def shiftBin (op : BinOp) (k : IntKind) (a b : Int) : Option Sc :=
 match op with
 | .shl => some (.may (must (ile 0 b)) ⟨.int k, ishl k a b⟩)
 | .shr => some (.may (must (ile 0 b)) ⟨.int k, ishr k a b⟩)
 | _ => none

def shiftBinC (op : BinOp) (k : IntKind) (a b : Int) : Option Sc :=
 match op with
 | .shl => some (.ok ⟨.int k, ishl k a b⟩)
 | .shr => some (.ok ⟨.int k, ishr k a b⟩)
 | _ => none

def strBin (op : BinOp) (a b : ByteArray) : Option Sc :=
 match op with
 | .add => some (.may (must (ile (iplus (slen a) (slen b)) 9223372036854775807)) ⟨.str, scat a b⟩)
 | .eql => some (.ok ⟨.bool, seq a b⟩)
 | .neq => some (.ok ⟨.bool, bnot (seq a b)⟩)
 | .lss => some (.ok ⟨.bool, slt a b⟩)
 | .leq => some (.ok ⟨.bool, sle a b⟩)
 | .gtr => some (.ok ⟨.bool, bnot (sle a b)⟩)
 | .geq => some (.ok ⟨.bool, bnot (slt a b)⟩)
 | _ => none

def isShift : BinOp → Bool
 | .shl => true | .shr => true | _ => false

def posC : Operand → Bool
 | .const (.int _ (.ofNat (_ + 1))) => true
 | _ => false

def scal2 (P : Program) (op : BinOp) (t : TypeId) (c : Bool) : TL → TL → Option Sc
 | .d (.int k) a, .d (.int k') b =>
  if isShift op then (if c then shiftBinC op k a b else shiftBin op k a b) else if k = k' then (if c then intBinC op k a b else intBin op k a b) else none
 | .d .str a, .d .str b => strBin op a b
 | .d .bool a, .d .bool b =>
  match P.underlying t, op with
  | some .bool, .eql => some (.ok ⟨.bool, beq a b⟩)
  | some .bool, .neq => some (.ok ⟨.bool, bnot (beq a b)⟩)
  | _, _ => none
 | _, _ => none

def scal1 (op : UnOp) : TL → Option Leaf
 | .d .bool b => match op with | .not => some ⟨.bool, bnot b⟩ | _ => none
 | .d (.int k) n => match op with | .neg => some ⟨.int k, isub k 0 n⟩ | _ => none
 | _ => none

def Leaf.tl (l : Leaf) : TL := .d l.k l.x

def pickTL (g : Bool) : TL → TL → Option TL
 | .d k x, .d k' y => if h : k' = k then some (.d k (sel g x (h ▸ y))) else none
 | _, _ => none


def gather : Nat → Nat → (Nat → Option TL) → Option (List TL)
 | 0, _, _ => some []
 | n + 1, i, f => match f i with | some l => (gather n (i + 1) f).map (l :: ·) | none => none

def mkTV (agg : Bool) (ls : List TL) : Option TV :=
 if agg then some (.agg ls) else match ls with | [l] => some (.one l) | _ => none

def LC.toTL (r k : Nat) : LC → TL
 | .own .. => .ref r k
 | .tl l => l

def rowAt (rs : List (Nat × Root)) (r k : Nat) : Option LC := match look rs r with | some x => x.ls[k]? | none => none

def K.hasRow : K → Bool
 | .row _ => true | .pair a b => a.hasRow || b.hasRow | .clo _ _ => true | .iptr _ => true | _ => false

def loadL (rs : List (Nat × Root)) (n : Nat) : TL → Option (List TL)
 | .adr r off => match look rs r with | some x => if x.box then gather n off (fun j => (x.ls[j]?).map (LC.toTL r j)) else none | none => none
 | .iad e x off => gather n off (fun j => ((leaves e x)[j]?).map Leaf.tl)
 | .ead r k e i off =>
  match rowAt rs r k with
  | some (.own o e' xs none) =>
   if h : e' = e then if o = 1 ∨ e.hasRow = false then gather n off (fun j => ((leaves e (h ▸ rget xs i e'.dflt))[j]?).map Leaf.tl) else none else none
  | _ => none
 | _ => none

def readRow (rs : List (Nat × Root)) : TL → Option ((e : K) × List e.ty)
 | .d (.row e) xs => some ⟨e, xs⟩
 | .ref r k => match rowAt rs r k with | some (.own _ e xs none) => some ⟨e, xs⟩ | _ => none
 | .sub r k e lo n => match rowAt rs r k with | some (.own _ e' xs none) => if h : e' = e then some ⟨e, rcut (h ▸ xs : List e.ty) lo (iplus lo n)⟩ else none | _ => none
 | _ => none

def TL.roots : TL → List Nat
 | .ref r _ => [r] | .sub r _ _ _ _ => [r] | .adr r _ => [r] | .ead r _ _ _ _ => [r] | .clo _ cs => cs | _ => []

def deepL (rs : List (Nat × Root)) (kd : K) : TL → Option (Leaf × List Nat)
 | .d k x => some (⟨k, x⟩, [])
 | .nil => match kd with | .row e => some (⟨.row e, []⟩, []) | _ => none
 | l => (readRow rs l).map fun p => (⟨.row p.1, p.2⟩, l.roots)

def deepAll (rs : List (Nat × Root)) : List K → List TL → Option (List Leaf × List Nat)
 | _, [] => some ([], [])
 | kd, l :: ls => (deepL rs (kd.headD .unit) l).bind fun f => (deepAll rs kd.tail ls).map fun q => (f.1 :: q.1, f.2 ++ q.2)


def depthT : Nat := 8
def kindT (P : Program) (t : TypeId) : Option K := kindOf P depthT t
def elemT (P : Program) (t : TypeId) : Option TypeId := match P.underlying t with | some (.slice e) => some e | _ => none
def kindsT (P : Program) (t : TypeId) : List K := match kindT P t with | some k => k.kinds | none => []
def floatRow (e : K) (xs : List e.ty) : Root := ⟨false, [.own 1 e xs none]⟩
def isFloat : Option Root → Bool
 | some ⟨false, [.own _ _ _ none]⟩ => true | _ => false

def newRow (d : Nat) (e : K) (xs : List e.ty) : Upd :=
 { kill := { roots := [fid d 0] }, put := [(fid d 0, some (floatRow e xs))], dst := some (d, .one (.ref (fid d 0) 0)) }

def stMove (s : St) (g : Option (Nat × Bool)) (d : Nat) (x : Operand) : Option Step :=
 match tvOf s g x with
 | .grd _ _ _ => none
 | v => some (.ok { dst := some (d, v) })

def stAssign (P : Program) (s : St) (g : Option (Nat × Bool)) (d : Nat) (x : Operand) (t : TypeId) : Option Step :=
 match tvOf s g x with
 | .one .nil => match kindT P t with | some (.row e) => some (.ok (newRow d e [])) | _ => none
 | .one (.ref r 0) =>
  if isFloat (look s.r r) && !(r == fid d 0) then
   some (.ok { kill := { roots := [r, fid d 0] }, put := [(r, none), (fid d 0, look s.r r)], dst := some (d, .one (.ref (fid d 0) 0)) })
  else some (.ok { dst := some (d, .one (.ref r 0)) })
 | .grd _ _ _ => none
 | v => some (.ok { dst := some (d, v) })

def pickArm (s : St) (g : Option (Nat × Bool)) (c : Operand) (w : Bool) (x : Operand) : TL :=
 match c, x with
 | .tmp ct, .tmp t =>
  match s.t.getD t .u with
  | .grd t' w' (false, [l]) => if t' = ct ∧ w' = w then l else (tvOf s g x).tl
  | _ => (tvOf s g x).tl
 | _, _ => (tvOf s g x).tl

def stPick (s : St) (g : Option (Nat × Bool)) (d : Nat) (c a b : Operand) : Option Step :=
 match tvOf s g c with
 | .one (.d .bool v) => (pickTL v (pickArm s g c true a) (pickArm s g c false b)).map fun l => .ok { dst := some (d, .one l) }
 | _ => none

def stBin (P : Program) (s : St) (g : Option (Nat × Bool)) (d : Nat) (op : BinOp) (t : TypeId) (x y : Operand) : Option Step :=
 (scal2 P op t (posC y) (tvOf s g x).tl (tvOf s g y).tl).map fun p => match p with | .ok l => .ok { dst := some (d, .one l.tl) } | .may c l => .iff c { dst := some (d, .one l.tl) }

def stUn (s : St) (g : Option (Nat × Bool)) (d : Nat) (op : UnOp) (x : Operand) : Option Step :=
 (scal1 op (tvOf s g x).tl).map fun l => .ok { dst := some (d, .one l.tl) }

def zeroLC : K → LC
 | .row e => .own 1 e [] none
 | k => .tl (.d k k.dflt)

def zerosOk (ks : List K) (v : Value) : Bool := ks.length == v.cells.size && (ks.zip v.cells.toList).all fun p => isZero p.1 p.2

def stAlloc (P : Program) (d : Nat) (t : TypeId) : Option Step :=
 match kindT P t, (P.info? t).bind (·.zero) with
 | some k, some z =>
  if zerosOk k.kinds z then
   some (.ok { kill := { roots := [d] }, put := [(d, some ⟨true, k.kinds.map zeroLC⟩)], dst := some (d, .one (.adr d 0)) })
  else none
 | _, _ => none

def cellOk (rs : List (Nat × Root)) : TL → Bool
 | .x => false
 | .ref r k => match rowAt rs r k with | some (.own _ _ _ none) => true | _ => false
 | _ => true

def cellsOk (rs : List (Nat × Root)) (v : TV) : Bool := match v with | .one l => cellOk rs l | .agg _ => true | _ => false

def intoBox (rs : List (Nat × Root)) (i : Nat) (kd : K) : TL → Option (LC × List (Nat × Nat))
 | .nil => match kd with | .row e => some (.own 1 e [] none, []) | _ => none
 | .ref r 0 => match look rs r with | some ⟨false, [.own o e xs none]⟩ => some (.own o e xs none, [(r, i)]) | _ => none
 | .ref _ _ => none
 | .x => none
 | l => some (.tl l, [])

def intoBoxAll (rs : List (Nat × Root)) : Nat → List K → List TL → Option (List LC × List (Nat × Nat))
 | _, _, [] => some ([], [])
 | i, kd, l :: ls =>
  match intoBox rs i (kd.headD .unit) l, intoBoxAll rs (i + 1) kd.tail ls with
  | some p, some q => some (p.1 :: q.1, p.2 ++ q.2)
  | _, _ => none

def stBox (P : Program) (s : St) (g : Option (Nat × Bool)) (d : Nat) (t : TypeId) (x : Operand) : Option Step :=
 match (tvOf s g x).ls with
 | some ls =>
  match intoBoxAll s.r 0 (kindsT P t) ls with
  | some (cs, mv) =>
   if (mv.map (·.1)).Nodup ∧ ¬ d ∈ mv.map (·.1) ∧ cellsOk s.r (tvOf s g x) = true then
    some (.ok { kill := ⟨d :: mv.map (·.1), []⟩, put := (mv.map fun m => (m.1, none)) ++ [(d, some (Root.kill ⟨d :: mv.map (·.1), []⟩ ⟨true, cs⟩))], dst := some (d, .one (.adr d 0)) })
   else none
  | none => none
 | none => none

def stLoad (P : Program) (s : St) (g : Option (Nat × Bool)) (d : Nat) (t : TypeId) (x : Operand) : Option Step :=
 match sizeT P t, isAggT P t with
 | some n, some ag => ((loadL s.r n (tvOf s g x).tl).bind (mkTV ag)).map fun v => .ok { dst := some (d, v) }
 | _, _ => none

def intoRow (rs : List (Nat × Root)) (kd : K) : TL → Option (Leaf × List (Nat × Nat))
 | .d k x => some (⟨k, x⟩, [])
 | .nil => match kd with | .row e => some (⟨.row e, []⟩, []) | _ => none
 | .ref r k => match rowAt rs r k with | some (.own _ e xs none) => some (⟨.row e, xs⟩, [(r, k)]) | _ => none
 | _ => none

def intoRowAll (rs : List (Nat × Root)) : List K → List TL → Option (List Leaf × List (Nat × Nat))
 | _, [] => some ([], [])
 | kd, l :: ls =>
  match intoRow rs (kd.headD .unit) l, intoRowAll rs kd.tail ls with
  | some p, some q => some (p.1 :: q.1, p.2 ++ q.2)
  | _, _ => none

def setLs {α : Type} : List α → Nat → List α → List α
 | xs, _, [] => xs
 | xs, i, y :: ys => setLs (xs.set i y) (i + 1) ys

def freezeLC : LC → LC
 | .own _ e xs none => .tl (.d (.row e) xs)
 | c => c

def freezePut (q : Kill) (rs : List (Nat × Root)) : List (Nat × Nat) → List (Nat × Option Root)
 | [] => []
 | (r, k) :: hs => match look rs r with
  | some x => if x.box then (r, some (Root.kill q { x with ls := x.ls.modify k freezeLC })) :: freezePut q rs hs else (r, none) :: freezePut q rs hs
  | none => freezePut q rs hs

def updLs (e : K) : e.ty → Nat → List Leaf → Option e.ty
 | x, _, [] => some x
 | x, j, l :: ls => (updL e x j l).bind fun x' => updLs e x' (j + 1) ls

def stStore (P : Program) (s : St) (g : Option (Nat × Bool)) (t : TypeId) (a x : Operand) : Option Step :=
 match sizeT P t, (tvOf s g a).tl, (tvOf s g x).ls with
 | some n, .adr r off, some ls =>
  match look s.r r, intoBoxAll s.r off (kindsT P t) ls with
  | some root, some (cs, mv) =>
   if root.box ∧ ls.length = n ∧ off + n ≤ root.ls.length ∧ (mv.map (·.1)).Nodup ∧ ¬ r ∈ mv.map (·.1) ∧ cellsOk s.r (tvOf s g x) = true then
    let q : Kill := ⟨mv.map (·.1), (List.range n).map fun j => (r, off + j)⟩
    some (.ok { kill := q, put := (mv.map fun m => (m.1, none)) ++ [(r, some (Root.kill q ⟨true, setLs root.ls off cs⟩))] })
   else none
  | _, _ => none
 | some n, .ead r k e i off, some ls =>
  match look s.r r, rowAt s.r r k, intoRowAll s.r (kindsT P t) ls with
  | some root, some (.own o e' xs none), some (fs, fz) =>
   if e' = e then
    if ls.length = n ∧ 0 < n ∧ o = 1 ∧ fz.length ≤ 1 ∧ fz.all (fun h => !(h.1 == r)) ∧ cellsOk s.r (tvOf s g x) = true then
     (updLs e' (rget xs i e'.dflt) off fs).map fun x' =>
      .ok { kill := { homes := fz }, put := freezePut { homes := fz } s.r fz ++ [(r, some (Root.kill { homes := fz } { root with ls := root.ls.set k (.own o e' (rset xs i x') none) }))] }
    else none
   else none
  | _, _, _ => none
 | _, _, _ => none

def findRef (rs : List (Nat × Root)) : List TL → Option (Nat × Nat × ((e : K) × List e.ty))
 | [] => none
 | .ref r k :: ls =>
  match look rs r with
  | some x => if x.box then (match x.ls[k]? with | some (.own _ e xs none) => some (r, k, ⟨e, xs⟩) | _ => findRef rs ls) else findRef rs ls
  | none => findRef rs ls
 | _ :: ls => findRef rs ls

def frzTL (r k : Nat) (e : K) (xs : List e.ty) : TL → TL
 | .ref r' k' => if r' = r ∧ k' = k then .d (.row e) xs else (TL.ref r' k').kill ⟨[], [(r, k)]⟩
 | l => l.kill ⟨[], [(r, k)]⟩

def frzOf (s : St) (x : Operand) : Option Upd :=
 match x with
 | .tmp t =>
  match s.t.getD t .u with
  | .agg ls =>
   match findRef s.r ls with
   | some (r, k, p) => some { kill := ⟨[], [(r, k)]⟩, put := freezePut ⟨[], [(r, k)]⟩ s.r [(r, k)], dst := some (t, .agg (ls.map (frzTL r k p.1 p.2))) }
   | none => none
  | _ => none
 | _ => none

def fltTL (r k f : Nat) : TL → TL
 | .ref r' k' => if r' = r ∧ k' = k then .ref f 0 else (TL.ref r' k').kill ⟨[f], [(r, k)]⟩
 | l => l.kill ⟨[f], [(r, k)]⟩

def fltOf (s : St) (x : Operand) : Option Upd :=
 match x with
 | .tmp t =>
  match s.t.getD t .u with
  | .agg ls =>
   match findRef s.r ls with
   | some (r, k, _) =>
    match look s.r r with
    | some root =>
     match root.ls[k]? with
     | some (.own o e xs none) =>
      if r = fid t (k + 16) then none else
      some { kill := ⟨[fid t (k + 16)], [(r, k)]⟩, put := [(r, some (Root.kill ⟨[fid t (k + 16)], [(r, k)]⟩ { root with ls := root.ls.set k (.tl .x) })), (fid t (k + 16), some ⟨false, [.own o e xs none]⟩)], dst := some (t, .agg (ls.map (fltTL r k (fid t (k + 16))))) }
     | _ => none
    | none => none
   | none => none
  | _ => none
 | _ => none

def fltN : Nat → St → Operand → St
 | 0, s, _ => s
 | n + 1, s, x => match fltOf s x with | some u => fltN n (s.app u) x | none => s

def frzArg (s : St) (x : Operand) : Option Upd :=
 match x with
 | .tmp t =>
  match s.t.getD t .u with
  | .one (.ref r k) =>
   match rowAt s.r r k with
   | some (.own _ e xs none) => some { kill := ⟨[], [(r, k)]⟩, put := freezePut ⟨[], [(r, k)]⟩ s.r [(r, k)], dst := some (t, .one (.d (.row e) xs)) }
   | _ => none
  | _ => frzOf s x
 | _ => none

def frzN (s : St) : List Operand → St
 | [] => s
 | x :: xs => match frzArg s x with | some u => frzN (s.app u) xs | none => frzN s xs

def Upd.comp (u v : Upd) : Upd :=
 { kill := ⟨u.kill.roots ++ v.kill.roots, u.kill.homes ++ v.kill.homes⟩, put := u.put.map (fun p => (p.1, p.2.map (Root.kill v.kill))) ++ v.put, dst := u.dst.map fun d => (d.1, d.2.kill v.kill) }

def stStoreZ (P : Program) (g : Option (Nat × Bool)) (t : TypeId) (a x : Operand) : Nat → St → Option Step
 | 0, s => stStore P s g t a x
 | n + 1, s =>
  match stStore P s g t a x with
  | some st => some st
  | none =>
   match frzOf s x with
   | some u =>
    match stStoreZ P g t a x n (s.app u) with
    | some (.ok v) => if v.dst.isNone then some (.ok (u.comp v)) else none
    | _ => none
   | none => none

def fieldOff (P : Program) (t : TypeId) (f : Nat) : Option Nat :=
 match P.underlying t with
 | some (.struct fs) => (fs[f]?).bind fun x => (sizeT P x.type).bind fun n => if n = 0 then none else some x.offset
 | _ => none

def stFieldAddr (P : Program) (s : St) (g : Option (Nat × Bool)) (d : Nat) (t : TypeId) (x : Operand) (f : Nat) : Option Step :=
 match fieldOff P t f, (tvOf s g x).tl with
 | some o, .adr r off => some (.ok { dst := some (d, .one (.adr r (off + o))) })
 | some o, .ead r k e i off => some (.ok { dst := some (d, .one (.ead r k e i (off + o))) })
 | some o, .iad e v off => some (.ok { dst := some (d, .one (.iad e v (off + o))) })
 | _, _ => none

def stIndexAddr (P : Program) (s : St) (g : Option (Nat × Bool)) (d : Nat) (t : TypeId) (x ix : Operand) : Option Step :=
 match (elemT P t).bind (sizeT P), (tvOf s g ix).tl with
 | some n, .d (.int _) i =>
  match (tvOf s g x).tl with
  | .d (.row e) xs => if e.width = n then some (.iff (must (inB i (rlen xs))) { dst := some (d, .one (.iad e (rget xs i e.dflt) 0)) }) else none
  | .ref r k => match rowAt s.r r k with
   | some (.own _ e xs none) => if e.width = n then some (.iff (must (inB i (rlen xs))) { dst := some (d, .one (.ead r k e i 0)) }) else none
   | _ => none
  | .sub r k e lo n' => match rowAt s.r r k with
   | some (.own _ e' _ none) => if e.width = n ∧ e' = e then some (.iff (must (inB i n')) { dst := some (d, .one (.ead r k e (iplus lo i) 0)) }) else none
   | _ => none
  | _ => none
 | _, _ => none

def stIndex (P : Program) (s : St) (g : Option (Nat × Bool)) (d : Nat) (t : TypeId) (x ix : Operand) : Option Step :=
 match P.underlying t, (tvOf s g x).tl, (tvOf s g ix).tl with
 | some .string, .d .str v, .d (.int _) i => some (.iff (must (inB i (slen v))) { dst := some (d, .one (.d (.int .u8) (sat v i))) })
 | _, _, _ => none

def TL.int? (dflt : Int) : Option TL → Option Int
 | none => some dflt
 | some (.d (.int _) n) => some n
 | _ => none

def stSlice (P : Program) (s : St) (g : Option (Nat × Bool)) (d : Nat) (t : TypeId) (x : Operand) (lo hi : Option Operand) : Option Step :=
 let l := TL.int? 0 (lo.map fun y => (tvOf s g y).tl)
 match P.underlying t, (tvOf s g x).tl with
 | some .string, .d .str v =>
  match l, TL.int? (slen v) (hi.map fun y => (tvOf s g y).tl) with
  | some l, some h => some (.iff (must (cutB l h (slen v))) { dst := some (d, .one (.d .str (scut v l h))) })
  | _, _ => none
 | some (.slice et), .d (.row e) xs =>
  match l, TL.int? (rlen xs) (hi.map fun y => (tvOf s g y).tl), sizeT P et with
  | some l, some h, some n => if e.width = n then some (.iff (must (cutB l h (rlen xs))) { dst := some (d, .one (.d (.row e) (rcut xs l h))) }) else none
  | _, _, _ => none
 | some (.slice et), .ref r k =>
  match rowAt s.r r k, sizeT P et with
  | some (.own _ e xs none), some n =>
   match l, TL.int? (rlen xs) (hi.map fun y => (tvOf s g y).tl) with
   | some l, some h => if e.width = n then some (.iff (must (cutB l h (rlen xs))) { dst := some (d, .one (.sub r k e l (iminus h l))) }) else none
   | _, _ => none
  | _, _ => none
 | _, _ => none

def stConvert (P : Program) (s : St) (g : Option (Nat × Bool)) (d : Nat) (src dst : TypeId) (x : Operand) : Option Step :=
 match P.underlying src, P.underlying dst, (tvOf s g x).tl with
 | some _, some (.int k), .d (.int _) n => some (.ok { dst := some (d, .one (.d (.int k) (iwrap k n))) })
 | some _, some .string, .d .str v => some (.ok { dst := some (d, .one (.d .str v)) })
 | some .string, some (.slice e), .d .str v => match P.underlying e with | some (.int .u8) => some (.ok (newRow d (.int .u8) (sbytes v))) | _ => none
 | some (.slice e), some .string, l =>
  match P.underlying e, readRow s.r l with
  | some (.int .u8), some ⟨.int .u8, xs⟩ => some (.ok { dst := some (d, .one (.d .str (sof xs))) })
  | _, _ => none
 | _, _, _ => none

def zeroI (e : K) (i : TypeInfo) : Bool := match i.zero with | some z => zerosOk e.kinds z | none => false

def litElems (s : St) (g : Option (Nat × Bool)) (e : K) : Nat → List (Nat × Operand) → Option (List e.ty × List (Nat × Nat))
 | _, [] => some ([], [])
 | i, (j, x) :: ps =>
  if j = i then
   match (tvOf s g x).ls with
   | some ls =>
    match intoRowAll s.r e.kinds ls, litElems s g e (i + 1) ps with
    | some (fs, fz), some (xs, fz') => match ofL e fs with | some (y, []) => if cellsOk s.r (tvOf s g x) = true then some (y :: xs, fz ++ fz') else none | _ => none
    | _, _ => none
   | none => none
  else none

def stBuildSlice (P : Program) (s : St) (g : Option (Nat × Bool)) (d : Nat) (t : TypeId) (n : Nat) (ps : Array (Nat × Operand)) : Option Step :=
 match (elemT P t).bind (kindT P), (elemT P t).bind P.info? with
 | some e, some i =>
  let w := i.size
  match litElems s g e 0 ps.toList with
  | some (xs, fz) =>
   if zeroI e i = true ∧ ps.toList.length = n ∧ e.width = w ∧ 0 < n * w ∧ n * w ≤ 16777216 ∧ fz.length ≤ 1 ∧ fz.all (fun h => !(h.1 == fid d 0)) then
    some (.ok { kill := ⟨[fid d 0], fz⟩, put := freezePut ⟨[fid d 0], fz⟩ s.r fz ++ [(fid d 0, some (floatRow e xs))], dst := some (d, .one (.ref (fid d 0) 0)) })
   else if ps.toList.length = 0 ∧ n = 0 then some (.ok (newRow d e []))
   else none
  | none => none
 | _, _ => none

def stMakeSlice (P : Program) (s : St) (g : Option (Nat × Bool)) (d : Nat) (t : TypeId) (l c : Operand) : Option Step :=
 match (elemT P t).bind (kindT P), (elemT P t).bind P.info?, (tvOf s g l).tl, (tvOf s g c).tl with
 | some e, some i, .d (.int .i64) n, .d (.int .i64) _ =>
  match l, c, i.zero with
  | .tmp a, .tmp b, some z => if a = b ∧ e.width = i.size ∧ i.bytes ≤ 4096 ∧ zerosOk e.kinds z then some (.iff (must (cutB 0 n 1073741824)) (newRow d e (rrep n e.dflt))) else none
  | .const (.int .i64 a), .const (.int .i64 b), some z => if a = b ∧ e.width = i.size ∧ i.bytes ≤ 4096 ∧ zerosOk e.kinds z then some (.iff (must (cutB 0 n 1073741824)) (newRow d e (rrep n e.dflt))) else none
  | _, _, _ => none
 | _, _, _, _ => none

def stLen (P : Program) (s : St) (g : Option (Nat × Bool)) (d : Nat) (t : TypeId) (x : Operand) : Option Step :=
 match P.underlying t, (tvOf s g x).tl with
 | some .string, .d .str v => some (.ok { dst := some (d, .one (.d (.int .i64) (slen v))) })
 | some (.slice _), .nil => some (.ok { dst := some (d, .one (.d (.int .i64) (0 : Int))) })
 | some (.slice _), .sub _ _ _ _ n => some (.ok { dst := some (d, .one (.d (.int .i64) n)) })
 | some (.slice _), l => (readRow s.r l).map fun p => .ok { dst := some (d, .one (.d (.int .i64) (rlen p.2))) }
 | _, _ => none

def stMax (s : St) (g : Option (Nat × Bool)) (d : Nat) (mx : Bool) (x y : Operand) : Option Step :=
 match (tvOf s g x).tl, (tvOf s g y).tl with
 | .d (.int k) a, .d (.int _) b => some (.ok { dst := some (d, .one (.d (.int k) (if mx then imax a b else imin a b))) })
 | _, _ => none

def srcOk (rs : List (Nat × Root)) : TL → Bool
 | .ref r k => match rowAt rs r k with | some (.own o e _ none) => decide (o = 1) || !e.hasRow | _ => false
 | .sub r k _ _ _ => match rowAt rs r k with | some (.own o e _ none) => decide (o = 1) || !e.hasRow | _ => false
 | .d (.row _) _ => true
 | _ => false

def appSrc (rs : List (Nat × Root)) (e : K) (l : TL) : Option (List e.ty) :=
 match e, l with
 | .int .u8, .d .str v => some (sbytes v)
 | _, .nil => some []
 | e, l => if srcOk rs l then (match readRow rs l with | some p => if h : p.1 = e then some (h ▸ p.2) else none | none => none) else none

def srcT (P : Program) (t : TypeId) : TL → Bool
 | .d .str _ => match P.underlying t with | some .string => true | _ => false
 | _ => match P.underlying t with | some (.slice _) => true | _ => false

def stAppend (P : Program) (s : St) (g : Option (Nat × Bool)) (d : Nat) (t tx : TypeId) (x y : Operand) : Option Step :=
 match (elemT P t).bind (kindT P), (elemT P t).bind P.info? with
 | some e, some i =>
  if e.width = i.size ∧ i.bytes ≤ 4096 ∧ zeroI e i = true ∧ srcT P tx (tvOf s g y).tl = true then
   match appSrc s.r e (tvOf s g y).tl with
   | some ys =>
    match (tvOf s g x).tl with
    | .nil => some (.iff (must (ile (rlen ys) 1073741824)) (newRow d e ys))
    | .ref r k =>
     match look s.r r, rowAt s.r r k with
     | some root, some (.own o e' xs none) =>
      if h : e' = e then
       if o = 1 then
        if root.box then
         if r = fid d 0 then none else
         some (.iff (must (ile (iplus (rlen xs) (rlen ys)) 1073741824)) { kill := ⟨[fid d 0], [(r, k)]⟩, put := [(r, some (Root.kill ⟨[fid d 0], [(r, k)]⟩ { root with ls := root.ls.set k (.tl .x) })), (fid d 0, some (floatRow e (rapp (h ▸ xs) ys)))], dst := some (d, .one (.ref (fid d 0) 0)) })
        else if k = 0 then some (.iff (must (ile (iplus (rlen xs) (rlen ys)) 1073741824)) { kill := ⟨[r], []⟩, put := [(r, some (floatRow e (rapp (h ▸ xs) ys)))], dst := some (d, .one (.ref r 0)) })
        else none
       else none
      else none
     | _, _ => none
    | _ => none
   | none => none
  else none
 | _, _ => none

def stExtract (s : St) (g : Option (Nat × Bool)) (d : Nat) (x : Operand) (i : Nat) : Option Step :=
 match tvOf s g x with
 | .tup vs => match vs[i]? with
  | some (true, ls) => some (.ok { dst := some (d, .agg ls) })
  | some (false, [l]) => some (.ok { dst := some (d, .one l) })
  | _ => none
 | _ => none

def stNilCheck (s : St) (g : Option (Nat × Bool)) (d : Nat) (x : Operand) : Option Step :=
 match (tvOf s g x).tl with
 | .adr r off => some (.ok { dst := some (d, .one (.adr r off)) })
 | .iad e v off => some (.ok { dst := some (d, .one (.iad e v off)) })
 | .ead r k e i off => some (.ok { dst := some (d, .one (.ead r k e i off)) })
 | .clo f cs => some (.ok { dst := some (d, .one (.clo f cs)) })
 | .d (.clo f c) v => some (.ok { dst := some (d, .one (.d (.clo f c) v)) })
 | _ => none

def capsOf (s : St) (g : Option (Nat × Bool)) : List Operand → Option (List Nat)
 | [] => some []
 | x :: xs => match (tvOf s g x).tl, capsOf s g xs with | .adr r 0, some rs => some (r :: rs) | _, _ => none

def stMakeFunc (s : St) (g : Option (Nat × Bool)) (d : Nat) (fn : Fn) (first captured : Array Operand) : Option Step :=
 match fn, first.toList with
 | .func f, [] => (capsOf s g captured.toList).map fun cs => .ok { dst := some (d, .one (.clo f cs)) }
 | _, _ => none

def litParts (P : Program) (s : St) (g : Option (Nat × Bool)) (fs : Array Field) : List TL → List (Nat × Operand) → Option (List TL)
 | ls, [] => some ls
 | ls, (i, x) :: ps =>
  match fs[i]?, (tvOf s g x).ls with
  | some f, some ys =>
   match sizeT P f.type with
   | some n => if ys.length = n ∧ f.offset + n ≤ ls.length ∧ cellsOk s.r (tvOf s g x) = true then litParts P s g fs (setLs ls f.offset ys) ps else none
   | none => none
  | _, _ => none

def zeroTL : K → TL
 | .row _ => .nil
 | k => .d k k.dflt

def stBuild (P : Program) (s : St) (g : Option (Nat × Bool)) (d : Nat) (t : TypeId) (ps : Array (Nat × Operand)) : Option Step :=
 match P.underlying t, kindT P t, (P.info? t).bind (·.zero) with
 | some (.struct fs), some k, some z => if zerosOk k.kinds z ∧ (fs.toList.all fun f => (sizeT P f.type).isSome) then (litParts P s g fs (k.kinds.map zeroTL) ps.toList).map fun ls => .ok { dst := some (d, .agg ls) } else none
 | _, _, _ => none

def stField (P : Program) (s : St) (g : Option (Nat × Bool)) (d : Nat) (t : TypeId) (x : Operand) (f : Nat) : Option Step :=
 match P.underlying t, tvOf s g x with
 | some (.struct fs), .agg ls =>
  match fs[f]? with
  | some fl => match sizeT P fl.type, isAggT P fl.type with
   | some n, some ag => ((gather n fl.offset (fun j => ls[j]?)).bind (mkTV ag)).map fun v => .ok { dst := some (d, v) }
   | _, _ => none
  | none => none
 | _, _ => none


def K.tup : List K → K
 | [] => .unit
 | k :: ks => .pair k (K.tup ks)

def outTL (d : Nat) : Nat → List (K × Nat) → List Leaf → List TL
 | j, (_, o) :: ks, l :: ls => (if o = 0 then l.tl else .ref (fid d j) 0) :: outTL d (j + 1) ks ls
 | _, _, _ => []

def outRow (o : Nat) (l : Leaf) : Option Root :=
 match l with
 | ⟨.row e, xs⟩ => some ⟨false, [.own o e xs none]⟩
 | _ => none

def outPut (d : Nat) : Nat → List (K × Nat) → List Leaf → List (Nat × Option Root)
 | j, (_, o) :: ks, l :: ls => (fid d j, if o = 0 then none else outRow o l) :: outPut d (j + 1) ks ls
 | _, _, _ => []

def outVs : List (Bool × List (K × Nat)) → List TL → List (Bool × List TL)
 | [], _ => []
 | (b, ks) :: rs, ls => (b, ls.take ks.length) :: outVs rs (ls.drop ks.length)

def outTV : List (Bool × List TL) → Option TV
 | [(true, ls)] => some (.agg ls)
 | [(false, ls)] => match ls with | [l] => some (.one l) | _ => none
 | vs => some (.tup vs)

def ioLC : List (K × Nat) → List Leaf → List LC
 | (_, o) :: ks, l :: ls => (match l with | ⟨.row e, xs⟩ => if o = 0 then .tl l.tl else .own o e xs none | _ => .tl l.tl) :: ioLC ks ls
 | _, _ => []

def ioPut : List Nat → List (List (K × Nat)) → List Leaf → List (Nat × Option Root)
 | r :: ps, ks :: io, ls => (r, some ⟨true, ioLC ks (ls.take ks.length)⟩) :: ioPut ps io (ls.drop ks.length)
 | _, _, _ => []

def boxL (x : Root) : Option (List Leaf) :=
 x.ls.foldr (fun c acc => (match c with | .own _ e xs none => some (Leaf.mk (.row e) xs) | .tl (.d k x) => some ⟨k, x⟩ | _ => none).bind fun l => acc.map (l :: ·)) (some [])

def ioLeaf : K × Nat → LC → Option Leaf
 | (kd, 0), c => match c with | .tl (.d k x) => some ⟨k, x⟩ | .tl .nil => (match kd with | .row e => some ⟨.row e, []⟩ | _ => none) | _ => none
 | (_, o + 1), c => match c with | .own o' e xs none => if o' = o + 1 then some ⟨.row e, xs⟩ else none | _ => none

def ioCells : List (K × Nat) → List LC → Option (List Leaf)
 | [], [] => some []
 | k :: ks, c :: cs => (ioLeaf k c).bind fun a => (ioCells ks cs).map (a :: ·)
 | _, _ => none

def isStructT (P : Program) (t : TypeId) : Bool := match P.underlying t with | some (.struct _) => true | _ => false

def capLeaves (rs : List (Nat × Root)) : List Nat → Option (List Leaf)
 | [] => some []
 | r :: caps =>
  match look rs r with
  | some x => if x.box then (boxL x).bind fun ls =>
    match ofL (K.tup (ls.map (·.k))) ls with
    | some (y, []) => (capLeaves rs caps).map fun fs => ⟨.iptr (K.tup (ls.map (·.k))), y⟩ :: fs
    | _ => none
   else none
  | none => none

def argL (rs : List (Nat × Root)) (kd : K) : TL → Option (Leaf × List Nat)
 | .clo fn caps => (capLeaves rs caps).bind fun ls => match ofL (K.tup (ls.map (·.k))) ls with | some (y, []) => some (⟨.clo fn (K.tup (ls.map (·.k))), y⟩, caps) | _ => none
 | l => deepL rs kd l

def argsOf (P : Program) (rs : List (Nat × Root)) : Nat → List TypeId → List Bool → List (List (K × Nat)) → List TV → Option (List Leaf × List (Nat × Nat) × List Nat)
 | _, [], _, _, [] => some ([], [], [])
 | p, _ :: ts, true :: ps, ks :: io, v :: vs =>
  match v with
  | .one (.adr r 0) =>
   match look rs r with
   | some x => if x.box then (ioCells ks x.ls).bind fun ls => (argsOf P rs (p + 1) ts ps io vs).map fun q => (ls ++ q.1, (r, p) :: q.2.1, q.2.2) else none
   | none => none
  | _ => none
 | p, t :: ts, ps, io, v :: vs =>
  if isStructT P t then
   match sizeT P t, v with
   | some n, .agg ls => if ls.length = n then (deepAll rs (kindsT P t) ls).bind fun f => (argsOf P rs (p + 1) ts ps.tail io vs).map fun q => (f.1 ++ q.1, q.2.1, f.2 ++ q.2.2) else none
   | _, _ => none
  else
   match v with
   | .one l => (argL rs ((kindsT P t).headD .unit) l).bind fun f => (argsOf P rs (p + 1) ts ps.tail io vs).map fun q => (f.1 :: q.1, q.2.1, f.2 ++ q.2.2)
   | _ => none
 | _, _, _, _, _ => none

def K.free : K → Nat → Bool
 | .row _, 0 => false | .row e, o + 1 => e.free o | .pair a b, o => a.free o && b.free o | .clo _ _, _ => false | .iptr _, _ => false | _, _ => true

def calleeOf (s : St) (g : Option (Nat × Bool)) (f : Operand) : Option (Nat × List Leaf × List Nat) :=
 match (tvOf s g f).tl with
 | .clo fn caps => (capLeaves s.r caps).map fun ls => (fn, ls, caps)
 | .d (.clo fn cc) x => some (fn, leaves cc x, [])
 | _ => none

def isFn (f : Func) : Bool := f.body.isSome && !(f.name == "runtime.NumGoroutine")

def ptrs : Nat → List Bool → List Nat
 | _, [] => []
 | i, true :: bs => i :: ptrs (i + 1) bs
 | i, false :: bs => ptrs (i + 1) bs

def outNames (d : Option Nat) (n : Nat) : List Nat := match d with | some d => (List.range n).map (fid d) | none => []

def homesOf (rs : List (Nat × Root)) (bs : List (Nat × Nat)) : List (Nat × Nat) :=
 bs.flatMap fun b => (List.range (match look rs b.1 with | some x => x.ls.length | none => 0)).map fun j => (b.1, j)

def outPutO : Option Nat → List (K × Nat) → List Leaf → List (Nat × Option Root)
 | some d, ks, ls => outPut d 0 ks ls
 | none, _, _ => []

def callUpd (rs : List (Nat × Root)) (d : Option Nat) (sg : Sig) (bs : List (Nat × Nat)) (ls : List Leaf) : Upd :=
 let ks := sg.res.flatMap (·.2)
 { kill := { roots := outNames d ks.length, homes := homesOf rs bs }, put := outPutO d ks (ls.take ks.length) ++ ioPut (bs.map (·.1)) sg.io (ls.drop ks.length), dst := match d with | some d => some (d, (outTV (outVs sg.res (outTL d 0 ks (ls.take ks.length)))).getD .u) | none => none }

def isBox (rs : List (Nat × Root)) (r : Nat) : Bool := match look rs r with | some x => x.box | none => false

def stCall (C : Ctx) (s : St) (g : Option (Nat × Bool)) (d : Option Nat) (c : Call) : Option Step :=
 match c.callee with
 | .value f =>
  match calleeOf s g f with
  | some (fn, caps, rd0) =>
   match C.sig fn, C.P.funcs[fn]? with
   | some sg, some F =>
    match argsOf C.P s.r 0 F.params.toList sg.ptr sg.io (c.args.toList.map (tvOf s g)) with
    | some (ags, bs, rd) =>
     let all := sg.res.flatMap (·.2) ++ sg.io.flatten
     if isFn F = true ∧ bs.map (·.2) = ptrs 0 sg.ptr ∧ bs.length = sg.io.length ∧ (bs.map (·.1)).Nodup ∧ (bs.map (·.2)).Nodup ∧ ((bs.map (·.2)).all fun p => decide (p < 4096)) = true ∧ (sg.res.all fun p => p.1 || p.2.length == 1) = true ∧ (all.all fun p => p.1.isLeaf) = true ∧ (bs.all fun b => isBox s.r b.1) = true ∧ ((rd0 ++ rd).all fun r => !(bs.map (·.1)).elem r) = true ∧ ((rd0 ++ rd).isEmpty || all.all fun p => p.1.free p.2) = true ∧
       ((outNames d (sg.res.flatMap (·.2)).length).all fun r => !(bs.map (·.1)).elem r) = true then
      some <| .may (K.tup (all.map (·.1))) (C.call fn (ags ++ caps) (K.tup (all.map (·.1)))) fun p => callUpd s.r d sg bs (leaves (K.tup (all.map (·.1))) p)
     else none
    | none => none
   | _, _ => none
  | none => none
 | _ => none

def K.bare : K → Bool
 | .int _ => true | .bool => true | .str => true | _ => false

def stInp (C : Ctx) (s : St) (g : Option (Nat × Bool)) (od : Option Nat) (c : Call) : Option Step :=
 match c.callee, c.args.toList with
 | .value f, x :: xs =>
  match tvOf s g f, (tvOf s g x).tl with
  | .one (.clo fn []), .ref r k =>
   match C.inp fn, C.P.funcs[fn]?, look s.r r, rowAt s.r r k with
   | some ip, some F, some root, some (.own 1 e ys none) =>
    match argsOf C.P s.r 1 F.params.toList.tail [] [] (xs.map (tvOf s g)) with
    | some (ags, [], rd) =>
     if isFn F = true ∧ e.bare = true ∧ rd.elem r = false then
      some (.may (.row e) (ip ags e ys) fun zs => { put := [(r, some { root with ls := root.ls.set k (.own 1 e zs none) })], dst := od.map fun d => (d, .tup []) })
     else none
    | _ => none
   | _, _, _, _ => none
  | _, _ => none
 | _, _ => none

def stNew (C : Ctx) (s : St) (g : Option (Nat × Bool)) (od : Option Nat) (c : Call) : Option Step :=
 match od, c.callee with
 | some d, .value f =>
  match tvOf s g f with
  | .one (.clo fn []) =>
   match C.new fn, C.P.funcs[fn]? with
   | some nw, some F =>
    match argsOf C.P s.r 0 F.params.toList [] [] (c.args.toList.map (tvOf s g)) with
    | some (ags, [], []) =>
     match nw ags with
     | some ls => if isFn F = true then some (.ok { kill := ⟨[d], []⟩, put := [(d, some ⟨true, ls.map fun l => .tl l.tl⟩)], dst := some (d, .one (.adr d 0)) }) else none
     | none => none
    | _ => none
   | _, _ => none
  | _ => none
 | _, _ => none

def callOp (C : Ctx) (s : St) (g : Option (Nat × Bool)) (od : Option Nat) (c : Call) : Option Step :=
 match stNew C s g od c with
 | some st => some st
 | none =>
  match stInp C s g od c with
  | some st => some st
  | none => stCall C s g od c

def stepOp (C : Ctx) (s : St) (g : Option (Nat × Bool)) (o : Oper) : Option Step :=
 match o.dst with
 | some d =>
  match o.op with
  | .move x => stMove s g d x
  | .assign x => stAssign C.P s g d x o.type
  | .pick c a b => stPick s g d c a b
  | .binOp op t x y _ => stBin C.P s g d op t x y
  | .unOp op _ x => stUn s g d op x
  | .alloc t => stAlloc C.P d t
  | .box t x => stBox C.P s g d t x
  | .load t a => stLoad C.P s g d t a
  | .fieldAddr t x f => stFieldAddr C.P s g d t x f
  | .indexAddr t x i => stIndexAddr C.P s g d t x i
  | .index t x i => stIndex C.P s g d t x i
  | .slice t x lo hi none => stSlice C.P s g d t x lo hi
  | .convert a b x => stConvert C.P s g d a b x
  | .buildSlice t n ps => stBuildSlice C.P s g d t n ps
  | .makeSlice t l c => stMakeSlice C.P s g d t l c
  | .extract x i => stExtract s g d x i
  | .nilCheck x => stNilCheck s g d x
  | .makeFunc f a c => stMakeFunc s g d f a c
  | .build t ps => stBuild C.P s g d t ps
  | .field t x f => stField C.P s g d t x f
  | .call c =>
   match c.callee, c.args.toList with
   | .builtin .len, [x] => match c.argTypes.toList with | [t] => stLen C.P s g d t x | _ => none
   | .builtin .append, [x, y] => match c.argTypes.toList with | [t, tx] => stAppend C.P s g d t tx x y | _ => none
   | .builtin .max, [x, y] => stMax s g d true x y
   | .builtin .min, [x, y] => stMax s g d false x y
   | .builtin _, _ => none
   | _, _ => callOp C s g (some d) c
  | _ => none
 | none =>
  match o.op with
  | .store t a x => stStoreZ C.P g t a x (if C.flt then 0 else 4) s
  | .call c => callOp C s g none c
  | _ => none

inductive Out where
 | normal | exit (id : Nat) | ret

def uni (a b : List Nat) : List Nat := a.foldl (fun acc x => if acc.elem x then acc else x :: acc) b

def opUses (ops : Array Oper) (o : Oper) : List Nat := o.looksAt ops

def liveOps (ops : Array Oper) : List Oper → List Nat → List Nat
 | [], out => out
 | o :: os, out =>
  let l := liveOps ops os out
  let l := match o.dst, o.guard with | some d, none => l.filter (fun x => !(x == d)) | _, _ => l
  uni (opUses ops o) l

def operandUses : Operand → List Nat
 | .tmp t => [t] | _ => []

structure Lv where
 out : List Nat
 exits : List (Nat × List Nat)
 res : List Nat

def Lv.exit (v : Lv) (id : Nat) : List Nat := ((v.exits.find? (·.1 == id)).map (·.2)).getD []

def live : Code → Lv → List Nat
 | .region _ ops _, v => liveOps ops ops.toList v.out
 | .seq a b, v => live a { v with out := live b v }
 | .cond c a b, v => uni (operandUses c) (uni (live a v) (live b v))
 | .block id b, v => live b { v with exits := (id, v.out) :: v.exits }
 | .loop b, v => let l := live b { v with out := [] }; live b { v with out := l }
 | .exit id, v => v.exit id
 | .ret, v => v.res
 | _, v => v.out

def TV.roots : TV → List Nat
 | .one l => l.roots
 | .agg ls => ls.flatMap TL.roots
 | .tup vs => vs.flatMap fun v => v.2.flatMap TL.roots
 | .grd _ _ v => v.2.flatMap TL.roots
 | .u => []

def keepT (keep : List Nat) : Nat → List TV → List TV
 | _, [] => []
 | i, v :: vs => (if keep.elem i then v else .u) :: keepT keep (i + 1) vs

def keepR (ns : List Nat) : List (Nat × Root) → List (Nat × Root)
 | [] => []
 | p :: ps => if ns.elem p.1 then p :: keepR ns ps else keepR ns ps

def St.clean (keep pr : List Nat) (s : St) : St :=
 let t := keepT keep 0 s.t
 { t := t, r := keepR (pr ++ t.flatMap TV.roots) s.r }

def wantedB (s : St) : Nat → Nat → Bool → Option Bool
 | 0, _, _ => none
 | n + 1, t, want =>
  match s.t.getD t .u with
  | .one (.d .bool v) => some (if want then v else bnot v)
  | .grd t' w' (false, [.d .bool v]) => (wantedB s n t' w').map (fun c => band c (if want then v else bnot v))
  | _ => none

def TV.grd? (t : Nat) (want : Bool) : TV → Option TV
 | .one l => some (.grd t want (false, [l]))
 | .agg ls => some (.grd t want (true, ls))
 | _ => none

inductive GSt where
 | ok (u : Upd)
 | may (pk : K) (comp : Option pk.ty) (upd : pk.ty → Option Upd)

def guardUpd (od : Option Nat) (t : Nat) (want : Bool) (u : Upd) : Option Upd :=
 match u.dst with
 | some (d, v) => if d = t then none else if od = some d then (if (u.put.all fun p => p.2.isNone) = true ∧ u.kill.homes.isEmpty = true then some { u with dst := some (d, (v.grd? t want).getD .u) } else none) else none
 | none => none

def Step.g : Step → GSt
 | .ok u => .ok u
 | .may pk comp upd => .may pk comp fun p => some (upd p)

def stepG (C : Ctx) (ops : Array Oper) (s : St) (o : Oper) : Option GSt :=
 if o.dst.any fun d => s.t.any (grdOn d) || C.pr.elem d then none else
 match o.guard with
 | none => (stepOp C s none o).map Step.g
 | some (j, want) =>
  match (ops[j]?).bind (·.dst) with
  | none => none
  | some t =>
   match wantedB s 4 t want, stepOp C s (some (t, want)) o with
   | some _, some (.ok u) => (guardUpd o.dst t want u).map GSt.ok
   | some c, some (.may pk comp upd) => some (.may pk (cnd c comp (some pk.dflt)) fun p => guardUpd o.dst t want (upd p))
   | _, _ => none

def prepS (C : Ctx) (s : St) (o : Oper) : St :=
 match o.guard, o.op with
 | none, .call c => frzN s c.args.toList
 | none, .store _ _ x => if C.flt then fltN 4 s x else s
 | _, _ => s

def runOps {R : Type} (C : Ctx) (ops : Array Oper) : List Oper → St → (St → Option R) → Option R
 | [], s, k => k s
 | o :: os, s, k =>
  match stepG C ops s o with
  | some (.ok u) => runOps C ops os (s.app u) k
  | some (.may _ comp upd) => bnd comp fun p => match upd p with | some u => runOps C ops os (s.app u) k | none => none
  | none =>
   match stepG C ops (prepS C s o) o with
   | some (.ok u) => runOps C ops os ((prepS C s o).app u) k
   | some (.may _ comp upd) => bnd comp fun p => match upd p with | some u => runOps C ops os ((prepS C s o).app u) k | none => none
   | none => none

def TL.safe (q : Kill) : TL → Bool
 | .ref r k => !q.hits r k | .sub r k _ _ _ => !q.hits r k | .ead r k _ _ _ => !q.hits r k
 | .adr r _ => !q.roots.elem r | .clo _ cs => !cs.any q.roots.elem | _ => true

def TV.safe (q : Kill) : TV → Bool
 | .one l => l.safe q | .agg ls => ls.all (TL.safe q) | .tup vs => vs.all fun v => v.2.all (TL.safe q) | .grd _ _ v => v.2.all (TL.safe q) | .u => true

def LC.safe (q : Kill) : LC → Bool
 | .tl l => l.safe q | _ => true

def Root.safe (q : Kill) (x : Root) : Bool := x.ls.all (LC.safe q)

def grdT (s : St) : Nat → Nat → List Nat
 | 0, _ => []
 | n + 1, t => t :: match s.t.getD t .u with | .grd t' _ _ => grdT s n t' | _ => []

structure Rec where
 s : St
 o : Oper
 u : Upd

def Rec.T (ops : Array Oper) (x : Rec) : List Nat :=
 x.o.looksAt ops ++ match x.o.guard with | some (j, _) => (match (ops[j]?).bind (·.dst) with | some t => grdT x.s 4 t | none => []) | none => []

def Rec.F (ops : Array Oper) (x : Rec) : List Nat := (x.T ops).flatMap fun t => (x.s.t.getD t .u).roots

def dstNot (u : Upd) (T : List Nat) : Bool := match u.dst with | some (d, _) => !T.elem d | none => true

def putNot (ps : List (Nat × Option Root)) (n : Nat) : Bool := ps.all fun p => !(p.1 == n)

def leaveOk (s : St) (T F : List Nat) (u : Upd) : Bool :=
 dstNot u T && T.all (fun t => (s.t.getD t .u).safe u.kill) && F.all fun n => putNot u.put n && (match look s.r n with | some x => x.safe u.kill | none => true)

def dstSafe (u : Upd) (q : Kill) : Bool := match u.dst with | some (_, v) => v.safe q | none => true
def dstApart (u v : Upd) : Bool := match u.dst, v.dst with | some (d, _), some (e, _) => !(d == e) | _, _ => true
def putSafe (ps : List (Nat × Option Root)) (q : Kill) : Bool := ps.all fun p => match p.2 with | some x => x.safe q | none => true

def swapOk (u v : Upd) : Bool :=
 dstApart u v && dstSafe u v.kill && dstSafe v u.kill && putSafe u.put v.kill && putSafe v.put u.kill && u.put.all fun p => putNot v.put p.1

def grdDst (d : Option Nat) (u : Upd) : Bool := match d, u.dst with | some d, some (_, v) => grdOn d v | _, _ => false

def ancOf (acc : List (List Nat)) (es : List Edge) : List Nat := es.foldr (fun e l => if Region.binds .any e then uni (e.on :: acc.getD e.on []) l else l) []

def ancAll : List Oper → List (List Nat) → List (List Nat)
 | [], acc => acc
 | o :: os, acc => ancAll os (acc ++ [ancOf acc o.after.toList])

def pairOk (ops : Array Oper) (an : List (List Nat)) (k i : Nat) (x y : Rec) : Bool :=
 ((an.getD k []).elem i || i == k || !grdDst y.o.dst x.u) &&
  if k < i then (an.getD i []).elem k || (leaveOk x.s (y.T ops) (y.F ops) x.u && leaveOk x.s (x.T ops) (x.F ops) y.u && swapOk x.u y.u) else true

def pairsOk (ops : Array Oper) (an : List (List Nat)) (xs : List Rec) : Bool :=
 xs.zipIdx.all fun p => xs.zipIdx.all fun q => pairOk ops an p.2 q.2 p.1 q.1

def edgesOk (ops : Array Oper) : Bool := ops.toList.zipIdx.all fun p => p.1.after.toList.all fun e => !Region.binds .any e || decide (e.on < p.2)

def mixOk (ops : Array Oper) (s : St) (xs : List Rec) : Bool :=
 edgesOk ops && (s.t.all fun v => match v with | .grd _ _ _ => false | _ => true) && pairsOk ops (ancAll ops.toList []) xs

def runRec {R : Type} (C : Ctx) (ops : Array Oper) : List Oper → St → List Rec → (St → List Rec → Option R) → Option R
 | [], s, xs, k => k s xs
 | o :: os, s, xs, k =>
  match stepG C ops s o with
  | none => none
  | some (.ok u) => runRec C ops os (s.app u) (xs ++ [⟨s, o, u⟩]) k
  | some (.may _ comp upd) => bnd comp fun p => match upd p with | some u => runRec C ops os (s.app u) (xs ++ [⟨s, o, u⟩]) k | none => none

def runMix {R : Type} (C : Ctx) (ops : Array Oper) (s : St) (k : St → Option R) : Option R :=
 runRec C ops ops.toList s [] fun s' xs => match mixOk ops s xs with | true => k s' | false => none

def noGrd (s : St) : St := { s with t := s.t.map fun v => match v with | .grd _ _ _ => .u | v => v }

def hasGrd (ops : Array Oper) : Bool := ops.toList.any fun o => o.guard.isSome

abbrev fTL {R : Type} (l : TL) (k : TL → R) : R :=
 match l with
 | .d a x => k (.d a x) | .nil => k .nil | .ref r i => k (.ref r i) | .sub r i e lo n => k (.sub r i e lo n) | .adr r o => k (.adr r o)
 | .ead r i e x o => k (.ead r i e x o) | .iad e x o => k (.iad e x o) | .clo f cs => k (.clo f cs) | .x => k .x

abbrev fTLs {R : Type} : List TL → (List TL → R) → R
 | [], k => k []
 | l :: ls, k => fTL l fun l => fTLs ls fun ls => k (l :: ls)

abbrev fTV {R : Type} (v : TV) (k : TV → R) : R :=
 match v with
 | .one l => fTL l fun l => k (.one l) | .agg ls => fTLs ls fun ls => k (.agg ls) | .tup vs => k (.tup vs) | .grd t w (b, ls) => fTLs ls fun ls => k (.grd t w (b, ls)) | .u => k .u

abbrev fTVs {R : Type} : List TV → (List TV → R) → R
 | [], k => k []
 | v :: vs, k => fTV v fun v => fTVs vs fun vs => k (v :: vs)

abbrev fLCs {R : Type} : List LC → (List LC → R) → R
 | [], k => k []
 | .tl l :: cs, k => fTL l fun l => fLCs cs fun cs => k (.tl l :: cs)
 | .own o e xs h :: cs, k => fLCs cs fun cs => k (.own o e xs h :: cs)

abbrev fRs {R : Type} : List (Nat × Root) → (List (Nat × Root) → R) → R
 | [], k => k []
 | (n, ⟨b, ls⟩) :: rs, k => fLCs ls fun ls => fRs rs fun rs => k ((n, ⟨b, ls⟩) :: rs)

abbrev fS {R : Type} (s : St) (k : St → R) : R := fTVs s.t fun t => fRs s.r fun r => k ⟨t, r⟩

theorem fTL_eq {R : Type} (l : TL) (k : TL → R) : fTL l k = k l := by cases l <;> rfl
theorem fTLs_eq {R : Type} : ∀ (ls : List TL) (k : List TL → R), fTLs ls k = k ls
 | [], _ => rfl
 | l :: ls, k => by simp only [fTLs, fTL_eq, fTLs_eq ls]
theorem fTV_eq {R : Type} (v : TV) (k : TV → R) : fTV v k = k v := by
 cases v with
 | one l => simp only [fTV, fTL_eq]
 | agg ls => simp only [fTV, fTLs_eq]
 | tup vs => rfl
 | grd t w p => obtain ⟨b, ls⟩ := p; simp only [fTV, fTLs_eq]
 | u => rfl
theorem fTVs_eq {R : Type} : ∀ (vs : List TV) (k : List TV → R), fTVs vs k = k vs
 | [], _ => rfl
 | v :: vs, k => by simp only [fTVs, fTV_eq, fTVs_eq vs]
theorem fLCs_eq {R : Type} : ∀ (cs : List LC) (k : List LC → R), fLCs cs k = k cs
 | [], _ => rfl
 | .tl l :: cs, k => by simp only [fLCs, fTL_eq, fLCs_eq cs]
 | .own o e xs h :: cs, k => by simp only [fLCs, fLCs_eq cs]
theorem fRs_eq {R : Type} : ∀ (rs : List (Nat × Root)) (k : List (Nat × Root) → R), fRs rs k = k rs
 | [], _ => rfl
 | (n, ⟨b, ls⟩) :: rs, k => by simp only [fRs, fLCs_eq, fRs_eq rs]
theorem fS_eq {R : Type} (s : St) (k : St → R) : fS s k = k s := by simp only [fS, fTVs_eq, fRs_eq]

def loopN {R : Type} (body : St → (Out → St → Option R) → Option R) (cl : St → St) (k : Out → St → Option R) : Nat → St → Option R
 | 0, _ => none
 | n + 1, s => body s fun e s' => match e with | .normal => fS (cl s') fun s => loopN body cl k n s | e => k e s'

def clOut (v : Lv) (pr : List Nat) : Out → St → St
 | .normal, s => s
 | .exit id, s => St.clean (v.exit id) pr s
 | .ret, s => St.clean v.res pr s

inductive Dir where
 | l | r | i

def PI {R : Type} (C : Ctx) (fuel : Nat) (pr : List Nat) : Code → Lv → St → (Out → St → Option R) → Option R
 | .skip, _, s, k => k .normal s
 | .label _, _, s, k => k .normal s
 | .region _ ops draw, _, s, k => (if draw then runMix C ops s else runOps C ops ops.toList s) fun s => fS (if hasGrd ops then noGrd s else s) fun s => k .normal s
 | .seq a b, v, s, k => PI C fuel pr a { v with out := live b v } s fun e s' => match e with | .normal => PI C fuel pr b v s' k | e => k e s'
 | .cond c a b, v, s, k =>
  match tvOf s none c with
  | .one (.d .bool x) => cnd x (PI C fuel pr a v s k) (PI C fuel pr b v s k)
  | _ => none
 | .block id b, v, s, k => PI C fuel pr b { v with exits := (id, v.out) :: v.exits } s fun e s' =>
   match e with | .exit j => if j = id then k .normal s' else k (.exit j) s' | e => k e s'
 | .loop b, v, s, k => fS (St.clean (live (.loop b) v) pr s) fun s => loopN (PI C fuel pr b { v with out := live (.loop b) v }) (St.clean (live (.loop b) v) pr) (fun e s' => fS (clOut v pr e s') fun s => k e s) fuel s
 | .exit id, _, s, k => k (.exit id) s
 | .ret, _, s, k => k .ret s
 | _, _, _, _ => none

def enterP (P : Program) : Nat → List TypeId → List Bool → List (List (K × Nat)) → List Leaf → Option (List TV × List (Nat × Root) × List Leaf)
 | _, [], _, _, ls => some ([], [], ls)
 | p, _ :: ts, true :: bs, io :: ios, ls =>
  (enterP P (p + 1) ts bs ios (ls.drop io.length)).map fun q => (.one (.adr p 0) :: q.1, (p, ⟨true, ioLC io (ls.take io.length)⟩) :: q.2.1, q.2.2)
 | p, t :: ts, bs, ios, ls =>
  if isStructT P t then
   match sizeT P t with
   | some n => (enterP P (p + 1) ts bs.tail ios (ls.drop n)).map fun q => (.agg ((ls.take n).map Leaf.tl) :: q.1, q.2.1, q.2.2)
   | none => none
  else
   match ls with
   | l :: ls => (enterP P (p + 1) ts bs.tail ios ls).map fun q => (.one l.tl :: q.1, q.2.1, q.2.2)
   | [] => none

def capTV : Leaf → TV
 | ⟨.iptr e, x⟩ => .one (.iad e x 0)
 | l => .one l.tl

def resTV (P : Program) (s : St) : ResultVar → Option TV
 | .tmp t => some (s.t.getD t .u)
 | .cell a t =>
  match sizeT P t, isAggT P t with
  | some n, some ag => (loadL s.r n ((s.t.getD a .u).tl)).bind (mkTV ag)
  | _, _ => none

def compTL (b : Bool) (n : Nat) : TV → Option (List TL)
 | .one l => if b = false ∧ n = 1 then some [l] else none
 | .agg ls => if b = true ∧ ls.length = n then some ls else none
 | _ => none

def resAll (P : Program) (s : St) : List ResultVar → List (Bool × List (K × Nat)) → Option (List TL)
 | [], [] => some []
 | r :: rs, (b, ks) :: res => ((resTV P s r).bind (compTL b ks.length)).bind fun a => (resAll P s rs res).map (a ++ ·)
 | _, _ => none

def outLeaf (rs : List (Nat × Root)) (j : Nat) : K × Nat → TL → Option (Leaf × List ((Nat × Nat) × Nat))
 | (kd, 0), l => match l with | .d k x => some (⟨k, x⟩, []) | .nil => (match kd with | .row e => some (⟨.row e, []⟩, []) | _ => none) | _ => none
 | (kd, o + 1), l =>
  match l with
  | .nil => (match kd with | .row e => some (⟨.row e, []⟩, []) | _ => none)
  | .ref r k => match rowAt rs r k with | some (.own o' e xs none) => if o' = o + 1 then some (⟨.row e, xs⟩, [((r, k), j)]) else none | _ => none
  | _ => none

def outLeaves (rs : List (Nat × Root)) : Nat → List (K × Nat) → List TL → Option (List Leaf × List ((Nat × Nat) × Nat))
 | _, [], [] => some ([], [])
 | j, k :: ks, l :: ls => (outLeaf rs j k l).bind fun a => (outLeaves rs (j + 1) ks ls).map fun b => (a.1 :: b.1, a.2 ++ b.2)
 | _, _, _ => none

def ioLeaves (rs : List (Nat × Root)) : List Nat → List (List (K × Nat)) → Option (List Leaf)
 | p :: ps, ks :: io =>
  match look rs p with
  | some x => if x.box then (ioCells ks x.ls).bind fun a => (ioLeaves rs ps io).map (a ++ ·) else none
  | none => none
 | [], [] => some []
 | _, _ => none

def finish (C : Ctx) (sg : Sig) (fn : Func) (s : St) : Option (List Leaf) :=
 (resAll C.P s fn.results.toList sg.res).bind fun ls =>
  (outLeaves s.r 0 (sg.res.flatMap (·.2)) ls).bind fun a =>
   (ioLeaves s.r (ptrs 0 sg.ptr) sg.io).bind fun b =>
    if (a.2.map (·.1)).Nodup ∧ a.2.all (fun h => !(ptrs 0 sg.ptr).elem h.1.1) = true then some (a.1 ++ b) else none

def resSlots : ResultVar → List Nat
 | .tmp t => [t] | .cell a _ => [a]

def entry (C : Ctx) (sg : Sig) (fn : Func) (args : List Leaf) : Option St :=
 (enterP C.P 0 fn.params.toList sg.ptr sg.io args).bind fun q =>
  let ts := q.1 ++ q.2.2.map capTV
  if q.2.2.length = fn.nfree ∧ ts.length ≤ fn.ntmps then some { t := ts ++ List.replicate (fn.ntmps - ts.length) .u, r := q.2.1 } else none

def runF (C : Ctx) (fuel : Nat) (f : Nat) (args : List Leaf) : Option (List Leaf) :=
 match C.sig f, C.P.funcs[f]? with
 | some sg, some fn =>
  let C := { C with pr := ptrs 0 sg.ptr }
  match fn.body, entry C sg fn args with
  | some c, some s => PI C fuel (ptrs 0 sg.ptr) c ⟨[], [], fn.results.toList.flatMap resSlots⟩ s fun e s' => match e with | .exit _ => none | _ => finish C sg fn s'
  | _, _ => none
 | _, _ => none

def castL (k : K) (ls : List Leaf) : Option k.ty := match ofL k ls with | some (x, []) => some x | _ => none

structure Lib where
 P : Program
 sig : Nat → Option Sig
 ext : Nat → List Leaf → Option (Option (List Leaf))
 inp : Nat → Option (List Leaf → (e : K) → List e.ty → Option (List e.ty))
 new : Nat → Option (List Leaf → Option (List Leaf))
 flt : Nat → Bool

def pcall (L : Lib) : Nat → Nat → List Leaf → Option (List Leaf)
 | 0, _, _ => none
 | n + 1, f, args =>
  match L.ext f args with
  | some r => r
  | none => runF ⟨L.P, L.sig, fun f ags k => bnd (pcall L n f ags) fun ls => castL k ls, L.inp, L.new, L.flt f, []⟩ n f args

def pc (L : Lib) (n f : Nat) (ags : List Leaf) (k : K) : Option k.ty := bnd (pcall L n f ags) fun ls => castL k ls

def lvl (k : K) : K × Nat := (k, match k with | .row _ => 1 | _ => 0)

def ptrT (P : Program) (t : TypeId) : Option TypeId := match P.underlying t with | some (.pointer e) => if isStructT P e then some e else none | _ => none

def sigT (P : Program) (f : Nat) : Option Sig :=
 match P.funcs[f]? with
 | some fn => some {
   ptr := fn.params.toList.map fun t => (ptrT P t).isSome
   res := fn.resultTypes.toList.map fun t => (isStructT P t, (kindsT P t).map lvl)
   io := fn.params.toList.filterMap fun t => (ptrT P t).map fun e => (kindsT P e).map lvl }
 | none => none

def atP : Code → List Dir → Lv → Option (Code × Lv)
 | c, [], v => some (c, v)
 | .seq a b, .l :: p, v => atP a p { v with out := live b v }
 | .seq _ b, .r :: p, v => atP b p v
 | .cond _ a _, .l :: p, v => atP a p v
 | .cond _ _ b, .r :: p, v => atP b p v
 | .block id b, .i :: p, v => atP b p { v with exits := (id, v.out) :: v.exits }
 | .loop b, .i :: p, v => atP b p { v with out := live (.loop b) v }
 | _, _, _ => none

def contP {R : Type} (C : Ctx) (fuel : Nat) (pr : List Nat) : Code → List Dir → Lv → List Nat → (Out → St → Option R) → Out → St → Option R
 | _, [], _, _, k => k
 | .seq a b, .l :: p, v, ms, k => contP C fuel pr a p { v with out := live b v } ms fun e s' => match e with | .normal => PI C fuel pr b v s' k | e => k e s'
 | .seq _ b, .r :: p, v, ms, k => contP C fuel pr b p v ms k
 | .cond _ a _, .l :: p, v, ms, k => contP C fuel pr a p v ms k
 | .cond _ _ b, .r :: p, v, ms, k => contP C fuel pr b p v ms k
 | .block id b, .i :: p, v, ms, k => contP C fuel pr b p { v with exits := (id, v.out) :: v.exits } ms fun e s' =>
   match e with | .exit j => if j = id then k .normal s' else k (.exit j) s' | e => k e s'
 | .loop b, .i :: p, v, m :: ms, k => contP C fuel pr b p { v with out := live (.loop b) v } ms fun e s' =>
   match e with | .normal => fS (St.clean (live (.loop b) v) pr s') fun s => loopN (PI C fuel pr b { v with out := live (.loop b) v }) (St.clean (live (.loop b) v) pr) (fun e s' => fS (clOut v pr e s') fun s => k e s) m s | e => fS (clOut v pr e s') fun s => k e s
 | _, _, _, _, k => k

def ctxOf (L : Lib) (n f : Nat) (sg : Sig) : Ctx := ⟨L.P, L.sig, pc L n, L.inp, L.new, L.flt f, ptrs 0 sg.ptr⟩

def lv0 (fn : Func) : Lv := ⟨[], [], fn.results.toList.flatMap resSlots⟩

def fin (C : Ctx) (sg : Sig) (fn : Func) : Out → St → Option (List Leaf) := fun e s' => match e with | .exit _ => none | _ => finish C sg fn s'

def KP (L : Lib) (n f : Nat) (p : List Dir) (ms : List Nat) (e : Out) (s : St) : Option (List Leaf) :=
 match L.sig f, L.P.funcs[f]? with
 | some sg, some fn => match fn.body with
  | some c => contP (ctxOf L n f sg) n (ptrs 0 sg.ptr) c p (lv0 fn) ms (fin (ctxOf L n f sg) sg fn) e s
  | none => none
 | _, _ => none

def LP (L : Lib) (n f : Nat) (p : List Dir) (ms : List Nat) (m : Nat) (s : St) : Option (List Leaf) :=
 match L.sig f, L.P.funcs[f]? with
 | some sg, some fn => match fn.body with
  | some c => match atP c p (lv0 fn) with
   | some (.loop b, v) => loopN (PI (ctxOf L n f sg) n (ptrs 0 sg.ptr) b { v with out := live (.loop b) v }) (St.clean (live (.loop b) v) (ptrs 0 sg.ptr)) (fun e s' => fS (clOut v (ptrs 0 sg.ptr) e s') fun s => contP (ctxOf L n f sg) n (ptrs 0 sg.ptr) c p (lv0 fn) ms (fin (ctxOf L n f sg) sg fn) e s) m s
   | _ => none
  | none => none
 | _, _ => none

@[reducible] def ki : K := .int .i64
@[reducible] def ku8 : K := .int .u8
@[reducible] def ku32 : K := .int .u32
def tT (n : Nat) (l : List (Nat × TV)) : List TV := l.foldl (fun a p => a.set p.1 p.2) (List.replicate n .u)

end Go.Proofs.Ythamiihdoicjkaa.Pv
namespace Go.Proofs.Ythamiihdoicjkaa.Pv
open Go Go.Proofs
@[reducible] def kCur : K := .pair (.row ku8) (.pair ki (.pair ki .unit))
@[reducible] def kUnit : K := .pair ki (.pair ki (.pair .str (.pair ki .unit)))
@[reducible] def kHost : K := .pair ki (.pair .bool (.pair (.row kUnit) .unit))
def newH (b : List Int) : Int := (b.take 4000).foldl (fun h x => iand .i64 (iadd .i64 (iadd .i64 (imul .i64 h 131) (iwrap .i64 x)) 7) 1073741823) (iadd .i64 36801 (rlen b))
def newX (ls : List Leaf) : Option (List Leaf) := match ls with | [⟨.row (.int .u8), b⟩] => some [⟨.row (.int .u8), b⟩, ⟨.int .i64, (0 : Int)⟩, ⟨.int .i64, newH b⟩] | _ => none
def hostLess (a b : kHost.ty) : Bool := decide (a.2.2.1.length < b.2.2.1.length) || (decide (a.2.2.1.length = b.2.2.1.length) && decide (@LT.lt Int _ a.1 b.1))
def upIds (hs : List kHost.ty) : List Int := ((hs.filter fun h => h.2.1).mergeSort fun a b => !hostLess b a).map fun h => h.1
def placeX (hs : List kHost.ty) (n : Int) : List Int × Bool := if n < 0 ∨ n > (upIds hs).length then ([], false) else ((upIds hs).take n.toNat, true)
def placeD (hs : List kHost.ty) : Bool := decide (hs.length < 1000000) && hs.all fun h => decide (h.2.2.1.length < 1000000000)
def extX (f : Nat) (ls : List Leaf) : Option (Option (List Leaf)) :=
 if f = 8 then some (match ls with | [⟨.row k, hs⟩, ⟨.int .i64, n⟩] => if h : k = kHost then (if placeD (h ▸ hs : List kHost.ty) = true then some [⟨.row ki, (placeX (h ▸ hs) n).1⟩, ⟨.bool, (placeX (h ▸ hs) n).2⟩] else none) else none | _ => none)
 else none
noncomputable def sigX (f : Nat) : Option Sig := (sigT Try.prog f).map fun s => { s with res := (if [42, 68].elem f then s.res.map fun p => (p.1, p.2.map fun q => (q.1, 0)) else s.res), io := s.io.map fun ks => ks.map fun q => match q.1 with | .row (.int .u8) => (q.1, 0) | _ => q }
noncomputable def L : Lib := ⟨Try.prog, sigX, extX, fun _ => none, fun f => if f = 18 then some newX else none, fun f => [69].elem f⟩
end Go.Proofs.Ythamiihdoicjkaa.Pv
namespace Go.Proofs.Ythamiihdoicjkaa.Pv
open Go
def Good (E : Env) (P : Program) (s : St) (a : Act) (w : World) (o : Oper) (u : Upd) : Prop :=
 ∀ (K : Act → World → Prop) (Q : Exit → Act → World → Prop), (∀ a' w', RelX E (s.app u) a' w' → K a' w') → o.wp P a w K Q

def StepOk (E : Env) (P : Program) (s : St) (a : Act) (w : World) (o : Oper) : Step → Prop
 | .ok u => Good E P s a w o u
 | .may _ comp upd => ∀ p, comp = some p → Good E P s a w o (upd p)

theorem Good.value {E : Env} {P : Program} {s : St} {a : Act} {w w' : World} {o : Oper} {u : Upd} {v : Value} (h : (execOp a.eval o).run P w = .ok (.value v) w')
  (hr : RelX E (s.app u) (a.put o.dst v) w') : Good E P s a w o u := by
 intro K Q hK
 unfold Oper.wp
 rw [h, Oper.upon_value]
 exact hK _ _ hr

theorem Good.skip {E : Env} {P : Program} {s : St} {a : Act} {w w' : World} {o : Oper} {u : Upd} (h : (execOp a.eval o).run P w = .ok .skip w')
  (hr : RelX E (s.app u) (a.put o.dst undef) w') : Good E P s a w o u := by
 intro K Q hK
 unfold Oper.wp
 rw [h, Oper.upon_skip]
 exact hK _ _ hr

def Met (a : Act) : Option (Nat × Bool) → Prop
 | none => True
 | some (t, w) => a.tmps[t]? = some (.bool w)

theorem constTL_ok {R : TL → Value → Prop} {v : Value} (hd : ∀ k x, k.isLeaf = true → Sh (fun _ => False) default k x (one v) → R (.d k x) v) (hn : v = .slice none 0 0 → R .nil v) (hx : R .x v) : R (constTL v) v := by
 unfold constTL
 split
 ·exact hd _ _ rfl rfl
 ·exact hd _ _ rfl rfl
 ·exact hd _ _ rfl rfl
 ·exact hn rfl
 ·exact hx

theorem Sh_scalar {S S' : Nat → Prop} {w w' : World} {k : K} {x : k.ty} {c : Nat → Option Value} (h : Sh S w k x c) (hS : ∀ b, ¬ S b) : Sh S' w' k x c :=
 match k, x, h with
 | .int _, _, h => h | .bool, _, h => h | .str, _, h => h | .unit, _, _ => trivial
 | .pair _ _, _, h => ⟨Sh_scalar h.1 hS, Sh_scalar h.2 hS⟩
 | .row _, _, ⟨a, len, cap, h1, h2, hle, h3⟩ => ⟨a, len, cap, h1, h2, hle, h3.elim .inl fun ⟨_, _, _, hb, _⟩ => absurd hb (hS _)⟩
 | .clo _ _, _, ⟨caps, h1, h2, h3⟩ => ⟨caps, h1, h2, Sh_scalar h3 hS⟩
 | .iptr _, _, ⟨_, _, _, hb, _⟩ => absurd hb (hS _)

theorem constTL_r {g : GW} {β : Nat → Option Nat} (v : Value) : TLr g β (constTL v) v :=
 constTL_ok (fun _ _ hk h => ⟨hk, Sh_scalar h (fun _ h => h)⟩) (fun h => h) trivial

section
variable {E : Env} {s : St} {a : Act} {w : World} {ω : Nat → Option Tag} {φ : Nat → Nat → Option Value} {β : Nat → Option Nat}
theorem constTV_r {g : GW} {tmps : Array Value} (v : Value) : TVr (TLr g β) tmps (constTV v) v := by
 unfold constTV
 split
 ·rename_i cs
  refine ⟨cs, rfl, by simp, fun j l hj => ?_⟩
  rw [List.getElem?_map] at hj
  obtain ⟨c, hc, rfl⟩ := Option.map_eq_some_iff.1 hj
  exact ⟨c, by simpa using hc, constTL_r c⟩
 ·exact constTL_r v

theorem tvOf_ok (h : Rel E s a w ω φ β) {g : Option (Nat × Bool)} (hg : Met a g) (x : Operand) : TVr (TLr (E.g w ω φ) β) a.tmps (tvOf s g x) (a.eval x) := by
 cases x with
 | tmp t =>
  simp only [tvOf, Act.eval]
  cases ht : s.t[t]? with
  | none => simp [List.getD, ht, TVr]
  | some tv =>
   obtain ⟨v, hv, hr⟩ := h.tm t tv ht
   have he : a.tmps.getD t undef = v := by simp [hv]
   rw [he]
   have ht' : s.t.getD t .u = tv := by simp [List.getD, ht]
   rw [ht']
   cases tv with
   | grd t' wt p =>
    simp only
    split
    ·rename_i hgg
     subst hgg
     have := hr.1 hg
     obtain ⟨b, ls⟩ := p
     split
     ·rename_i hp; cases hp; exact this
     ·rename_i l hp; cases hp; obtain ⟨l', hl', hr'⟩ := this; cases hl'; exact hr'
     ·trivial
    ·trivial
   | one l => exact hr
   | agg ls => exact hr
   | tup vs => exact hr
   | u => trivial
 | const v => exact constTV_r v
 | func f =>
  simp only [tvOf, Act.eval]
  exact ⟨#[], rfl, rfl, fun i r hi => by simp at hi⟩
 | global g => trivial

theorem tl_ok {tmps : Array Value} {R : TL → Value → Prop} {tv : TV} {v : Value} (hx : R .x v) (h : TVr R tmps tv v) : R tv.tl v := by
 cases tv <;> first | exact h | exact hx

theorem tlOf_ok (h : Rel E s a w ω φ β) {g : Option (Nat × Bool)} (hg : Met a g) (x : Operand) : TLr (E.g w ω φ) β (tvOf s g x).tl (a.eval x) :=
 tl_ok (R := TLr (E.g w ω φ) β) trivial (tvOf_ok h hg x)

theorem Rel.put (h : Rel E s a w ω φ β) {d : Nat} {tv : TV} {v : Value} (hv : TVr (TLr (E.g w ω φ) β) (a.put (some d) v).tmps tv v) (hg : s.t.any (grdOn d) = false) :
  Rel E (s.app { dst := some (d, tv) }) (a.put (some d) v) w ω φ β := by
 refine h.step (u := { dst := some (d, tv) }) h.wr (fun l v hl => by rw [TL.kill_nil]; exact hl) (fun r root hr _ => ⟨h.bx r root hr, fun k c _ hl => ?_⟩) (fun r root hp => by simp [lastPut] at hp) (v := v) ?_
 ·cases c with
  | own o e xs hole => exact hl
  | tl l => simp only [LC.kill]; rw [TL.kill_nil]; exact hl
 ·intro d' tv' hd
  cases hd
  refine ⟨hv, fun t t' wt tv' ht he => ?_⟩
  subst he
  rw [List.any_eq_false] at hg
  exact hg _ (List.mem_of_getElem? ht) (by simp [grdOn])


theorem TVr_tmps {R : TL → Value → Prop} {t t' : Array Value} {tv : TV} {v : Value} (hn : ∀ x y z, tv ≠ .grd x y z) (h : TVr R t tv v) : TVr R t' tv v := by
 cases tv <;> first | exact h | exact absurd rfl (hn _ _ _)

theorem good_val {P : Program} {o : Oper} {d : Nat} {tv : TV} {v : Value} (h : Rel E s a w ω φ β) (hgr : s.t.any (grdOn d) = false) (ho : o.dst = some d)
  (hr : (execOp a.eval o).run P w = .ok (.value v) w) (hn : ∀ x y z, tv ≠ .grd x y z) (hv : TVr (TLr (E.g w ω φ) β) a.tmps tv v) :
  Good E P s a w o { dst := some (d, tv) } :=
 Good.value hr ⟨ω, φ, β, by rw [ho]; exact h.put (TVr_tmps hn hv) hgr⟩

theorem one_not {l : TL} : ∀ x y z, TV.one l ≠ .grd x y z := fun _ _ _ h => by cases h
theorem agg_not {ls : List TL} : ∀ x y z, TV.agg ls ≠ .grd x y z := fun _ _ _ h => by cases h

theorem int_of {S : Nat → Prop} {w : World} {k : IntKind} {n : Int} {v : Value} (h : Sh S w (.int k) n (one v)) : v = .int k n := by
 simpa [Sh, one] using h
theorem bool_of {S : Nat → Prop} {w : World} {b : Bool} {v : Value} (h : Sh S w .bool b (one v)) : v = .bool b := by
 simpa [Sh, one] using h
theorem str_of {S : Nat → Prop} {w : World} {b : ByteArray} {v : Value} (h : Sh S w .str b (one v)) : v = .string b := by
 simpa [Sh, one] using h

theorem tlr_int {g : GW} {k : IntKind} (n : Int) : TLr g β (.d (.int k) n) (.int k n) := ⟨rfl, rfl⟩
theorem tlr_bool {g : GW} (b : Bool) : TLr g β (.d .bool b) (.bool b) := ⟨rfl, rfl⟩
theorem tlr_str {g : GW} (b : ByteArray) : TLr g β (.d .str b) (.string b) := ⟨rfl, rfl⟩

theorem stMove_ok {P : Program} {o : Oper} {g : Option (Nat × Bool)} {d : Nat} {x : Operand} {st : Step} (h : Rel E s a w ω φ β) (hg : Met a g) (hgr : s.t.any (grdOn d) = false) (ho : o.dst = some d)
  (hop : o.op = .move x) (hst : stMove s g d x = some st) : StepOk E P s a w o st := by
 have hx := tvOf_ok h hg x
 unfold stMove at hst
 split at hst
 ·cases hst
 ·rename_i tv hn
  cases hst
  exact good_val h hgr ho (by simp [execOp, hop]) (fun x y z he => hn x y z he) hx

theorem stUn_ok {P : Program} {o : Oper} {g : Option (Nat × Bool)} {d : Nat} {op : UnOp} {t : TypeId} {x : Operand} {st : Step} (h : Rel E s a w ω φ β) (hg : Met a g) (hgr : s.t.any (grdOn d) = false) (ho : o.dst = some d)
  (hop : o.op = .unOp op t x) (hst : stUn s g d op x = some st) : StepOk E P s a w o st := by
 have hx := tlOf_ok h hg x
 unfold stUn at hst
 obtain ⟨l, hl, rfl⟩ := Option.map_eq_some_iff.1 hst
 unfold scal1 at hl
 split at hl
 ·rename_i b hb
  rw [hb] at hx
  have hv := bool_of hx.2
  split at hl <;> cases hl
  exact good_val h hgr ho (v := .bool (bnot b)) (by simp [execOp, hop, hv, Op.unary, bnot]) one_not (tlr_bool (β := β) _)
 ·rename_i k n hb
  rw [hb] at hx
  have hv := int_of hx.2
  split at hl <;> cases hl
  exact good_val h hgr ho (v := .int k (isub k 0 n)) (by simp [execOp, hop, hv, Op.unary, Op.intArith, isub]) one_not (tlr_int (β := β) _)
 ·cases hl

end
section
variable {E : Env} {s : St} {a : Act} {w : World} {ω : Nat → Option Tag} {φ : Nat → Nat → Option Value} {β : Nat → Option Nat}
variable {P : Program} {o : Oper} {g : Option (Nat × Bool)} {d : Nat}
def ScOk (P : Program) (op : BinOp) (t : TypeId) (x y : Operand) (vx vy : Value) : Sc → Prop
  | .ok l => ∃ v, (∀ w, (do eqGuard op t x y vx vy; binOp op t vx vy : Sem Value).run P w = .ok v w) ∧ ∀ g β, TLr g β l.tl v
  | .may c l => c = some () → ∃ v, (∀ w, (do eqGuard op t x y vx vy; binOp op t vx vy : Sem Value).run P w = .ok v w) ∧ ∀ g β, TLr g β l.tl v

theorem eqGuard_int (op : BinOp) (t : TypeId) (x y : Operand) (k k' : IntKind) (m n : Int) (w : World) : (eqGuard op t x y (.int k m) (.int k' n)).run P w = .ok () w := by
  cases op <;> simp [eqGuard]
theorem eqGuard_str (op : BinOp) (t : TypeId) (x y : Operand) (m n : ByteArray) (w : World) : (eqGuard op t x y (.string m) (.string n)).run P w = .ok () w := by
  cases op <;> simp [eqGuard]
theorem eqGuard_bool (op : BinOp) (t : TypeId) (x y : Operand) (m n : Bool) (w : World) : (eqGuard op t x y (.bool m) (.bool n)).run P w = .ok () w := by
  cases op <;> simp [eqGuard]

theorem must_true {b : Bool} (h : must b = some ()) : b = true := by
  unfold must at h; split at h
  · assumption
  · cases h

theorem intBin_ok {op : BinOp} {t : TypeId} {x y : Operand} {k : IntKind} {m n : Int} {r : Sc} (h : intBin op k m n = some r) : ScOk P op t x y (.int k m) (.int k n) r := by
  cases op <;> simp only [intBin, Option.some.injEq, reduceCtorEq] at h <;> subst h <;> simp only [ScOk] <;> first
    | (refine ⟨.int k _, fun w => ?_, fun _ _ => tlr_int _⟩
       simp [eqGuard_int, binOp, Op.intArith, Op.intBits, iadd, isub, imul, iand, ior, ixor]; done)
    | (refine ⟨.bool _, fun w => ?_, fun _ _ => tlr_bool _⟩
       simp [eqGuard_int, binOp, Op.intCmp, ieq, ine, ilt, ile, igt, ige]; done)
    | (intro hc
       have hn : n ≠ 0 := by simpa [ine] using must_true hc
       refine ⟨.int k _, fun w => ?_, fun _ _ => tlr_int _⟩
       simp [eqGuard_int, binOp, Op.intDiv, hn, iquo, irem]; done)

theorem intBinC_ok {op : BinOp} {t : TypeId} {x y : Operand} {k : IntKind} {m n : Int} {r : Sc} (hn : 0 < n) (h : intBinC op k m n = some r) : ScOk P op t x y (.int k m) (.int k n) r := by
  unfold intBinC at h
  split at h
  · cases h
    refine ⟨.int k _, fun w => ?_, fun _ _ => tlr_int _⟩
    have hn' : n ≠ 0 := by omega
    simp [eqGuard_int, binOp, Op.intDiv, hn', iquo]
  · cases h
    refine ⟨.int k _, fun w => ?_, fun _ _ => tlr_int _⟩
    have hn' : n ≠ 0 := by omega
    simp [eqGuard_int, binOp, Op.intDiv, hn', irem]
  · exact intBin_ok h

theorem shiftBin_ok {op : BinOp} {t : TypeId} {x y : Operand} {k k' : IntKind} {m n : Int} {r : Sc} (h : shiftBin op k m n = some r) : ScOk P op t x y (.int k m) (.int k' n) r := by
  cases op <;> simp only [shiftBin, Option.some.injEq, reduceCtorEq] at h <;> subst h <;> simp only [ScOk] <;>
    (intro hc
     have hn : ¬ n < 0 := by have := must_true hc; simp [ile] at this; omega
     refine ⟨.int k _, fun w => ?_, fun _ _ => tlr_int _⟩
     simp [eqGuard_int, binOp, Op.shift, hn, ishl, ishr])

theorem shiftBinC_ok {op : BinOp} {t : TypeId} {x y : Operand} {k k' : IntKind} {m n : Int} {r : Sc} (hn : 0 < n) (h : shiftBinC op k m n = some r) : ScOk P op t x y (.int k m) (.int k' n) r := by
  have hn' : ¬ n < 0 := by omega
  cases op <;> simp only [shiftBinC, Option.some.injEq, reduceCtorEq] at h <;> subst h <;> simp only [ScOk] <;>
    (refine ⟨.int k _, fun w => ?_, fun _ _ => tlr_int _⟩
     simp [eqGuard_int, binOp, Op.shift, hn', ishl, ishr])

theorem strBin_ok {op : BinOp} {t : TypeId} {x y : Operand} {m n : ByteArray} {r : Sc} (h : strBin op m n = some r) : ScOk P op t x y (.string m) (.string n) r := by
  cases op <;> simp only [strBin, Option.some.injEq, reduceCtorEq] at h <;> subst h <;> simp only [ScOk] <;> first
    | (refine ⟨.bool _, fun w => ?_, fun _ _ => tlr_bool _⟩
       simp [eqGuard_str, binOp, Op.stringOp, seq, slt, sle, bnot]; done)
    | (intro hc
       have hs := must_true hc
       refine ⟨.string _, fun w => ?_, fun _ _ => tlr_str _⟩
       have hs' : ¬ ((m.size + n.size : Nat) : Int) > IntKind.i64.max := by
         have hs := of_decide_eq_true hs
         simp only [slen, iplus] at hs
         have : IntKind.i64.max = 9223372036854775807 := rfl
         omega
       simp only [Sem.run_bind, eqGuard_str, binOp, Op.stringOp, hs', if_false, Result.andThen_ok]
       rfl)


theorem posC_int {y : Operand} {k : IntKind} {n : Int} (h : posC y = true) (hy : (tvOf s g y).tl = .d (.int k) n) : 0 < n := by
  unfold posC at h
  split at h
  · rename_i k' m
    simp only [tvOf, constTV, constTL, TV.tl] at hy
    cases hy
    exact Int.natCast_pos.2 (Nat.succ_pos m)
  · cases h

theorem run_equal_bool {t : TypeId} {m n : Bool} (ht : P.underlying t = some .bool) (w : World) : (Op.equal t (.bool m) (.bool n)).run P w = .ok (m == n) w := by
  have key : ∀ k, (Op.equalIn (k + 1) t (.bool m) (.bool n)).run P w = .ok (m == n) w := by
    intro k
    simp only [Op.equalIn, Sem.run_bind, run_underlying ht]
    rfl
  exact key 9999

theorem bool_eql {t : TypeId} {x y : Operand} {m n : Bool} (ht : P.underlying t = some .bool) (w : World) :
    (do eqGuard .eql t x y (.bool m) (.bool n); binOp .eql t (.bool m) (.bool n) : Sem Value).run P w = .ok (.bool (m == n)) w := by
  simp only [Sem.run_bind, eqGuard_bool, Result.andThen_ok, binOp, run_equal_bool ht]
  rfl

theorem bool_neq {t : TypeId} {x y : Operand} {m n : Bool} (ht : P.underlying t = some .bool) (w : World) :
    (do eqGuard .neq t x y (.bool m) (.bool n); binOp .neq t (.bool m) (.bool n) : Sem Value).run P w = .ok (.bool (!(m == n))) w := by
  simp only [Sem.run_bind, eqGuard_bool, Result.andThen_ok, binOp, run_equal_bool ht]
  rfl

theorem scal2_ok {op : BinOp} {t : TypeId} {x y : Operand} {r : Sc} {vx vy : Value} {l1 l2 : TL} {G : GW} (h1 : TLr G β l1 vx) (h2 : TLr G β l2 vy)
    (hy : (tvOf s g y).tl = l2) (h : scal2 P op t (posC y) l1 l2 = some r) : ScOk P op t x y vx vy r := by
  unfold scal2 at h
  split at h
  · rename_i k m k' n
    have e1 := int_of h1.2
    have e2 := int_of h2.2
    subst e1 e2
    split at h
    · split at h
      · rename_i hp; exact shiftBinC_ok (posC_int hp hy) h
      · exact shiftBin_ok h
    · split at h
      · rename_i hk; subst hk
        split at h
        · rename_i hp; exact intBinC_ok (posC_int hp hy) h
        · exact intBin_ok h
      · cases h
  · have e1 := str_of h1.2
    have e2 := str_of h2.2
    subst e1 e2
    exact strBin_ok h
  · rename_i m n
    have e1 := bool_of h1.2
    have e2 := bool_of h2.2
    subst e1 e2
    split at h
    · rename_i ht; cases h; exact ⟨_, fun w => bool_eql ht w, fun _ _ => tlr_bool _⟩
    · rename_i ht; cases h; exact ⟨_, fun w => bool_neq ht w, fun _ _ => tlr_bool _⟩
    · cases h
  · cases h

theorem stBin_ok {op : BinOp} {t ty : TypeId} {x y : Operand} {st : Step} (h : Rel E s a w ω φ β) (hg : Met a g) (hgr : s.t.any (grdOn d) = false) (ho : o.dst = some d)
    (hop : o.op = .binOp op t x y ty) (hst : stBin P s g d op t x y = some st) : StepOk E P s a w o st := by
  unfold stBin at hst
  obtain ⟨r, hr, rfl⟩ := Option.map_eq_some_iff.1 hst
  have hsc := scal2_ok (tlOf_ok h hg x) (tlOf_ok h hg y) rfl hr (x := x)
  have run : ∀ v, (∀ w, (do eqGuard op t x y (a.eval x) (a.eval y); binOp op t (a.eval x) (a.eval y) : Sem Value).run P w = .ok v w) → (execOp a.eval o).run P w = .ok (.value v) w := by
    intro v hv
    have := hv w
    simp only [execOp, hop]
    rw [Sem.run_bind, this]
    rfl
  cases r with
  | ok l =>
    obtain ⟨v, hv, hl⟩ := hsc
    exact good_val h hgr ho (run v hv) one_not (hl _ β)
  | may c l =>
    intro p hp
    cases p
    obtain ⟨v, hv, hl⟩ := hsc hp
    exact good_val h hgr ho (run v hv) one_not (hl _ β)

theorem tmps_of_eval {t : Nat} {b : Bool} (h : a.eval (.tmp t) = .bool b) : a.tmps[t]? = some (.bool b) := by
  simp only [Act.eval] at h
  cases ht : a.tmps[t]? with
  | none => simp [Array.getD_eq_getD_getElem?, ht] at h; cases h
  | some v => simp [Array.getD_eq_getD_getElem?, ht] at h; rw [h]

theorem pickArm_ok (h : Rel E s a w ω φ β) (hg : Met a g) {c x : Operand} {b : Bool} (hc : a.eval c = .bool b) : TLr (E.g w ω φ) β (pickArm s g c b x) (a.eval x) := by
  have hx := tlOf_ok h hg x
  unfold pickArm
  split
  · rename_i ct t
    split
    · rename_i t' w' l he
      split
      · rename_i hh
        obtain ⟨rfl, rfl⟩ := hh
        have hlt : t < s.t.length := by
          rcases Nat.lt_or_ge t s.t.length with h' | h'
          · exact h'
          · simp [List.getD, List.getElem?_eq_none h'] at he
        have ht : s.t[t]? = some (.grd t' w' (false, [l])) := by
          simp [List.getD, List.getElem?_eq_getElem hlt] at he
          rw [List.getElem?_eq_getElem hlt, he]
        obtain ⟨v, hv, hr⟩ := h.tm t _ ht
        obtain ⟨l', hl', hr'⟩ := hr.1 (tmps_of_eval hc)
        cases hl'
        have : a.eval (.tmp t) = v := by simp [Act.eval, hv]
        rw [this]; exact hr'
      · exact hx
    · exact hx
  · exact hx

theorem pickTL_ok {G : GW} {b : Bool} {l1 l2 l : TL} {v1 v2 : Value} (h : pickTL b l1 l2 = some l) (h1 : b = true → TLr G β l1 v1) (h2 : b = false → TLr G β l2 v2) : TLr G β l (if b then v1 else v2) := by
  unfold pickTL at h
  split at h
  · rename_i k x k' y
    split at h
    · rename_i hk
      subst hk
      cases h
      cases b with
      | true => simpa [sel] using h1 rfl
      | false => simpa [sel] using h2 rfl
    · cases h
  · cases h

theorem stPick_ok {c x y : Operand} {st : Step} (h : Rel E s a w ω φ β) (hg : Met a g) (hgr : s.t.any (grdOn d) = false) (ho : o.dst = some d)
    (hop : o.op = .pick c x y) (hst : stPick s g d c x y = some st) : StepOk E P s a w o st := by
  have hc := tvOf_ok h hg c
  unfold stPick at hst
  split at hst
  · rename_i b hb
    rw [hb] at hc
    have hv := bool_of hc.2
    obtain ⟨l, hl, rfl⟩ := Option.map_eq_some_iff.1 hst
    refine good_val h hgr ho (v := if b then a.eval x else a.eval y) (by cases b <;> simp [execOp, hop, hv, asBool]) one_not ?_
    exact pickTL_ok hl (fun e => by subst e; exact pickArm_ok h hg hv) (fun e => by subst e; exact pickArm_ok h hg hv)
  · cases hst

end
section
variable {E : Env} {s : St} {a : Act} {w : World} {ω : Nat → Option Tag} {φ : Nat → Nat → Option Value} {β : Nat → Option Nat}
variable {P : Program} {o : Oper} {g : Option (Nat × Bool)} {d : Nat}
theorem sizeT_info {t : TypeId} {n : Nat} (h : sizeT P t = some n) : ∃ i, P.info? t = some i ∧ i.size = n := by
 unfold sizeT at h
 obtain ⟨i, hi, he⟩ := Option.map_eq_some_iff.1 h
 exact ⟨i, hi, he⟩

theorem run_sizeOf {t : TypeId} {n : Nat} (h : sizeT P t = some n) (w : World) : (sizeOf t).run P w = .ok n w := by
 obtain ⟨i, hi, rfl⟩ := sizeT_info h
 simp [sizeOf, typeInfo, hi]

theorem add_none (b o n : Nat) : (⟨b, o, none⟩ : Addr).add n = ⟨b, o + n, none⟩ := by
 unfold Addr.add
 split
 ·rename_i h; simp [h]
 ·rfl

theorem run_fieldAt {t : TypeId} {f o' b off : Nat} (h : fieldOff P t f = some o') (w : World) :
  (Instr.fieldAt t (.pointer (some ⟨b, off, none⟩)) f).run P w = .ok (.pointer (some ⟨b, off + o', none⟩)) w := by
 unfold fieldOff at h
 split at h
 ·rename_i fs ht
  obtain ⟨x, hx, h⟩ := Option.bind_eq_some_iff.1 h
  obtain ⟨n, hn, h⟩ := Option.bind_eq_some_iff.1 h
  split at h
  ·cases h
  ·rename_i hn0
   cases h
   simp only [Instr.fieldAt, Sem.run_bind, run_underlying ht, Result.andThen_ok, hx, Instr.sureAddr]
   simp [fieldPlace, run_sizeOf hn, hn0, add_none]
 ·cases h

theorem stFieldAddr_ok {t : TypeId} {x : Operand} {f : Nat} {st : Step} (h : Rel E s a w ω φ β) (hg : Met a g) (hgr : s.t.any (grdOn d) = false) (ho : o.dst = some d)
  (hop : o.op = .fieldAddr t x f) (hst : stFieldAddr P s g d t x f = some st) : StepOk E P s a w o st := by
 have hx := tlOf_ok h hg x
 unfold stFieldAddr at hst
 split at hst
 ·rename_i o' r off hf hl
  cases hst
  rw [hl] at hx
  obtain ⟨b, hb, hv⟩ := hx
  exact good_val h hgr ho (v := .pointer (some ⟨b, off + o', none⟩)) (by simp [execOp, hop, hv, run_fieldAt hf]) one_not ⟨b, hb, rfl⟩
 ·rename_i o' r k e i off hf hl
  cases hst
  rw [hl] at hx
  obtain ⟨b, o1, len, cap, h1, h2, h3, hv⟩ := hx
  exact good_val h hgr ho (v := .pointer (some ⟨b, o1 + i.toNat * e.width + off + o', none⟩)) (by simp [execOp, hop, hv, run_fieldAt hf]) one_not
   ⟨b, o1, len, cap, h1, h2, h3, by rw [Nat.add_assoc]⟩
 ·rename_i o' e v off hf hl
  cases hst
  rw [hl] at hx
  obtain ⟨b, o1, hv, h1, h2⟩ := hx
  exact good_val h hgr ho (v := .pointer (some ⟨b, o1 + off + o', none⟩)) (by simp [execOp, hop, hv, run_fieldAt hf]) one_not
   ⟨b, o1, by rw [Nat.add_assoc], h1, h2⟩
 ·cases hst

theorem stNilCheck_ok {x : Operand} {st : Step} (h : Rel E s a w ω φ β) (hg : Met a g) (hgr : s.t.any (grdOn d) = false) (ho : o.dst = some d)
  (hop : o.op = .nilCheck x) (hst : stNilCheck s g d x = some st) : StepOk E P s a w o st := by
 have hx := tlOf_ok h hg x
 unfold stNilCheck at hst
 split at hst
 ·rename_i r off hl
  cases hst
  rw [hl] at hx
  obtain ⟨b, hb, hv⟩ := hx
  exact good_val h hgr ho (v := a.eval x) (by simp [execOp, hop, hv]) one_not ⟨b, hb, hv⟩
 ·rename_i e v off hl
  cases hst
  rw [hl] at hx
  obtain ⟨b, o1, hv, h1, h2⟩ := hx
  exact good_val h hgr ho (v := a.eval x) (by simp [execOp, hop, hv]) one_not ⟨b, o1, hv, h1, h2⟩
 ·rename_i r k e i off hl
  cases hst
  rw [hl] at hx
  obtain ⟨b, o1, len, cap, h1, h2, h3, hv⟩ := hx
  exact good_val h hgr ho (v := a.eval x) (by simp [execOp, hop, hv]) one_not ⟨b, o1, len, cap, h1, h2, h3, hv⟩
 ·rename_i f cs hl
  cases hst
  rw [hl] at hx
  obtain ⟨vs, hv, h1, h2⟩ := hx
  exact good_val h hgr ho (v := a.eval x) (by simp [execOp, hop, hv]) one_not ⟨vs, hv, h1, h2⟩
 ·rename_i f c v hl
  cases hst
  rw [hl] at hx
  obtain ⟨h0, caps, hv, h1⟩ := hx
  simp only [one, if_true, Option.some.injEq] at hv
  exact good_val h hgr ho (v := a.eval x) (by simp [execOp, hop, hv]) one_not ⟨h0, caps, by simp [one, hv], h1⟩
 ·cases hst

theorem stExtract_ok {x : Operand} {i : Nat} {st : Step} (h : Rel E s a w ω φ β) (hg : Met a g) (hgr : s.t.any (grdOn d) = false) (ho : o.dst = some d)
  (hop : o.op = .extract x i) (hst : stExtract s g d x i = some st) : StepOk E P s a w o st := by
 have hx := tvOf_ok h hg x
 unfold stExtract at hst
 split at hst
 ·rename_i vs hv
  rw [hv] at hx
  obtain ⟨cs, hc, hsz, hall⟩ := hx
  split at hst
  ·rename_i ls hi
   cases hst
   obtain ⟨c, hci, hr⟩ := hall _ _ hi
   exact good_val h hgr ho (v := c) (by simp [execOp, hop, hc, Instr.extract, hci]) agg_not hr
  ·rename_i l hi
   cases hst
   obtain ⟨c, hci, hr⟩ := hall _ _ hi
   obtain ⟨l', hl', hr⟩ := hr
   cases hl'
   exact good_val h hgr ho (v := c) (by simp [execOp, hop, hc, Instr.extract, hci]) one_not hr
  ·cases hst
 ·cases hst

theorem sat_eq {v : ByteArray} {i : Int} (h0 : 0 ≤ i) (h1 : i < slen v) : ∃ b, v[i.toNat]? = some b ∧ (b.toNat : Int) = sat v i := by
 have hlt : i.toNat < v.size := by unfold slen at h1; omega
 refine ⟨v[i.toNat], by simp [hlt], ?_⟩
 unfold sat
 have hlt' : i.toNat < v.data.size := hlt
 rw [Array.getD_eq_getD_getElem?, Array.getElem?_eq_getElem hlt']; rfl

theorem inB_iff {i n : Int} : inB i n = true ↔ 0 ≤ i ∧ i < n := by simp [inB]
theorem cutB_iff {l h n : Int} : cutB l h n = true ↔ 0 ≤ l ∧ l ≤ h ∧ h ≤ n := by simp [cutB, and_assoc]

theorem stIndex_ok {t : TypeId} {x i : Operand} {st : Step} (h : Rel E s a w ω φ β) (hg : Met a g) (hgr : s.t.any (grdOn d) = false) (ho : o.dst = some d)
  (hop : o.op = .index t x i) (hst : stIndex P s g d t x i = some st) : StepOk E P s a w o st := by
 have hx := tlOf_ok h hg x
 have hi := tlOf_ok h hg i
 unfold stIndex at hst
 split at hst
 ·rename_i v k n ht hlx hli
  cases hst
  intro p hp
  rw [hlx] at hx
  rw [hli] at hi
  have e1 := str_of hx.2
  have e2 := int_of hi.2
  obtain ⟨h0, h1⟩ := inB_iff.1 (must_true hp)
  obtain ⟨b, hb, hbs⟩ := sat_eq h0 h1
  refine good_val h hgr ho (v := .int .u8 (sat v n)) ?_ one_not (tlr_int (β := β) _)
  simp [execOp, hop, e1, e2, Instr.index, asIntOf, run_underlying ht, h0, hb, hbs]
 ·cases hst


theorem rowAt_ok (h : Rel E s a w ω φ β) {r k : Nat} {c : LC} (hr : rowAt s.r r k = some c) : LCr (E.g w ω φ) β r k c := by
 unfold rowAt at hr
 split at hr
 ·rename_i root hroot
  exact h.lc r root k c hroot hr
 ·cases hr

def All : Nat → Prop := fun _ => True

theorem slice_of {S : Nat → Prop} {w : World} {e : K} {xs : List e.ty} {v : Value} (h : Sh S w (.row e) xs (one v)) :
  ∃ a len cap, v = .slice a len cap ∧ xs.length = len ∧ len ≤ cap ∧ (xs = [] ∨ ∃ b o, a = some ⟨b, o, none⟩ ∧ S b ∧ ∀ i (h : i < xs.length), Sh S w e xs[i] (fun j => cel w b (o + i * e.width + j))) := by
 obtain ⟨a, len, cap, h1, h2⟩ := h
 exact ⟨a, len, cap, by simpa [one] using h1, h2⟩

theorem own_len {G : GW} {ρ : Nat × Nat} {e : K} {o : Nat} {xs : List e.ty} {l : Loc} (h : OW G ρ none (.row e) (o + 1) xs l) : ∃ a cap, G.val l = some (.slice a xs.length cap) := by
 simp only [OW] at h
 obtain ⟨a, len, cap, h1, h2, _⟩ := h.resolve_left (by simp)
 exact ⟨a, cap, by rw [h1, h2]⟩

theorem readRow_ok (h : Rel E s a w ω φ β) {l : TL} {v : Value} (hl : TLr (E.g w ω φ) β l v) {p : (e : K) × List e.ty} (hp : readRow s.r l = some p) :
  Sh All w (.row p.1) p.2 (one v) := by
 unfold readRow at hp
 simp only [iplus] at hp
 split at hp
 ·cases hp; exact Sh.mono (fun _ _ => trivial) (fun _ _ _ => rfl) _ _ _ hl.2
 ·rename_i r k
  split at hp
  ·rename_i o e xs hr
   cases hp
   have hc := rowAt_ok h hr
   have hs := OW.sh (S' := All) (fun _ _ => trivial) (fun _ _ _ => trivial) _ _ _ _ hc.2
   refine Sh.congr _ _ _ _ (fun j hj => ?_) hs
   obtain rfl : j = 0 := by simp [K.width] at hj; omega
   have hl' : (E.g w ω φ).val (locR β r k) = some v := hl
   rw [Loc.add_zero, hl']; rfl
  ·cases hp
 ·rename_i r k e lo n
  split at hp
  ·rename_i o e' xs hr
   split at hp
   ·rename_i he
    subst he
    cases hp
    have hc := rowAt_ok h hr
    have hs := OW.sh (S' := All) (fun _ _ => trivial) (fun _ _ _ => trivial) _ _ _ _ hc.2
    obtain ⟨a1, len, cap, a', cap', h1, h2, hcap, h3, h4, h5, h6⟩ := hl
    obtain ⟨a2, len2, cap2, g1, g2, gle, g3⟩ := hs
    have g1' : (E.g w ω φ).val ((locR β r k).add 0) = some (.slice a2 len2 cap2) := g1
    rw [Loc.add_zero, h1] at g1'
    cases g1'
    have hcut : (rcut xs lo (lo + n)).length = n.toNat := by
     simp only [rcut, List.length_take, List.length_drop]; omega
    refine ⟨a', n.toNat, cap', by rw [h2]; rfl, hcut, hcap, ?_⟩
    rcases h6 with h6 | ⟨b, o1, h6, h7⟩
    ·left; apply List.eq_nil_of_length_eq_zero; rw [hcut, h6]; rfl
    ·rcases g3 with g3 | ⟨b2, o2, g3, g4, g5⟩
     ·left; subst g3; simp [rcut]
     ·right
      rw [h6] at g3; cases g3
      refine ⟨b, o1 + lo.toNat * e'.width, h7, trivial, fun i hi => ?_⟩
      have hi' : lo.toNat + i < xs.length := by rw [hcut] at hi; omega
      have hg := g5 (lo.toNat + i) hi'
      have he : (rcut xs lo (lo + n))[i] = xs[lo.toNat + i] := by simp [rcut]
      simp only [he]
      refine Sh.congr _ _ _ _ (fun j _ => ?_) hg
      show cel w b _ = cel w b _
      congr 1
      rw [Nat.add_mul]; omega
   ·cases hp
  ·cases hp
 ·cases hp

theorem toList1 {α : Type} {a : Array α} {x : α} (h : a.toList = [x]) : a = #[x] := by rw [← Array.toArray_toList (xs := a), h]
theorem toList2 {α : Type} {a : Array α} {x y : α} (h : a.toList = [x, y]) : a = #[x, y] := by rw [← Array.toArray_toList (xs := a), h]

theorem stMax_ok {x y : Operand} {mx : Bool} {st : Step} {c : Call} (h : Rel E s a w ω φ β) (hg : Met a g) (hgr : s.t.any (grdOn d) = false) (ho : o.dst = some d)
  (hop : o.op = .call c) (hc : c.callee = .builtin (if mx then .max else .min)) (ha : c.args.toList = [x, y])
  (hst : stMax s g d mx x y = some st) : StepOk E P s a w o st := by
 have hx := tlOf_ok h hg x
 have hy := tlOf_ok h hg y
 have ha := toList2 ha
 unfold stMax at hst
 split at hst
 ·rename_i k m k' n h1 h2
  cases hst
  rw [h1] at hx
  rw [h2] at hy
  have e1 := int_of hx.2
  have e2 := int_of hy.2
  have run : (execOp a.eval o).run P w = .ok (.value (.int k (if mx then imax m n else imin m n))) w := by
   cases mx <;> simp [execOp, hop, resolve, hc, ha, invoke, builtin, Builtin.max_, Builtin.min_, Builtin.max2, Builtin.min2, e1, e2, imax, imin]
  exact good_val h hgr ho run one_not (tlr_int (β := β) _)
 ·cases hst

theorem stLen_ok {x : Operand} {t : TypeId} {st : Step} {c : Call} (h : Rel E s a w ω φ β) (hg : Met a g) (hgr : s.t.any (grdOn d) = false) (ho : o.dst = some d)
  (hop : o.op = .call c) (hc : c.callee = .builtin .len) (ha : c.args.toList = [x]) (hat : c.argTypes.toList = [t])
  (hst : stLen P s g d t x = some st) : StepOk E P s a w o st := by
 have hx := tlOf_ok h hg x
 have ha := toList1 ha
 have hat := toList1 hat
 have run : ∀ n : Nat, ((∃ v, a.eval x = .string v ∧ v.size = n ∧ P.underlying t = some .string) ∨ (∃ b cap e, a.eval x = .slice b n cap ∧ P.underlying t = some (.slice e))) →
   (execOp a.eval o).run P w = .ok (.value (.int .i64 n)) w := by
  intro n hn
  simp only [execOp, hop, resolve, hc, ha]
  rcases hn with ⟨v, hv, hs, ht⟩ | ⟨b, cap, e, hv, ht⟩
  ·simp [invoke, builtin, Builtin.len_, hv, hat, run_underlying ht, hs, goInt]
  ·simp [invoke, builtin, Builtin.len_, hv, hat, run_underlying ht, goInt]
 unfold stLen at hst
 split at hst
 ·rename_i v ht hl
  cases hst
  rw [hl] at hx
  exact good_val h hgr ho (run v.size (.inl ⟨v, str_of hx.2, rfl, ht⟩)) one_not (tlr_int (β := β) _)
 ·rename_i e ht hl
  cases hst
  rw [hl] at hx
  exact good_val h hgr ho (run 0 (.inr ⟨none, 0, e, hx, ht⟩)) one_not (tlr_int (β := β) _)
 ·rename_i e r k e' lo n ht hl
  cases hst
  rw [hl] at hx
  obtain ⟨a1, len, cap, a', cap', h1, h2, _, h3, h4, h5, h6⟩ := hx
  have := run n.toNat (.inr ⟨a', cap', e, h2, ht⟩)
  rw [Int.toNat_of_nonneg h4] at this
  exact good_val h hgr ho this one_not (tlr_int (β := β) _)
 ·rename_i e ht _ _
  obtain ⟨p, hp, rfl⟩ := Option.map_eq_some_iff.1 hst
  have hs := readRow_ok h hx hp
  obtain ⟨b, len, cap, hv, hlen, _, _⟩ := slice_of hs
  have := run len (.inr ⟨b, cap, e, hv, ht⟩)
  rw [← hlen] at this
  exact good_val h hgr ho this one_not (tlr_int (β := β) _)
 ·cases hst

end
section
variable {E : Env} {s : St} {a : Act} {w : World} {ω : Nat → Option Tag} {φ : Nat → Nat → Option Value} {β : Nat → Option Nat}
variable {P : Program} {o : Oper} {g : Option (Nat × Bool)} {d : Nat}
theorem elemT_eq {t : TypeId} {f : TypeId → Option Nat} {n : Nat} (h : (elemT P t).bind f = some n) : ∃ e, P.underlying t = some (.slice e) ∧ f e = some n := by
 obtain ⟨e, he, hf⟩ := Option.bind_eq_some_iff.1 h
 unfold elemT at he
 split at he
 ·rename_i e' ht; cases he; exact ⟨e, ht, hf⟩
 ·cases he

theorem run_indexAt {t el : TypeId} {n b o len cap : Nat} {k : IntKind} {i : Int} (ht : P.underlying t = some (.slice el)) (hn : sizeT P el = some n) (h0 : 0 ≤ i) (h1 : i < len) (w : World) :
  (Instr.indexAt t (.slice (some ⟨b, o, none⟩) len cap) (.int k i)).run P w = .ok (.pointer (some ⟨b, o + i.toNat * n, none⟩)) w := by
 simp [Instr.indexAt, asIntOf, run_underlying ht, h0, h1, run_sizeOf hn, add_none]

theorem rget_eq {α : Type} {xs : List α} {i : Int} {d : α} (h0 : 0 ≤ i) (h1 : i < rlen xs) : ∃ h : i.toNat < xs.length, rget xs i d = xs[i.toNat] := by
 have h : i.toNat < xs.length := by unfold rlen at h1; omega
 exact ⟨h, by unfold rget; simp [List.getD, List.getElem?_eq_getElem h]⟩

theorem own_head {G : GW} {ρ : Nat × Nat} {e : K} {o : Nat} {xs : List e.ty} {l : Loc} (h : OW G ρ none (.row e) (o + 1) xs l) {i : Int} (h0 : 0 ≤ i) (h1 : i < rlen xs) :
  ∃ b off cap, G.val l = some (.slice (some ⟨b, off, none⟩) xs.length cap) := by
 simp only [OW] at h
 obtain ⟨a, len, cap, h2, h3, h4⟩ := h.resolve_left (by simp)
 rcases h4 with ⟨_, h5⟩ | ⟨b, off, cs, t, fr, h5, _⟩
 ·subst h5; simp [rlen] at h1; omega
 ·exact ⟨b, off, cap, by rw [h2, h3, h5]⟩

theorem lc_own {r k o : Nat} {e : K} {xs : List e.ty} {hole : Option Loc} (h : LCr (E.g w ω φ) β r k (.own o e xs hole)) : ∃ o', o = o' + 1 ∧ OW (E.g w ω φ) (r, k) hole (.row e) (o' + 1) xs (locR β r k) := by
 obtain ⟨h1, h2⟩ := h
 exact ⟨o - 1, by omega, by rwa [show o - 1 + 1 = o by omega]⟩

theorem lt_of_rlen {α : Type} {xs : List α} {i : Int} {len : Nat} (h : i < rlen xs) (hl : xs.length = len) : i < (len : Int) := by
 unfold rlen at h; omega

theorem sub_arith {lo m n' : Int} {len W n b : Nat} (h0 : 0 ≤ m) (h1 : m < n') (q3 : 0 ≤ lo) (q5 : lo + n' ≤ len) (hw : W = n) :
  m < (n'.toNat : Int) ∧ 0 ≤ lo + m ∧ lo + m < (len : Int) ∧ b + lo.toNat * W + m.toNat * n = b + (lo + m).toNat * W + 0 := by
 refine ⟨by omega, by omega, by omega, ?_⟩
 rw [← hw, show (lo + m).toNat = lo.toNat + m.toNat by omega, Nat.add_mul, Nat.add_zero, Nat.add_assoc]

theorem stIndexAddr_ok {t : TypeId} {x i : Operand} {st : Step} (h : Rel E s a w ω φ β) (hg : Met a g) (hgr : s.t.any (grdOn d) = false) (ho : o.dst = some d)
  (hop : o.op = .indexAddr t x i) (hst : stIndexAddr P s g d t x i = some st) : StepOk E P s a w o st := by
 have hx := tlOf_ok h hg x
 have hi := tlOf_ok h hg i
 unfold stIndexAddr at hst
 simp only [iplus] at hst
 split at hst
 ·rename_i n k m hn hli
  obtain ⟨el, ht, hn⟩ := elemT_eq hn
  rw [hli] at hi
  have e2 := int_of hi.2
  split at hst
  ·rename_i e xs hlx
   split at hst
   ·rename_i hw
    cases hst
    intro p hp
    obtain ⟨h0, h1⟩ := inB_iff.1 (must_true hp)
    rw [hlx] at hx
    obtain ⟨b, len, cap, hv, hlen, _, hb⟩ := slice_of hx.2
    obtain ⟨hlt, hget⟩ := rget_eq (d := e.dflt) h0 h1
    rcases hb with hb | ⟨b, o1, rfl, hS, hel⟩
    ·subst hb; simp at hlt
    ·refine good_val h hgr ho (v := .pointer (some ⟨b, o1 + m.toNat * n, none⟩)) ?_ one_not ⟨b, o1 + m.toNat * n, rfl, hS, ?_⟩
     ·have h1' := lt_of_rlen h1 hlen
      simp [execOp, hop, hv, e2, run_indexAt ht hn h0 h1']
     ·rw [hget, ← hw]
      have := hel m.toNat hlt
      exact this
   ·cases hst
  ·rename_i r k' hlx
   split at hst
   ·rename_i o' e xs hr
    split at hst
    ·rename_i hw
     cases hst
     intro p hp
     obtain ⟨h0, h1⟩ := inB_iff.1 (must_true hp)
     rw [hlx] at hx
     obtain ⟨o'', rfl, hc⟩ := lc_own (rowAt_ok h hr)
     obtain ⟨b, off, cap, hval⟩ := own_head hc h0 h1
     have hx' : (E.g w ω φ).val (locR β r k') = some (a.eval x) := hx
     rw [hval] at hx'
     have hv := (Option.some.inj hx').symm
     have h1' : (m : Int) < (xs.length : Int) := h1
     refine good_val h hgr ho (v := .pointer (some ⟨b, off + m.toNat * n, none⟩)) (by simp [execOp, hop, hv, e2, run_indexAt ht hn h0 h1']) one_not ⟨b, off, _, cap, hval, h0, h1', ?_⟩
     rw [hw]; rfl
    ·cases hst
   ·cases hst
  ·rename_i r k' e lo n' hlx
   split at hst
   ·rename_i o' e' xs hr
    split at hst
    ·rename_i hw
     obtain ⟨hw, rfl⟩ := hw
     cases hst
     intro p hp
     obtain ⟨h0, h1⟩ : (0 : Int) ≤ (m : Int) ∧ (m : Int) < n' := inB_iff.1 (must_true hp)
     rw [hlx] at hx
     obtain ⟨a1, len, cap, a', cap', q1, q2, _, q3, q4, q5, q6⟩ := hx
     rcases q6 with q6 | ⟨b, o1, rfl, rfl⟩
     ·rw [q6] at h1; exact absurd (Int.lt_of_le_of_lt h0 h1) (Int.lt_irrefl 0)
     ·obtain ⟨h1', h2', h3', h4'⟩ := sub_arith (b := o1) h0 h1 q3 q5 hw
      exact good_val h hgr ho (v := .pointer (some ⟨b, o1 + lo.toNat * e'.width + m.toNat * n, none⟩)) (by simp [execOp, hop, q2, e2, run_indexAt ht hn h0 h1']) one_not
       ⟨b, o1, len, cap, q1, h2', h3', by rw [h4']⟩
    ·cases hst
   ·cases hst
  ·cases hst
 ·cases hst

theorem capsOf_ok (h : Rel E s a w ω φ β) (hg : Met a g) : ∀ (xs : List Operand) (cs : List Nat), capsOf s g xs = some cs →
  xs.length = cs.length ∧ ∀ (i r : Nat), cs[i]? = some r → ∃ b : Nat, β r = some b ∧ (xs.map a.eval)[i]? = some (Value.pointer (some ⟨b, 0, none⟩))
 | [], cs, hc => by simp [capsOf] at hc; subst hc; exact ⟨rfl, fun i r hi => by simp at hi⟩
 | x :: xs, cs, hc => by
  unfold capsOf at hc
  split at hc
  ·rename_i r rs hl hrs
   cases hc
   have hx := tlOf_ok h hg x
   rw [hl] at hx
   obtain ⟨b, hb, hv⟩ := hx
   obtain ⟨ih1, ih2⟩ := capsOf_ok h hg xs rs hrs
   refine ⟨by simp [ih1], fun i r' hi => ?_⟩
   cases i with
   | zero => simp at hi; subst hi; exact ⟨b, hb, by simp [hv]⟩
   | succ i => simp at hi; obtain ⟨b', h1, h2⟩ := ih2 i r' hi; exact ⟨b', h1, by simpa using h2⟩
  ·cases hc

theorem stMakeFunc_ok {fn : Fn} {first captured : Array Operand} {st : Step} (h : Rel E s a w ω φ β) (hg : Met a g) (hgr : s.t.any (grdOn d) = false) (ho : o.dst = some d)
  (hop : o.op = .makeFunc fn first captured) (hst : stMakeFunc s g d fn first captured = some st) : StepOk E P s a w o st := by
 unfold stMakeFunc at hst
 split at hst
 ·rename_i f hf
  obtain ⟨cs, hcs, rfl⟩ := Option.map_eq_some_iff.1 hst
  obtain ⟨h1, h2⟩ := capsOf_ok h hg _ _ hcs
  have hfirst : first = #[] := by rw [← Array.toArray_toList (xs := first), hf]
  refine good_val h hgr ho (v := .func (.func f) #[] (captured.map a.eval)) (by simp [execOp, hop, hfirst, Instr.makeFunc]) one_not ⟨captured.map a.eval, rfl, by simpa using h1, fun i r hi => ?_⟩
  obtain ⟨b, hb, hv⟩ := h2 i r hi
  exact ⟨b, hb, by simpa using hv⟩
 ·cases hst

theorem gather_ok {f : Nat → Option TL} : ∀ (n i : Nat) (ls : List TL), gather n i f = some ls → ls.length = n ∧ ∀ j, j < n → ∃ l, ls[j]? = some l ∧ f (i + j) = some l
 | 0, i, ls, h => by simp [gather] at h; subst h; exact ⟨rfl, fun j hj => absurd hj (Nat.not_lt_zero _)⟩
 | n + 1, i, ls, h => by
  unfold gather at h
  split at h
  ·rename_i l hl
   obtain ⟨ls', h', rfl⟩ := Option.map_eq_some_iff.1 h
   obtain ⟨h1, h2⟩ := gather_ok n (i + 1) ls' h'
   refine ⟨by simp [h1], fun j hj => ?_⟩
   cases j with
   | zero => exact ⟨l, rfl, hl⟩
   | succ j =>
    obtain ⟨l', h3, h4⟩ := h2 j (by omega)
    exact ⟨l', by simpa using h3, by rw [← h4]; congr 1; omega⟩
  ·cases h

theorem run_loadVar_cells {t : TypeId} {ag : Bool} {b o n : Nat} {cs : List Value} (hag : isAggT P t = some ag) (hn : sizeT P t = some n) (hl : cs.length = n) (h1 : ag = false → n = 1)
  (hc : ∀ j v, cs[j]? = some v → w.cell? ⟨b, o + j, none⟩ = some v) :
  (loadVar t ⟨b, o, none⟩).run P w = .ok (if ag then .agg cs.toArray else cs.headD undef) w := by
 unfold isAggT at hag
 have hcs := run_loadCells_list (P := P) w ⟨b, o, none⟩ cs (fun j v hj => by rw [add_none]; exact hc j v hj)
 cases ag with
 | true =>
  split at hag
  ·rename_i fs ht; simp [loadVar, isAgg, run_underlying ht, run_sizeOf hn, ← hl, hcs]
  ·rename_i m e ht; simp [loadVar, isAgg, run_underlying ht, run_sizeOf hn, ← hl, hcs]
  ·cases hag
  ·cases hag
 | false =>
  split at hag
  ·cases hag
  ·cases hag
  ·rename_i td hn1 hn2 ht
   have hl1 : cs.length = 1 := by rw [hl]; exact h1 rfl
   obtain ⟨v, rfl⟩ : ∃ v, cs = [v] := by
    match cs, hl1 with | [v], _ => exact ⟨v, rfl⟩
   have h0 := hc 0 v rfl
   have hnot : (isAgg t).run P w = .ok false w := by
    unfold isAgg
    rw [Sem.run_bind, run_underlying ht]
    cases td <;> first | rfl | exact absurd rfl (hn1 _) | exact absurd rfl (hn2 _ _)
   simp at h0
   simp [loadVar, hnot, h0]
  ·cases hag

theorem mkTV_ok {R : TL → Value → Prop} {tmps : Array Value} {ag : Bool} {ls : List TL} {cs : List Value} {tv : TV} (h : mkTV ag ls = some tv) (hl : cs.length = ls.length)
  (hr : ∀ (j : Nat) (l : TL), ls[j]? = some l → ∃ c, cs[j]? = some c ∧ R l c) : (∀ x y z, tv ≠ .grd x y z) ∧ TVr R tmps tv (if ag then .agg cs.toArray else cs.headD undef) := by
 unfold mkTV at h
 split at h
 ·rename_i hag
  cases h
  exact ⟨agg_not, by rw [if_pos hag]; exact ⟨cs.toArray, rfl, by simpa using hl, fun j l hj => by simpa using hr j l hj⟩⟩
 ·rename_i hag
  split at h
  ·cases h
   refine ⟨one_not, ?_⟩
   rw [if_neg hag]
   obtain ⟨c, hc, hcr⟩ := hr 0 _ rfl
   cases cs with
   | nil => simp at hc
   | cons v vs => simp at hc; subst hc; exact hcr
  ·cases h


theorem load_cells {R : TL → Value → Prop} {tmps : Array Value} {t : TypeId} {ag : Bool} {b off n : Nat} {ls : List TL} {tv : TV} (hag : isAggT P t = some ag) (hn : sizeT P t = some n)
  (hm : mkTV ag ls = some tv) (hl : ls.length = n) (hc : ∀ j l, ls[j]? = some l → ∃ v, w.cell? ⟨b, off + j, none⟩ = some v ∧ R l v) :
  ∃ v, (loadVar t ⟨b, off, none⟩).run P w = .ok v w ∧ (∀ x y z, tv ≠ .grd x y z) ∧ TVr R tmps tv v := by
 let cs : List Value := (List.range n).map fun j => (w.cell? ⟨b, off + j, none⟩).getD undef
 have hcl : cs.length = n := by simp [cs]
 have hcs : ∀ j l, ls[j]? = some l → ∃ c, cs[j]? = some c ∧ w.cell? ⟨b, off + j, none⟩ = some c ∧ R l c := by
  intro j l hj
  have hlt : j < n := by rw [← hl]; exact (List.getElem?_eq_some_iff.1 hj).1
  obtain ⟨v, hv, hr⟩ := hc j l hj
  exact ⟨v, by simp [cs, hlt, hv], hv, hr⟩
 have h1 : ag = false → n = 1 := by
  intro e
  subst e
  unfold mkTV at hm
  simp only [Bool.false_eq_true, if_false] at hm
  split at hm
  ·rw [← hl]; rfl
  ·cases hm
 refine ⟨_, run_loadVar_cells hag hn hcl h1 (fun j v hj => ?_), mkTV_ok hm (hcl.trans hl.symm) (fun j l hj => ?_)⟩
 ·have hlt : j < n := by rw [← hcl]; exact (List.getElem?_eq_some_iff.1 hj).1
  obtain ⟨l, hlj⟩ : ∃ l, ls[j]? = some l := ⟨ls[j]'(by rw [hl]; exact hlt), List.getElem?_eq_getElem _⟩
  obtain ⟨c, hc1, hc2, _⟩ := hcs j l hlj
  rw [hj] at hc1; cases hc1; exact hc2
 ·obtain ⟨c, hc1, _, hc3⟩ := hcs j l hj
  exact ⟨c, hc1, hc3⟩

theorem leaf_one {S : Nat → Prop} {k : K} {x : k.ty} {c : Nat → Option Value} {v : Value} (h : Sh S w k x c) (hk : k.isLeaf = true) (hc : c 0 = some v) : Sh S w k x (one v) := by
 refine Sh.congr _ _ _ _ (fun j hj => ?_) h
 rw [leaf_width hk] at hj
 obtain rfl : j = 0 := by omega
 rw [hc]; rfl

theorem leaf_tl {G : GW} {e : K} {x : e.ty} {c : Nat → Option Value} (h : Sh G.S G.w e x c) {j : Nat} {l : Leaf} (hl : (leaves e x)[j]? = some l) : ∃ v, c j = some v ∧ TLr G β l.tl v := by
 have h1 := Sh.leaf _ _ _ h j l hl
 have hk := leaves_isLeaf _ _ _ _ hl
 obtain ⟨v, hv⟩ := Sh_some _ _ _ h1 0 (by rw [leaf_width hk]; exact Nat.one_pos)
 exact ⟨v, hv, hk, leaf_one h1 hk hv⟩

theorem hasRow_leaf : ∀ (e : K) (x : e.ty) (j : Nat) (l : Leaf), e.hasRow = false → (leaves e x)[j]? = some l → ∀ e', l.k ≠ .row e'
 | .unit, _, _, _, _, h => by simp [leaves] at h
 | .pair a b, x, j, l, hr, h => by
  simp only [K.hasRow, Bool.or_eq_false_iff] at hr
  simp only [leaves] at h
  by_cases hj : j < (leaves a x.1).length
  ·rw [List.getElem?_append_left hj] at h; exact hasRow_leaf a _ _ _ hr.1 h
  ·rw [List.getElem?_append_right (by omega)] at h; exact hasRow_leaf b _ _ _ hr.2 h
 | .int _, x, j, l, hr, h | .bool, x, j, l, hr, h | .str, x, j, l, hr, h => by
  cases j with
  | zero => simp [leaves] at h; subst h; intro e' he; cases he
  | succ j => simp [leaves] at h
 | .row _, _, _, _, hr, _ | .clo _ _, _, _, _, hr, _ | .iptr _, _, _, _, hr, _ => by simp [K.hasRow] at hr

theorem own_elem {G : GW} {ρ : Nat × Nat} {e : K} {o : Nat} {xs : List e.ty} {l : Loc} (h : OW G ρ none (.row e) (o + 1) xs l) (ho : o + 1 = 1 ∨ e.hasRow = false)
  {b off len cap : Nat} (hv : G.val l = some (.slice (some ⟨b, off, none⟩) len cap)) {i : Nat} (hi : i < xs.length) :
  Sh G.S G.w e xs[i] (fun j => cel G.w b (off + i * e.width + j)) := by
 simp only [OW] at h
 obtain ⟨a1, len1, cap1, h2, h3, h4⟩ := h.resolve_left (by simp)
 rw [hv] at h2; cases h2
 rcases h4 with ⟨_, h5⟩ | ⟨b', off', cs, t, fr, h5, h6, h7, h8, h9, h10, h11⟩
 ·subst h5; simp at hi
 ·cases h5
  have h12 := h11 i hi
  rw [Sh_leaves]
  rw [OW_leaves] at h12
  intro j lf hj
  have h13 := h12 j lf hj
  have hk := leaves_isLeaf _ _ _ _ hj
  have key : Sh G.S G.w lf.k lf.x (fun i' => G.val (((Loc.cell b (off + i * e.width)).add j).add i')) := by
   rcases ho with ho | ho
   ·obtain rfl : o = 0 := by omega
    exact (OW_zero _ _ _ _ _ _).1 h13
   ·exact (OW_flat (hasRow_leaf _ _ _ _ ho hj) hk).1 h13
  refine Sh.congr _ _ _ _ (fun i' _ => ?_) key
  simp only [Loc.add, GW.val, Nat.add_assoc]

theorem loadL_ok (h : Rel E s a w ω φ β) {n : Nat} {la : TL} {v0 : Value} {ls : List TL} (hx : TLr (E.g w ω φ) β la v0) (hls : loadL s.r n la = some ls) :
  ls.length = n ∧ ∃ b off, v0 = .pointer (some ⟨b, off, none⟩) ∧ ∀ (j : Nat) (l : TL), ls[j]? = some l → ∃ v, w.cell? ⟨b, off + j, none⟩ = some v ∧ TLr (E.g w ω φ) β l v := by
 unfold loadL at hls
 split at hls
 ·rename_i r off
  obtain ⟨b, hb, hv⟩ := hx
  split at hls
  ·rename_i root hroot
   split at hls
   ·obtain ⟨g1, g2⟩ := gather_ok _ _ _ hls
    refine ⟨g1, b, off, hv, fun j l hj => ?_⟩
    have hlt : j < n := by rw [← g1]; exact (List.getElem?_eq_some_iff.1 hj).1
    obtain ⟨l', h1, h2⟩ := g2 j hlt
    rw [hj] at h1; cases h1
    obtain ⟨c, hc, rfl⟩ := Option.map_eq_some_iff.1 h2
    have hlc := h.lc r root (off + j) c hroot hc
    have hloc : (E.g w ω φ).val (locR β r (off + j)) = w.cell? ⟨b, off + j, none⟩ := by simp only [locR, hb]; rfl
    cases c with
    | own o' e xs hole =>
     obtain ⟨cs, t', fr, hheap, _, hsz⟩ := (h.bx r root hroot).2 b hb
     have hlt' : off + j < cs.size := by rw [hsz]; exact (List.getElem?_eq_some_iff.1 hc).1
     have hcell : w.cell? ⟨b, off + j, none⟩ = some cs[off + j] := by
      rw [cell_of_row w b (off + j) cs t' fr hheap]; exact Array.getElem?_eq_getElem hlt'
     exact ⟨_, hcell, by show (E.g w ω φ).val (locR β r (off + j)) = _; rw [hloc]; exact hcell⟩
    | tl l =>
     obtain ⟨v, h3, h4⟩ := hlc
     exact ⟨v, by rw [← hloc]; exact h3, h4⟩
   ·cases hls
  ·cases hls
 ·rename_i e v off
  obtain ⟨b, o1, hv, hS, hsh⟩ := hx
  obtain ⟨g1, g2⟩ := gather_ok _ _ _ hls
  refine ⟨g1, b, o1 + off, hv, fun j l hj => ?_⟩
  have hlt : j < n := by rw [← g1]; exact (List.getElem?_eq_some_iff.1 hj).1
  obtain ⟨l', h1, h2⟩ := g2 j hlt
  rw [hj] at h1; cases h1
  obtain ⟨lf, hlf, rfl⟩ := Option.map_eq_some_iff.1 h2
  obtain ⟨v', h3, h4⟩ := leaf_tl (β := β) hsh hlf
  exact ⟨v', by rw [← h3]; show cel w b _ = cel w b _; rw [Nat.add_assoc], h4⟩
 ·rename_i r k e i off
  obtain ⟨b, o1, len, cap, hval, h0, h1, hv⟩ := hx
  split at hls
  ·rename_i o' e' xs hr
   split at hls
   ·rename_i he
    subst he
    split at hls
    ·rename_i ho'
     obtain ⟨o'', rfl, hc⟩ := lc_own (rowAt_ok h hr)
     obtain ⟨a1, cap1, hlen⟩ := own_len hc
     rw [hval] at hlen
     have hlen' : len = xs.length := by cases hlen; rfl
     have hi : i.toNat < xs.length := by omega
     have hget : rget xs i e'.dflt = xs[i.toNat] := by unfold rget; simp [List.getD, List.getElem?_eq_getElem hi]
     have hsh := own_elem hc ho' hval hi
     obtain ⟨g1, g2⟩ := gather_ok _ _ _ hls
     refine ⟨g1, b, _, hv, fun j l hj => ?_⟩
     have hlt : j < n := by rw [← g1]; exact (List.getElem?_eq_some_iff.1 hj).1
     obtain ⟨l', h1, h2⟩ := g2 j hlt
     rw [hj] at h1; cases h1
     obtain ⟨lf, hlf, rfl⟩ := Option.map_eq_some_iff.1 h2
     simp only [hget] at hlf
     obtain ⟨v', h3, h4⟩ := leaf_tl (β := β) hsh hlf
     exact ⟨v', by rw [← h3]; show cel w b _ = cel w b _; rw [Nat.add_assoc], h4⟩
    ·cases hls
   ·cases hls
  ·cases hls
 ·cases hls

theorem stLoad_ok {t : TypeId} {x : Operand} {st : Step} (h : Rel E s a w ω φ β) (hg : Met a g) (hgr : s.t.any (grdOn d) = false) (ho : o.dst = some d)
  (hop : o.op = .load t x) (hst : stLoad P s g d t x = some st) : StepOk E P s a w o st := by
 have hx := tlOf_ok h hg x
 unfold stLoad at hst
 split at hst
 ·rename_i n ag hn hag
  obtain ⟨tv, htv, rfl⟩ := Option.map_eq_some_iff.1 hst
  obtain ⟨ls, hls, hm⟩ := Option.bind_eq_some_iff.1 htv
  obtain ⟨hl, b, off, hv, hc⟩ := loadL_ok h hx hls
  obtain ⟨v, h1, h2, h3⟩ := load_cells (tmps := a.tmps) hag hn hm hl hc
  exact good_val h hgr ho (v := v) (by simp [execOp, hop, hv, Instr.loadAt, Instr.sureAddr, h1]) h2 h3
 ·cases hst

end
section
variable {E : Env} {s : St} {a : Act} {w : World} {ω : Nat → Option Tag} {φ : Nat → Nat → Option Value} {β : Nat → Option Nat}
variable {P : Program} {o : Oper} {g : Option (Nat × Bool)} {d : Nat}
theorem run_sliceBound {k : IntKind} {i : Int} {y : Nat} {c : BoundsCode} (h0 : 0 ≤ i) (h1 : i ≤ y) (w : World) : (Instr.sliceBound (.int k i) y c).run P w = .ok i.toNat w := by
 simp [Instr.sliceBound, asIntOf, h0, h1]

def Bnd (v : Option Value) (dflt l : Int) : Prop := (v = none ∧ l = dflt) ∨ ∃ k, v = some (.int k l)

theorem run_sliceBounds {isS : Bool} {len cap : Nat} {lo hi : Option Value} {l h : Int} (hl : Bnd lo 0 l) (hh : Bnd hi len h) (h0 : 0 ≤ l) (h1 : l ≤ h) (h2 : h ≤ len) (hc : len ≤ cap) (w : World) :
  (Instr.sliceBounds isS len cap lo hi none).run P w = .ok (l.toNat, h.toNat, cap) w := by
 have hcap : h ≤ (cap : Int) := by omega
 have hh' : ((h.toNat : Nat) : Int) = h := Int.toNat_of_nonneg (by omega)
 rcases hl with ⟨rfl, rfl⟩ | ⟨k, rfl⟩ <;> rcases hh with ⟨rfl, rfl⟩ | ⟨k', rfl⟩
 ·simp [Instr.sliceBounds]
 ·simp [Instr.sliceBounds, run_sliceBound (by omega : (0 : Int) ≤ h) hcap]
 ·simp [Instr.sliceBounds, run_sliceBound h0 h1]
 ·simp [Instr.sliceBounds, run_sliceBound (by omega : (0 : Int) ≤ h) hcap, run_sliceBound h0 (by omega : l ≤ (h.toNat : Int))]

theorem int?_ok (h : Rel E s a w ω φ β) (hg : Met a g) {dflt l : Int} {x : Option Operand} (hl : TL.int? dflt (x.map fun y => (tvOf s g y).tl) = some l) : Bnd (x.map a.eval) dflt l := by
 cases x with
 | none => simp [TL.int?] at hl; exact .inl ⟨rfl, hl.symm⟩
 | some y =>
  have hy := tlOf_ok h hg y
  simp only [Option.map_some] at hl
  unfold TL.int? at hl
  split at hl
  ·rename_i he; cases he
  ·rename_i k n he
   cases hl
   have he := Option.some.inj he
   rw [he] at hy
   exact .inr ⟨k, by simp [int_of hy.2]⟩
  ·cases hl

theorem stSlice_ok {t : TypeId} {x : Operand} {lo hi : Option Operand} {st : Step} (h : Rel E s a w ω φ β) (hg : Met a g) (hgr : s.t.any (grdOn d) = false) (ho : o.dst = some d)
  (hop : o.op = .slice t x lo hi none) (hst : stSlice P s g d t x lo hi = some st) : StepOk E P s a w o st := by
 have hx := tlOf_ok h hg x
 unfold stSlice at hst
 simp only [iminus] at hst
 split at hst
 ·rename_i v ht hlx
  split at hst
  ·rename_i l hh hl hhi
   cases hst
   intro p hp
   obtain ⟨h0, h1, h2⟩ := cutB_iff.1 (must_true hp)
   rw [hlx] at hx
   have e1 := str_of hx.2
   have b1 := int?_ok h hg hl
   have b2 := int?_ok h hg hhi
   have hb := run_sliceBounds (P := P) (isS := false) b1 b2 h0 h1 h2 (Nat.le_refl _) w
   refine good_val h hgr ho (v := .string (scut v l hh)) ?_ one_not (tlr_str (β := β) _)
   simp [execOp, hop, e1, Instr.sliceAt, Instr.slice, run_underlying ht, hb, scut]
  ·cases hst
 ·rename_i et e xs ht hlx
  split at hst
  ·rename_i l hh n hl hhi hn
   split at hst
   ·rename_i hw
    cases hst
    intro p hp
    obtain ⟨h0, h1, h2⟩ := cutB_iff.1 (must_true hp)
    rw [hlx] at hx
    obtain ⟨b, len, cap, hv, hlen, hle, hb⟩ := slice_of hx.2
    have b1 := int?_ok h hg hl
    have b2 := int?_ok h hg hhi
    have hl' : rlen xs = (len : Int) := by unfold rlen; rw [hlen]
    rw [hl'] at b2 h2
    have hbd := run_sliceBounds (P := P) (isS := true) b1 b2 h0 h1 h2 hle w
    refine good_val h hgr ho (v := .slice (if cap = l.toNat then b else b.map (·.add (l.toNat * n))) (hh.toNat - l.toNat) (cap - l.toNat)) ?_ one_not ⟨rfl, ?_⟩
    ·simp [execOp, hop, hv, Instr.sliceAt, Instr.slice, run_underlying ht, hbd, run_sizeOf hn]
    ·have hcut : (rcut xs l hh).length = hh.toNat - l.toNat := by simp only [rcut, List.length_take, List.length_drop]; omega
     refine ⟨_, _, _, rfl, hcut, by omega, ?_⟩
     rcases hb with hb | ⟨b', o1, rfl, hS, hel⟩
     ·left; subst hb; simp [rcut]
     ·by_cases hz : hh.toNat - l.toNat = 0
      ·left; apply List.eq_nil_of_length_eq_zero; rw [hcut, hz]
      ·right
       have hne : cap ≠ l.toNat := by omega
       refine ⟨b', o1 + l.toNat * n, by simp [hne, add_none], hS, fun i hi => ?_⟩
       have hi' : l.toNat + i < xs.length := by rw [hcut] at hi; omega
       have hgx := hel (l.toNat + i) hi'
       have he : (rcut xs l hh)[i] = xs[l.toNat + i] := by simp [rcut]
       simp only [he]
       refine Sh.congr _ _ _ _ (fun j _ => ?_) hgx
       show cel w b' _ = cel w b' _
       congr 1
       rw [hw, Nat.add_mul]; omega
   ·cases hst
  ·cases hst
 ·rename_i et r k ht hlx
  split at hst
  ·rename_i o' e xs n hr hn
   split at hst
   ·rename_i l hh hl hhi
    split at hst
    ·rename_i hw
     cases hst
     intro p hp
     obtain ⟨h0, h1, h2⟩ := cutB_iff.1 (must_true hp)
     rw [hlx] at hx
     have hx' : (E.g w ω φ).val (locR β r k) = some (a.eval x) := hx
     obtain ⟨o'', rfl, hc⟩ := lc_own (rowAt_ok h hr)
     have hs := OW.sh (S' := All) (fun _ _ => trivial) (fun _ _ _ => trivial) _ _ _ _ hc
     obtain ⟨b, len, cap, hv, hlen, hle, hb⟩ := hs
     have hv' : (E.g w ω φ).val ((locR β r k).add 0) = some (.slice b len cap) := hv
     rw [Loc.add_zero, hx'] at hv'
     have hv := Option.some.inj hv'
     have b1 := int?_ok h hg hl
     have b2 := int?_ok h hg hhi
     have hl' : rlen xs = (len : Int) := by unfold rlen; rw [hlen]
     rw [hl'] at b2 h2
     have hbd := run_sliceBounds (P := P) (isS := true) b1 b2 h0 h1 h2 hle w
     refine good_val h hgr ho (v := .slice (if cap = l.toNat then b else b.map (·.add (l.toNat * n))) (hh.toNat - l.toNat) (cap - l.toNat)) ?_ one_not ?_
     ·simp [execOp, hop, hv, Instr.sliceAt, Instr.slice, run_underlying ht, hbd, run_sizeOf hn]
     ·have hnn : (hh - l).toNat = hh.toNat - l.toNat := by omega
      refine ⟨b, len, cap, _, _, by rw [hx', hv], by rw [hnn], by omega, h0, by omega, by omega, ?_⟩
      rcases hb with hb | ⟨b', o1, rfl, hS, hel⟩
      ·left; subst hb; simp at hlen; omega
      ·by_cases hz : hh.toNat - l.toNat = 0
       ·left; omega
       ·right
        have hne : cap ≠ l.toNat := by omega
        exact ⟨b', o1, rfl, by simp [hne, add_none, hw]⟩
    ·cases hst
   ·cases hst
  ·cases hst
 ·cases hst


theorem run_convert_int {src dst : TypeId} {k k' : IntKind} {n : Int} (hd : P.underlying dst = some (.int k)) (hs : (P.underlying src).isSome = true) (w : World) :
  (convert src dst (.int k' n)).run P w = .ok (.int k (iwrap k n)) w := by
 obtain ⟨ds, hs⟩ := Option.isSome_iff_exists.1 hs
 cases ds <;> simp [convert, run_underlying hs, run_underlying hd, Conv.intToInt, iwrap]

theorem run_convert_str {src dst : TypeId} {v : ByteArray} (hd : P.underlying dst = some .string) (hs : (P.underlying src).isSome = true) (w : World) :
  (convert src dst (.string v)).run P w = .ok (.string v) w := by
 obtain ⟨ds, hs⟩ := Option.isSome_iff_exists.1 hs
 cases ds <;> simp [convert, run_underlying hs, run_underlying hd]

theorem foldl_sof (xs : List Int) : xs.foldl (fun r n => r.push (UInt8.ofNat n.toNat)) ByteArray.empty = sof xs := by
 rw [foldl_push_bytes]
 simp [sof, ByteArray.empty, ByteArray.emptyWithCapacity]
 rfl

theorem run_convert_bytes {src dst e : TypeId} {a1 : Option Addr} {len cap : Nat} {xs : List Int} (hs : P.underlying src = some (.slice e)) (he : P.underlying e = some (.int .u8)) (hd : P.underlying dst = some .string)
  (hl : xs.length = len) (hb : xs = [] ∨ ∃ b o, a1 = some ⟨b, o, none⟩ ∧ ∀ i (h : i < xs.length), w.cell? ⟨b, o + i, none⟩ = some (.int .u8 xs[i])) :
  (convert src dst (.slice a1 len cap)).run P w = .ok (.string (sof xs)) w := by
 rw [run_convert_bytes_string w src dst e a1 len cap hs he hd]
 rcases hb with rfl | ⟨b, o, rfl, hc⟩
 ·cases a1 with
  | none => simp [Conv.bytesToString, sof]; rfl
  | some a1 =>
   obtain rfl : len = 0 := by simpa using hl.symm
   rw [run_bytesToString w a1 0 cap [] (by simp [loadCells, loadCellsFrom]), foldl_sof]
 ·rw [run_bytesToString w _ len cap xs, foldl_sof]
  have := run_loadCells_list (P := P) w ⟨b, o, none⟩ (xs.map (Value.int .u8)) (fun j v hj => by
   rw [List.getElem?_map] at hj
   obtain ⟨y, hy, rfl⟩ := Option.map_eq_some_iff.1 hj
   obtain ⟨hlt, rfl⟩ := List.getElem?_eq_some_iff.1 hy
   rw [add_none]; exact hc j hlt)
  simpa [hl] using this


theorem stConvert_ok {src dst : TypeId} {x : Operand} {st : Step} (h : Rel E s a w ω φ β) (hg : Met a g) (hgr : s.t.any (grdOn d) = false) (ho : o.dst = some d)
  (hop : o.op = .convert src dst x) (hst : stConvert P s g d src dst x = some st)
  (hnew : ∀ e v, P.underlying src = some .string → P.underlying dst = some (.slice e) → P.underlying e = some (.int .u8) → (tvOf s g x).tl = .d .str v → StepOk E P s a w o (.ok (newRow d (.int .u8) (sbytes v)))) :
  StepOk E P s a w o st := by
 have hx := tlOf_ok h hg x
 unfold stConvert at hst
 split at hst
 ·rename_i ds k k' n hs hd hl
  have hs0 : (P.underlying src).isSome = true := by rw [hs]; rfl
  cases hst
  rw [hl] at hx
  exact good_val h hgr ho (v := .int k (iwrap k n)) (by simp [execOp, hop, int_of hx.2, run_convert_int hd hs0]) one_not (tlr_int (β := β) _)
 ·rename_i ds v hs hd hl
  have hs0 : (P.underlying src).isSome = true := by rw [hs]; rfl
  cases hst
  rw [hl] at hx
  exact good_val h hgr ho (v := .string v) (by simp [execOp, hop, str_of hx.2, run_convert_str hd hs0]) one_not (tlr_str (β := β) _)
 ·rename_i e v hsr hd hl
  split at hst
  ·rename_i he
   cases hst
   exact hnew e v hsr hd he hl
  ·cases hst
 ·rename_i e hsr hd _
  split at hst
  ·rename_i xs he hr
   cases hst
   have hsh := readRow_ok h hx hr
   obtain ⟨a1, len, cap, hv, hlen, hle, hb⟩ := slice_of hsh
   refine good_val h hgr ho (v := .string (sof xs)) ?_ one_not (tlr_str (β := β) _)
   have := run_convert_bytes (P := P) (w := w) (cap := cap) hsr he hd hlen (hb.imp id fun ⟨b, o1, h1, _, h3⟩ => ⟨b, o1, h1, fun i hi => by
    have := h3 i hi
    simpa [Sh, K.width] using this⟩)
   simp [execOp, hop, hv, this]
  ·cases hst
 ·cases hst

theorem stField_ok {t : TypeId} {x : Operand} {f : Nat} {st : Step} (h : Rel E s a w ω φ β) (hg : Met a g) (hgr : s.t.any (grdOn d) = false) (ho : o.dst = some d)
  (hop : o.op = .field t x f) (hst : stField P s g d t x f = some st) : StepOk E P s a w o st := by
 have hx := tvOf_ok h hg x
 unfold stField at hst
 split at hst
 ·rename_i fs ls ht hl
  rw [hl] at hx
  obtain ⟨cs, hv, hsz, hall⟩ := hx
  split at hst
  ·rename_i fl hf
   split at hst
   ·rename_i n ag hn hag
    obtain ⟨tv, htv, rfl⟩ := Option.map_eq_some_iff.1 hst
    obtain ⟨ys, hys, hm⟩ := Option.bind_eq_some_iff.1 htv
    obtain ⟨g1, g2⟩ := gather_ok _ _ _ hys
    have hcs : ∀ (j : Nat) (l : TL), ys[j]? = some l → ∃ c, (cs.extract fl.offset (fl.offset + n)).toList[j]? = some c ∧ TLr (E.g w ω φ) β l c := by
     intro j l hj
     have hlt : j < n := by rw [← g1]; exact (List.getElem?_eq_some_iff.1 hj).1
     obtain ⟨l', h1, h2⟩ := g2 j hlt
     rw [hj] at h1; cases h1
     obtain ⟨c, hc, hr⟩ := hall _ _ h2
     refine ⟨c, ?_, hr⟩
     simp only [Array.toList_extract, List.extract_eq_take_drop]
     simp [List.getElem?_drop, hlt, hc]
    have hsz' : (cs.extract fl.offset (fl.offset + n)).toList.length = ys.length := by
     rw [g1]
     rcases Nat.eq_zero_or_pos n with h0 | h0
     ·subst h0; simp
     ·obtain ⟨l', h1, h2⟩ := g2 (n - 1) (by omega)
      have hb := (List.getElem?_eq_some_iff.1 h2).1
      simp; omega
    have hm' := mkTV_ok (tmps := a.tmps) hm hsz' hcs
    refine good_val h hgr ho ?_ hm'.1 hm'.2
    have hpart : (part fl.type cs fl.offset).run P w = .ok (if ag then .agg (cs.extract fl.offset (fl.offset + n)).toList.toArray else (cs.extract fl.offset (fl.offset + n)).toList.headD undef) w := by
     unfold isAggT at hag
     split at hag
     ·rename_i fs' ht'; cases hag; simp [part, isAgg, run_underlying ht', run_sizeOf hn]; apply Array.ext'; simp
     ·rename_i m e ht'; cases hag; simp [part, isAgg, run_underlying ht', run_sizeOf hn]; apply Array.ext'; simp
     ·rename_i td hn1 hn2 ht'
      cases hag
      have hnot : (isAgg fl.type).run P w = .ok false w := by
       unfold isAgg
       rw [Sem.run_bind, run_underlying ht']
       cases td <;> first | rfl | exact absurd rfl (hn1 _) | exact absurd rfl (hn2 _ _)
      have hy1 : ∃ l, ys = [l] := by
       unfold mkTV at hm
       simp only [Bool.false_eq_true, if_false] at hm
       split at hm
       ·exact ⟨_, rfl⟩
       ·cases hm
      obtain ⟨l, rfl⟩ := hy1
      obtain ⟨c, hc, _⟩ := hcs 0 l rfl
      have hc' : cs[fl.offset]? = some c := by
       obtain ⟨l', h1, h2⟩ := g2 0 (by rw [← g1]; exact Nat.one_pos)
       obtain ⟨c', hc', _⟩ := hall _ _ h2
       have : (cs.extract fl.offset (fl.offset + n)).toList[0]? = cs[fl.offset]? := by
        simp only [Array.toList_extract, List.extract_eq_take_drop]
        have : 0 < n := by rw [← g1]; exact Nat.one_pos
        simp [List.getElem?_drop, this]
       rw [← this]; exact hc
      have hhead : (cs.extract fl.offset (fl.offset + n)).toList.headD undef = c := by
       cases hq : (cs.extract fl.offset (fl.offset + n)).toList with
       | nil => rw [hq] at hc; simp at hc
       | cons y ys => rw [hq] at hc; simp at hc; rw [hc]; rfl
      rw [hhead]
      simp [part, hnot, hc']
     ·cases hag
    simp [execOp, hop, hv, Instr.field, run_underlying ht, hf, asAgg, hpart]
   ·cases hst
  ·cases hst
 ·cases hst

end
section
variable {E : Env} {s : St} {a : Act} {w w' : World} {ω ω' : Nat → Option Tag} {φ φ' : Nat → Nat → Option Value} {β β' : Nat → Option Nat}
variable {P : Program} {o : Oper} {g : Option (Nat × Bool)} {d : Nat}
theorem cel_old (hh : ∀ b, b < w.heap.size → w'.heap[b]? = w.heap[b]?) {b o1 : Nat} (hb : b < w.heap.size) : cel w' b o1 = cel w b o1 := by
 simp only [cel, World.cell?, hh b hb]

theorem cel_lt {b o1 : Nat} {v : Value} (h : cel w b o1 = some v) : b < w.heap.size := block_lt_of_cell h

structure Grows (w w' : World) (ω ω' : Nat → Option Tag) (M : Nat × Nat → Prop) : Prop where
 size : w.heap.size ≤ w'.heap.size
 heap : ∀ b, b < w.heap.size → w'.heap[b]? = w.heap[b]?
 tag : ∀ b, b < w.heap.size → (∀ ρ l, ω b = some (.own ρ l) → ¬ M ρ) → ω' b = ω b
 io : Like w w'

theorem Grows.S {M : Nat × Nat → Prop} (hg : Grows w w' ω ω' M) {b : Nat} (h : E.S w ω b) : E.S w' ω' b ∧ ∀ o1, cel w' b o1 = cel w b o1 := by
 obtain ⟨h1, h2, h3⟩ := h
 refine ⟨⟨Nat.lt_of_lt_of_le h1 hg.size, ?_, h3⟩, fun o1 => cel_old hg.heap h1⟩
 rw [hg.tag b h1 (fun ρ l hl => by rw [h2] at hl; cases hl), h2]

theorem Sh_grow {M : Nat × Nat → Prop} (hg : Grows w w' ω ω' M) {k : K} {x : k.ty} {c : Nat → Option Value} (h : Sh (E.S w ω) w k x c) : Sh (E.S w' ω') w' k x c :=
 Sh.mono (fun _ hb => (hg.S hb).1) (fun _ hb => (hg.S hb).2) _ _ _ h

theorem val_grow {M : Nat × Nat → Prop} (hg : Grows w w' ω ω' M) {r k : Nat} {v : Value} (hβ : β' r = β r) (hφ : φ' r k = φ r k) (h : (E.g w ω φ).val (locR β r k) = some v) :
  (E.g w' ω' φ').val (locR β' r k) = some v := by
 unfold locR at *
 rw [hβ]
 cases hb : β r with
 | none => rw [hb] at h; simp only [GW.val, Env.g] at *; rw [hφ]; exact h
 | some b => rw [hb] at h; simp only [GW.val, Env.g] at *; rw [cel_old hg.heap (cel_lt h)]; exact h

theorem hits_root {q : Kill} {r k : Nat} (h : q.hits r k = false) : q.roots.elem r = false := by
 unfold Kill.hits at h; simp only [Bool.or_eq_false_iff] at h; exact h.1

theorem TLr_grow {M : Nat × Nat → Prop} (hg : Grows w w' ω ω' M) {q : Kill} (hβ : ∀ r, q.roots.elem r = false → β' r = β r ∧ ∀ k, φ' r k = φ r k) :
  Stays (TLr (E.g w ω φ) β) (TLr (E.g w' ω' φ') β') q := by
 intro l v h
 cases l with
 | d k x => exact ⟨h.1, Sh_grow hg h.2⟩
 | nil => exact h
 | x => trivial
 | ref r k =>
  simp only [TL.kill]
  split
  ·trivial
  ·rename_i hq
   have := hβ r (hits_root (by simpa using hq))
   exact val_grow hg this.1 (this.2 k) h
 | sub r k e lo n =>
  simp only [TL.kill]
  split
  ·trivial
  ·rename_i hq
   have hb := hβ r (hits_root (by simpa using hq))
   obtain ⟨a1, len, cap, a', cap', h1, h2⟩ := h
   exact ⟨a1, len, cap, a', cap', val_grow hg hb.1 (hb.2 k) h1, h2⟩
 | ead r k e i off =>
  simp only [TL.kill]
  split
  ·trivial
  ·rename_i hq
   have hb := hβ r (hits_root (by simpa using hq))
   obtain ⟨b, o1, len, cap, h1, h2⟩ := h
   exact ⟨b, o1, len, cap, val_grow hg hb.1 (hb.2 k) h1, h2⟩
 | adr r off =>
  simp only [TL.kill]
  split
  ·trivial
  ·rename_i hq
   obtain ⟨b, h1, h2⟩ := h
   exact ⟨b, by rw [(hβ r (by simpa using hq)).1]; exact h1, h2⟩
 | iad e x off =>
  obtain ⟨b, o1, h1, h2, h3⟩ := h
  refine ⟨b, o1, h1, (hg.S h2).1, ?_⟩
  have := Sh_grow (E := E) hg h3
  refine Sh.congr _ _ _ _ (fun j _ => ?_) this
  exact (hg.S h2).2 _
 | clo fn caps =>
  simp only [TL.kill]
  split
  ·trivial
  ·rename_i hq
   obtain ⟨vs, h1, h2, h3⟩ := h
   refine ⟨vs, h1, h2, fun i r hi => ?_⟩
   obtain ⟨b, h4, h5⟩ := h3 i r hi
   have hr : q.roots.elem r = false := by
    have hq' : ∀ x, x ∈ caps → x ∉ q.roots := by simpa using hq
    simpa using hq' r (List.mem_of_getElem? hi)
   exact ⟨b, by rw [(hβ r hr).1]; exact h4, h5⟩

theorem locval_grow {M : Nat × Nat → Prop} (h : Rel E s a w ω φ β) (hg : Grows w w' ω ω' M) {r k : Nat} (hβ : β' r = β r) (hφ : ∀ k, φ' r k = φ r k) (j : Nat) :
  (E.g w' ω' φ').val ((locR β' r k).add j) = (E.g w ω φ).val ((locR β r k).add j) := by
 unfold locR
 rw [hβ]
 cases hb : β r with
 | none => simp only [GW.val, Env.g, Loc.add, hφ]
 | some b => simp only [GW.val, Env.g, Loc.add]; exact cel_old hg.heap (h.wr.bd _ _ (h.wr.bj _ _ hb))

theorem LCr_grow {M : Nat × Nat → Prop} (h : Rel E s a w ω φ β) (hg : Grows w w' ω ω' M) {q : Kill} (hβ : ∀ r, q.roots.elem r = false → β' r = β r ∧ ∀ k, φ' r k = φ r k)
  {r k : Nat} {c : LC} (hr : q.roots.elem r = false) (hM : ¬ M (r, k)) (hc : LCr (E.g w ω φ) β r k c) : LCr (E.g w' ω' φ') β' r k (c.kill q) := by
 have hl : locR β' r k = locR β r k := by unfold locR; rw [(hβ r hr).1]
 cases c with
 | own o1 e xs hole =>
  refine ⟨hc.1, ?_⟩
  have hv : ∀ j, (E.g w' ω' φ').val ((locR β r k).add j) = (E.g w ω φ).val ((locR β r k).add j) := by
   intro j
   have := locval_grow (E := E) (φ' := φ') (β' := β') (k := k) h hg (hβ r hr).1 (hβ r hr).2 j
   rwa [hl] at this
  rw [hl]
  refine OW.frame (g := E.g w ω φ) (g' := E.g w' ω' φ') (fun b hb => hg.S hb) (fun b l hb => ?_) _ _ _ _ (fun j _ => hv j) hc.2
  have hb : ω b = some (.own (r, k) l) := hb
  have hlt := h.wr.bd _ _ hb
  exact ⟨by show ω' b = _; rw [hg.tag b hlt (fun ρ l' hl' => by rw [hb] at hl'; cases hl'; exact hM)]; exact hb, hg.heap b hlt⟩
 | tl l =>
  obtain ⟨v, h1, h2⟩ := hc
  exact ⟨v, val_grow hg (hβ r hr).1 ((hβ r hr).2 k) h1, TLr_grow hg hβ _ _ h2⟩

theorem Rel.grow {M : Nat × Nat → Prop} {u : Upd} {v : Value} (h : Rel E s a w ω φ β) (hg : Grows w w' ω ω' M) (hpin : ∀ r b, E.pin r = some b → β' r = some b)
  (hβ : ∀ r, u.kill.roots.elem r = false → β' r = β r ∧ ∀ k, φ' r k = φ r k) (hβ' : ∀ r b, β' r = some b → ω' b = some (.box r))
  (hbd : ∀ b tag, ω' b = some tag → b < w'.heap.size) (hM : ∀ r root k, look s.r r = some root → lastPut u.put r = none → ¬ M (r, k))
  (hk : ∀ r root, look s.r r = some root → u.kill.roots.elem r = true → lastPut u.put r ≠ none)
  (hput : ∀ r root, lastPut u.put r = some (some root) → boxOk w' β' r root ∧ ∀ k c, root.ls[k]? = some c → LCr (E.g w' ω' φ') β' r k c)
  (hdst : ∀ d tv, u.dst = some (d, tv) → TVr (TLr (E.g w' ω' φ') β') (a.put (some d) v).tmps tv v ∧ s.t.any (grdOn d) = false) :
  Rel E (s.app u) (a.put (u.dst.map (·.1)) v) w' ω' φ' β' := by
 refine h.step ⟨hβ', hbd, fun b hb h0 => ?_, Nat.le_trans h.wr.bs hg.size, hpin, h.wr.io.trans hg.io⟩ (TLr_grow hg hβ) (fun r root hr hp => ?_) hput ?_
 ·obtain ⟨h1, h2⟩ := h.wr.old b hb h0
  have hlt : b < w.heap.size := Nat.lt_of_lt_of_le hb h.wr.bs
  exact ⟨by rw [hg.tag b hlt (fun ρ l hl => by rw [h1] at hl; cases hl), h1], by rw [hg.heap b hlt, h2]⟩
 ·have hr' : u.kill.roots.elem r = false := by
   cases hq : u.kill.roots.elem r with
   | false => rfl
   | true => exact absurd hp (hk r root hr hq)
  refine ⟨?_, fun k c _ hc => LCr_grow h hg hβ hr' (hM r root k hr hp) hc⟩
  have hb := h.bx r root hr
  refine ⟨by rw [(hβ r hr').1]; exact hb.1, fun b hb' => ?_⟩
  rw [(hβ r hr').1] at hb'
  obtain ⟨cs, t, fr, h1, h2⟩ := hb.2 b hb'
  exact ⟨cs, t, fr, by rw [hg.heap b (h.wr.bd _ _ (h.wr.bj _ _ hb'))]; exact h1, h2⟩
 ·intro d tv hd
  obtain ⟨h1, h2⟩ := hdst d tv hd
  refine ⟨h1, fun t t' wt tv' ht he => ?_⟩
  subst he
  rw [List.any_eq_false] at h2
  exact h2 _ (List.mem_of_getElem? ht) (by simp [grdOn])

theorem OW.retag {G G' : GW} {ρ ρ' : Nat × Nat} {ℓ : Loc} (hS : ∀ b, G.S b → G'.S b ∧ ∀ o, cel G'.w b o = cel G.w b o)
  (hb : ∀ b l, G.ω b = some (.own ρ l) → l ≠ ℓ → G'.ω b = some (.own ρ' l)) (hh : ∀ b l, G.ω b = some (.own ρ l) → G'.w.heap[b]? = G.w.heap[b]?)
  (hne : ∀ b x l, G.ω b = some (.own ρ l) → Loc.cell b x ≠ ℓ) :
  ∀ (k : K) (o : Nat) (x : k.ty) (l : Loc), (∀ j, j < k.width → l.add j ≠ ℓ) → (∀ j, j < k.width → G'.val (l.add j) = G.val (l.add j)) → OW G ρ none k o x l → OW G' ρ' none k o x l
 | .unit, _, _, _, _, _, _ => by simp [OW]
 | .pair a b, o, x, l, hl, hv, h => by
  simp only [OW] at h ⊢
  exact ⟨OW.retag hS hb hh hne a o _ l (fun j hj => hl j (by simp [K.width]; omega)) (fun j hj => hv j (by simp [K.width]; omega)) h.1,
   OW.retag hS hb hh hne b o _ _ (fun j hj => by rw [Loc.add_add]; exact hl _ (by simp [K.width]; omega)) (fun j hj => by rw [Loc.add_add]; exact hv _ (by simp [K.width]; omega)) h.2⟩
 | .row e, 0, xs, l, _, hv, h => by
  rw [OW_zero] at h ⊢
  exact Sh.mono (fun b h => (hS b h).1) (fun b h => (hS b h).2) _ _ _ (Sh.congr _ _ _ _ hv h)
 | .row e, o + 1, xs, l, hl, hv, h => by
  simp only [OW] at h ⊢
  have hl0 := hl 0 (by simp [K.width])
  have hv0 := hv 0 (by simp [K.width])
  rw [Loc.add_zero] at hl0 hv0
  refine h.imp (fun h => by cases h) fun ⟨a, len, cap, h1, h2, h3⟩ => ⟨a, len, cap, hv0.trans h1, h2, h3.imp id fun ⟨b, off, cs, t, fr, h4, h5, h6, h7, hu, h8, h9⟩ =>
   ⟨b, off, cs, t, fr, h4, h5, hb b l h6 hl0, (hh b l h6).trans h7, hu, h8, fun i hi => OW.retag hS hb hh hne e o _ _ (fun j _ => hne b _ l h6) (fun j _ => ?_) (h9 i hi)⟩⟩
  simp only [Loc.add, GW.val, cel, World.cell?, hh b l h6]
 | .int _, o, x, l, _, hv, h => by simp only [OW] at h ⊢; exact Sh.mono (fun b h => (hS b h).1) (fun b h => (hS b h).2) _ _ _ (Sh.congr _ _ _ _ hv h)
 | .bool, o, x, l, _, hv, h => by simp only [OW] at h ⊢; exact Sh.mono (fun b h => (hS b h).1) (fun b h => (hS b h).2) _ _ _ (Sh.congr _ _ _ _ hv h)
 | .str, o, x, l, _, hv, h => by simp only [OW] at h ⊢; exact Sh.mono (fun b h => (hS b h).1) (fun b h => (hS b h).2) _ _ _ (Sh.congr _ _ _ _ hv h)
 | .clo _ _, o, x, l, _, hv, h => by simp only [OW] at h ⊢; exact Sh.mono (fun b h => (hS b h).1) (fun b h => (hS b h).2) _ _ _ (Sh.congr _ _ _ _ hv h)
 | .iptr _, o, x, l, _, hv, h => by simp only [OW] at h ⊢; exact Sh.mono (fun b h => (hS b h).1) (fun b h => (hS b h).2) _ _ _ (Sh.congr _ _ _ _ hv h)

theorem OW.move {G G' : GW} {ρ ρ' : Nat × Nat} {ℓ ℓ' : Loc} (hS : ∀ b, G.S b → G'.S b ∧ ∀ o, cel G'.w b o = cel G.w b o)
  (hb : ∀ b l, G.ω b = some (.own ρ l) → G'.ω b = some (.own ρ' (if l = ℓ then ℓ' else l))) (hh : ∀ b l, G.ω b = some (.own ρ l) → G'.w.heap[b]? = G.w.heap[b]?)
  (hne : ∀ b x l, G.ω b = some (.own ρ l) → Loc.cell b x ≠ ℓ) {e : K} {o : Nat} {xs : List e.ty} (hv : G'.val ℓ' = G.val ℓ) (h : OW G ρ none (.row e) (o + 1) xs ℓ) :
  OW G' ρ' none (.row e) (o + 1) xs ℓ' := by
 simp only [OW] at h ⊢
 refine h.imp (fun h => by cases h) fun ⟨a, len, cap, h1, h2, h3⟩ => ⟨a, len, cap, hv.trans h1, h2, h3.imp id fun ⟨b, off, cs, t, fr, h4, h5, h6, h7, hu, h8, h9⟩ =>
   ⟨b, off, cs, t, fr, h4, h5, by rw [hb b _ h6, if_pos rfl], (hh b _ h6).trans h7, hu, h8, fun i hi =>
    OW.retag hS (fun b' l hl hne' => by rw [hb b' l hl, if_neg hne']) hh hne e o _ _ (fun j _ => hne b _ _ h6) (fun j _ => ?_) (h9 i hi)⟩⟩
 simp only [Loc.add, GW.val, cel, World.cell?, hh b _ h6]

end
section
variable {E : Env} {s : St} {a : Act} {w w' : World} {ω ω' : Nat → Option Tag} {φ φ' : Nat → Nat → Option Value} {β β' : Nat → Option Nat}
variable {P : Program} {o : Oper} {g : Option (Nat × Bool)} {d : Nat}
def thaw (fz : List (Nat × Nat)) (ω : Nat → Option Tag) (b : Nat) : Option Tag :=
 match ω b with
 | some (.own ρ l) => if fz.any (fun h => h.1 == ρ.1 && h.2 == ρ.2) then none else some (.own ρ l)
 | t => t

theorem thaw_own {fz : List (Nat × Nat)} {b : Nat} {r k : Nat} {l : Loc} (h : ω b = some (.own (r, k) l)) (hm : (r, k) ∈ fz) : thaw fz ω b = none := by
 unfold thaw
 rw [h]
 simp only
 rw [if_pos]
 rw [List.any_eq_true]
 exact ⟨(r, k), hm, by simp⟩

theorem thaw_keep {fz : List (Nat × Nat)} {b : Nat} (h : ∀ ρ l, ω b = some (.own ρ l) → ¬ ρ ∈ fz) : thaw fz ω b = ω b := by
 unfold thaw
 split
 ·rename_i ρ l hb
  rw [if_neg]
  ·exact hb.symm
  ·intro hc
   rw [List.any_eq_true] at hc
   obtain ⟨x, hx, he⟩ := hc
   simp only [Bool.and_eq_true, beq_iff_eq] at he
   exact h ρ l hb (by rw [show ρ = x from Prod.ext he.1.symm he.2.symm]; exact hx)
 ·rfl

theorem thaw_some {fz : List (Nat × Nat)} {b : Nat} {t : Tag} (h : thaw fz ω b = some t) : ω b = some t := by
 unfold thaw at h
 split at h
 ·rename_i ρ l hb
  split at h
  ·cases h
  ·rw [hb]; exact h
 ·exact h

theorem frozen_sh (h : Rel E s a w ω φ β) (hS : ∀ b, E.S w ω b → E.S w' ω' b ∧ ∀ o1, cel w' b o1 = cel w b o1) {r k o1 : Nat} {e : K} {xs : List e.ty} (hr : rowAt s.r r k = some (.own o1 e xs none))
  (hT : ∀ b l, ω b = some (.own (r, k) l) → E.S w' ω' b ∧ ∀ o1, cel w' b o1 = cel w b o1) {v : Value} (hv : (E.g w ω φ).val (locR β r k) = some v) : Sh (E.S w' ω') w' (.row e) xs (one v) := by
 obtain ⟨o'', rfl, hc⟩ := lc_own (rowAt_ok h hr)
 have h1 := OW.sh (S' := fun b => E.S w ω b ∨ ∃ l, ω b = some (.own (r, k) l)) (fun b hb => .inl hb) (fun b l hb => .inr ⟨l, hb⟩) _ _ _ _ hc
 have h2 := Sh.mono (S' := E.S w' ω') (w' := w') (fun b hb => hb.elim (fun h => (hS b h).1) (fun ⟨l, hl⟩ => (hT b l hl).1)) (fun b hb => hb.elim (fun h => (hS b h).2) (fun ⟨l, hl⟩ => (hT b l hl).2)) _ _ _ h1
 refine Sh.congr _ _ _ _ (fun j hj => ?_) h2
 obtain rfl : j = 0 := by simp [K.width] at hj; omega
 rw [Loc.add_zero, hv]; rfl

theorem untag_S (h : Rel E s a w ω φ β) {b : Nat} {t : Tag} (hb : ω b = some t) (hn : ω' b = none) (hsz : w.heap.size ≤ w'.heap.size) : E.S w' ω' b := by
 have hlt := h.wr.bd _ _ hb
 refine ⟨Nat.lt_of_lt_of_le hlt hsz, hn, ?_⟩
 by_cases hb0 : b < E.base
 ·right; right
  intro h0
  rw [(h.wr.old b hb0 h0).1] at hb; cases hb
 ·right; left; omega

def nω (w : World) (f : Nat) (fz : List (Nat × Nat)) (ω : Nat → Option Tag) : Nat → Option Tag := fun b => if b = w.heap.size then some (.own (f, 0) (.fl f 0)) else thaw fz ω b
def nφ (f : Nat) (v : Value) (φ : Nat → Nat → Option Value) : Nat → Nat → Option Value := fun r k => if r = f then some v else φ r k
def nβ (f : Nat) (β : Nat → Option Nat) : Nat → Option Nat := fun r => if r = f then none else β r

theorem Wr.pin_nβ {f : Nat} (h : Wr E w ω β) (hf : E.pin f = none) (r b : Nat) (hr : E.pin r = some b) : nβ f β r = some b := by
 unfold nβ
 rw [if_neg (by rintro rfl; rw [hf] at hr; cases hr)]
 exact h.pin r b hr

theorem nω_grows {f : Nat} {fz : List (Nat × Nat)} (hio : Like w w') (hsz : w.heap.size ≤ w'.heap.size) (hold : ∀ b, b < w.heap.size → w'.heap[b]? = w.heap[b]?) : Grows w w' ω (nω w f fz ω) (· ∈ fz) where
 size := hsz
 heap := hold
 tag := fun b hb hn => by
  unfold nω
  rw [if_neg (by omega), thaw_keep hn]
 io := hio

theorem Rel.newRow {u : Upd} {f : Nat} {fz : List (Nat × Nat)} {e : K} {xs : List e.ty} {cs : Array Value} {t : TypeId} {fr : Nat × Nat} {cap : Nat}
  (h : Rel E s a w ω φ β) (hpf : E.pin f = none) (hk : ∀ r, u.kill.roots.elem r = true ↔ r = f) (hd : u.dst = some (d, .one (.ref f 0))) (hlast : lastPut u.put f = some (some (floatRow e xs)))
  (hgr : s.t.any (grdOn d) = false) (hio : Like w w') (hsz : w'.heap.size = w.heap.size + 1) (hold : ∀ b, b < w.heap.size → w'.heap[b]? = w.heap[b]?) (hnew : w'.heap[w.heap.size]? = some (.cells cs t fr))
  (hfr : Unfz fr cs.size) (hcap : xs.length ≤ cap) (hroom : cap * e.width ≤ cs.size)
  (hel : ∀ i (hi : i < xs.length), Sh (E.S w' (nω w f fz ω)) w' e xs[i] (fun j => cs[i * e.width + j]?))
  (hM : ∀ r root k, look s.r r = some root → lastPut u.put r = none → ¬ (r, k) ∈ fz)
  (hput : ∀ r root, r ≠ f → lastPut u.put r = some (some root) → boxOk w' (nβ f β) r root ∧
   ∀ k c, root.ls[k]? = some c → LCr (E.g w' (nω w f fz ω) (nφ f (.slice (some ⟨w.heap.size, 0, none⟩) xs.length cap) φ)) (nβ f β) r k c) :
  RelX E (s.app u) (a.put (some d) (.slice (some ⟨w.heap.size, 0, none⟩) xs.length cap)) w' := by
 have hg : Grows w w' ω (nω w f fz ω) (· ∈ fz) := nω_grows hio (by omega) hold
 refine ⟨nω w f fz ω, nφ f (.slice (some ⟨w.heap.size, 0, none⟩) xs.length cap) φ, nβ f β, ?_⟩
 have key := Rel.grow (φ' := nφ f (.slice (some ⟨w.heap.size, 0, none⟩) xs.length cap) φ) (β' := nβ f β) (u := u) (v := .slice (some ⟨w.heap.size, 0, none⟩) xs.length cap) h hg (h.wr.pin_nβ hpf)
  (fun r hr => by
   have hne : r ≠ f := fun he => by rw [(hk r).2 he] at hr; cases hr
   exact ⟨by simp [nβ, hne], fun k => by simp [nφ, hne]⟩)
  (fun r b hb => by
   unfold nβ at hb
   split at hb
   ·cases hb
   ·have h1 := h.wr.bj r b hb
    have hlt := h.wr.bd _ _ h1
    unfold nω
    rw [if_neg (by omega), thaw_keep (fun ρ l hl => by rw [h1] at hl; cases hl), h1])
  (fun b tag hb => by
   unfold nω at hb
   split at hb
   ·omega
   ·have := h.wr.bd _ _ (thaw_some hb); omega)
  hM (fun r root hr hq => by
   rw [(hk r).1 hq, hlast]; simp)
  (fun r root hp => by
   by_cases he : r = f
   ·subst he
    rw [hlast] at hp
    cases hp
    refine ⟨⟨by simp [floatRow, nβ], fun b hb => by simp [nβ] at hb⟩, fun k c hc => ?_⟩
    cases k with
    | succ k => simp [floatRow] at hc
    | zero =>
     simp [floatRow] at hc
     subst hc
     refine ⟨Nat.le_refl _, ?_⟩
     have hloc : locR (nβ r β) r 0 = .fl r 0 := by simp [locR, nβ]
     rw [hloc]
     simp only [OW]
     right
     refine ⟨_, _, cap, by simp only [GW.val, Env.g, nφ, if_true], rfl, .inr ⟨w.heap.size, 0, cs, t, fr, rfl, hcap, by simp [Env.g, nω], hnew, hfr, by omega, fun i hi => ?_⟩⟩
     rw [OW_zero]
     refine Sh.congr _ _ _ _ (fun j _ => ?_) (hel i hi)
     simp [Loc.add, GW.val, Env.g, cel, World.cell?, hnew]
   ·exact hput r root he hp)
  (fun d' tv hd' => by
   rw [hd] at hd'
   cases hd'
   refine ⟨?_, hgr⟩
   show (E.g w' _ _).val (locR (nβ f β) f 0) = _
   simp [locR, nβ, GW.val, Env.g, nφ])
 rw [hd] at key
 exact key

end
section
variable {E : Env} {s : St} {a : Act} {w w' : World} {ω ω' : Nat → Option Tag} {φ φ' : Nat → Nat → Option Value} {β β' : Nat → Option Nat}
variable {P : Program} {o : Oper} {g : Option (Nat × Bool)} {d : Nat}
theorem kinds_length : ∀ (k : K), k.kinds.length = k.width
 | .unit => rfl
 | .pair a b => by simp [K.kinds, K.width, kinds_length a, kinds_length b]
 | .int _ | .bool | .str | .row _ | .clo _ _ | .iptr _ => rfl

theorem kinds_leaves : ∀ (k : K) (x : k.ty), (leaves k x).map (·.k) = k.kinds
 | .unit, _ => rfl
 | .pair a b, x => by simp [leaves, K.kinds, kinds_leaves a, kinds_leaves b]
 | .int _, _ | .bool, _ | .str, _ | .row _, _ | .clo _ _, _ | .iptr _, _ => rfl

theorem Sh_dflt {S : Nat → Prop} : ∀ (e : K) (c : Nat → Option Value), (∀ j kd, e.kinds[j]? = some kd → ∃ v, c j = some v ∧ isZero kd v = true) → Sh S w e e.dflt c
 | .unit, _, _ => trivial
 | .pair a b, c, h => ⟨Sh_dflt a c (fun j kd hj => h j kd (by
   simp only [K.kinds]; rw [List.getElem?_append_left (List.getElem?_eq_some_iff.1 hj).1]; exact hj)),
   Sh_dflt b _ (fun j kd hj => h (a.width + j) kd (by
    simp only [K.kinds]; rw [List.getElem?_append_right (by rw [kinds_length]; omega), kinds_length, Nat.add_sub_cancel_left]; exact hj))⟩
 | .int k, c, h => by
  obtain ⟨v, hv, hz⟩ := h 0 (.int k) rfl
  rw [isZero_eq hz] at hv; exact hv
 | .bool, c, h => by
  obtain ⟨v, hv, hz⟩ := h 0 .bool rfl
  rw [isZero_eq hz] at hv; exact hv
 | .str, c, h => by
  obtain ⟨v, hv, hz⟩ := h 0 .str rfl
  rw [isZero_eq hz] at hv; exact hv
 | .row e, c, h => by
  obtain ⟨v, hv, hz⟩ := h 0 (.row e) rfl
  rw [isZero_eq hz] at hv
  exact ⟨none, 0, 0, hv, rfl, Nat.le_refl _, .inl rfl⟩
 | .clo f cc, c, h => by
  obtain ⟨v, hv, hz⟩ := h 0 (.clo f cc) rfl
  simp [isZero] at hz
 | .iptr e, c, h => by
  obtain ⟨v, hv, hz⟩ := h 0 (.iptr e) rfl
  simp [isZero] at hz

theorem zerosOk_at {ks : List K} {z : Value} (h : zerosOk ks z = true) : ks.length = z.cells.size ∧ ∀ (j : Nat) (kd : K), ks[j]? = some kd → ∃ v, z.cells[j]? = some v ∧ isZero kd v = true := by
 unfold zerosOk at h
 simp only [Bool.and_eq_true, beq_iff_eq, List.all_eq_true] at h
 refine ⟨h.1, fun j kd hj => ?_⟩
 have hlt : j < z.cells.size := by rw [← h.1]; exact (List.getElem?_eq_some_iff.1 hj).1
 refine ⟨z.cells[j], Array.getElem?_eq_getElem hlt, ?_⟩
 have := h.2 (kd, z.cells[j]) (by
  rw [List.mem_iff_getElem?]
  refine ⟨j, ?_⟩
  rw [List.getElem?_zip_eq_some]
  exact ⟨hj, by simp [hlt]⟩)
 exact this

theorem alloc_heap (w : World) (o1 : Obj) : (w.alloc o1).heap.size = w.heap.size + 1 ∧ (∀ b, b < w.heap.size → (w.alloc o1).heap[b]? = w.heap[b]?) ∧ (w.alloc o1).heap[w.heap.size]? = some o1 :=
 ⟨by show (w.heap.push o1).size = _; simp, fun b hb => (by show (w.heap.push o1)[b]? = w.heap[b]?; rw [Array.getElem?_push_lt hb, Array.getElem?_eq_getElem hb]), heap_alloc_new w o1⟩

theorem alloc_like (w : World) (o1 : Obj) : Like w (w.alloc o1) := ⟨rfl, rfl, rfl⟩

theorem newRow_kill {f r : Nat} : (⟨[f], []⟩ : Kill).roots.elem r = true ↔ r = f := by simp

theorem fresh_row {e : K} {xs : List e.ty} {cs : Array Value} {t : TypeId} {fr : Nat × Nat} {cap : Nat}
  (h : Rel E s a w ω φ β) (hgr : s.t.any (grdOn d) = false) (hio : Like w w') (hsz : w'.heap.size = w.heap.size + 1) (hold : ∀ b, b < w.heap.size → w'.heap[b]? = w.heap[b]?)
  (hnew : w'.heap[w.heap.size]? = some (.cells cs t fr)) (hfr : Unfz fr cs.size) (hcap : xs.length ≤ cap) (hroom : cap * e.width ≤ cs.size)
  (hel : ∀ i (hi : i < xs.length), Sh (E.S w ω) w e xs[i] (fun j => cs[i * e.width + j]?)) :
  RelX E (s.app (newRow d e xs)) (a.put (some d) (.slice (some ⟨w.heap.size, 0, none⟩) xs.length cap)) w' := by
 have hlp : ∀ r, lastPut (newRow d e xs).put r = if fid d 0 = r then some (some (floatRow e xs)) else none := by
  intro r; simp [newRow, lastPut]
 refine Rel.newRow (u := newRow d e xs) (f := fid d 0) (fz := []) (t := t) (fr := fr) h (E.pin_fid d 0) (fun r => newRow_kill) rfl (by rw [hlp]; simp) hgr hio hsz hold hnew hfr hcap hroom
  (fun i hi => Sh_grow (nω_grows hio (by omega) hold) (hel i hi)) (fun _ _ _ _ _ hm => by cases hm) (fun r root hne hp => ?_)
 rw [hlp] at hp
 rw [if_neg (Ne.symm hne)] at hp
 cases hp

theorem stMakeSlice_ok {t : TypeId} {l c : Operand} {st : Step} (h : Rel E s a w ω φ β) (hg : Met a g) (hgr : s.t.any (grdOn d) = false) (ho : o.dst = some d)
  (hop : o.op = .makeSlice t l c) (hst : stMakeSlice P s g d t l c = some st) : StepOk E P s a w o st := by
 have hl := tlOf_ok h hg l
 unfold stMakeSlice at hst
 split at hst
 ·rename_i e i n n2 he hi hln hcn
  obtain ⟨el, ht, he⟩ : ∃ el, P.underlying t = some (.slice el) ∧ kindT P el = some e := by
   obtain ⟨el, h1, h2⟩ := Option.bind_eq_some_iff.1 he
   unfold elemT at h1; split at h1
   ·rename_i e' ht; cases h1; exact ⟨_, ht, h2⟩
   ·cases h1
  have hi' : P.info? el = some i := by
   obtain ⟨el', h1, h2⟩ := Option.bind_eq_some_iff.1 hi
   unfold elemT at h1; rw [ht] at h1; cases h1; exact h2
  rw [hln] at hl
  have e1 := int_of hl.2
  have fin : ∀ (z : Value), i.zero = some z → e.width = i.size → i.bytes ≤ 4096 → zerosOk e.kinds z = true → a.eval c = a.eval l →
    StepOk E P s a w o (.iff (must (cutB 0 n 1073741824)) (newRow d e (rrep n e.dflt))) := by
   intro z hz hw hby hzs hcl p hp
   obtain ⟨_, h0, h1⟩ := cutB_iff.1 (must_true hp)
   have hb : (i.bytes : Int) * n ≤ 281474976710656 := by
    have h2 : (i.bytes : Int) ≤ 4096 := by omega
    have := Int.mul_le_mul h2 h1 h0 (by omega)
    omega
   have hrun := run_make (P := P) w t el i z ht hi' hz .i64 .i64 n n h0 (Int.le_refl _) hb (by omega)
   obtain ⟨hz1, hz2⟩ := zerosOk_at hzs
   rw [kinds_length] at hz1
   have hlen : (rrep n e.dflt).length = n.toNat := by simp [rrep]
   have al := alloc_heap w (.cells (madeCells z.cells (n.toNat * i.size)) el)
   refine Good.value (v := .slice (some ⟨w.heap.size, 0, none⟩) n.toNat n.toNat) (w' := w.alloc (.cells (madeCells z.cells (n.toNat * i.size)) el)) ?_ ?_
   ·simp [execOp, hop, hcl, e1, hrun]
   ·rw [ho]
    have key := fresh_row (d := d) (xs := rrep n e.dflt) (cap := n.toNat) (t := el) (fr := (0, 0)) h hgr (alloc_like ..) al.1 al.2.1 al.2.2 (fun o2 _ => by simp) (by rw [hlen]; exact Nat.le_refl _)
     (by rw [size_madeCells, hw]; exact Nat.le_refl _) (fun j hj => ?_)
    ·rw [hlen] at key; exact key
    ·have hj' : j < n.toNat := by rw [hlen] at hj; exact hj
     have hx : (rrep n e.dflt)[j] = e.dflt := by simp [rrep]
     rw [hx]
     refine Sh_dflt _ _ (fun q kd hq => ?_)
     obtain ⟨v, hv, hzv⟩ := hz2 q kd hq
     have hqlt : q < e.width := by rw [← kinds_length]; exact (List.getElem?_eq_some_iff.1 hq).1
     refine ⟨v, ?_, hzv⟩
     have hin : j * e.width + q < n.toNat * i.size := by
      rw [← hw]
      have := Nat.mul_le_mul_right e.width (show j + 1 ≤ n.toNat by omega)
      rw [Nat.add_mul, Nat.one_mul] at this; omega
     unfold madeCells
     rw [Array.getElem?_map, Array.getElem?_range, if_pos hin]
     simp only [Option.map_some]
     have hmod : (j * e.width + q) % z.cells.size = q := by
      rw [← hz1, Nat.mul_comm, Nat.mul_add_mod, Nat.mod_eq_of_lt hqlt]
     rw [hmod]
     have : q < z.cells.size := by rw [← hz1]; exact hqlt
     rw [getElem!_pos z.cells q this]
     rw [Array.getElem?_eq_getElem this] at hv
     rw [Option.some.inj hv]
  split at hst
  ·rename_i t1 t2 z hz
   split at hst
   ·rename_i hc
    cases hst
    exact fin z hz hc.2.1 hc.2.2.1 hc.2.2.2 (by rw [hc.1])
   ·cases hst
  ·rename_i v1 v2 z hz
   split at hst
   ·rename_i hc
    cases hst
    exact fin z hz hc.2.1 hc.2.2.1 hc.2.2.2 (by rw [hc.1])
   ·cases hst
  ·cases hst
 ·cases hst


end
section
variable {E : Env} {s : St} {a : Act} {w w' : World} {ω ω' : Nat → Option Tag} {φ φ' : Nat → Nat → Option Value} {β β' : Nat → Option Nat}
variable {P : Program} {o : Oper} {g : Option (Nat × Bool)} {d : Nat}
theorem sbytes_get {v : ByteArray} {i : Nat} (hi : i < (sbytes v).length) : ∃ h : i < v.data.size, (sbytes v)[i] = (v.data[i].toNat : Int) := by
 have h : i < v.data.size := by simpa [sbytes] using hi
 exact ⟨h, by simp [sbytes]⟩

theorem convert_bytes_ok {src dst e : TypeId} {x : Operand} {v : ByteArray} (h : Rel E s a w ω φ β) (hg : Met a g) (hgr : s.t.any (grdOn d) = false) (ho : o.dst = some d)
  (hop : o.op = .convert src dst x) (hs : P.underlying src = some .string) (hd : P.underlying dst = some (.slice e)) (he : P.underlying e = some (.int .u8)) (hl : (tvOf s g x).tl = .d .str v) :
  StepOk E P s a w o (.ok (newRow d (.int .u8) (sbytes v))) := by
 have hx := tlOf_ok h hg x
 rw [hl] at hx
 have e1 := str_of hx.2
 have hrun := run_bytes_of_string (P := P) w src dst e v hs hd he
 have hlen : (sbytes v).length = v.size := by simp [sbytes]
 have hge := grownCap_ge w v.size 0 e
 have al := alloc_heap w.drew (.cells (bytesRow v (grownCap w v.size 0 e)) e ((bytesRow v (grownCap w v.size 0 e)).size, (bytesRow v (grownCap w v.size 0 e)).size + 1))
 have hbs : (bytesRow v (grownCap w v.size 0 e)).size = grownCap w v.size 0 e := by
  have : v.data.size = v.size := rfl
  simp [bytesRow, this]; omega
 refine Good.value (by simp only [execOp, hop, e1, Sem.run_bind, hrun, Result.andThen_ok]; rfl) ?_
 rw [ho]
 have key := fresh_row (d := d) (e := .int .u8) (xs := sbytes v) (cap := grownCap w v.size 0 e) h hgr (show Like w (w.drew.alloc _) from ⟨rfl, rfl, rfl⟩) al.1 al.2.1 al.2.2 (fun o2 h2 => by simp; omega) (by rw [hlen]; exact hge)
  (by rw [hbs]; simp [K.width]) (fun i hi => by
   obtain ⟨h1, h2⟩ := sbytes_get hi
   have := bytesRow_at v (grownCap w v.size 0 e) i h1
   simp only [Sh, K.width, Nat.mul_one, Nat.add_zero]
   rw [this, h2])
 rw [hlen] at key
 exact key

theorem nil_row {e : K} (h : Rel E s a w ω φ β) (hgr : s.t.any (grdOn d) = false) : RelX E (s.app (newRow d e [])) (a.put (some d) (.slice none 0 0)) w := by
 have hlp : ∀ r, lastPut (newRow d e []).put r = if fid d 0 = r then some (some (floatRow e [])) else none := by
  intro r; simp [newRow, lastPut]
 refine ⟨ω, nφ (fid d 0) (.slice none 0 0) φ, nβ (fid d 0) β, ?_⟩
 have key := Rel.grow (ω' := ω) (w' := w) (M := fun _ => False) (φ' := nφ (fid d 0) (.slice none 0 0) φ) (β' := nβ (fid d 0) β) (u := newRow d e []) (v := .slice none 0 0) h ⟨Nat.le_refl _, fun _ _ => rfl, fun _ _ _ => rfl, Like.refl _⟩ (h.wr.pin_nβ (E.pin_fid d 0))
  (fun r hr => by
   have hne : r ≠ fid d 0 := fun he => by rw [show (newRow d e []).kill.roots.elem r = true from newRow_kill.2 he] at hr; cases hr
   exact ⟨by simp [nβ, hne], fun k => by simp [nφ, hne]⟩)
  (fun r b hb => by
   unfold nβ at hb
   split at hb
   ·cases hb
   ·exact h.wr.bj r b hb)
  h.wr.bd (fun _ _ _ _ _ => id) (fun r root hr hq => by
   rw [hlp, if_pos (newRow_kill.1 hq).symm]; simp)
  (fun r root hp => by
   rw [hlp] at hp
   split at hp
   ·rename_i he
    subst he
    cases hp
    refine ⟨⟨by simp [floatRow, nβ], fun b hb => by simp [nβ] at hb⟩, fun k c hc => ?_⟩
    cases k with
    | succ k => simp [floatRow] at hc
    | zero =>
     simp [floatRow] at hc
     subst hc
     refine ⟨Nat.le_refl _, ?_⟩
     have hloc : locR (nβ (fid d 0) β) (fid d 0) 0 = .fl (fid d 0) 0 := by simp [locR, nβ]
     rw [hloc]
     simp only [OW]
     exact .inr ⟨none, 0, 0, by simp only [GW.val, Env.g, nφ, if_true], rfl, .inl ⟨rfl, trivial⟩⟩
   ·cases hp)
  (fun d' tv hd' => by
   cases hd'
   refine ⟨?_, hgr⟩
   show (E.g w _ _).val (locR (nβ (fid d 0) β) (fid d 0) 0) = _
   simp [locR, nβ, GW.val, Env.g, nφ])
 exact key

def mvω (r : Nat) (ρ : Nat × Nat) (l' : Loc) (ω : Nat → Option Tag) (b : Nat) : Option Tag :=
 match ω b with
 | some (.own (q, k) l) => if q = r ∧ k = 0 then some (.own ρ (if l = .fl r 0 then l' else l)) else some (.own (q, k) l)
 | t => t

theorem isFloat_eq {x : Option Root} (h : isFloat x = true) : ∃ o e xs, x = some ⟨false, [.own o e xs none]⟩ := by
 unfold isFloat at h
 split at h
 ·exact ⟨_, _, _, rfl⟩
 ·cases h

theorem stAssign_ok {x : Operand} {st : Step} (h : Rel E s a w ω φ β) (hg : Met a g) (hgr : s.t.any (grdOn d) = false) (ho : o.dst = some d)
  (hop : o.op = .assign x) (hst : stAssign P s g d x o.type = some st) : StepOk E P s a w o st := by
 have hx := tvOf_ok h hg x
 have hrun : (execOp a.eval o).run P w = .ok (.value (a.eval x)) w := by simp [execOp, hop]
 unfold stAssign at hst
 split at hst
 ·rename_i hl
  rw [hl] at hx
  split at hst
  ·rename_i e he
   cases hst
   have hv : a.eval x = .slice none 0 0 := hx
   refine Good.value hrun ?_
   rw [ho, hv]
   exact nil_row h hgr
  ·cases hst
 ·rename_i r hl
  rw [hl] at hx
  have hv : (E.g w ω φ).val (locR β r 0) = some (a.eval x) := hx
  split at hst
  ·rename_i hc
   cases hst
   simp only [Bool.and_eq_true, Bool.not_eq_true', beq_eq_false_iff_ne] at hc
   obtain ⟨hf, hne⟩ := hc
   obtain ⟨o1, e, xs, hr⟩ := isFloat_eq hf
   have hβr : β r = none := by
    have := (h.bx r _ hr).1
    cases hb : β r with
    | none => rfl
    | some b => rw [hb] at this; cases this
   have hlr : locR β r 0 = .fl r 0 := by simp [locR, hβr]
   obtain ⟨o2, rfl, hc⟩ := lc_own (h.lc r _ 0 _ hr rfl)
   refine Good.value hrun ⟨mvω r (fid d 0, 0) (.fl (fid d 0) 0) ω, nφ (fid d 0) (a.eval x) φ, nβ (fid d 0) β, ?_⟩
   rw [ho]
   have hgw : Grows w w ω (mvω r (fid d 0, 0) (.fl (fid d 0) 0) ω) (· = (r, 0)) := by
    refine ⟨Nat.le_refl _, fun _ _ => rfl, fun b _ hn => ?_, Like.refl _⟩
    unfold mvω
    split
    ·rename_i q k l hb
     rw [if_neg, hb]
     rintro ⟨rfl, rfl⟩
     exact hn _ _ hb rfl
    ·rfl
   have hlast : ∀ n, lastPut [(r, none), (fid d 0, look s.r r)] n = if fid d 0 = n then some (look s.r r) else if r = n then some none else none := by
    intro n; simp only [lastPut]; by_cases h1 : fid d 0 = n <;> simp [h1, hr]
   refine Rel.grow (u := { kill := { roots := [r, fid d 0] }, put := [(r, none), (fid d 0, look s.r r)], dst := some (d, .one (.ref (fid d 0) 0)) }) (v := a.eval x) h hgw (h.wr.pin_nβ (E.pin_fid d 0)) ?_ ?_ ?_ ?_ ?_ ?_ ?_
   ·intro n hn
    have hn' : n ≠ fid d 0 := fun he => by subst he; simp at hn
    exact ⟨by simp [nβ, hn'], fun k => by simp [nφ, hn']⟩
   ·intro n b hb
    unfold nβ at hb
    split at hb
    ·cases hb
    ·have := h.wr.bj n b hb
     unfold mvω; rw [this]
   ·intro b tag hb
    unfold mvω at hb
    split at hb
    ·rename_i q k l hq; exact h.wr.bd _ _ hq
    ·exact h.wr.bd _ _ hb
   ·intro n root k hn hp he
    cases he
    rw [hlast] at hp
    split at hp
    ·cases hp
    ·simp at hp
   ·intro n root hn hq
    rw [hlast]
    simp at hq
    rcases hq with rfl | rfl
    ·rw [if_neg (Ne.symm hne)]; simp
    ·simp
   ·intro n root hp
    rw [hlast] at hp
    split at hp
    ·rename_i he
     subst he
     have hp := Option.some.inj hp
     rw [hr] at hp
     cases hp
     refine ⟨⟨by simp [nβ], fun b hb => by simp [nβ] at hb⟩, fun k c hk => ?_⟩
     cases k with
     | succ k => simp at hk
     | zero =>
      simp at hk
      subst hk
      refine ⟨Nat.succ_le_succ (Nat.zero_le _), ?_⟩
      have hloc : locR (nβ (fid d 0) β) (fid d 0) 0 = .fl (fid d 0) 0 := by simp [locR, nβ]
      rw [hloc]
      rw [hlr] at hc hv
      refine OW.move (G := E.g w ω φ) (G' := E.g w (mvω r (fid d 0, 0) (.fl (fid d 0) 0) ω) (nφ (fid d 0) (a.eval x) φ)) (ρ := (r, 0)) (ρ' := (fid d 0, 0)) (ℓ := .fl r 0) (ℓ' := .fl (fid d 0) 0) (fun b hb => hgw.S hb) (fun b l hb => ?_) (fun _ _ _ => rfl) (fun b y l _ he => by cases he) ?_ hc
      ·have hb : ω b = some (.own (r, 0) l) := hb
       show mvω r (fid d 0, 0) (.fl (fid d 0) 0) ω b = _
       unfold mvω
       rw [hb]
       simp
      ·rw [hv]
       simp [GW.val, Env.g, nφ]
    ·split at hp <;> cases hp
   ·intro d' tv hd'
    cases hd'
    refine ⟨?_, hgr⟩
    show (E.g w _ _).val (locR (nβ (fid d 0) β) (fid d 0) 0) = _
    simp [locR, nβ, GW.val, Env.g, nφ]
  ·cases hst
   exact good_val h hgr ho hrun one_not hx
 ·cases hst
 ·rename_i tv h1 h2 h3
  cases hst
  exact good_val h hgr ho hrun (fun x y z he => h3 x y z he) hx

end
section
variable {E : Env} {s : St} {a : Act} {w w' : World} {ω ω' : Nat → Option Tag} {φ φ' : Nat → Nat → Option Value} {β β' : Nat → Option Nat}
variable {P : Program} {o : Oper} {g : Option (Nat × Bool)} {d : Nat}
def posOf : List (Nat × Nat) → Nat → Option Nat
 | [], _ => none
 | (r, i) :: ms, n => if r = n then some i else posOf ms n

theorem posOf_mem : ∀ {ms : List (Nat × Nat)} {r i : Nat}, (ms.map (·.1)).Nodup → (r, i) ∈ ms → posOf ms r = some i
 | [], _, _, _, h => by cases h
 | (q, j) :: ms, r, i, hn, h => by
  simp only [List.map_cons, List.nodup_cons] at hn
  simp only [posOf]
  rcases List.mem_cons.1 h with h | h
  ·cases h; simp
  ·have : q ≠ r := by rintro rfl; exact hn.1 (List.mem_map.2 ⟨_, h, rfl⟩)
   rw [if_neg this]
   exact posOf_mem hn.2 h

theorem posOf_some : ∀ {ms : List (Nat × Nat)} {r i : Nat}, posOf ms r = some i → (r, i) ∈ ms
 | [], _, _, h => by cases h
 | (q, j) :: ms, r, i, h => by
  simp only [posOf] at h
  split at h
  ·rename_i he; subst he; cases h; exact List.mem_cons_self
  ·exact List.mem_cons_of_mem _ (posOf_some h)

def boxω (ms : List (Nat × Nat)) (d b0 : Nat) (ω : Nat → Option Tag) (b : Nat) : Option Tag :=
 match ω b with
 | some (.own (q, k) l) =>
  match posOf ms q with
  | some i => if k = 0 then some (.own (d, i) (if l = .fl q 0 then .cell b0 i else l)) else some (.own (q, k) l)
  | none => some (.own (q, k) l)
 | t => t

theorem boxω_keep {ms : List (Nat × Nat)} {d b0 b : Nat} (h : ∀ ρ l, ω b = some (.own ρ l) → ¬ (ρ.2 = 0 ∧ ρ.1 ∈ ms.map (·.1))) : boxω ms d b0 ω b = ω b := by
 unfold boxω
 split
 ·rename_i q k l hb
  rw [hb]
  split
  ·rename_i i hi
   rw [if_neg]
   intro hk
   exact h _ _ hb ⟨hk, List.mem_map.2 ⟨_, posOf_some hi, rfl⟩⟩
  ·rfl
 ·rfl

theorem boxω_some {ms : List (Nat × Nat)} {d b0 b : Nat} {t : Tag} (h : boxω ms d b0 ω b = some t) : ∃ t', ω b = some t' := by
 unfold boxω at h
 split at h
 ·rename_i hb; exact ⟨_, hb⟩
 ·exact ⟨_, h⟩

theorem boxω_own {ms : List (Nat × Nat)} {d b0 b q i : Nat} {l : Loc} (hn : (ms.map (·.1)).Nodup) (hm : (q, i) ∈ ms) (h : ω b = some (.own (q, 0) l)) :
  boxω ms d b0 ω b = some (.own (d, i) (if l = .fl q 0 then .cell b0 i else l)) := by
 unfold boxω
 rw [h]
 simp only [posOf_mem hn hm, if_true]

theorem intoBoxAll_ok {rs : List (Nat × Root)} : ∀ {ls : List TL} {i : Nat} {ks : List K} {cs : List LC} {ms : List (Nat × Nat)}, intoBoxAll rs i ks ls = some (cs, ms) →
  cs.length = ls.length ∧ (∀ r j, (r, j) ∈ ms → ∃ o e xs, look rs r = some ⟨false, [.own o e xs none]⟩) ∧
  ∀ (j : Nat) (l : TL), ls[j]? = some l → ∃ c, cs[j]? = some c ∧
   ((l = .nil ∧ ∃ e, c = .own 1 e [] none) ∨ (∃ r o e xs, l = .ref r 0 ∧ look rs r = some ⟨false, [.own o e xs none]⟩ ∧ c = .own o e xs none ∧ (r, i + j) ∈ ms) ∨ (c = .tl l ∧ cellOk rs l = true))
 | [], i, ks, cs, ms, h => by
  simp [intoBoxAll] at h
  obtain ⟨rfl, rfl⟩ := h
  exact ⟨rfl, fun r j hm => (by cases hm), fun j l hj => by simp at hj⟩
 | l :: ls, i, ks, cs, ms, h => by
  simp only [intoBoxAll] at h
  split at h
  ·rename_i p q hp hq
   cases h
   obtain ⟨c, m⟩ := p
   obtain ⟨cs', ms'⟩ := q
   obtain ⟨ih1, ih2, ih3⟩ := intoBoxAll_ok hq
   have key : (∀ r j, (r, j) ∈ m → ∃ o e xs, look rs r = some ⟨false, [.own o e xs none]⟩) ∧
     ((l = .nil ∧ ∃ e, c = .own 1 e [] none) ∨ (∃ r o e xs, l = .ref r 0 ∧ look rs r = some ⟨false, [.own o e xs none]⟩ ∧ c = .own o e xs none ∧ (r, i) ∈ m) ∨ (c = .tl l ∧ cellOk rs l = true)) := by
    unfold intoBox at hp
    split at hp
    ·split at hp
     ·cases hp; exact ⟨fun r j hm => (by cases hm), .inl ⟨rfl, _, rfl⟩⟩
     ·cases hp
    ·split at hp
     ·rename_i r o e xs hr
      cases hp
      exact ⟨fun r' j hm => (by simp at hm; obtain ⟨rfl, rfl⟩ := hm; exact ⟨_, _, _, hr⟩), .inr (.inl ⟨_, _, _, _, rfl, hr, rfl, by simp⟩)⟩
     ·cases hp
    ·cases hp
    ·cases hp
    ·rename_i h1 h2 h3 h4
     cases hp
     refine ⟨fun r j hm => (by cases hm), .inr (.inr ⟨rfl, ?_⟩)⟩
     cases l <;> first | rfl | exact (h4 rfl).elim | exact (h3 _ _ rfl).elim
   refine ⟨by simp [ih1], fun r j hm => ?_, fun j l' hj => ?_⟩
   ·rcases List.mem_append.1 hm with hm | hm
    ·exact key.1 r j hm
    ·exact ih2 r j hm
   ·cases j with
    | zero =>
     simp at hj; subst hj
     refine ⟨c, rfl, ?_⟩
     rcases key.2 with h1 | ⟨r, o, e, xs, h1, h2, h3, h4⟩ | h1
     ·exact .inl h1
     ·exact .inr (.inl ⟨r, o, e, xs, h1, h2, h3, List.mem_append_left _ h4⟩)
     ·exact .inr (.inr h1)
    | succ j =>
     simp at hj
     obtain ⟨c', hc', hcase⟩ := ih3 j l' hj
     refine ⟨c', by simpa using hc', ?_⟩
     rcases hcase with h1 | ⟨r, o, e, xs, h1, h2, h3, h4⟩ | h1
     ·exact .inl h1
     ·exact .inr (.inl ⟨r, o, e, xs, h1, h2, h3, List.mem_append_right _ (by rwa [show i + (j + 1) = i + 1 + j by omega])⟩)
     ·exact .inr (.inr h1)
  ·cases h

theorem lastPut_append : ∀ (ps qs : List (Nat × Option Root)) (n : Nat), lastPut (ps ++ qs) n = match lastPut qs n with | some y => some y | none => lastPut ps n
 | [], qs, n => by simp only [List.nil_append, lastPut]; cases lastPut qs n <;> rfl
 | (m, x) :: ps, qs, n => by
  simp only [List.cons_append, lastPut]
  rw [lastPut_append ps qs n]
  cases lastPut qs n with
  | some y => rfl
  | none => rfl

theorem lastPut_drops : ∀ (ms : List (Nat × Nat)) (n : Nat), lastPut (ms.map fun m => (m.1, (none : Option Root))) n = if n ∈ ms.map (·.1) then some none else none
 | [], n => by simp [lastPut]
 | (r, i) :: ms, n => by
  simp only [List.map_cons, lastPut]
  rw [lastPut_drops ms n]
  by_cases h : n ∈ ms.map (·.1)
  ·simp [h]
  ·by_cases h' : r = n
   ·simp [h, h']
   ·simp [h, h', Ne.symm h']

theorem float_none (h : Rel E s a w ω φ β) {r : Nat} {ls : List LC} (hr : look s.r r = some ⟨false, ls⟩) : β r = none := by
 have := (h.bx r _ hr).1
 cases hb : β r with
 | none => rfl
 | some b => rw [hb] at this; cases this

theorem Rel.box {u : Upd} {ls : List TL} {ks : List K} {cs : List LC} {ms : List (Nat × Nat)} {vs : Array Value} {t : TypeId}
  (h : Rel E s a w ω φ β) (hnp : E.pin d = none) (hi : intoBoxAll s.r 0 ks ls = some (cs, ms)) (hnd : (ms.map (·.1)).Nodup) (hdm : ¬ d ∈ ms.map (·.1))
  (hu : u = { kill := ⟨d :: ms.map (·.1), []⟩, put := (ms.map fun m => (m.1, none)) ++ [(d, some (Root.kill ⟨d :: ms.map (·.1), []⟩ ⟨true, cs⟩))], dst := some (d, .one (.adr d 0)) })
  (hgr : s.t.any (grdOn d) = false) (hio : Like w w') (hv : listR (TLr (E.g w ω φ) β) ls vs) (hsz : w'.heap.size = w.heap.size + 1) (hold : ∀ b, b < w.heap.size → w'.heap[b]? = w.heap[b]?)
  (hnew : w'.heap[w.heap.size]? = some (.cells vs t)) : RelX E (s.app u) (a.put (some d) (.pointer (some ⟨w.heap.size, 0, none⟩))) w' := by
 obtain ⟨i1, i2, i3⟩ := intoBoxAll_ok hi
 let q : Kill := ⟨d :: ms.map (·.1), []⟩
 let ω1 : Nat → Option Tag := fun b => if b = w.heap.size then some (.box d) else boxω ms d w.heap.size ω b
 let β1 : Nat → Option Nat := fun r => if r = d then some w.heap.size else β r
 have hgw : Grows w w' ω ω1 (fun ρ => ρ.2 = 0 ∧ ρ.1 ∈ ms.map (·.1)) := by
  refine ⟨by omega, hold, fun b hb hn => ?_, hio⟩
  show (if b = w.heap.size then _ else _) = _
  rw [if_neg (by omega), boxω_keep hn]
 have hβ : ∀ r, q.roots.elem r = false → β1 r = β r ∧ ∀ k, φ r k = φ r k := by
  intro r hr
  have : r ≠ d := by rintro rfl; simp [q] at hr
  exact ⟨by simp [β1, this], fun _ => rfl⟩
 have hlast : ∀ n, lastPut u.put n = if n = d then some (some (Root.kill q ⟨true, cs⟩)) else if n ∈ ms.map (·.1) then some none else none := by
  intro n
  rw [hu]
  simp only
  rw [lastPut_append, lastPut_drops]
  simp only [lastPut]
  by_cases h1 : n = d
  ·subst h1; simp [q]
  ·simp [h1, Ne.symm h1]
 have hk : u.kill = q := by rw [hu]
 refine ⟨ω1, φ, β1, ?_⟩
 have key := Rel.grow (w' := w') (ω' := ω1) (φ' := φ) (β' := β1) (u := u) (v := .pointer (some ⟨w.heap.size, 0, none⟩)) h hgw (fun r b hr => (if_neg (by rintro rfl; rw [hnp] at hr; cases hr)).trans (h.wr.pin r b hr)) (by rw [hk]; exact hβ) ?_ ?_ ?_ ?_ ?_ ?_
 ·rw [hu] at key ⊢; exact key
 ·intro r b hb
  show (if b = w.heap.size then _ else _) = _
  simp only [β1] at hb
  split at hb
  ·rename_i he; subst he; cases hb; simp
  ·have h1 := h.wr.bj r b hb
   have h2 := h.wr.bd _ _ h1
   rw [if_neg (by omega), boxω_keep (fun ρ l hl => by rw [h1] at hl; cases hl), h1]
 ·intro b tag hb
  have hb : (if b = w.heap.size then some (Tag.box d) else boxω ms d w.heap.size ω b) = some tag := hb
  split at hb
  ·omega
  ·obtain ⟨t', ht'⟩ := boxω_some hb
   have := h.wr.bd _ _ ht'; omega
 ·rintro r root k hr hp ⟨h1, h2⟩
  rw [hlast] at hp
  split at hp
  ·cases hp
  ·simp only at h2
   first | cases hp | (rw [if_pos h2] at hp; cases hp)
 ·intro r root hr hq
  rw [hk] at hq
  rw [hlast]
  simp only [q, List.elem_eq_mem, List.mem_cons, decide_eq_true_eq] at hq
  split
  ·simp
  ·rename_i hne
   rw [if_pos (hq.resolve_left hne)]; simp
 ·intro r root hp
  rw [hlast] at hp
  split at hp
  ·rename_i he
   subst he
   cases hp
   have hb1 : β1 r = some w.heap.size := by simp [β1]
   have hloc : ∀ k, locR β1 r k = .cell w.heap.size k := fun k => by simp [locR, hb1]
   have hval : ∀ k, (E.g w' ω1 φ).val (.cell w.heap.size k) = vs[k]? := fun k => by
    simp [GW.val, Env.g, cel, World.cell?, hnew]
   refine ⟨⟨by simp [Root.kill, hb1], fun b hb => ?_⟩, fun k c hc => ?_⟩
   ·rw [hb1] at hb
    cases hb
    exact ⟨vs, t, (0, 0), hnew, fun o1 _ => by simp, by simp [Root.kill, i1, hv.1]⟩
   ·simp only [Root.kill, List.getElem?_map] at hc
    obtain ⟨c0, hc0, rfl⟩ := Option.map_eq_some_iff.1 hc
    have hlt : k < ls.length := by rw [← i1]; exact (List.getElem?_eq_some_iff.1 hc0).1
    have hlk : ls[k]? = some ls[k] := List.getElem?_eq_getElem hlt
    obtain ⟨c1, hc1, hcase⟩ := i3 k _ hlk
    rw [hc0] at hc1; cases hc1
    obtain ⟨v, hvk, hr⟩ := hv.2 k _ hlk
    rcases hcase with ⟨h1, e, rfl⟩ | ⟨q1, o1, e, xs, h1, h2, rfl, h4⟩ | ⟨rfl, _⟩
    ·rw [h1] at hr
     have hr : v = .slice none 0 0 := hr
     refine ⟨Nat.le_refl _, ?_⟩
     rw [hloc]
     simp only [OW]
     exact .inr ⟨none, 0, 0, by rw [hval, hvk, hr], rfl, .inl ⟨rfl, trivial⟩⟩
    ·rw [h1] at hr
     rw [Nat.zero_add] at h4
     have hq1 := float_none h h2
     have hl1 : locR β q1 0 = .fl q1 0 := by simp [locR, hq1]
     obtain ⟨o2, rfl, hown⟩ := lc_own (h.lc q1 _ 0 _ h2 rfl)
     have hr : (E.g w ω φ).val (locR β q1 0) = some v := hr
     refine ⟨Nat.succ_le_succ (Nat.zero_le _), ?_⟩
     rw [hloc]
     rw [hl1] at hown hr
     refine OW.move (G := E.g w ω φ) (G' := E.g w' ω1 φ) (ρ := (q1, 0)) (ρ' := (r, k)) (ℓ := .fl q1 0) (ℓ' := .cell w.heap.size k) (fun b hb => hgw.S hb) (fun b l hb => ?_) (fun b l hb => hold b (h.wr.bd _ _ hb)) (fun b y l _ he => by cases he) ?_ hown
     ·have hb : ω b = some (.own (q1, 0) l) := hb
      have hlt := h.wr.bd _ _ hb
      show (if b = w.heap.size then _ else _) = _
      rw [if_neg (by omega)]
      exact boxω_own hnd h4 hb
     ·rw [hval, hvk, hr]
    ·simp only [LC.kill]
     refine ⟨v, by rw [hloc, hval, hvk], ?_⟩
     exact TLr_grow hgw hβ _ _ hr
  ·split at hp <;> cases hp
 ·intro d' tv hd'
  rw [hu] at hd'
  cases hd'
  exact ⟨⟨w.heap.size, by simp [β1], rfl⟩, hgr⟩


theorem cell_one (h : Rel E s a w ω φ β) {l : TL} {v : Value} (hl : TLr (E.g w ω φ) β l v) (hc : cellOk s.r l = true) : v.cells = #[v] ∧ v.oneCell' = true := by
 cases l with
 | d k x =>
  obtain ⟨h1, h2⟩ := hl
  cases k with
  | int k => rw [int_of h2]; exact ⟨rfl, rfl⟩
  | bool => rw [bool_of h2]; exact ⟨rfl, rfl⟩
  | str => rw [str_of h2]; exact ⟨rfl, rfl⟩
  | unit => cases h1
  | pair a b => cases h1
  | row e => obtain ⟨a1, len, cap, hv, _⟩ := slice_of h2; rw [hv]; exact ⟨rfl, rfl⟩
  | clo f c =>
   obtain ⟨caps, hv, _⟩ := h2
   have hv : v = .func (.func f) #[] caps := by simpa [one] using hv
   rw [hv]; exact ⟨rfl, rfl⟩
  | iptr e =>
   obtain ⟨b, o1, hv, _⟩ := h2
   have hv : v = .pointer (some ⟨b, o1, none⟩) := by simpa [one] using hv
   rw [hv]; exact ⟨rfl, rfl⟩
 | nil => rw [show v = .slice none 0 0 from hl]; exact ⟨rfl, rfl⟩
 | ref r k =>
  unfold cellOk at hc
  split at hc
  ·cases hc
  ·rename_i r' k' he
   cases he
   split at hc
   ·rename_i o1 e xs hr
    obtain ⟨o2, rfl, hown⟩ := lc_own (rowAt_ok h hr)
    obtain ⟨a1, cap, hlen⟩ := own_len hown
    have hl : (E.g w ω φ).val (locR β r k) = some v := hl
    rw [hlen] at hl
    rw [← Option.some.inj hl]; exact ⟨rfl, rfl⟩
   ·cases hc
  ·rename_i hn; exact (hn _ _ rfl).elim
 | sub r k e lo n => obtain ⟨a1, len, cap, a', cap', _, hv, _⟩ := hl; rw [hv]; exact ⟨rfl, rfl⟩
 | adr r off => obtain ⟨b, _, hv⟩ := hl; rw [hv]; exact ⟨rfl, rfl⟩
 | ead r k e i off => obtain ⟨b, o1, len, cap, _, _, _, hv⟩ := hl; rw [hv]; exact ⟨rfl, rfl⟩
 | iad e x off => obtain ⟨b, o1, hv, _⟩ := hl; rw [hv]; exact ⟨rfl, rfl⟩
 | clo fn caps => obtain ⟨vs, hv, _⟩ := hl; rw [hv]; exact ⟨rfl, rfl⟩
 | x => cases hc

theorem cells_ls (h : Rel E s a w ω φ β) (hg : Met a g) {x : Operand} {ls : List TL} (hl : (tvOf s g x).ls = some ls) (hc : cellsOk s.r (tvOf s g x) = true) :
  listR (TLr (E.g w ω φ) β) ls (a.eval x).cells := by
 have hx := tvOf_ok h hg x
 cases htv : tvOf s g x with
 | one l =>
  rw [htv] at hl hx hc
  cases hl
  have := cell_one h hx hc
  rw [this.1]
  refine ⟨rfl, fun j l' hj => ?_⟩
  cases j with
  | zero => simp at hj; subst hj; exact ⟨_, rfl, hx⟩
  | succ j => simp at hj
 | agg ls' =>
  rw [htv] at hl hx
  cases hl
  obtain ⟨cs, hv, hlr⟩ := hx
  rw [hv]; exact hlr
 | tup vs => rw [htv] at hl; cases hl
 | grd t wt p => rw [htv] at hl; cases hl
 | u => rw [htv] at hl; cases hl

theorem stBox_ok {t : TypeId} {x : Operand} {st : Step} (h : Rel E s a w ω φ β) (hnp : E.pin d = none) (hg : Met a g) (hgr : s.t.any (grdOn d) = false) (ho : o.dst = some d)
  (hop : o.op = .box t x) (hst : stBox P s g d t x = some st) : StepOk E P s a w o st := by
 unfold stBox at hst
 split at hst
 ·rename_i ls hls
  split at hst
  ·rename_i cs ms hi
   split at hst
   ·rename_i hc
    cases hst
    have al := alloc_heap w (.cells (a.eval x).cells t)
    refine Good.value (v := .pointer (some ⟨w.heap.size, 0, none⟩)) (w' := w.alloc (.cells (a.eval x).cells t)) (by simp [execOp, hop, Instr.box, newVar, Go.newRow]) ?_
    rw [ho]
    exact Rel.box h hnp hi hc.1 hc.2.1 rfl hgr (alloc_like ..) (cells_ls h hg hls hc.2.2) al.1 al.2.1 al.2.2
   ·cases hst
  ·cases hst
 ·cases hst

theorem zeros_into (rs : List (Nat × Root)) : ∀ (ks : List K) (i : Nat), (∀ k, k ∈ ks → k.isLeaf = true) → intoBoxAll rs i ks (ks.map fun k => match k with | .row _ => TL.nil | k => .d k k.dflt) = some (ks.map zeroLC, [])
 | [], _, _ => rfl
 | k :: ks, i, hk => by
  simp only [List.map_cons, intoBoxAll, List.headD_cons, List.tail_cons]
  rw [zeros_into rs ks (i + 1) (fun k' h' => hk k' (List.mem_cons_of_mem _ h'))]
  have := hk k List.mem_cons_self
  cases k <;> first | rfl | (simp [K.isLeaf] at this)

theorem kinds_isLeaf : ∀ (k kd : K), kd ∈ k.kinds → kd.isLeaf = true
 | .unit, _, h => by cases h
 | .pair a b, kd, h => by
  rcases List.mem_append.1 h with h | h
  ·exact kinds_isLeaf a kd h
  ·exact kinds_isLeaf b kd h
 | .int _, kd, h | .bool, kd, h | .str, kd, h | .row _, kd, h | .clo _ _, kd, h | .iptr _, kd, h => by
  simp [K.kinds] at h; subst h; rfl

theorem stAlloc_ok {t : TypeId} {st : Step} (h : Rel E s a w ω φ β) (hnp : E.pin d = none) (hgr : s.t.any (grdOn d) = false) (ho : o.dst = some d)
  (hop : o.op = .alloc t) (hst : stAlloc P d t = some st) : StepOk E P s a w o st := by
 unfold stAlloc at hst
 split at hst
 ·rename_i k z hk hz
  split at hst
  ·rename_i hzs
   cases hst
   obtain ⟨i, hi, hz⟩ := Option.bind_eq_some_iff.1 hz
   have al := alloc_heap w (.cells z.cells t)
   obtain ⟨hz1, hz2⟩ := zerosOk_at hzs
   have hle := zeros_into s.r k.kinds 0 (fun kd h => kinds_isLeaf k kd h)
   refine Good.value (v := .pointer (some ⟨w.heap.size, 0, none⟩)) (w' := w.alloc (.cells z.cells t)) (by simp [execOp, hop, Instr.alloc, zeroValue, typeInfo, hi, hz, newVar, Go.newRow]) ?_
   rw [ho]
   refine Rel.box (ms := []) h hnp hle (by simp) (by simp) ?_ hgr (alloc_like ..) ⟨by simp [hz1], fun j l hj => ?_⟩ al.1 al.2.1 al.2.2
   ·simp only [List.map_nil, List.nil_append, Root.kill, List.map_map]
    congr 5
    refine List.map_congr_left (fun kd _ => ?_)
    cases kd <;> rfl
   ·rw [List.getElem?_map] at hj
    obtain ⟨kd, hkd, rfl⟩ := Option.map_eq_some_iff.1 hj
    obtain ⟨v, hv, hzv⟩ := hz2 j kd hkd
    refine ⟨v, hv, ?_⟩
    have hvz := isZero_eq hzv
    cases kd with
    | row e => exact hvz
    | int k => exact ⟨rfl, by simp [Sh, one, hvz, zeroL, K.dflt]⟩
    | bool => exact ⟨rfl, by simp [Sh, one, hvz, zeroL, K.dflt]⟩
    | str => exact ⟨rfl, by simp [Sh, one, hvz, zeroL, K.dflt]⟩
    | unit => exact absurd (kinds_isLeaf k _ (List.mem_of_getElem? hkd)) (by simp [K.isLeaf])
    | pair a b => exact absurd (kinds_isLeaf k _ (List.mem_of_getElem? hkd)) (by simp [K.isLeaf])
    | clo f c => simp [isZero] at hzv
    | iptr e => simp [isZero] at hzv
  ·cases hst
 ·cases hst

end
section
variable {E : Env} {s : St} {a : Act} {w w' : World} {ω ω' : Nat → Option Tag} {φ φ' : Nat → Nat → Option Value} {β β' : Nat → Option Nat}
variable {P : Program} {o : Oper} {g : Option (Nat × Bool)} {d : Nat}
theorem intoRowAll_ok (h : Rel E s a w ω φ β) : ∀ {ls : List TL} {ks : List K} {fs : List Leaf} {fz : List (Nat × Nat)}, intoRowAll s.r ks ls = some (fs, fz) →
  fs.length = ls.length ∧ (∀ r k, (r, k) ∈ fz → ∃ o e xs, rowAt s.r r k = some (.own o e xs none)) ∧
  ((∀ b, E.S w ω b → E.S w' ω' b ∧ ∀ o1, cel w' b o1 = cel w b o1) → (∀ r k, (r, k) ∈ fz → ∀ b l, ω b = some (.own (r, k) l) → E.S w' ω' b ∧ ∀ o1, cel w' b o1 = cel w b o1) →
   ∀ (j : Nat) (l : TL) (v : Value), ls[j]? = some l → TLr (E.g w ω φ) β l v → ∃ f, fs[j]? = some f ∧ Sh (E.S w' ω') w' f.k f.x (one v))
 | [], ks, fs, fz, hi => by
  simp [intoRowAll] at hi
  obtain ⟨rfl, rfl⟩ := hi
  exact ⟨rfl, fun r k hm => (by cases hm), fun _ _ j l v hj => by simp at hj⟩
 | l :: ls, ks, fs, fz, hi => by
  simp only [intoRowAll] at hi
  split at hi
  ·rename_i p q hp hq
   cases hi
   obtain ⟨f, m⟩ := p
   obtain ⟨fs', m'⟩ := q
   obtain ⟨ih1, ih2, ih3⟩ := intoRowAll_ok h hq
   have key : (∀ r k, (r, k) ∈ m → ∃ o e xs, rowAt s.r r k = some (.own o e xs none)) ∧
     ((∀ b, E.S w ω b → E.S w' ω' b ∧ ∀ o1, cel w' b o1 = cel w b o1) → (∀ r k, (r, k) ∈ m → ∀ b l, ω b = some (.own (r, k) l) → E.S w' ω' b ∧ ∀ o1, cel w' b o1 = cel w b o1) → ∀ v, TLr (E.g w ω φ) β l v → Sh (E.S w' ω') w' f.k f.x (one v)) := by
    unfold intoRow at hp
    split at hp
    ·cases hp
     exact ⟨fun r k hm => (by cases hm), fun hS _ v hv => Sh.mono (fun b hb => (hS b hb).1) (fun b hb => (hS b hb).2) _ _ _ hv.2⟩
    ·split at hp
     ·cases hp
      exact ⟨fun r k hm => (by cases hm), fun _ _ v hv => ⟨none, 0, 0, by rw [show v = .slice none 0 0 from hv]; rfl, rfl, Nat.le_refl _, .inl rfl⟩⟩
     ·cases hp
    ·rename_i r k
     split at hp
     ·rename_i o1 e xs hr
      cases hp
      refine ⟨fun r' k' hm => ?_, fun hg hz v hv => frozen_sh h hg hr (hz r k (by simp)) hv⟩
      simp at hm
      obtain ⟨rfl, rfl⟩ := hm
      exact ⟨_, _, _, hr⟩
     ·cases hp
    ·cases hp
   refine ⟨by simp [ih1], fun r k hm => ?_, fun hg hz j l' v hj hv => ?_⟩
   ·rcases List.mem_append.1 hm with hm | hm
    ·exact key.1 r k hm
    ·exact ih2 r k hm
   ·cases j with
    | zero =>
     simp at hj; subst hj
     exact ⟨f, rfl, key.2 hg (fun r k hm => hz r k (List.mem_append_left _ hm)) v hv⟩
    | succ j =>
     simp at hj
     obtain ⟨f', h1, h2⟩ := ih3 hg (fun r k hm => hz r k (List.mem_append_right _ hm)) j l' v hj hv
     exact ⟨f', by simpa using h1, h2⟩
  ·cases hi

theorem Sh_of_leaves {S : Nat → Prop} {w : World} {e : K} {y : e.ty} {fs : List Leaf} {c : Nat → Option Value} (hy : ofL e fs = some (y, [])) (hc : ∀ (j : Nat) (f : Leaf), fs[j]? = some f → ∃ v, c j = some v ∧ Sh S w f.k f.x (one v)) :
  Sh S w e y c := by
 have he := ofL_eq _ _ _ _ hy
 rw [List.append_nil] at he
 rw [Sh_leaves]
 intro j lf hj
 rw [← he] at hj
 obtain ⟨v, hv, hs⟩ := hc j lf hj
 have hk : lf.k.isLeaf = true := leaves_isLeaf e y j lf (by rw [← he]; exact hj)
 refine Sh.congr _ _ _ _ (fun i hi => ?_) hs
 rw [leaf_width hk] at hi
 obtain rfl : i = 0 := by omega
 rw [Nat.add_zero, hv]; rfl

theorem freezePut_ok {q : Kill} {fz : List (Nat × Nat)} (hlen : fz.length ≤ 1) (hrow : ∀ r k, (r, k) ∈ fz → ∃ o e xs, rowAt s.r r k = some (.own o e xs none))
  (hbx : ∀ r k root, (r, k) ∈ fz → look s.r r = some root → boxOk w' β' r root)
  (hlc : ∀ r k0 root k c, (r, k0) ∈ fz → look s.r r = some root → root.ls[k]? = some c → k ≠ k0 → LCr (E.g w' ω' φ') β' r k (c.kill q))
  (hfr : ∀ r k o e xs, (r, k) ∈ fz → rowAt s.r r k = some (.own o e xs none) → LCr (E.g w' ω' φ') β' r k (.tl (.d (.row e) xs))) :
  (∀ r root k, look s.r r = some root → lastPut (freezePut q s.r fz) r = none → ¬ (r, k) ∈ fz) ∧
  (∀ r root, lastPut (freezePut q s.r fz) r = some (some root) → boxOk w' β' r root ∧ ∀ k c, root.ls[k]? = some c → LCr (E.g w' ω' φ') β' r k c) ∧
  ∀ r x, lastPut (freezePut q s.r fz) r = some x → ∃ k, (r, k) ∈ fz := by
 match fz, hlen with
 | [], _ =>
  exact ⟨fun _ _ _ _ _ hm => (by cases hm), fun r root hp => by simp [freezePut, lastPut] at hp, fun r x hp => by simp [freezePut, lastPut] at hp⟩
 | [(r0, k0)], _ =>
  obtain ⟨o1, e, xs, hr0⟩ := hrow r0 k0 (by simp)
  have hroot : ∃ x, look s.r r0 = some x ∧ x.ls[k0]? = some (.own o1 e xs none) := by
   unfold rowAt at hr0
   split at hr0
   ·rename_i x hx; exact ⟨x, hx, hr0⟩
   ·cases hr0
  obtain ⟨x, hx, hxk⟩ := hroot
  have hb := hbx r0 k0 x (by simp) hx
  by_cases hbox : x.box = true
  ·have hput : freezePut q s.r [(r0, k0)] = [(r0, some (Root.kill q { x with ls := x.ls.modify k0 freezeLC }))] := by
    simp only [freezePut, hx, hbox, if_true]
   rw [hput]
   refine ⟨fun r root k hr hp hm => ?_, fun r root hp => ?_, fun r y hp => ?_⟩
   ·simp at hm
    obtain ⟨rfl, rfl⟩ := hm
    simp [lastPut] at hp
   ·simp only [lastPut] at hp
    split at hp
    ·rename_i he
     subst he
     cases hp
     refine ⟨⟨by simp [Root.kill, hb.1], fun b hb' => ?_⟩, fun k c hc => ?_⟩
     ·obtain ⟨cs, t, fr, h1, h2, h3⟩ := hb.2 b hb'
      exact ⟨cs, t, fr, h1, h2, by simp [Root.kill, h3]⟩
     ·simp only [Root.kill, List.getElem?_map, List.getElem?_modify] at hc
      by_cases hk : k0 = k
      ·subst hk
       simp only [if_true, hxk] at hc
       have hc : some (LC.kill q (freezeLC (.own o1 e xs none))) = some c := hc
       cases hc
       exact hfr _ _ _ _ _ (by simp) hr0
      ·simp only [hk, if_false] at hc
       obtain ⟨c0, hc0, rfl⟩ := Option.map_eq_some_iff.1 hc
       have hc0' : x.ls[k]? = some c0 := by simpa using hc0
       exact hlc _ k0 x k c0 (by simp) hx hc0' (Ne.symm hk)
    ·cases hp
   ·simp only [lastPut] at hp
    split at hp
    ·rename_i he; subst he; exact ⟨k0, by simp⟩
    ·cases hp
  ·have hput : freezePut q s.r [(r0, k0)] = [(r0, none)] := by
    simp only [freezePut, hx, hbox, if_false, Bool.false_eq_true]
   rw [hput]
   refine ⟨fun r root k hr hp hm => ?_, fun r root hp => ?_, fun r y hp => ?_⟩
   ·simp at hm
    obtain ⟨rfl, rfl⟩ := hm
    simp [lastPut] at hp
   ·simp only [lastPut] at hp
    split at hp <;> cases hp
   ·simp only [lastPut] at hp
    split at hp
    ·rename_i he; subst he; exact ⟨k0, by simp⟩
    ·cases hp
 | _ :: _ :: _, hl => simp at hl

theorem litElems_ok (h : Rel E s a w ω φ β) (hg : Met a g) {e : K} : ∀ {ps : List (Nat × Operand)} {i : Nat} {xs : List e.ty} {fz : List (Nat × Nat)}, litElems s g e i ps = some (xs, fz) →
  xs.length = ps.length ∧ ps.map (fun p => (p.1, a.eval p.2)) = ((ps.map fun p => a.eval p.2).zipIdx i).map (fun x => (x.2, x.1)) ∧ (∀ p, p ∈ ps → (a.eval p.2).cells.size = e.width) ∧
  (∀ r k, (r, k) ∈ fz → ∃ o e xs, rowAt s.r r k = some (.own o e xs none)) ∧
  ((∀ b, E.S w ω b → E.S w' ω' b ∧ ∀ o1, cel w' b o1 = cel w b o1) → (∀ r k, (r, k) ∈ fz → ∀ b l, ω b = some (.own (r, k) l) → E.S w' ω' b ∧ ∀ o1, cel w' b o1 = cel w b o1) →
   ∀ k (hk : k < xs.length), ∃ p, ps[k]? = some p ∧ Sh (E.S w' ω') w' e xs[k] (fun q => (a.eval p.2).cells[q]?))
 | [], i, xs, fz, hl => by
  simp [litElems] at hl
  obtain ⟨rfl, rfl⟩ := hl
  exact ⟨rfl, rfl, fun p hp => (by cases hp), fun r k hm => (by cases hm), fun _ _ k hk => absurd hk (Nat.not_lt_zero _)⟩
 | (j, x) :: ps, i, xs, fz, hl => by
  simp only [litElems] at hl
  split at hl
  ·rename_i hji
   subst hji
   split at hl
   ·rename_i ls hls
    split at hl
    ·rename_i fs m xs' m' hfs hrec
     split at hl
     ·rename_i y hy
      split at hl
      ·rename_i hck
       cases hl
       obtain ⟨h1, h2, h3, h4, h5⟩ := litElems_ok h hg hrec
       obtain ⟨r1, r2, r3⟩ := intoRowAll_ok (w' := w') (ω' := ω') h hfs
       have hc := cells_ls h hg hls hck
       refine ⟨by simp [h1], by simp [h2], fun p hp => ?_, fun r k hm => ?_, fun hgw hz k hk => ?_⟩
       ·rcases List.mem_cons.1 hp with rfl | hp
        ·have he := ofL_eq _ _ _ _ hy
         rw [List.append_nil] at he
         rw [hc.1, ← r1, he, leaves_length]
        ·exact h3 p hp
       ·rcases List.mem_append.1 hm with hm | hm
        ·exact r2 r k hm
        ·exact h4 r k hm
       ·cases k with
        | zero =>
         refine ⟨(j, x), rfl, ?_⟩
         refine Sh_of_leaves hy (fun q f hq => ?_)
         have hlt : q < ls.length := by rw [← r1]; exact (List.getElem?_eq_some_iff.1 hq).1
         have hlq : ls[q]? = some ls[q] := List.getElem?_eq_getElem hlt
         obtain ⟨v, hv, hr⟩ := hc.2 q _ hlq
         obtain ⟨f', hf', hs⟩ := r3 hgw (fun r k hm => hz r k (List.mem_append_left _ hm)) q _ v hlq hr
         rw [hq] at hf'; cases hf'
         exact ⟨v, hv, hs⟩
        | succ k =>
         obtain ⟨p, hp, hs⟩ := h5 hgw (fun r k hm => hz r k (List.mem_append_right _ hm)) k (by simpa using hk)
         exact ⟨p, by simpa using hp, hs⟩
      ·cases hl
     ·cases hl
    ·cases hl
   ·cases hl
  ·cases hl

theorem elem_info {t : TypeId} {e : K} {i : TypeInfo} (he : (elemT P t).bind (kindT P) = some e) (hi : (elemT P t).bind P.info? = some i) :
  ∃ el, P.underlying t = some (.slice el) ∧ kindT P el = some e ∧ P.info? el = some i := by
 obtain ⟨el, h1, h2⟩ := Option.bind_eq_some_iff.1 he
 unfold elemT at h1
 split at h1
 ·rename_i el' ht
  cases h1
  obtain ⟨el2, h3, h4⟩ := Option.bind_eq_some_iff.1 hi
  unfold elemT at h3; rw [ht] at h3; cases h3
  exact ⟨el, ht, h2, h4⟩
 ·cases h1

theorem zeroI_eq {e : K} {i : TypeInfo} (h : zeroI e i = true) : ∃ z, i.zero = some z ∧ zerosOk e.kinds z = true := by
 unfold zeroI at h
 split at h
 ·rename_i z hz; exact ⟨z, hz, h⟩
 ·cases h

theorem stBuildSlice_ok {t : TypeId} {n : Nat} {ps : Array (Nat × Operand)} {st : Step} (h : Rel E s a w ω φ β) (hg : Met a g) (hgr : s.t.any (grdOn d) = false) (ho : o.dst = some d)
  (hop : o.op = .buildSlice t n ps) (hst : stBuildSlice P s g d t n ps = some st) : StepOk E P s a w o st := by
 unfold stBuildSlice at hst
 split at hst
 ·rename_i e i he hi
  obtain ⟨el, ht, hk, hi⟩ := elem_info he hi
  simp only at hst
  split at hst
  ·rename_i xs fz hlit
   split at hst
   ·rename_i hc
    obtain ⟨hzi, hn, hw, hpos, hsmall, hfl, hfa⟩ := hc
    cases hst
    obtain ⟨z, hz, hzi⟩ := zeroI_eq hzi
    obtain ⟨hz1, hz2⟩ := zerosOk_at hzi
    rw [kinds_length] at hz1
    have hwpos : 0 < i.size := Nat.pos_of_ne_zero (fun h0 => by rw [h0, Nat.mul_zero] at hpos; omega)
    obtain ⟨l1, l2, l3, l4, _⟩ := litElems_ok (w' := w) (ω' := ω) h hg hlit
    have hvs : ∀ v, v ∈ ps.toList.map (fun p => a.eval p.2) → v.cells.size = i.size := by
     intro v hv
     obtain ⟨p, hp, rfl⟩ := List.mem_map.1 hv
     rw [← hw]; exact l3 p hp
    obtain ⟨r, hr, hrs, hrk⟩ := Great.fill_dense hwpos (ps.toList.map fun p => a.eval p.2) 0 ((Array.range (n * i.size)).map (z.cells[· % z.cells.size]!)) hvs (by simp [hn])
    have hparts : (ps.map fun (i, x) => (i, a.eval x)).toList = ((ps.toList.map fun p => a.eval p.2).zipIdx 0).map fun x => (x.2, x.1) := by
     rw [Array.toList_map]; exact l2
    have hrun := run_buildSlice (P := P) w t el n (ps.map fun (i, x) => (i, a.eval x)) r i z ht hi hz (by omega) (by omega) (by rw [hparts]; exact hr)
    have al := alloc_heap w (.cells r el)
    have hlen : xs.length = n := by rw [l1, hn]
    refine Good.value (v := .slice (some ⟨w.heap.size, 0, none⟩) n n) (w' := w.alloc (.cells r el)) ?_ ?_
    ·simp only [execOp, hop]
     rw [Sem.run_bind, hrun]; rfl
    ·rw [ho]
     have hne : ∀ r0 k0, (r0, k0) ∈ fz → (⟨[fid d 0], fz⟩ : Kill).roots.elem r0 = false := by
      intro r0 k0 hm
      have := List.all_eq_true.1 hfa _ hm
      simpa using this
     have hold := al.2.1
     have hgw : Grows w (w.alloc (.cells r el)) ω (nω w (fid d 0) fz ω) (· ∈ fz) := nω_grows (alloc_like ..) (by omega) hold
     have hthaw : ∀ r0 k0, (r0, k0) ∈ fz → ∀ b l, ω b = some (.own (r0, k0) l) → E.S (w.alloc (.cells r el)) (nω w (fid d 0) fz ω) b ∧ ∀ o1, cel (w.alloc (.cells r el)) b o1 = cel w b o1 := by
      intro r0 k0 hm b l hb
      have hlt := h.wr.bd _ _ hb
      refine ⟨untag_S h hb ?_ (by omega), fun o1 => cel_old hold hlt⟩
      unfold nω
      rw [if_neg (by omega)]
      exact thaw_own hb hm
     obtain ⟨_, _, _, _, m5⟩ := litElems_ok (w' := w.alloc (.cells r el)) (ω' := nω w (fid d 0) fz ω) h hg hlit
     have hβq : ∀ v r0, (⟨[fid d 0], fz⟩ : Kill).roots.elem r0 = false → nβ (fid d 0) β r0 = β r0 ∧ ∀ k, nφ (fid d 0) v φ r0 k = φ r0 k := by
      intro v r0 hr0
      have hne' : r0 ≠ fid d 0 := fun he => by subst he; simp at hr0
      exact ⟨by simp [nβ, hne'], fun k => by simp [nφ, hne']⟩
     have hfp := fun v => freezePut_ok (E := E) (s := s) (w' := w.alloc (.cells r el)) (ω' := nω w (fid d 0) fz ω) (φ' := nφ (fid d 0) v φ) (β' := nβ (fid d 0) β) (q := ⟨[fid d 0], fz⟩) hfl l4
      (fun r0 k0 root hm hro => by
       have hb := h.bx r0 root hro
       refine ⟨by rw [(hβq v r0 (hne r0 k0 hm)).1]; exact hb.1, fun b hb' => ?_⟩
       rw [(hβq v r0 (hne r0 k0 hm)).1] at hb'
       obtain ⟨cs, t, fr, h1, h2⟩ := hb.2 b hb'
       exact ⟨cs, t, fr, by rw [hold b (h.wr.bd _ _ (h.wr.bj _ _ hb'))]; exact h1, h2⟩)
      (fun r0 k0 root k c hm hro hc hk0 => LCr_grow h hgw (hβq v) (hne r0 k0 hm) (fun hm' => by
       match fz, hfl, hm, hm' with
       | [x], _, hm, hm' =>
        simp at hm hm'
        rw [← hm] at hm'; cases hm'; exact hk0 rfl) (h.lc r0 root k c hro hc))
      (fun r0 k0 o1 e1 xs1 hm hr0 => by
       obtain ⟨o2, rfl, hown⟩ := lc_own (rowAt_ok h hr0)
       obtain ⟨a1, cap, hv⟩ := own_len hown
       exact ⟨_, val_grow hgw (hβq v r0 (hne r0 k0 hm)).1 ((hβq v r0 (hne r0 k0 hm)).2 k0) hv, rfl, frozen_sh h (fun b hb => hgw.S hb) hr0 (hthaw r0 k0 hm) hv⟩)
     have hlast : ∀ n0, lastPut (freezePut ⟨[fid d 0], fz⟩ s.r fz ++ [(fid d 0, some (floatRow e xs))]) n0 = if fid d 0 = n0 then some (some (floatRow e xs)) else lastPut (freezePut ⟨[fid d 0], fz⟩ s.r fz) n0 := by
      intro n0
      rw [lastPut_append]
      simp only [lastPut]
      by_cases h0 : fid d 0 = n0 <;> simp [h0]
     have key := Rel.newRow (d := d) (u := { kill := ⟨[fid d 0], fz⟩, put := freezePut ⟨[fid d 0], fz⟩ s.r fz ++ [(fid d 0, some (floatRow e xs))], dst := some (d, .one (.ref (fid d 0) 0)) })
      (f := fid d 0) (fz := fz) (t := el) (fr := (0, 0)) (cap := n) (cs := r) (xs := xs) h (E.pin_fid d 0) (fun r0 => by simp) rfl (by rw [hlast, if_pos rfl]) hgr (alloc_like ..) al.1 hold al.2.2 (fun o2 _ => by simp)
      (by omega) (by rw [hrs, hw]; simp) (fun k hk => ?_) (fun r0 root k hr0 hp => ?_) (fun r0 root hne0 hp => ?_)
     ·rw [hlen] at key; exact key
     ·obtain ⟨p, hp, hs⟩ := m5 (fun b hb => hgw.S hb) hthaw k hk
      refine Sh.congr _ _ _ _ (fun q hq => ?_) hs
      rw [hrk]
      have hkn : k < n := by rw [← hlen]; exact hk
      have h1 : (k * e.width + q) / i.size = k := by rw [hw]; rw [hw] at hq; rw [Nat.mul_comm, Nat.mul_add_div hwpos, Nat.div_eq_of_lt hq, Nat.add_zero]
      have h2 : (k * e.width + q) % i.size = q := by rw [hw]; rw [hw] at hq; rw [Nat.mul_comm, Nat.mul_add_mod, Nat.mod_eq_of_lt hq]
      rw [if_pos]
      ·rw [h1, h2, Nat.sub_zero, List.getElem?_map, hp]
       rfl
      ·refine ⟨by omega, ?_⟩
       have hle := Nat.mul_le_mul_right i.size (show k + 1 ≤ n by omega)
       rw [Nat.add_mul, Nat.one_mul] at hle
       rw [hw] at hq ⊢
       simp [hn]; omega
     ·rw [hlast] at hp
      split at hp
      ·cases hp
      ·exact (hfp .nilFunc).1 r0 root k hr0 hp
     ·rw [hlast, if_neg (Ne.symm hne0)] at hp
      exact (hfp _).2.1 r0 root hp
   ·split at hst
    ·rename_i hc
     cases hst
     have hps : ps = #[] := by
      have := hc.1
      rw [← Array.toArray_toList (xs := ps), List.eq_nil_of_length_eq_zero this]
     obtain ⟨hp0, rfl⟩ := hc
     subst hps
     have al := alloc_heap w (.cells #[] el)
     have hrun : (Instr.buildSlice t 0 #[]).run P w = .ok (.slice (some ⟨w.heap.size, 0, none⟩) 0 0) (w.alloc (.cells #[] el)) := by
      simp [Instr.buildSlice, run_underlying ht, sizeOf, typeInfo, hi, Instr.fill, Go.newRow, Array.range_zero']
     refine Good.value (v := .slice (some ⟨w.heap.size, 0, none⟩) 0 0) (w' := w.alloc (.cells #[] el)) (by simp [execOp, hop, hrun]) ?_
     rw [ho]
     exact fresh_row (d := d) (xs := []) (cap := 0) (t := el) (fr := (0, 0)) h hgr (alloc_like ..) al.1 al.2.1 al.2.2 (fun o2 _ => by simp) (Nat.le_refl _) (by simp) (fun k hk => absurd hk (Nat.not_lt_zero _))
    ·cases hst
  ·cases hst
 ·cases hst

end
end Go.Proofs.Ythamiihdoicjkaa.Pv
