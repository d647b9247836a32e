/- A part of the proof of the law FnExactShowTree: its texts, one behind the other. -/
import Derived.BigCall
import Derived.BigGuard
import Derived.Deep.Draws
import Derived.Ground.SlsfProg
import Derived.KernelRfl
import Derived.Laws.Strings3
import Derived.Lib.CutLaws
import Derived.Lib.IndexBytes
import Derived.Lib.SmallJoins
import Derived.Lib.Strings
import Derived.OwnWalk
import Derived.Shelf.LaysM
import Derived.Shelf.RegionOpenPlain
import Derived.Shelf.SlSortCmp.HeapSort1
import Derived.Shelf.SlSortCmp.Insertion
import Derived.Shelf.SlSortCmp.Insertion1
import Derived.Shelf.SlSortCmp.Median1
import Derived.Shelf.SlSortCmp.PartialInsertion1
import Derived.Shelf.SlSortCmp.Partition1
import Derived.Shelf.SlSortCmp.PartitionEqual1
import Derived.Shelf.SlSortCmp.Pdq1
import Derived.Shelf.SlSortCmp.Pivot1
import Derived.Shelf.SlSortCmp.ReverseRange1
import Derived.Shelf.SlSortCmp.SiftDown1
import Derived.Shelf.SlSortCmp.Whole1
import Derived.Shelf.Small.Bits
import Derived.Shelf.Small.Strs
import Derived.Shelf.Strconv.Itoa0
import Derived.Shelf.Strconv.Itoa1
import Derived.Shelf.Strconv.Itoa2
import Derived.Shelf.Strconv.Itoa3
import Derived.Shelf.Strings.Builder1
import Derived.Shelf.Strings.Builder2
import Derived.Shelf.Strings.Cut
import Derived.Shelf.Strings.OnBuilder
import Derived.Shelf.Strings.Prefix
import Derived.Shelf.Strings.Search1
import Derived.Shelf.Strings.Search2
import Derived.Shelf.Strings.Shaped
import Derived.Sort.AssemblyPlain
import Derived.Sort.Walk0
import Derived.Test.YtmddbohokaijeaaGreatDoorProg
import Derived.Test.YtmddbohokaijeaaGreatDoorBFnExactShowTree1
import Derived.Test.YtmddbohokaijeaaGreatDoorBFnExactShowTree2
import Derived.Test.YtmddbohokaijeaaGreatDoorBFnExactShowTree3
set_option linter.unusedVariables false
set_option linter.unusedSimpArgs false
namespace Go.Proofs.YtmddbohokaijeaaGreatDoor.Pv
open Go Go.Proofs
theorem f_spec_l01In (n : Nat) (a0 : Int) (a1 : Int) (a2 : Int) : pcall L (n + 1) 25 [⟨ki, a0⟩, ⟨ki, a1⟩, ⟨ki, a2⟩] = some [⟨.bool, sel (ige a0 a1) (ile a0 a2) false⟩] := by kernel_rfl
theorem f_spec_SchemaOf (n : Nat) (a0 : Int) : pcall L (n + 1) 84 [⟨ki, a0⟩] = cnd (ieq a0 1) (some [⟨ki, 2⟩, ⟨ki, 1⟩, ⟨.bool, true⟩]) (cnd (ieq a0 2) (some [⟨ki, 3⟩, ⟨ki, 2⟩, ⟨.bool, true⟩]) (cnd (ieq a0 3) (some [⟨ki, 4⟩, ⟨ki, 2⟩, ⟨.bool, true⟩]) (some [⟨ki, 0⟩, ⟨ki, 0⟩, ⟨.bool, false⟩]))) := by kernel_rfl
theorem f_impl_within (n : Nat) (a0 : Int) (a1 : Int) (a2 : Int) : pcall L (n + 1) 31 [⟨ki, a0⟩, ⟨ki, a1⟩, ⟨ki, a2⟩] = some [⟨.bool, sel (ige a0 a1) (ile a0 a2) false⟩] := by kernel_rfl
theorem f_impl_SchemaOf (n : Nat) (a0 : Int) : pcall L (n + 1) 85 [⟨ki, a0⟩] = cnd (ieq a0 1) (some [⟨ki, 2⟩, ⟨ki, 1⟩, ⟨.bool, true⟩]) (cnd (ieq a0 2) (some [⟨ki, 3⟩, ⟨ki, 2⟩, ⟨.bool, true⟩]) (cnd (ieq a0 3) (some [⟨ki, 4⟩, ⟨ki, 2⟩, ⟨.bool, true⟩]) (some [⟨ki, 0⟩, ⟨ki, 0⟩, ⟨.bool, false⟩]))) := by kernel_rfl
theorem f_spec_GroupSize (a0 : Int) (n : Nat) : pcall L (n + 1) 69 [⟨ki, a0⟩] = bnd (pc L n 84 [⟨ki, a0⟩] (.pair ki (.pair ki (.pair .bool .unit)))) fun (q0 : (Int × (Int × (Bool × Unit)))) => some [⟨ki, imul .i64 (imul .i64 q0.1 4) 2⟩] := by kernel_rfl
theorem f_impl_GroupSize (a0 : Int) (n : Nat) : pcall L (n + 1) 71 [⟨ki, a0⟩] = bnd (pc L n 85 [⟨ki, a0⟩] (.pair ki (.pair ki (.pair .bool .unit)))) fun (q0 : (Int × (Int × (Bool × Unit)))) => some [⟨ki, imul .i64 (imul .i64 q0.1 4) 2⟩] := by kernel_rfl
def p_spec_l10At_0 : List Dir := [.r, .l, .r, .i]
def S_spec_l10At_0 (a0 : List kInode.ty) (a1 : Int) (a2 : Int) (v0 : Int) : St := ⟨tT 22 [(1, .one (.d ki a2)), (2, .one (.adr 2 0)), (5, .one (.d ki v0))], [(2, ⟨true, [.tl (.d (.row kInode) a0), .tl (.d ki a1)]⟩)]⟩
def S_spec_l10At_1 (v0 : Int) : St := ⟨tT 22 [(4, .one (.d ki v0))], []⟩
def S_spec_l10At_2  : St := ⟨tT 22 [], []⟩
theorem k_spec_l10At_2 (n : Nat) : KP L n 12 p_spec_l10At_0 [] (.exit 0) (S_spec_l10At_2) = some [⟨ki, (-1)⟩] := by kernel_rfl
theorem k_spec_l10At_1 (n : Nat) (v0 : Int) : KP L n 12 p_spec_l10At_0 [] .ret (S_spec_l10At_1 v0) = some [⟨ki, v0⟩] := by kernel_rfl
theorem l_spec_l10At_0 (n : Nat) (a0 : List kInode.ty) (a1 : Int) (a2 : Int) (m : Nat) (v0 : Int) : LP L n 12 p_spec_l10At_0 [] (m + 1) (S_spec_l10At_0 a0 a1 a2 v0) = cnd (ilt v0 (rlen a0)) (bnd (must (inB v0 (rlen a0))) fun (_ : Unit) => cnd (ieq ((rget a0 v0 kInode.dflt).1) a2) (KP L n 12 p_spec_l10At_0 [] .ret (S_spec_l10At_1 v0)) (LP L n 12 p_spec_l10At_0 [] m (S_spec_l10At_0 a0 a1 a2 (iadd .i64 v0 1)))) (KP L n 12 p_spec_l10At_0 [] (.exit 0) (S_spec_l10At_2)) := by kernel_rfl
theorem f_spec_l10At (a0 : List kInode.ty) (a1 : Int) (a2 : Int) (n : Nat) : pcall L (n + 1) 12 [⟨.row kInode, a0⟩, ⟨ki, a1⟩, ⟨ki, a2⟩] = LP L n 12 p_spec_l10At_0 [] n (S_spec_l10At_0 a0 a1 a2 0) := by kernel_rfl
def p_spec_NameOk_0 : List Dir := [.r, .l, .r, .i]
def S_spec_NameOk_0 (a0 : ByteArray) (v0 : Int) : St := ⟨tT 35 [(0, .one (.d .str a0)), (3, .one (.d ki v0))], []⟩
def S_spec_NameOk_1  : St := ⟨tT 35 [(2, .one (.d .bool false))], []⟩
def S_spec_NameOk_2 (a0 : ByteArray) : St := ⟨tT 35 [(0, .one (.d .str a0))], []⟩
theorem k_spec_NameOk_2 (a0 : ByteArray) (n : Nat) : KP L n 48 p_spec_NameOk_0 [] (.exit 0) (S_spec_NameOk_2 a0) = bnd (pc L n 25 [⟨ki, slen a0⟩, ⟨ki, 1⟩, ⟨ki, 8⟩] (.pair .bool .unit)) fun (q0 : (Bool × Unit)) => some [⟨.bool, q0.1⟩] := by kernel_rfl
theorem k_spec_NameOk_1 (n : Nat) : KP L n 48 p_spec_NameOk_0 [] .ret (S_spec_NameOk_1) = some [⟨.bool, false⟩] := by kernel_rfl
theorem l_spec_NameOk_0 (n : Nat) (a0 : ByteArray) (m : Nat) (v0 : Int) : LP L n 48 p_spec_NameOk_0 [] (m + 1) (S_spec_NameOk_0 a0 v0) = cnd (ilt v0 (slen a0)) (bnd (must (inB v0 (slen a0))) fun (_ : Unit) => bnd (cnd (bnot (ilt (sat a0 v0) 97)) (must (inB v0 (slen a0))) (some ())) fun (_ : Unit) => bnd (cnd (sel (ilt (sat a0 v0) 97) true (igt (sat a0 v0) 122)) (must (inB v0 (slen a0))) (some ())) fun (_ : Unit) => bnd (cnd (band (sel (ilt (sat a0 v0) 97) true (igt (sat a0 v0) 122)) (bnot (ilt (sat a0 v0) 48))) (must (inB v0 (slen a0))) (some ())) fun (_ : Unit) => cnd (sel (sel (ilt (sat a0 v0) 97) true (igt (sat a0 v0) 122)) (sel (ilt (sat a0 v0) 48) true (igt (sat a0 v0) 57)) false) (KP L n 48 p_spec_NameOk_0 [] .ret (S_spec_NameOk_1)) (LP L n 48 p_spec_NameOk_0 [] m (S_spec_NameOk_0 a0 (iadd .i64 v0 1)))) (KP L n 48 p_spec_NameOk_0 [] (.exit 0) (S_spec_NameOk_2 a0)) := by kernel_rfl
theorem f_spec_NameOk (a0 : ByteArray) (n : Nat) : pcall L (n + 1) 48 [⟨.str, a0⟩] = LP L n 48 p_spec_NameOk_0 [] n (S_spec_NameOk_0 a0 0) := by kernel_rfl
def p_impl_NameOk_0 : List Dir := [.r, .l, .r, .i]
def S_impl_NameOk_0 (a0 : ByteArray) (v0 : Int) : St := ⟨tT 31 [(0, .one (.d .str a0)), (3, .one (.d ki v0))], []⟩
def S_impl_NameOk_1  : St := ⟨tT 31 [(2, .one (.d .bool false))], []⟩
def S_impl_NameOk_2 (a0 : ByteArray) : St := ⟨tT 31 [(0, .one (.d .str a0))], []⟩
theorem k_impl_NameOk_2 (a0 : ByteArray) (n : Nat) : KP L n 33 p_impl_NameOk_0 [] (.exit 0) (S_impl_NameOk_2 a0) = bnd (pc L n 31 [⟨ki, slen a0⟩, ⟨ki, 1⟩, ⟨ki, 8⟩] (.pair .bool .unit)) fun (q0 : (Bool × Unit)) => some [⟨.bool, q0.1⟩] := by kernel_rfl
theorem k_impl_NameOk_1 (n : Nat) : KP L n 33 p_impl_NameOk_0 [] .ret (S_impl_NameOk_1) = some [⟨.bool, false⟩] := by kernel_rfl
theorem l_impl_NameOk_0 (n : Nat) (a0 : ByteArray) (m : Nat) (v0 : Int) : LP L n 33 p_impl_NameOk_0 [] (m + 1) (S_impl_NameOk_0 a0 v0) = cnd (ilt v0 (slen a0)) (bnd (must (inB v0 (slen a0))) fun (_ : Unit) => cnd (sel (sel (ilt (sat a0 v0) 97) true (igt (sat a0 v0) 122)) (sel (ilt (sat a0 v0) 48) true (igt (sat a0 v0) 57)) false) (KP L n 33 p_impl_NameOk_0 [] .ret (S_impl_NameOk_1)) (LP L n 33 p_impl_NameOk_0 [] m (S_impl_NameOk_0 a0 (iadd .i64 v0 1)))) (KP L n 33 p_impl_NameOk_0 [] (.exit 0) (S_impl_NameOk_2 a0)) := by kernel_rfl
theorem f_impl_NameOk (a0 : ByteArray) (n : Nat) : pcall L (n + 1) 33 [⟨.str, a0⟩] = LP L n 33 p_impl_NameOk_0 [] n (S_impl_NameOk_0 a0 0) := by kernel_rfl
def p_spec_l10File_0 : List Dir := [.r, .r, .r, .l, .r, .i]
def S_spec_l10File_0 (a0 : Int) (a1 : Int) (a2 : ByteArray) (a3 : Bool) (a4 : Int) (a5 : Int) (a6 : Int) (a7 : List kPiece.ty) (a8 : Int) (v0 : Int) (v1 : Int) : St := ⟨tT 70 [(1, .one (.adr 1 0)), (3, .one (.d ki v0)), (4, .one (.d ki v1))], [(1, ⟨true, [.tl (.d ki a0), .tl (.d ki a1), .tl (.d .str a2), .tl (.d .bool a3), .tl (.d ki a4), .tl (.d ki a5), .tl (.d ki a6), .tl (.d (.row kPiece) a7), .tl (.d ki a8)]⟩)]⟩
def S_spec_l10File_1  : St := ⟨tT 70 [(2, .one (.d .bool false))], []⟩
def S_spec_l10File_2 (a0 : Int) (a1 : Int) (a2 : ByteArray) (a3 : Bool) (a4 : Int) (a5 : Int) (a6 : Int) (a7 : List kPiece.ty) (a8 : Int) (v0 : Int) : St := ⟨tT 70 [(1, .one (.adr 1 0)), (3, .one (.d ki v0))], [(1, ⟨true, [.tl (.d ki a0), .tl (.d ki a1), .tl (.d .str a2), .tl (.d .bool a3), .tl (.d ki a4), .tl (.d ki a5), .tl (.d ki a6), .tl (.d (.row kPiece) a7), .tl (.d ki a8)]⟩)]⟩
theorem k_spec_l10File_2 (n : Nat) (a0 : Int) (a1 : Int) (a2 : ByteArray) (a3 : Bool) (a4 : Int) (a5 : Int) (a6 : Int) (a7 : List kPiece.ty) (a8 : Int) (v0 : Int) : KP L n 47 p_spec_l10File_0 [] (.exit 0) (S_spec_l10File_2 a0 a1 a2 a3 a4 a5 a6 a7 a8 v0) = some [⟨.bool, sel (ieq v0 a6) (ile v0 1000) false⟩] := by kernel_rfl
theorem k_spec_l10File_1 (n : Nat) : KP L n 47 p_spec_l10File_0 [] .ret (S_spec_l10File_1) = some [⟨.bool, false⟩] := by kernel_rfl
theorem l_spec_l10File_0 (a0 : Int) (a1 : Int) (a2 : ByteArray) (a3 : Bool) (a4 : Int) (a5 : Int) (a6 : Int) (a7 : List kPiece.ty) (a8 : Int) (n : Nat) (m : Nat) (v0 : Int) (v1 : Int) : LP L n 47 p_spec_l10File_0 [] (m + 1) (S_spec_l10File_0 a0 a1 a2 a3 a4 a5 a6 a7 a8 v0 v1) = cnd (ilt v1 (rlen a7)) (bnd (must (inB v1 (rlen a7))) fun (_ : Unit) => bnd (pc L n 25 [⟨ki, (rget a7 v1 kPiece.dflt).1⟩, ⟨ki, 1⟩, ⟨ki, 100000⟩] (.pair .bool .unit)) fun (q0 : (Bool × Unit)) => bnd (cnd (bnot (bnot q0.1)) (must (inB v1 (rlen a7))) (some ())) fun (_ : Unit) => bnd (cnd (bnot (bnot q0.1)) (pc L n 69 [⟨ki, a4⟩] (.pair ki .unit)) (some (0, ()))) fun (q1 : (Int × Unit)) => bnd (cnd (bnot (bnot q0.1)) (pc L n 25 [⟨ki, ((rget a7 v1 kPiece.dflt).2).1⟩, ⟨ki, 1⟩, ⟨ki, q1.1⟩] (.pair .bool .unit)) (some (false, ()))) fun (q2 : (Bool × Unit)) => cnd (sel (bnot q0.1) true (bnot q2.1)) (KP L n 47 p_spec_l10File_0 [] .ret (S_spec_l10File_1)) (bnd (must (inB v1 (rlen a7))) fun (_ : Unit) => LP L n 47 p_spec_l10File_0 [] m (S_spec_l10File_0 a0 a1 a2 a3 a4 a5 a6 a7 a8 (iadd .i64 v0 (((rget a7 v1 kPiece.dflt).2).1)) (iadd .i64 v1 1)))) (KP L n 47 p_spec_l10File_0 [] (.exit 0) (S_spec_l10File_2 a0 a1 a2 a3 a4 a5 a6 a7 a8 v0)) := by kernel_rfl
theorem f_spec_l10File (a0 : Int) (a1 : Int) (a2 : ByteArray) (a3 : Bool) (a4 : Int) (a5 : Int) (a6 : Int) (a7 : List kPiece.ty) (a8 : Int) (n : Nat) : pcall L (n + 1) 47 [⟨ki, a0⟩, ⟨ki, a1⟩, ⟨.str, a2⟩, ⟨.bool, a3⟩, ⟨ki, a4⟩, ⟨ki, a5⟩, ⟨ki, a6⟩, ⟨.row kPiece, a7⟩, ⟨ki, a8⟩] = bnd (pc L n 25 [⟨ki, a4⟩, ⟨ki, 1⟩, ⟨ki, 3⟩] (.pair .bool .unit)) fun (q0 : (Bool × Unit)) => bnd (cnd (bnot (sel (sel (bnot q0.1) true (ine a5 0)) true (igt (rlen a7) 40))) (pc L n 25 [⟨ki, a8⟩, ⟨ki, 0⟩, ⟨ki, 9⟩] (.pair .bool .unit)) (some (false, ()))) fun (q1 : (Bool × Unit)) => cnd (sel (sel (sel (bnot q0.1) true (ine a5 0)) true (igt (rlen a7) 40)) true (bnot q1.1)) (some [⟨.bool, false⟩]) (LP L n 47 p_spec_l10File_0 [] n (S_spec_l10File_0 a0 a1 a2 a3 a4 a5 a6 a7 a8 0 0)) := by kernel_rfl
def p_impl_piecesOk_0 : List Dir := [.r, .r, .l, .r, .i]
def S_impl_piecesOk_0 (a0 : Int) (a1 : Int) (a2 : ByteArray) (a3 : Bool) (a4 : Int) (a5 : Int) (a6 : Int) (a7 : List kPiece.ty) (a8 : Int) (v0 : Int) (v1 : Int) : St := ⟨tT 45 [(1, .one (.adr 1 0)), (3, .one (.d ki v0)), (7, .one (.d (.row kPiece) a7)), (8, .one (.d ki (rlen a7))), (9, .one (.d ki v1))], [(1, ⟨true, [.tl (.d ki a0), .tl (.d ki a1), .tl (.d .str a2), .tl (.d .bool a3), .tl (.d ki a4), .tl (.d ki a5), .tl (.d ki a6), .tl (.d (.row kPiece) a7), .tl (.d ki a8)]⟩)]⟩
def S_impl_piecesOk_1  : St := ⟨tT 45 [(2, .one (.d .bool false))], []⟩
def S_impl_piecesOk_2 (a0 : Int) (a1 : Int) (a2 : ByteArray) (a3 : Bool) (a4 : Int) (a5 : Int) (a6 : Int) (a7 : List kPiece.ty) (a8 : Int) (v0 : Int) : St := ⟨tT 45 [(1, .one (.adr 1 0)), (3, .one (.d ki v0))], [(1, ⟨true, [.tl (.d ki a0), .tl (.d ki a1), .tl (.d .str a2), .tl (.d .bool a3), .tl (.d ki a4), .tl (.d ki a5), .tl (.d ki a6), .tl (.d (.row kPiece) a7), .tl (.d ki a8)]⟩)]⟩
theorem k_impl_piecesOk_2 (n : Nat) (a0 : Int) (a1 : Int) (a2 : ByteArray) (a3 : Bool) (a4 : Int) (a5 : Int) (a6 : Int) (a7 : List kPiece.ty) (a8 : Int) (v0 : Int) : KP L n 50 p_impl_piecesOk_0 [] (.exit 0) (S_impl_piecesOk_2 a0 a1 a2 a3 a4 a5 a6 a7 a8 v0) = some [⟨.bool, sel (sel (ile (rlen a7) 40) (ieq a6 v0) false) (ile v0 1000) false⟩] := by kernel_rfl
theorem k_impl_piecesOk_1 (n : Nat) : KP L n 50 p_impl_piecesOk_0 [] .ret (S_impl_piecesOk_1) = some [⟨.bool, false⟩] := by kernel_rfl
theorem l_impl_piecesOk_0 (a0 : Int) (a1 : Int) (a2 : ByteArray) (a3 : Bool) (a4 : Int) (a5 : Int) (a6 : Int) (a7 : List kPiece.ty) (a8 : Int) (n : Nat) (m : Nat) (v0 : Int) (v1 : Int) : LP L n 50 p_impl_piecesOk_0 [] (m + 1) (S_impl_piecesOk_0 a0 a1 a2 a3 a4 a5 a6 a7 a8 v0 v1) = cnd (ilt v1 (rlen a7)) (bnd (must (inB v1 (rlen a7))) fun (_ : Unit) => bnd (pc L n 31 [⟨ki, (rget a7 v1 kPiece.dflt).1⟩, ⟨ki, 1⟩, ⟨ki, 100000⟩] (.pair .bool .unit)) fun (q0 : (Bool × Unit)) => bnd (cnd (bnot (bnot q0.1)) (pc L n 71 [⟨ki, a4⟩] (.pair ki .unit)) (some (0, ()))) fun (q1 : (Int × Unit)) => bnd (cnd (bnot (bnot q0.1)) (pc L n 31 [⟨ki, ((rget a7 v1 kPiece.dflt).2).1⟩, ⟨ki, 1⟩, ⟨ki, q1.1⟩] (.pair .bool .unit)) (some (false, ()))) fun (q2 : (Bool × Unit)) => cnd (sel (bnot q0.1) true (bnot q2.1)) (KP L n 50 p_impl_piecesOk_0 [] .ret (S_impl_piecesOk_1)) (LP L n 50 p_impl_piecesOk_0 [] m (S_impl_piecesOk_0 a0 a1 a2 a3 a4 a5 a6 a7 a8 (iadd .i64 v0 (((rget a7 v1 kPiece.dflt).2).1)) (iadd .i64 v1 1)))) (KP L n 50 p_impl_piecesOk_0 [] (.exit 0) (S_impl_piecesOk_2 a0 a1 a2 a3 a4 a5 a6 a7 a8 v0)) := by kernel_rfl
theorem f_impl_piecesOk (a0 : Int) (a1 : Int) (a2 : ByteArray) (a3 : Bool) (a4 : Int) (a5 : Int) (a6 : Int) (a7 : List kPiece.ty) (a8 : Int) (n : Nat) : pcall L (n + 1) 50 [⟨ki, a0⟩, ⟨ki, a1⟩, ⟨.str, a2⟩, ⟨.bool, a3⟩, ⟨ki, a4⟩, ⟨ki, a5⟩, ⟨ki, a6⟩, ⟨.row kPiece, a7⟩, ⟨ki, a8⟩] = LP L n 50 p_impl_piecesOk_0 [] n (S_impl_piecesOk_0 a0 a1 a2 a3 a4 a5 a6 a7 a8 0 0) := by kernel_rfl
theorem f_impl_inodeOk (a0 : Int) (a1 : Int) (a2 : ByteArray) (a3 : Bool) (a4 : Int) (a5 : Int) (a6 : Int) (a7 : List kPiece.ty) (a8 : Int) (n : Nat) : pcall L (n + 1) 32 [⟨ki, a0⟩, ⟨ki, a1⟩, ⟨.str, a2⟩, ⟨.bool, a3⟩, ⟨ki, a4⟩, ⟨ki, a5⟩, ⟨ki, a6⟩, ⟨.row kPiece, a7⟩, ⟨ki, a8⟩] = cnd a3 (bnd (pc L n 31 [⟨ki, a4⟩, ⟨ki, 0⟩, ⟨ki, 3⟩] (.pair .bool .unit)) fun (q0 : (Bool × Unit)) => bnd (cnd q0.1 (pc L n 31 [⟨ki, a5⟩, ⟨ki, 0⟩, ⟨ki, 1000⟩] (.pair .bool .unit)) (some (false, ()))) fun (q1 : (Bool × Unit)) => some [⟨.bool, sel (sel (sel (sel q0.1 q1.1 false) (ieq a6 0) false) (ieq (rlen a7) 0) false) (ieq a8 0) false⟩]) (bnd (pc L n 31 [⟨ki, a4⟩, ⟨ki, 1⟩, ⟨ki, 3⟩] (.pair .bool .unit)) fun (q2 : (Bool × Unit)) => bnd (cnd (sel q2.1 (ieq a5 0) false) (pc L n 31 [⟨ki, a8⟩, ⟨ki, 0⟩, ⟨ki, 9⟩] (.pair .bool .unit)) (some (false, ()))) fun (q3 : (Bool × Unit)) => bnd (cnd (sel (sel q2.1 (ieq a5 0) false) q3.1 false) (pc L n 50 [⟨ki, a0⟩, ⟨ki, a1⟩, ⟨.str, a2⟩, ⟨.bool, a3⟩, ⟨ki, a4⟩, ⟨ki, a5⟩, ⟨ki, a6⟩, ⟨.row kPiece, a7⟩, ⟨ki, a8⟩] (.pair .bool .unit)) (some (false, ()))) fun (q4 : (Bool × Unit)) => some [⟨.bool, sel (sel (sel q2.1 (ieq a5 0) false) q3.1 false) q4.1 false⟩]) := by kernel_rfl
def p_spec_TreeOk_0 : List Dir := [.r, .r, .l, .r, .i]
def S_spec_TreeOk_0 (a0 : List kInode.ty) (a1 : Int) (v0 : Int) : St := ⟨tT 25 [(1, .one (.adr 1 0)), (3, .one (.d ki v0))], [(1, ⟨true, [.tl (.d (.row kInode) a0), .tl (.d ki a1)]⟩)]⟩
def S_spec_TreeOk_1  : St := ⟨tT 25 [(2, .one (.d .bool false))], []⟩
def S_spec_TreeOk_2  : St := ⟨tT 25 [], []⟩
theorem k_spec_TreeOk_2 (n : Nat) : KP L n 10 p_spec_TreeOk_0 [] (.exit 0) (S_spec_TreeOk_2) = some [⟨.bool, true⟩] := by kernel_rfl
theorem k_spec_TreeOk_1 (n : Nat) : KP L n 10 p_spec_TreeOk_0 [] .ret (S_spec_TreeOk_1) = some [⟨.bool, false⟩] := by kernel_rfl
theorem l_spec_TreeOk_0 (a0 : List kInode.ty) (a1 : Int) (n : Nat) (m : Nat) (v0 : Int) : LP L n 10 p_spec_TreeOk_0 [] (m + 1) (S_spec_TreeOk_0 a0 a1 v0) = cnd (ilt v0 (rlen a0)) (bnd (pc L n 26 [⟨.row kInode, a0⟩, ⟨ki, a1⟩, ⟨ki, v0⟩] (.pair .bool .unit)) fun (q0 : (Bool × Unit)) => cnd (bnot q0.1) (KP L n 10 p_spec_TreeOk_0 [] .ret (S_spec_TreeOk_1)) (LP L n 10 p_spec_TreeOk_0 [] m (S_spec_TreeOk_0 a0 a1 (iadd .i64 v0 1)))) (KP L n 10 p_spec_TreeOk_0 [] (.exit 0) (S_spec_TreeOk_2)) := by kernel_rfl
theorem f_spec_TreeOk (a0 : List kInode.ty) (a1 : Int) (n : Nat) : pcall L (n + 1) 10 [⟨.row kInode, a0⟩, ⟨ki, a1⟩] = bnd (pc L n 25 [⟨ki, rlen a0⟩, ⟨ki, 1⟩, ⟨ki, 14⟩] (.pair .bool .unit)) fun (q0 : (Bool × Unit)) => cnd (sel (bnot q0.1) true (igt a1 100000)) (some [⟨.bool, false⟩]) (LP L n 10 p_spec_TreeOk_0 [] n (S_spec_TreeOk_0 a0 a1 0)) := by kernel_rfl
theorem within_ev (n : Nat) (a b c : Int) : pc L (n + 1) 25 [⟨ki, a⟩, ⟨ki, b⟩, ⟨ki, c⟩] (.pair .bool .unit) = some (decide (b ≤ a) && decide (a ≤ c), ()) := by
 refine pc_of ((f_spec_l01In n a b c).trans ?_)
 simp only [leaves, sel, ige, ile, ge_iff_le, List.append_nil]
 congr 3
 by_cases h : b ≤ a <;> simp [h]

theorem within_ev' (n : Nat) (a b c : Int) : pc L (n + 1) 31 [⟨ki, a⟩, ⟨ki, b⟩, ⟨ki, c⟩] (.pair .bool .unit) = some (decide (b ≤ a) && decide (a ≤ c), ()) := by
 refine pc_of ((f_impl_within n a b c).trans ?_)
 simp only [leaves, sel, ige, ile, ge_iff_le, List.append_nil]
 congr 3
 by_cases h : b ≤ a <;> simp [h]

def atI (id : Int) : List kInode.ty → Nat → Int
 | [], _ => -1
 | x :: xs, i => if x.1 = id then i else atI id xs (i + 1)

theorem l10At_loop (n : Nat) (ns : List kInode.ty) (nx id : Int) (hl : ns.length < 4611686018427387904) : ∀ (m i : Nat), i ≤ ns.length → ns.length - i < m →
  LP L n 12 p_spec_l10At_0 [] m (S_spec_l10At_0 ns nx id i) = some [⟨ki, atI id (ns.drop i) i⟩]
 | 0, i, _, hm => by omega
 | m + 1, i, hi, hm => by
  rw [l_spec_l10At_0]
  by_cases h : i < ns.length
  ·rw [row_lt h, cnd_t, must_of (row_in h), bnd_s, row_get h, cnd_if]
   have hd : ns.drop i = ns[i] :: ns.drop (i + 1) := List.drop_eq_getElem_cons h
   rw [hd]
   simp only [atI, ieq, beq_iff_eq]
   split
   ·exact k_spec_l10At_1 n _
   ·rw [iadd_eq (by omega) (by omega)]
    exact l10At_loop n ns nx id hl m (i + 1) (by omega) (by omega)
  ·obtain rfl : i = ns.length := by omega
   rw [row_end, cnd_f, List.drop_length]
   exact k_spec_l10At_2 n

def schU (s : Int) : Int := if s = 1 then 2 else if s = 2 then 3 else if s = 3 then 4 else 0
def schM (s : Int) : Int := if s = 1 then 1 else if s = 2 then 2 else if s = 3 then 2 else 0
def schOk (s : Int) : Bool := if s = 1 then true else if s = 2 then true else if s = 3 then true else false

theorem cnd_ieq {α : Type} {a b : Int} {x y : α} : cnd (ieq a b) x y = if a = b then x else y := by
 rw [cnd_if]; simp only [ieq, beq_iff_eq]

theorem SchemaOf_ev (n : Nat) (s : Int) : pc L (n + 1) 84 [⟨ki, s⟩] (.pair ki (.pair ki (.pair .bool .unit))) = some (schU s, schM s, schOk s, ()) := by
 refine pc_of ((f_spec_SchemaOf n s).trans ?_)
 simp only [cnd_ieq, schU, schM, schOk, leaves]
 (repeat' split) <;> rfl

theorem SchemaOf_ev' (n : Nat) (s : Int) : pc L (n + 1) 85 [⟨ki, s⟩] (.pair ki (.pair ki (.pair .bool .unit))) = some (schU s, schM s, schOk s, ()) := by
 refine pc_of ((f_impl_SchemaOf n s).trans ?_)
 simp only [cnd_ieq, schU, schM, schOk, leaves]
 (repeat' split) <;> rfl

theorem schU_range (s : Int) : 0 ≤ schU s ∧ schU s ≤ 4 := by unfold schU; (repeat' split) <;> omega

theorem imul_eq {a b : Int} (h0 : -9223372036854775808 ≤ a * b) (h1 : a * b < 9223372036854775808) : imul .i64 a b = a * b := wrap64_eq h0 h1

theorem GroupSize_ev (n : Nat) (s : Int) : pc L (n + 2) 69 [⟨ki, s⟩] (.pair ki .unit) = some (schU s * 8, ()) := by
 have hr := schU_range s
 refine pc_of ((f_spec_GroupSize s (n + 1)).trans ?_)
 rw [SchemaOf_ev, bnd_s, imul_eq (a := schU s) (by omega) (by omega), imul_eq (by omega) (by omega)]
 rw [show schU s * 4 * 2 = schU s * 8 by omega]
 rfl

theorem GroupSize_ev' (n : Nat) (s : Int) : pc L (n + 2) 71 [⟨ki, s⟩] (.pair ki .unit) = some (schU s * 8, ()) := by
 have hr := schU_range s
 refine pc_of ((f_impl_GroupSize s (n + 1)).trans ?_)
 rw [SchemaOf_ev', bnd_s, imul_eq (a := schU s) (by omega) (by omega), imul_eq (by omega) (by omega)]
 rw [show schU s * 4 * 2 = schU s * 8 by omega]
 rfl

def badC (c : Int) : Bool := (decide (c < 97) || decide (122 < c)) && (decide (c < 48) || decide (57 < c))
def bytesI (s : ByteArray) : List Int := s.data.toList.map fun b => (b.toNat : Int)
def nameOk (s : ByteArray) : Bool := !(bytesI s).any badC && decide (1 ≤ (s.size : Int)) && decide ((s.size : Int) ≤ 8)

section
variable {s : ByteArray} {i : Nat}
theorem str_in (h : i < s.size) : inB (i : Int) (slen s) = true := by simp [inB, slen]; omega
theorem str_lt (h : i < s.size) : ilt (i : Int) (slen s) = true := by simp [ilt, slen]; omega
theorem str_end : ilt (s.size : Int) (slen s) = false := by simp [ilt, slen]
theorem bytesI_length (s : ByteArray) : (bytesI s).length = s.size := by simp [bytesI]
theorem str_at (h : i < s.size) : sat s (i : Int) = (bytesI s)[i]'(by rw [bytesI_length]; exact h) := by
 have h' : i < s.data.size := h
 simp [sat, bytesI, Array.getElem?_eq_getElem h']
end
theorem badC_sel (c : Int) : sel (sel (ilt c 97) true (igt c 122)) (sel (ilt c 48) true (igt c 57)) false = badC c := by
 simp only [sel, ilt, igt, badC]
 by_cases h1 : c < 97 <;> by_cases h2 : c > 122 <;> by_cases h3 : c < 48 <;> by_cases h4 : c > 57 <;> simp_all

theorem NameOk_loop (n : Nat) (s : ByteArray) (hl : s.size < 4611686018427387904) : ∀ (m i : Nat), i ≤ s.size → s.size - i < m →
  LP L (n + 1) 33 p_impl_NameOk_0 [] m (S_impl_NameOk_0 s i) = some [⟨.bool, !((bytesI s).drop i).any badC && decide (1 ≤ (s.size : Int)) && decide ((s.size : Int) ≤ 8)⟩]
 | 0, i, _, hm => by omega
 | m + 1, i, hi, hm => by
  rw [l_impl_NameOk_0]
  by_cases h : i < s.size
  ·rw [str_lt h, cnd_t, must_of (str_in h), bnd_s, str_at h, badC_sel, cnd_if]
   have hd : (bytesI s).drop i = (bytesI s)[i]'(by rw [bytesI_length]; exact h) :: (bytesI s).drop (i + 1) := List.drop_eq_getElem_cons (by rw [bytesI_length]; exact h)
   rw [hd, List.any_cons]
   split
   ·rename_i hb
    rw [hb]
    exact (k_impl_NameOk_1 (n + 1)).trans (by simp)
   ·rename_i hb
    simp only [Bool.not_eq_true] at hb
    rw [hb, Bool.false_or, iadd_eq (by omega) (by omega)]
    exact NameOk_loop n s hl m (i + 1) (by omega) (by omega)
  ·obtain rfl : i = s.size := by omega
   rw [str_end, cnd_f, List.drop_eq_nil_of_le (by rw [bytesI_length]; exact Nat.le_refl _), k_impl_NameOk_2, within_ev', bnd_s]
   simp only [slen, List.any_nil, Bool.not_false, Bool.true_and]
   rfl

theorem NameOk_ev' (s : ByteArray) (hl : s.size < 4611686018427387904) : Evt fun n => pc L n 33 [⟨.str, s⟩] (.pair .bool .unit) = some (nameOk s, ()) :=
 Evt.succ (Evt.succ ((Evt.ge (s.size + 1)).mono fun n hn => pc_of ((f_impl_NameOk s (n + 1)).trans (NameOk_loop n s hl (n + 1) 0 (Nat.zero_le _) (by omega)))))

theorem cnd_same {α : Type} {b : Bool} {x : α} : cnd b x x = x := by cases b <;> rfl

theorem sel_t {x y : Bool} : sel true x y = x := rfl
theorem sel_f {x y : Bool} : sel false x y = y := rfl

theorem sel_and {x y : Bool} : sel x y false = (x && y) := by cases x <;> rfl

theorem igt_not {a b : Int} : igt a b = !decide (a ≤ b) := by
 unfold igt
 by_cases h : a ≤ b
 ·rw [decide_eq_true h, Bool.not_true]; exact decide_eq_false (by omega)
 ·rw [decide_eq_false h, Bool.not_false]; exact decide_eq_true (by omega)

theorem NameOkS_loop (n : Nat) (s : ByteArray) (hl : s.size < 4611686018427387904) : ∀ (m i : Nat), i ≤ s.size → s.size - i < m →
  LP L (n + 1) 48 p_spec_NameOk_0 [] m (S_spec_NameOk_0 s i) = some [⟨.bool, !((bytesI s).drop i).any badC && decide (1 ≤ (s.size : Int)) && decide ((s.size : Int) ≤ 8)⟩]
 | 0, i, _, hm => by omega
 | m + 1, i, hi, hm => by
  rw [l_spec_NameOk_0]
  by_cases h : i < s.size
  ·rw [str_lt h, cnd_t]
   simp only [must_of (str_in h), cnd_same, bnd_s]
   rw [str_at h, badC_sel, cnd_if]
   have hd : (bytesI s).drop i = (bytesI s)[i]'(by rw [bytesI_length]; exact h) :: (bytesI s).drop (i + 1) := List.drop_eq_getElem_cons (by rw [bytesI_length]; exact h)
   rw [hd, List.any_cons]
   split
   ·rename_i hb
    rw [hb]
    exact (k_spec_NameOk_1 (n + 1)).trans (by simp)
   ·rename_i hb
    simp only [Bool.not_eq_true] at hb
    rw [hb, Bool.false_or, iadd_eq (by omega) (by omega)]
    exact NameOkS_loop n s hl m (i + 1) (by omega) (by omega)
  ·obtain rfl : i = s.size := by omega
   rw [str_end, cnd_f, List.drop_eq_nil_of_le (by rw [bytesI_length]; exact Nat.le_refl _), k_spec_NameOk_2, within_ev, bnd_s]
   simp only [slen, List.any_nil, Bool.not_false, Bool.true_and]
   rfl

theorem NameOk_ev (s : ByteArray) (hl : s.size < 4611686018427387904) : Evt fun n => pc L n 48 [⟨.str, s⟩] (.pair .bool .unit) = some (nameOk s, ()) :=
 Evt.succ (Evt.succ ((Evt.ge (s.size + 1)).mono fun n hn => pc_of ((f_spec_NameOk s (n + 1)).trans (NameOkS_loop n s hl (n + 1) 0 (Nat.zero_le _) (by omega)))))

def pieceOk (s : Int) (p : kPiece.ty) : Bool := (decide (1 ≤ p.1) && decide (p.1 ≤ 100000)) && (decide (1 ≤ p.2.1) && decide (p.2.1 ≤ schU s * 8))
def psum : List kPiece.ty → Int
 | [] => 0
 | p :: ps => p.2.1 + psum ps

theorem piecesOk_loop (n : Nat) (a0 a1 : Int) (a2 : ByteArray) (a3 : Bool) (a4 a5 a6 : Int) (ps : List kPiece.ty) (a8 : Int) (hl : ps.length < 4294967296) : ∀ (m i : Nat) (v : Int), i ≤ ps.length → ps.length - i < m → 0 ≤ v → v ≤ 32 * i →
  LP L (n + 2) 50 p_impl_piecesOk_0 [] m (S_impl_piecesOk_0 a0 a1 a2 a3 a4 a5 a6 ps a8 v i) =
   some [⟨.bool, (ps.drop i).all (pieceOk a4) && (decide ((ps.length : Int) ≤ 40) && decide (a6 = v + psum (ps.drop i)) && decide (v + psum (ps.drop i) ≤ 1000))⟩]
 | 0, i, v, _, hm, _, _ => by omega
 | m + 1, i, v, hi, hm, h0, h1 => by
  rw [l_impl_piecesOk_0]
  by_cases h : i < ps.length
  ·have hd : ps.drop i = ps[i] :: ps.drop (i + 1) := List.drop_eq_getElem_cons h
   rw [row_lt h, cnd_t, must_of (row_in h), bnd_s, row_get h, within_ev', bnd_s, hd, List.all_cons, GroupSize_ev']
   have hp : pieceOk a4 ps[i] = ((decide (1 ≤ ps[i].1) && decide (ps[i].1 ≤ 100000)) && (decide (1 ≤ ps[i].2.1) && decide (ps[i].2.1 ≤ schU a4 * 8))) := rfl
   have hr := schU_range a4
   rw [hp]
   cases hb : (decide (1 ≤ ps[i].1) && decide (ps[i].1 ≤ 100000)) with
   | false =>
    simp only [bnot, cnd_f, cnd_t, bnd_s, sel_t, sel_f, Bool.not_false, Bool.not_true, Bool.false_and]
    rw [k_impl_piecesOk_1 (n + 2)]
   | true =>
    simp only [bnot, cnd_f, cnd_t, bnd_s, sel_t, sel_f, Bool.not_false, Bool.not_true, Bool.true_and]
    rw [within_ev', bnd_s]
    cases hc : (decide (1 ≤ ps[i].2.1) && decide (ps[i].2.1 ≤ schU a4 * 8)) with
    | false =>
     simp only [bnot, cnd_f, cnd_t, bnd_s, sel_t, sel_f, Bool.not_false, Bool.not_true, Bool.false_and]
     rw [k_impl_piecesOk_1 (n + 2)]
    | true =>
     simp only [bnot, cnd_f, cnd_t, bnd_s, sel_t, sel_f, Bool.not_false, Bool.not_true, Bool.true_and]
     simp only [Bool.and_eq_true, decide_eq_true_eq] at hc
     have h5 : @LE.le Int _ 1 ps[i].2.1 := hc.1
     have h6 : @LE.le Int _ ps[i].2.1 (schU a4 * 8) := hc.2
     rw [iadd_eq (by omega) (by omega), iadd_eq (by omega) (by omega)]
     refine (piecesOk_loop n a0 a1 a2 a3 a4 a5 a6 ps a8 hl m (i + 1) (v + ps[i].2.1) (by omega) (by omega) (by omega) (by omega)).trans ?_
     rw [psum, Int.add_assoc]
  ·obtain rfl : i = ps.length := by omega
   rw [row_end, cnd_f, List.drop_length]
   refine (k_impl_piecesOk_2 (n + 2) ..).trans ?_
   simp only [List.all_nil, Bool.true_and, psum, Int.add_zero, sel_and, ile, ieq, rlen]
   try rfl

theorem piecesOk_ev (a0 a1 : Int) (a2 : ByteArray) (a3 : Bool) (a4 a5 a6 : Int) (ps : List kPiece.ty) (a8 : Int) (hl : ps.length < 4294967296) :
  Evt fun n => pc L n 50 [⟨ki, a0⟩, ⟨ki, a1⟩, ⟨.str, a2⟩, ⟨.bool, a3⟩, ⟨ki, a4⟩, ⟨ki, a5⟩, ⟨ki, a6⟩, ⟨.row kPiece, ps⟩, ⟨ki, a8⟩] (.pair .bool .unit) =
   some (ps.all (pieceOk a4) && (decide ((ps.length : Int) ≤ 40) && decide (a6 = psum ps) && decide (psum ps ≤ 1000)), ()) :=
 Evt.succ (Evt.succ (Evt.succ ((Evt.ge (ps.length + 1)).mono fun n hn => pc_of ((f_impl_piecesOk a0 a1 a2 a3 a4 a5 a6 ps a8 (n + 2)).trans
  ((piecesOk_loop n a0 a1 a2 a3 a4 a5 a6 ps a8 hl (n + 2) 0 0 (Nat.zero_le _) (by omega) (by omega) (by omega)).trans (by rw [List.drop_zero, Int.zero_add]; rfl))))))

theorem l10File_loop (n : Nat) (a0 a1 : Int) (a2 : ByteArray) (a3 : Bool) (a4 a5 a6 : Int) (ps : List kPiece.ty) (a8 : Int) (hl : ps.length < 4294967296) : ∀ (m i : Nat) (v : Int), i ≤ ps.length → ps.length - i < m → 0 ≤ v → v ≤ 32 * i →
  LP L (n + 2) 47 p_spec_l10File_0 [] m (S_spec_l10File_0 a0 a1 a2 a3 a4 a5 a6 ps a8 v i) =
   some [⟨.bool, (ps.drop i).all (pieceOk a4) && (decide (a6 = v + psum (ps.drop i)) && decide (v + psum (ps.drop i) ≤ 1000))⟩]
 | 0, i, v, _, hm, _, _ => by omega
 | m + 1, i, v, hi, hm, h0, h1 => by
  rw [l_spec_l10File_0]
  by_cases h : i < ps.length
  ·have hd : ps.drop i = ps[i] :: ps.drop (i + 1) := List.drop_eq_getElem_cons h
   simp only [must_of (row_in h), bnd_s, cnd_same]
   rw [row_lt h, cnd_t, row_get h, within_ev, bnd_s, hd, List.all_cons, GroupSize_ev]
   have hp : pieceOk a4 ps[i] = ((decide (1 ≤ ps[i].1) && decide (ps[i].1 ≤ 100000)) && (decide (1 ≤ ps[i].2.1) && decide (ps[i].2.1 ≤ schU a4 * 8))) := rfl
   have hr := schU_range a4
   rw [hp]
   cases hb : (decide (1 ≤ ps[i].1) && decide (ps[i].1 ≤ 100000)) with
   | false =>
    simp only [bnot, cnd_f, cnd_t, bnd_s, sel_t, sel_f, Bool.not_false, Bool.not_true, Bool.false_and]
    exact k_spec_l10File_1 (n + 2)
   | true =>
    simp only [bnot, cnd_f, cnd_t, bnd_s, sel_t, sel_f, Bool.not_false, Bool.not_true, Bool.true_and]
    rw [within_ev, bnd_s]
    cases hc : (decide (1 ≤ ps[i].2.1) && decide (ps[i].2.1 ≤ schU a4 * 8)) with
    | false =>
     simp only [bnot, cnd_f, cnd_t, bnd_s, sel_t, sel_f, Bool.not_false, Bool.not_true, Bool.false_and]
     exact k_spec_l10File_1 (n + 2)
    | true =>
     simp only [bnot, cnd_f, cnd_t, bnd_s, sel_t, sel_f, Bool.not_false, Bool.not_true, Bool.true_and]
     simp only [Bool.and_eq_true, decide_eq_true_eq] at hc
     have h5 : @LE.le Int _ 1 ps[i].2.1 := hc.1
     have h6 : @LE.le Int _ ps[i].2.1 (schU a4 * 8) := hc.2
     rw [iadd_eq (by omega) (by omega), iadd_eq (by omega) (by omega)]
     refine (l10File_loop n a0 a1 a2 a3 a4 a5 a6 ps a8 hl m (i + 1) (v + ps[i].2.1) (by omega) (by omega) (by omega) (by omega)).trans ?_
     rw [psum, Int.add_assoc]
  ·obtain rfl : i = ps.length := by omega
   rw [row_end, cnd_f, List.drop_length]
   refine (k_spec_l10File_2 (n + 2) ..).trans ?_
   simp only [List.all_nil, Bool.true_and, psum, Int.add_zero, sel_and, ile, ieq]
   rw [show (v == a6) = decide (a6 = v) by rw [Bool.eq_iff_iff, beq_iff_eq, decide_eq_true_eq]; exact eq_comm]

theorem l10File_ev (a0 a1 : Int) (a2 : ByteArray) (a3 : Bool) (a4 a5 a6 : Int) (ps : List kPiece.ty) (a8 : Int) (hl : ps.length < 4294967296) :
  Evt fun n => pc L n 47 [⟨ki, a0⟩, ⟨ki, a1⟩, ⟨.str, a2⟩, ⟨.bool, a3⟩, ⟨ki, a4⟩, ⟨ki, a5⟩, ⟨ki, a6⟩, ⟨.row kPiece, ps⟩, ⟨ki, a8⟩] (.pair .bool .unit) =
   some ((decide (1 ≤ a4) && decide (a4 ≤ 3)) && (decide (a5 = 0) && decide ((ps.length : Int) ≤ 40)) && (decide (0 ≤ a8) && decide (a8 ≤ 9)) && (ps.all (pieceOk a4) && (decide (a6 = psum ps) && decide (psum ps ≤ 1000))), ()) :=
 Evt.succ (Evt.succ (Evt.succ ((Evt.ge (ps.length + 1)).mono fun n hn => pc_of ((f_spec_l10File a0 a1 a2 a3 a4 a5 a6 ps a8 (n + 2)).trans (by
  have hL := (l10File_loop n a0 a1 a2 a3 a4 a5 a6 ps a8 hl (n + 2) 0 0 (Nat.zero_le _) (by omega) (by omega) (by omega))
  rw [List.drop_zero, Int.zero_add] at hL
  have h5 : ine a5 0 = !decide (a5 = 0) := by rw [Bool.eq_iff_iff]; simp [ine]
  have h6 : igt (rlen ps) 40 = !decide ((ps.length : Int) ≤ 40) := igt_not
  rw [within_ev, bnd_s, within_ev, h5, h6]
  cases hb : (decide (1 ≤ a4) && decide (a4 ≤ 3)) <;> cases hc : decide (a5 = 0) <;> cases hd : decide ((ps.length : Int) ≤ 40) <;>
   simp only [bnot, cnd_f, cnd_t, bnd_s, sel_t, sel_f, Bool.not_false, Bool.not_true, Bool.false_and, Bool.and_false, Bool.true_and] <;> try rfl
  cases he : (decide (0 ≤ a8) && decide (a8 ≤ 9)) <;> simp only [bnot, cnd_f, cnd_t, bnd_s, sel_t, sel_f, Bool.not_false, Bool.not_true, Bool.false_and, Bool.and_false, Bool.true_and]
  ·rfl
  ·exact hL)))))
def fileOk (a4 a5 a6 : Int) (ps : List kPiece.ty) (a8 : Int) : Bool :=
 (decide (1 ≤ a4) && decide (a4 ≤ 3)) && (decide (a5 = 0) && decide ((ps.length : Int) ≤ 40)) && (decide (0 ≤ a8) && decide (a8 ≤ 9)) && (ps.all (pieceOk a4) && (decide (a6 = psum ps) && decide (psum ps ≤ 1000)))
def dirOk (a4 a5 a6 : Int) (ps : List kPiece.ty) (a8 : Int) : Bool :=
 (decide (0 ≤ a4) && decide (a4 ≤ 3)) && (decide (0 ≤ a5) && decide (a5 ≤ 1000)) && (a6 == 0) && ((ps.length : Int) == 0) && (a8 == 0)

theorem inodeOk_ev (a0 a1 : Int) (a2 : ByteArray) (a3 : Bool) (a4 a5 a6 : Int) (ps : List kPiece.ty) (a8 : Int) (hl : ps.length < 4294967296) :
  Evt fun n => pc L n 32 [⟨ki, a0⟩, ⟨ki, a1⟩, ⟨.str, a2⟩, ⟨.bool, a3⟩, ⟨ki, a4⟩, ⟨ki, a5⟩, ⟨ki, a6⟩, ⟨.row kPiece, ps⟩, ⟨ki, a8⟩] (.pair .bool .unit) =
   some (if a3 = true then dirOk a4 a5 a6 ps a8 else fileOk a4 a5 a6 ps a8, ()) := by
 refine Evt.succ (((piecesOk_ev a0 a1 a2 a3 a4 a5 a6 ps a8 hl).and (Evt.ge 1)).mono fun n ⟨hp, hn⟩ => pc_of ((f_impl_inodeOk a0 a1 a2 a3 a4 a5 a6 ps a8 n).trans ?_))
 obtain ⟨n, rfl⟩ : ∃ m, n = m + 1 := ⟨n - 1, by omega⟩
 cases a3 with
 | true =>
  rw [cnd_t, within_ev', bnd_s, if_pos rfl]
  unfold dirOk
  cases hb : (decide (0 ≤ a4) && decide (a4 ≤ 3))
  ·simp only [cnd_f, bnd_s, sel_and, Bool.false_and]
   rfl
  ·simp only [cnd_t, within_ev', bnd_s, sel_and, Bool.true_and]
   rfl
 | false =>
  rw [cnd_f, within_ev', bnd_s, if_neg (by decide)]
  have h5 : ieq a5 0 = decide (a5 = 0) := by rw [Bool.eq_iff_iff]; simp [ieq]
  unfold fileOk
  rw [h5]
  cases hb : (decide (1 ≤ a4) && decide (a4 ≤ 3)) with
  | false =>
   simp only [cnd_f, bnd_s, sel_and, Bool.false_and]
   rfl
  | true =>
   cases hc : decide (a5 = 0) with
   | false =>
    simp only [cnd_f, bnd_s, sel_and, Bool.false_and, Bool.true_and]
    rfl
   | true =>
    simp only [cnd_t, bnd_s, sel_and, Bool.true_and]
    rw [within_ev', bnd_s]
    cases hd : (decide (0 ≤ a8) && decide (a8 ≤ 9)) with
    | false =>
     simp only [cnd_f, bnd_s, Bool.false_and, Bool.and_false]
     rfl
    | true =>
     simp only [cnd_t, bnd_s, Bool.true_and, Bool.and_true]
     rw [hp, bnd_s]
     cases decide ((ps.length : Int) ≤ 40) <;> cases ps.all (pieceOk a4) <;> rfl
def p_at_0 : List Dir := [.r, .l, .r, .i]
def S_at_0 (a0 : List kInode.ty) (a1 : Int) (v0 : Int) : St := ⟨tT 19 [(0, .one (.d (.row kInode) a0)), (1, .one (.d (.clo 52 (.pair (.iptr (.pair ki .unit)) .unit)) ((a1, ()), ()))), (7, .one (.d ki (rlen a0))), (8, .one (.d ki v0))], []⟩
def S_at_1 (v0 : Int) : St := ⟨tT 19 [(4, .one (.d ki v0))], []⟩
def S_at_2  : St := ⟨tT 19 [], []⟩
theorem k_at_2 (n : Nat) : KP L n 51 p_at_0 [] (.exit 0) (S_at_2) = some [⟨ki, (-1)⟩] := by kernel_rfl
theorem k_at_1 (n : Nat) (v0 : Int) : KP L n 51 p_at_0 [] .ret (S_at_1 v0) = some [⟨ki, v0⟩] := by kernel_rfl
theorem l_at_0 (a0 : List kInode.ty) (a1 : Int) (n : Nat) (m : Nat) (v0 : Int) : LP L n 51 p_at_0 [] (m + 1) (S_at_0 a0 a1 v0) = cnd (ilt v0 (rlen a0)) (bnd (must (inB v0 (rlen a0))) fun (_ : Unit) => bnd (pc L n 52 [⟨ki, (rget a0 v0 kInode.dflt).1⟩, ⟨ki, ((rget a0 v0 kInode.dflt).2).1⟩, ⟨.str, (((rget a0 v0 kInode.dflt).2).2).1⟩, ⟨.bool, ((((rget a0 v0 kInode.dflt).2).2).2).1⟩, ⟨ki, (((((rget a0 v0 kInode.dflt).2).2).2).2).1⟩, ⟨ki, ((((((rget a0 v0 kInode.dflt).2).2).2).2).2).1⟩, ⟨ki, (((((((rget a0 v0 kInode.dflt).2).2).2).2).2).2).1⟩, ⟨.row kPiece, ((((((((rget a0 v0 kInode.dflt).2).2).2).2).2).2).2).1⟩, ⟨ki, (((((((((rget a0 v0 kInode.dflt).2).2).2).2).2).2).2).2).1⟩, ⟨.iptr (.pair ki .unit), (a1, ())⟩] (.pair .bool .unit)) fun (q0 : (Bool × Unit)) => cnd q0.1 (KP L n 51 p_at_0 [] .ret (S_at_1 v0)) (LP L n 51 p_at_0 [] m (S_at_0 a0 a1 (iadd .i64 v0 1)))) (KP L n 51 p_at_0 [] (.exit 0) (S_at_2)) := by kernel_rfl
theorem f_at (a0 : List kInode.ty) (a1 : Int) (n : Nat) : pcall L (n + 1) 51 [⟨.row kInode, a0⟩, ⟨.clo 52 (.pair (.iptr (.pair ki .unit)) .unit), ((a1, ()), ())⟩] = LP L n 51 p_at_0 [] n (S_at_0 a0 a1 0) := by kernel_rfl
def p_has_0 : List Dir := [.r, .l, .r, .i]
def S_has_0 (a0 : List kInode.ty) (x : kInode.ty) (v0 : Int) : St := ⟨tT 19 [(0, .one (.d (.row kInode) a0)), (1, .one (.d (.clo 36 (.pair (.iptr kInode) .unit)) (x, ()))), (7, .one (.d ki (rlen a0))), (8, .one (.d ki v0))], []⟩
def S_has_1 (v0 : Int) : St := ⟨tT 19 [(4, .one (.d ki v0))], []⟩
def S_has_2  : St := ⟨tT 19 [], []⟩
theorem k_has_2 (n : Nat) : KP L n 51 p_has_0 [] (.exit 0) (S_has_2) = some [⟨ki, (-1)⟩] := by kernel_rfl
theorem k_has_1 (n : Nat) (v0 : Int) : KP L n 51 p_has_0 [] .ret (S_has_1 v0) = some [⟨ki, v0⟩] := by kernel_rfl
theorem l_has_0 (a0 : List kInode.ty) (x : kInode.ty) (n : Nat) (m : Nat) (v0 : Int) : LP L n 51 p_has_0 [] (m + 1) (S_has_0 a0 x v0) = cnd (ilt v0 (rlen a0)) (bnd (must (inB v0 (rlen a0))) fun (_ : Unit) => bnd (pc L n 36 [⟨ki, (rget a0 v0 kInode.dflt).1⟩, ⟨ki, ((rget a0 v0 kInode.dflt).2).1⟩, ⟨.str, (((rget a0 v0 kInode.dflt).2).2).1⟩, ⟨.bool, ((((rget a0 v0 kInode.dflt).2).2).2).1⟩, ⟨ki, (((((rget a0 v0 kInode.dflt).2).2).2).2).1⟩, ⟨ki, ((((((rget a0 v0 kInode.dflt).2).2).2).2).2).1⟩, ⟨ki, (((((((rget a0 v0 kInode.dflt).2).2).2).2).2).2).1⟩, ⟨.row kPiece, ((((((((rget a0 v0 kInode.dflt).2).2).2).2).2).2).2).1⟩, ⟨ki, (((((((((rget a0 v0 kInode.dflt).2).2).2).2).2).2).2).2).1⟩, ⟨.iptr kInode, x⟩] (.pair .bool .unit)) fun (q0 : (Bool × Unit)) => cnd q0.1 (KP L n 51 p_has_0 [] .ret (S_has_1 v0)) (LP L n 51 p_has_0 [] m (S_has_0 a0 x (iadd .i64 v0 1)))) (KP L n 51 p_has_0 [] (.exit 0) (S_has_2)) := by kernel_rfl
theorem f_has (a0 : List kInode.ty) (x : kInode.ty) (n : Nat) : pcall L (n + 1) 51 [⟨.row kInode, a0⟩, ⟨.clo 36 (.pair (.iptr kInode) .unit), (x, ())⟩] = LP L n 51 p_has_0 [] n (S_has_0 a0 x 0) := by kernel_rfl
theorem f52 (n : Nat) (a0 : Int) (a1 : Int) (a2 : ByteArray) (a3 : Bool) (a4 : Int) (a5 : Int) (a6 : Int) (a7 : List kPiece.ty) (a8 : Int) (y : Int) : pcall L (n + 1) 52 [⟨ki, a0⟩, ⟨ki, a1⟩, ⟨.str, a2⟩, ⟨.bool, a3⟩, ⟨ki, a4⟩, ⟨ki, a5⟩, ⟨ki, a6⟩, ⟨.row kPiece, a7⟩, ⟨ki, a8⟩, ⟨.iptr (.pair ki .unit), (y, ())⟩] = some [⟨.bool, ieq a0 y⟩] := by kernel_rfl
theorem f36 (n : Nat) (a0 : Int) (a1 : Int) (a2 : ByteArray) (a3 : Bool) (a4 : Int) (a5 : Int) (a6 : Int) (a7 : List kPiece.ty) (a8 : Int) (y : kInode.ty) : pcall L (n + 1) 36 [⟨ki, a0⟩, ⟨ki, a1⟩, ⟨.str, a2⟩, ⟨.bool, a3⟩, ⟨ki, a4⟩, ⟨ki, a5⟩, ⟨ki, a6⟩, ⟨.row kPiece, a7⟩, ⟨ki, a8⟩, ⟨.iptr kInode, y⟩] = some [⟨.bool, sel (ieq a1 y.2.1) (seq a2 y.2.2.1) false⟩] := by kernel_rfl
theorem f35 (a0 : List kInode.ty) (x : kInode.ty) (n : Nat) : pcall L (n + 1) 35 [⟨.row kInode, a0⟩, ⟨.clo 36 (.pair (.iptr kInode) .unit), (x, ())⟩] = bnd (pc L n 51 [⟨.row kInode, a0⟩, ⟨.clo 36 (.pair (.iptr kInode) .unit), (x, ())⟩] (.pair ki .unit)) fun (q0 : (Int × Unit)) => some [⟨.bool, ige q0.1 0⟩] := by kernel_rfl
def p_spec_PathOf_0 : List Dir := [.r, .r, .r, .l, .r, .i]
def S_spec_PathOf_0 (a0 : List kInode.ty) (a1 : Int) (v0 : Int) (v1 : Int) (v2 : List ByteArray) : St := ⟨tT 45 [(1, .one (.d ki v0)), (2, .one (.adr 2 0)), (5, .one (.ref 4101 0)), (6, .one (.d ki v1))], [(2, ⟨true, [.tl (.d (.row kInode) a0), .tl (.d ki a1)]⟩), (4101, ⟨false, [.own 1 .str v2 none]⟩)]⟩
def S_spec_PathOf_1 (u1_0 : ByteArray) : St := ⟨tT 45 [(4, .one (.d .str u1_0))], []⟩
def S_spec_PathOf_2  : St := ⟨tT 45 [], []⟩
theorem k_spec_PathOf_1 (n : Nat) (u1_0 : ByteArray) : KP L n 11 p_spec_PathOf_0 [] .ret (S_spec_PathOf_1 u1_0) = some [⟨.str, u1_0⟩] := by kernel_rfl
theorem l_spec_PathOf_0 (a0 : List kInode.ty) (a1 : Int) (n : Nat) (m : Nat) (v0 : Int) (v1 : Int) (v2 : List ByteArray) : LP L n 11 p_spec_PathOf_0 [] (m + 1) (S_spec_PathOf_0 a0 a1 v0 v1 v2) = cnd (ile v1 14) (bnd (cnd (ieq v0 1) (pc L n 12 [⟨.row kInode, a0⟩, ⟨ki, a1⟩, ⟨ki, 1⟩] (.pair ki .unit)) (some (0, ()))) fun (q0 : (Int × Unit)) => cnd (sel (ieq v0 1) (ige q0.1 0) false) (bnd (pc L n 27 [⟨.row .str, v2⟩] (.pair .str .unit)) fun (q1 : (ByteArray × Unit)) => KP L n 11 p_spec_PathOf_0 [] .ret (S_spec_PathOf_1 q1.1)) (bnd (pc L n 12 [⟨.row kInode, a0⟩, ⟨ki, a1⟩, ⟨ki, v0⟩] (.pair ki .unit)) fun (q2 : (Int × Unit)) => cnd (ilt q2.1 0) (KP L n 11 p_spec_PathOf_0 [] .ret (S_spec_PathOf_1 ⟨#[]⟩)) (bnd (must (inB q2.1 (rlen a0))) fun (_ : Unit) => bnd (must (ile (iplus (rlen [(((rget a0 q2.1 kInode.dflt).2).2).1]) (rlen v2)) 1073741824)) fun (_ : Unit) => bnd (must (inB q2.1 (rlen a0))) fun (_ : Unit) => LP L n 11 p_spec_PathOf_0 [] m (S_spec_PathOf_0 a0 a1 (((rget a0 q2.1 kInode.dflt).2).1) (iadd .i64 v1 1) (rapp [(((rget a0 q2.1 kInode.dflt).2).2).1] v2))))) (KP L n 11 p_spec_PathOf_0 [] (.exit 0) (S_spec_PathOf_2)) := by kernel_rfl
theorem f_spec_PathOf (a0 : List kInode.ty) (a1 : Int) (a2 : Int) (n : Nat) : pcall L (n + 1) 11 [⟨.row kInode, a0⟩, ⟨ki, a1⟩, ⟨ki, a2⟩] = bnd (pc L n 10 [⟨.row kInode, a0⟩, ⟨ki, a1⟩] (.pair .bool .unit)) fun (q0 : (Bool × Unit)) => cnd (bnot q0.1) (some [⟨.str, ⟨#[]⟩⟩]) (LP L n 11 p_spec_PathOf_0 [] n (S_spec_PathOf_0 a0 a1 a2 0 (([] : List ByteArray)))) := by kernel_rfl
def p_spec_JoinPath_0 : List Dir := [.r, .r, .r, .l, .r, .i]
def S_spec_JoinPath_0 (a0 : List ByteArray) (v0 : ByteArray) (v1 : Int) : St := ⟨tT 22 [(0, .one (.d (.row .str) a0)), (3, .one (.d .str v0)), (4, .one (.d ki v1))], []⟩
def S_spec_JoinPath_1 (v0 : ByteArray) : St := ⟨tT 22 [(3, .one (.d .str v0))], []⟩
theorem k_spec_JoinPath_1 (n : Nat) (v0 : ByteArray) : KP L n 27 p_spec_JoinPath_0 [] (.exit 0) (S_spec_JoinPath_1 v0) = some [⟨.str, v0⟩] := by kernel_rfl
theorem l_spec_JoinPath_0 (n : Nat) (a0 : List ByteArray) (m : Nat) (v0 : ByteArray) (v1 : Int) : LP L n 27 p_spec_JoinPath_0 [] (m + 1) (S_spec_JoinPath_0 a0 v0 v1) = cnd (ilt v1 (rlen a0)) (bnd (must (ile (iplus (slen v0) (slen ⟨#[47]⟩)) 9223372036854775807)) fun (_ : Unit) => bnd (must (inB v1 (rlen a0))) fun (_ : Unit) => bnd (must (ile (iplus (slen (scat v0 ⟨#[47]⟩)) (slen (rget a0 v1 ⟨#[]⟩))) 9223372036854775807)) fun (_ : Unit) => LP L n 27 p_spec_JoinPath_0 [] m (S_spec_JoinPath_0 a0 (scat (scat v0 ⟨#[47]⟩) (rget a0 v1 ⟨#[]⟩)) (iadd .i64 v1 1))) (KP L n 27 p_spec_JoinPath_0 [] (.exit 0) (S_spec_JoinPath_1 v0)) := by kernel_rfl
theorem f_spec_JoinPath (a0 : List ByteArray) (n : Nat) : pcall L (n + 1) 27 [⟨.row .str, a0⟩] = cnd (ieq (rlen a0) 0) (some [⟨.str, ⟨#[47]⟩⟩]) (LP L n 27 p_spec_JoinPath_0 [] n (S_spec_JoinPath_0 a0 ⟨#[]⟩ 0)) := by kernel_rfl
def p_spec_Decimal_0 : List Dir := [.r, .r, .r, .r, .l, .i]
def S_spec_Decimal_0 (a0 : Int) (v0 : Int) (v1 : ByteArray) : St := ⟨tT 30 [(0, .one (.d ki v0)), (3, .one (.d .bool (ilt a0 0))), (4, .one (.d .str v1))], []⟩
def S_spec_Decimal_1 (v1 : ByteArray) (u1_0 : Bool) : St := ⟨tT 30 [(3, .one (.d .bool u1_0)), (4, .one (.d .str v1))], []⟩
theorem k_spec_Decimal_1 (n : Nat) (v1 : ByteArray) (u1_0 : Bool) : KP L n 14 p_spec_Decimal_0 [] (.exit 0) (S_spec_Decimal_1 v1 u1_0) = cnd u1_0 (bnd (must (ile (iplus (slen ⟨#[45]⟩) (slen v1)) 9223372036854775807)) fun (_ : Unit) => some [⟨.str, scat ⟨#[45]⟩ v1⟩]) (some [⟨.str, v1⟩]) := by kernel_rfl
theorem l_spec_Decimal_0 (a0 : Int) (n : Nat) (m : Nat) (v0 : Int) (v1 : ByteArray) : LP L n 14 p_spec_Decimal_0 [] (m + 1) (S_spec_Decimal_0 a0 v0 v1) = cnd (ine v0 0) (cnd (ilt (irem v0 10) 0) (bnd (pc L n 29 [⟨ki, isub .i64 0 (irem v0 10)⟩] (.pair ku8 .unit)) fun (q0 : (Int × Unit)) => bnd (must (ile (iplus (slen (sof [q0.1])) (slen v1)) 9223372036854775807)) fun (_ : Unit) => LP L n 14 p_spec_Decimal_0 [] m (S_spec_Decimal_0 a0 (iquo .i64 v0 10) (scat (sof [q0.1]) v1))) (bnd (pc L n 29 [⟨ki, irem v0 10⟩] (.pair ku8 .unit)) fun (q1 : (Int × Unit)) => bnd (must (ile (iplus (slen (sof [q1.1])) (slen v1)) 9223372036854775807)) fun (_ : Unit) => LP L n 14 p_spec_Decimal_0 [] m (S_spec_Decimal_0 a0 (iquo .i64 v0 10) (scat (sof [q1.1]) v1)))) (KP L n 14 p_spec_Decimal_0 [] (.exit 0) (S_spec_Decimal_1 v1 (ilt a0 0))) := by kernel_rfl
theorem f_spec_Decimal (a0 : Int) (n : Nat) : pcall L (n + 1) 14 [⟨ki, a0⟩] = cnd (ieq a0 0) (some [⟨.str, ⟨#[48]⟩⟩]) (LP L n 14 p_spec_Decimal_0 [] n (S_spec_Decimal_0 a0 a0 ⟨#[]⟩)) := by kernel_rfl
theorem f_spec_l01Figure (n : Nat) (a0 : Int) : pcall L (n + 1) 29 [⟨ki, a0⟩] = cnd (ilt a0 10) (some [⟨ku8, iwrap .u8 (iadd .i64 48 a0)⟩]) (some [⟨ku8, iwrap .u8 (isub .i64 (iadd .i64 97 a0) 10)⟩]) := by kernel_rfl
theorem f_impl_Decimal (a0 : Int) (n : Nat) : pcall L (n + 1) 18 [⟨ki, a0⟩] = bnd (pc L n 39 [⟨ki, a0⟩] (.pair .str .unit)) fun (q0 : (ByteArray × Unit)) => some [⟨.str, q0.1⟩] := by kernel_rfl
theorem f_impl_nodeAt (a0 : List kInode.ty) (a1 : Int) (a2 : Int) (n : Nat) : pcall L (n + 1) 37 [⟨.row kInode, a0⟩, ⟨ki, a1⟩, ⟨ki, a2⟩] = bnd (pc L n 51 [⟨.row kInode, a0⟩, ⟨.clo 52 (.pair (.iptr (.pair ki .unit)) .unit), ((a2, ()), ())⟩] (.pair ki .unit)) fun (q0 : (Int × Unit)) => some [⟨ki, q0.1⟩] := by kernel_rfl
def p_impl_reaches_0 : List Dir := [.r, .l, .r, .i]
def S_impl_reaches_0 (a0 : List kInode.ty) (a1 : Int) (v0 : Int) (v1 : Int) (v2 : Int) (v3 : ByteArray) (v4 : Bool) (v5 : Int) (v6 : Int) (v7 : Int) (v8 : List kPiece.ty) (v9 : Int) : St := ⟨tT 34 [(2, .one (.adr 2 0)), (3, .one (.adr 3 0)), (5, .one (.d ki v0))], [(2, ⟨true, [.tl (.d (.row kInode) a0), .tl (.d ki a1)]⟩), (3, ⟨true, [.tl (.d ki v1), .tl (.d ki v2), .tl (.d .str v3), .tl (.d .bool v4), .tl (.d ki v5), .tl (.d ki v6), .tl (.d ki v7), .tl (.d (.row kPiece) v8), .tl (.d ki v9)]⟩)]⟩
def S_impl_reaches_1  : St := ⟨tT 34 [(4, .one (.d .bool false))], []⟩
def S_impl_reaches_2  : St := ⟨tT 34 [], []⟩
theorem k_impl_reaches_2 (n : Nat) : KP L n 34 p_impl_reaches_0 [] (.exit 0) (S_impl_reaches_2) = some [⟨.bool, false⟩] := by kernel_rfl
theorem k_impl_reaches_1 (n : Nat) : KP L n 34 p_impl_reaches_0 [] .ret (S_impl_reaches_1) = some [⟨.bool, false⟩] := by kernel_rfl
theorem l_impl_reaches_0 (a0 : List kInode.ty) (a1 : Int) (n : Nat) (m : Nat) (v0 : Int) (v1 : Int) (v2 : Int) (v3 : ByteArray) (v4 : Bool) (v5 : Int) (v6 : Int) (v7 : Int) (v8 : List kPiece.ty) (v9 : Int) : LP L n 34 p_impl_reaches_0 [] (m + 1) (S_impl_reaches_0 a0 a1 v0 v1 v2 v3 v4 v5 v6 v7 v8 v9) = cnd (ilt v0 4) (bnd (pc L n 37 [⟨.row kInode, a0⟩, ⟨ki, a1⟩, ⟨ki, v2⟩] (.pair ki .unit)) fun (q0 : (Int × Unit)) => bnd (cnd (bnot (ilt q0.1 0)) (must (inB q0.1 (rlen a0))) (some ())) fun (_ : Unit) => cnd (sel (ilt q0.1 0) true (bnot (((((rget a0 q0.1 kInode.dflt).2).2).2).1))) (KP L n 34 p_impl_reaches_0 [] .ret (S_impl_reaches_1)) (bnd (must (inB q0.1 (rlen a0))) fun (_ : Unit) => cnd (ieq ((rget a0 q0.1 kInode.dflt).1) 1) (KP L n 34 p_impl_reaches_0 [] .ret (⟨tT 34 [(4, .one (.d .bool true))], []⟩)) (LP L n 34 p_impl_reaches_0 [] m (S_impl_reaches_0 a0 a1 (iadd .i64 v0 1) ((rget a0 q0.1 kInode.dflt).1) (((rget a0 q0.1 kInode.dflt).2).1) ((((rget a0 q0.1 kInode.dflt).2).2).1) (((((rget a0 q0.1 kInode.dflt).2).2).2).1) ((((((rget a0 q0.1 kInode.dflt).2).2).2).2).1) (((((((rget a0 q0.1 kInode.dflt).2).2).2).2).2).1) ((((((((rget a0 q0.1 kInode.dflt).2).2).2).2).2).2).1) (((((((((rget a0 q0.1 kInode.dflt).2).2).2).2).2).2).2).1) ((((((((((rget a0 q0.1 kInode.dflt).2).2).2).2).2).2).2).2).1))))) (KP L n 34 p_impl_reaches_0 [] (.exit 0) (S_impl_reaches_2)) := by kernel_rfl
theorem f_impl_reaches (a0 : List kInode.ty) (a1 : Int) (a2 : Int) (a3 : Int) (a4 : ByteArray) (a5 : Bool) (a6 : Int) (a7 : Int) (a8 : Int) (a9 : List kPiece.ty) (a10 : Int) (n : Nat) : pcall L (n + 1) 34 [⟨.row kInode, a0⟩, ⟨ki, a1⟩, ⟨ki, a2⟩, ⟨ki, a3⟩, ⟨.str, a4⟩, ⟨.bool, a5⟩, ⟨ki, a6⟩, ⟨ki, a7⟩, ⟨ki, a8⟩, ⟨.row kPiece, a9⟩, ⟨ki, a10⟩] = LP L n 34 p_impl_reaches_0 [] n (S_impl_reaches_0 a0 a1 0 a2 a3 a4 a5 a6 a7 a8 a9 a10) := by kernel_rfl
def p_impl_TreeOk_0 : List Dir := [.r, .r, .r, .r, .l, .r, .i]
def S_impl_TreeOk_0 (a0 : List kInode.ty) (a1 : Int) (v0 : Int) : St := ⟨tT 98 [(1, .one (.adr 1 0)), (44, .one (.d (.row kInode) a0)), (45, .one (.d ki (rlen a0))), (46, .one (.d ki v0))], [(1, ⟨true, [.tl (.d (.row kInode) a0), .tl (.d ki a1)]⟩)]⟩
def S_impl_TreeOk_1  : St := ⟨tT 98 [(2, .one (.d .bool false))], []⟩
def S_impl_TreeOk_2  : St := ⟨tT 98 [], []⟩
theorem k_impl_TreeOk_2 (n : Nat) : KP L n 16 p_impl_TreeOk_0 [] (.exit 0) (S_impl_TreeOk_2) = some [⟨.bool, true⟩] := by kernel_rfl
theorem k_impl_TreeOk_1 (n : Nat) : KP L n 16 p_impl_TreeOk_0 [] .ret (S_impl_TreeOk_1) = some [⟨.bool, false⟩] := by kernel_rfl
theorem l_impl_TreeOk_0 (a0 : List kInode.ty) (a1 : Int) (n : Nat) (m : Nat) (v0 : Int) : LP L n 16 p_impl_TreeOk_0 [] (m + 1) (S_impl_TreeOk_0 a0 a1 v0) = cnd (ilt v0 (rlen a0)) (bnd (must (inB v0 (rlen a0))) fun (_ : Unit) => bnd (pc L n 32 [⟨ki, (rget a0 v0 kInode.dflt).1⟩, ⟨ki, ((rget a0 v0 kInode.dflt).2).1⟩, ⟨.str, (((rget a0 v0 kInode.dflt).2).2).1⟩, ⟨.bool, ((((rget a0 v0 kInode.dflt).2).2).2).1⟩, ⟨ki, (((((rget a0 v0 kInode.dflt).2).2).2).2).1⟩, ⟨ki, ((((((rget a0 v0 kInode.dflt).2).2).2).2).2).1⟩, ⟨ki, (((((((rget a0 v0 kInode.dflt).2).2).2).2).2).2).1⟩, ⟨.row kPiece, ((((((((rget a0 v0 kInode.dflt).2).2).2).2).2).2).2).1⟩, ⟨ki, (((((((((rget a0 v0 kInode.dflt).2).2).2).2).2).2).2).2).1⟩] (.pair .bool .unit)) fun (q0 : (Bool × Unit)) => bnd (cnd (band (bnot (sel (bnot q0.1) true (ige ((rget a0 v0 kInode.dflt).1) a1))) (igt v0 0)) (must (inB (isub .i64 v0 1) (rlen a0))) (some ())) fun (_ : Unit) => cnd (sel (sel (bnot q0.1) true (ige ((rget a0 v0 kInode.dflt).1) a1)) true (sel (igt v0 0) (ige ((rget a0 (isub .i64 v0 1) kInode.dflt).1) ((rget a0 v0 kInode.dflt).1)) false)) (KP L n 16 p_impl_TreeOk_0 [] .ret (S_impl_TreeOk_1)) (bnd (cnd (igt v0 0) (pc L n 33 [⟨.str, (((rget a0 v0 kInode.dflt).2).2).1⟩] (.pair .bool .unit)) (some (false, ()))) fun (q1 : (Bool × Unit)) => bnd (cnd (band (igt v0 0) (bnot (bnot q1.1))) (pc L n 34 [⟨.row kInode, a0⟩, ⟨ki, a1⟩, ⟨ki, (rget a0 v0 kInode.dflt).1⟩, ⟨ki, ((rget a0 v0 kInode.dflt).2).1⟩, ⟨.str, (((rget a0 v0 kInode.dflt).2).2).1⟩, ⟨.bool, ((((rget a0 v0 kInode.dflt).2).2).2).1⟩, ⟨ki, (((((rget a0 v0 kInode.dflt).2).2).2).2).1⟩, ⟨ki, ((((((rget a0 v0 kInode.dflt).2).2).2).2).2).1⟩, ⟨ki, (((((((rget a0 v0 kInode.dflt).2).2).2).2).2).2).1⟩, ⟨.row kPiece, ((((((((rget a0 v0 kInode.dflt).2).2).2).2).2).2).2).1⟩, ⟨ki, (((((((((rget a0 v0 kInode.dflt).2).2).2).2).2).2).2).2).1⟩] (.pair .bool .unit)) (some (false, ()))) fun (q2 : (Bool × Unit)) => cnd (sel (igt v0 0) (sel (bnot q1.1) true (bnot q2.1)) false) (KP L n 16 p_impl_TreeOk_0 [] .ret (S_impl_TreeOk_1)) (bnd (must (cutB 0 v0 (rlen a0))) fun (_ : Unit) => bnd (pc L n 35 [⟨.row kInode, rcut a0 0 v0⟩, ⟨.clo 36 (.pair (.iptr kInode) .unit), (((rget a0 v0 kInode.dflt).1, (((rget a0 v0 kInode.dflt).2).1, ((((rget a0 v0 kInode.dflt).2).2).1, (((((rget a0 v0 kInode.dflt).2).2).2).1, ((((((rget a0 v0 kInode.dflt).2).2).2).2).1, (((((((rget a0 v0 kInode.dflt).2).2).2).2).2).1, ((((((((rget a0 v0 kInode.dflt).2).2).2).2).2).2).1, (((((((((rget a0 v0 kInode.dflt).2).2).2).2).2).2).2).1, ((((((((((rget a0 v0 kInode.dflt).2).2).2).2).2).2).2).2).1, ()))))))))), ())⟩] (.pair .bool .unit)) fun (q3 : (Bool × Unit)) => cnd q3.1 (KP L n 16 p_impl_TreeOk_0 [] .ret (S_impl_TreeOk_1)) (LP L n 16 p_impl_TreeOk_0 [] m (S_impl_TreeOk_0 a0 a1 (iadd .i64 v0 1)))))) (KP L n 16 p_impl_TreeOk_0 [] (.exit 0) (S_impl_TreeOk_2)) := by kernel_rfl
theorem f_impl_TreeOk (a0 : List kInode.ty) (a1 : Int) (n : Nat) : pcall L (n + 1) 16 [⟨.row kInode, a0⟩, ⟨ki, a1⟩] = bnd (pc L n 31 [⟨ki, rlen a0⟩, ⟨ki, 1⟩, ⟨ki, 14⟩] (.pair .bool .unit)) fun (q0 : (Bool × Unit)) => cnd (sel (bnot q0.1) true (igt a1 100000)) (some [⟨.bool, false⟩]) (bnd (must (inB 0 (rlen a0))) fun (_ : Unit) => cnd (sel (sel (sel (sel (ine ((rget a0 0 kInode.dflt).1) 1) true (ine (((rget a0 0 kInode.dflt).2).1) 0)) true (bnot (seq ((((rget a0 0 kInode.dflt).2).2).1) ⟨#[]⟩))) true (bnot (((((rget a0 0 kInode.dflt).2).2).2).1))) true (ieq ((((((rget a0 0 kInode.dflt).2).2).2).2).1) 0)) (some [⟨.bool, false⟩]) (LP L n 16 p_impl_TreeOk_0 [] n (S_impl_TreeOk_0 a0 a1 0))) := by kernel_rfl
def findI (p : kInode.ty → Bool) : List kInode.ty → Nat → Int
 | [], _ => -1
 | x :: xs, i => if p x = true then i else findI p xs (i + 1)

theorem findI_atI (id : Int) : ∀ (ns : List kInode.ty) (i : Nat), findI (fun x => ieq x.1 id) ns i = atI id ns i
 | [], _ => rfl
 | x :: xs, i => by
  simp only [findI, atI, findI_atI id xs]
  by_cases h : (x.1 : Int) = id
  ·rw [if_pos h, if_pos (show ieq x.1 id = true from beq_iff_eq.2 h)]
  ·rw [if_neg h, if_neg (show ¬ ieq x.1 id = true from fun k => h (beq_iff_eq.1 k))]

theorem at_loop (n : Nat) (ns : List kInode.ty) (id : Int) (hl : ns.length < 4611686018427387904) : ∀ (m i : Nat), i ≤ ns.length → ns.length - i < m →
  LP L (n + 1) 51 p_at_0 [] m (S_at_0 ns id i) = some [⟨ki, findI (fun x => ieq x.1 id) (ns.drop i) i⟩]
 | 0, i, _, hm => by omega
 | m + 1, i, hi, hm => by
  rw [l_at_0]
  by_cases h : i < ns.length
  ·have hd : ns.drop i = ns[i] :: ns.drop (i + 1) := List.drop_eq_getElem_cons h
   rw [row_lt h, cnd_t, must_of (row_in h), bnd_s, row_get h, pc_of (k := .pair .bool .unit) (x := (ieq ns[i].1 id, ())) (f52 n ..), bnd_s, cnd_if, hd]
   simp only [findI]
   split
   ·exact k_at_1 _ _
   ·rw [iadd_eq (by omega) (by omega)]
    exact at_loop n ns id hl m (i + 1) (by omega) (by omega)
  ·obtain rfl : i = ns.length := by omega
   rw [row_end, cnd_f, List.drop_length]
   exact k_at_2 _

def twinB (y x : kInode.ty) : Bool := sel (ieq x.2.1 y.2.1) (seq x.2.2.1 y.2.2.1) false

theorem has_loop (n : Nat) (ns : List kInode.ty) (y : kInode.ty) (hl : ns.length < 4611686018427387904) : ∀ (m i : Nat), i ≤ ns.length → ns.length - i < m →
  LP L (n + 1) 51 p_has_0 [] m (S_has_0 ns y i) = some [⟨ki, findI (twinB y) (ns.drop i) i⟩]
 | 0, i, _, hm => by omega
 | m + 1, i, hi, hm => by
  rw [l_has_0]
  by_cases h : i < ns.length
  ·have hd : ns.drop i = ns[i] :: ns.drop (i + 1) := List.drop_eq_getElem_cons h
   rw [row_lt h, cnd_t, must_of (row_in h), bnd_s, row_get h, pc_of (k := .pair .bool .unit) (x := (twinB y ns[i], ())) (f36 n ..), bnd_s, cnd_if, hd]
   simp only [findI]
   split
   ·exact k_has_1 _ _
   ·rw [iadd_eq (by omega) (by omega)]
    exact has_loop n ns y hl m (i + 1) (by omega) (by omega)
  ·obtain rfl : i = ns.length := by omega
   rw [row_end, cnd_f, List.drop_length]
   exact k_has_2 _

theorem findI_any (p : kInode.ty → Bool) : ∀ (ns : List kInode.ty) (i : Nat), ige (findI p ns i) 0 = ns.any p
 | [], _ => rfl
 | x :: xs, i => by
  simp only [findI, List.any_cons]
  by_cases h : p x = true
  ·rw [if_pos h, h, Bool.true_or]; exact decide_eq_true (by omega)
  ·rw [if_neg h, findI_any p xs, Bool.eq_false_iff.2 h, Bool.false_or]

theorem nodeAt_ge (ns : List kInode.ty) (nx id : Int) (hl : ns.length < 4611686018427387904) (n : Nat) (hn : ns.length + 1 ≤ n) :
  pc L (n + 3) 37 [⟨.row kInode, ns⟩, ⟨ki, nx⟩, ⟨ki, id⟩] (.pair ki .unit) = some (atI id ns 0, ()) :=
 pc_of ((f_impl_nodeAt ns nx id (n + 2)).trans (by
  rw [pc_of (k := .pair ki .unit) (x := (atI id ns 0, ())) ((f_at ns id (n + 1)).trans ((at_loop n ns id hl (n + 1) 0 (Nat.zero_le _) (by omega)).trans (by rw [findI_atI]; rfl))), bnd_s]
  rfl))

theorem atI_lt (id : Int) : ∀ (ns : List kInode.ty) (i : Nat), atI id ns i < i + ns.length
 | [], i => by simp only [atI, List.length_nil]; omega
 | x :: xs, i => by
  have := atI_lt id xs (i + 1)
  simp only [atI, List.length_cons]
  split <;> omega

theorem k_impl_reaches_1' (n : Nat) : KP L n 34 p_impl_reaches_0 [] .ret (⟨tT 34 [(4, .one (.d .bool true))], []⟩) = some [⟨.bool, true⟩] := by kernel_rfl

def reachI (ns : List kInode.ty) : Nat → kInode.ty → Bool
 | 0, _ => false
 | k + 1, x =>
  if atI x.2.1 ns 0 < 0 then false
  else if (rget ns (atI x.2.1 ns 0) kInode.dflt).2.2.2.1 = false then false
  else if ieq (rget ns (atI x.2.1 ns 0) kInode.dflt).1 1 = true then true
  else reachI ns k (rget ns (atI x.2.1 ns 0) kInode.dflt)

theorem reaches_loop (n : Nat) (ns : List kInode.ty) (nx : Int) (hl : ns.length < 4611686018427387904) (hn : ns.length + 1 ≤ n) : ∀ (k m : Nat) (v : Int) (x : kInode.ty), v = 4 - k → 0 ≤ v → k < m →
  LP L (n + 3) 34 p_impl_reaches_0 [] m (S_impl_reaches_0 ns nx v x.1 x.2.1 x.2.2.1 x.2.2.2.1 x.2.2.2.2.1 x.2.2.2.2.2.1 x.2.2.2.2.2.2.1 x.2.2.2.2.2.2.2.1 x.2.2.2.2.2.2.2.2.1) = some [⟨.bool, reachI ns k x⟩]
 | k, 0, _, _, _, _, hm => by omega
 | 0, m + 1, v, x, hv, hv0, hm => by
  rw [l_impl_reaches_0, show ilt v 4 = false from decide_eq_false (by omega), cnd_f]
  exact k_impl_reaches_2 _
 | k + 1, m + 1, v, x, hv, hv0, hm => by
  rw [l_impl_reaches_0, show ilt v 4 = true from decide_eq_true (by omega), cnd_t, nodeAt_ge ns nx _ hl n hn, bnd_s]
  have hlt := atI_lt x.2.1 ns 0
  unfold reachI
  by_cases h : atI x.2.1 ns 0 < 0
  ·rw [if_pos h, show ilt (atI x.2.1 ns 0, ()).1 0 = true from decide_eq_true h]
   simp only [bnot, Bool.not_true, cnd_f, bnd_s, sel_t, cnd_t]
   exact k_impl_reaches_1 _
  ·have hi : inB (atI x.2.1 ns 0) (rlen ns) = true := by
    have h0 : @LE.le Int _ 0 (atI x.2.1 ns 0) := Int.not_lt.1 h
    have h1 : @LT.lt Int _ (atI x.2.1 ns 0) ns.length := by omega
    unfold inB rlen
    rw [Bool.and_eq_true]
    exact ⟨decide_eq_true h0, decide_eq_true h1⟩
   rw [if_neg h, show ilt (atI x.2.1 ns 0, ()).1 0 = false from decide_eq_false h, must_of hi]
   simp only [bnot, Bool.not_false, cnd_t, bnd_s, sel_f]
   cases hb : (rget ns (atI x.2.1 ns 0) kInode.dflt).2.2.2.1 with
   | false =>
    simp only [Bool.not_false, cnd_t, if_true]
    exact k_impl_reaches_1 _
   | true =>
    simp only [Bool.not_true, cnd_f]
    rw [if_neg (by decide)]
    cases hc : ieq (rget ns (atI x.2.1 ns 0) kInode.dflt).1 1 with
    | true =>
     rw [cnd_t, if_pos rfl]
     exact k_impl_reaches_1' _
    | false =>
     rw [cnd_f, if_neg (by decide), iadd_eq (by omega) (by omega), ← hb]
     exact reaches_loop n ns nx hl hn k m (v + 1) (rget ns (atI x.2.1 ns 0) kInode.dflt) (by omega) (by omega) (by omega)

theorem reaches_ge (n : Nat) (ns : List kInode.ty) (nx : Int) (x : kInode.ty) (hl : ns.length < 4611686018427387904) (hn : ns.length + 1 ≤ n) (h2 : 2 ≤ n) :
  pc L (n + 4) 34 [⟨.row kInode, ns⟩, ⟨ki, nx⟩, ⟨ki, x.1⟩, ⟨ki, x.2.1⟩, ⟨.str, x.2.2.1⟩, ⟨.bool, x.2.2.2.1⟩, ⟨ki, x.2.2.2.2.1⟩, ⟨ki, x.2.2.2.2.2.1⟩, ⟨ki, x.2.2.2.2.2.2.1⟩, ⟨.row kPiece, x.2.2.2.2.2.2.2.1⟩, ⟨ki, x.2.2.2.2.2.2.2.2.1⟩] (.pair .bool .unit) = some (reachI ns 4 x, ()) :=
 pc_of ((f_impl_reaches ns nx _ _ _ _ _ _ _ _ _ (n + 3)).trans (reaches_loop n ns nx hl hn 4 (n + 3) 0 x rfl (by decide) (by omega)))
def p_spec_l10Node_0 : List Dir := [.r, .r, .r, .r, .r, .r, .r, .l, .r, .i]
def S_spec_l10Node_0 (a0 : List kInode.ty) (a1 : Int) (a2 : Int) (v0 : Int) : St := ⟨tT 173 [(1, .one (.d ki a2)), (2, .one (.adr 2 0)), (5, .one (.adr 5 0)), (7, .one (.d ki v0))], [(2, ⟨true, [.tl (.d (.row kInode) a0), .tl (.d ki a1)]⟩), (5, ⟨true, [.tl (.d ki ((rget a0 a2 kInode.dflt).1)), .tl (.d ki (((rget a0 a2 kInode.dflt).2).1)), .tl (.d .str ((((rget a0 a2 kInode.dflt).2).2).1)), .tl (.d .bool (((((rget a0 a2 kInode.dflt).2).2).2).1)), .tl (.d ki ((((((rget a0 a2 kInode.dflt).2).2).2).2).1)), .tl (.d ki (((((((rget a0 a2 kInode.dflt).2).2).2).2).2).1)), .tl (.d ki ((((((((rget a0 a2 kInode.dflt).2).2).2).2).2).2).1)), .tl (.d (.row kPiece) (((((((((rget a0 a2 kInode.dflt).2).2).2).2).2).2).2).1)), .tl (.d ki ((((((((((rget a0 a2 kInode.dflt).2).2).2).2).2).2).2).2).1))]⟩)]⟩
def S_spec_l10Node_1  : St := ⟨tT 173 [(4, .one (.d .bool false))], []⟩
def S_spec_l10Node_2 (a0 : List kInode.ty) (a1 : Int) (u2_0 : Int) (u2_1 : Int) (u2_2 : ByteArray) (u2_3 : Bool) (u2_4 : Int) (u2_5 : Int) (u2_6 : Int) (u2_7 : List kPiece.ty) (u2_8 : Int) : St := ⟨tT 173 [(2, .one (.adr 2 0)), (5, .one (.adr 5 0))], [(2, ⟨true, [.tl (.d (.row kInode) a0), .tl (.d ki a1)]⟩), (5, ⟨true, [.tl (.d ki u2_0), .tl (.d ki u2_1), .tl (.d .str u2_2), .tl (.d .bool u2_3), .tl (.d ki u2_4), .tl (.d ki u2_5), .tl (.d ki u2_6), .tl (.d (.row kPiece) u2_7), .tl (.d ki u2_8)]⟩)]⟩
def p_spec_l10Node_1 : List Dir := [.r, .r, .r, .r, .r, .r, .r, .r, .r, .l, .r, .i]
def S_spec_l10Node_3 (a0 : List kInode.ty) (a1 : Int) (v3_0 : Int) (v3_1 : Int) : St := ⟨tT 173 [(2, .one (.adr 2 0)), (8, .one (.d ki v3_0)), (9, .one (.d ki v3_1))], [(2, ⟨true, [.tl (.d (.row kInode) a0), .tl (.d ki a1)]⟩)]⟩
def S_spec_l10Node_5  : St := ⟨tT 173 [], []⟩
theorem k_spec_l10Node_5 (n : Nat) : KP L n 26 p_spec_l10Node_1 [] (.exit 2) (S_spec_l10Node_5) = some [⟨.bool, false⟩] := by kernel_rfl
theorem k_spec_l10Node_4 (n : Nat) : KP L n 26 p_spec_l10Node_1 [] .ret (S_spec_l10Node_1) = some [⟨.bool, false⟩] := by kernel_rfl
theorem l_spec_l10Node_3 (a0 : List kInode.ty) (a1 : Int) (n : Nat) (m : Nat) (v3_0 : Int) (v3_1 : Int) : LP L n 26 p_spec_l10Node_1 [] (m + 1) (S_spec_l10Node_3 a0 a1 v3_0 v3_1) = cnd (ilt v3_1 4) (bnd (pc L n 12 [⟨.row kInode, a0⟩, ⟨ki, a1⟩, ⟨ki, v3_0⟩] (.pair ki .unit)) fun (q0 : (Int × Unit)) => cnd (ilt q0.1 0) (KP L n 26 p_spec_l10Node_1 [] .ret (S_spec_l10Node_1)) (bnd (must (inB q0.1 (rlen a0))) fun (_ : Unit) => cnd (ieq (((rget a0 q0.1 kInode.dflt).2).1) 1) (KP L n 26 p_spec_l10Node_1 [] .ret (⟨tT 173 [(4, .one (.d .bool true))], []⟩)) (LP L n 26 p_spec_l10Node_1 [] m (S_spec_l10Node_3 a0 a1 (((rget a0 q0.1 kInode.dflt).2).1) (iadd .i64 v3_1 1))))) (KP L n 26 p_spec_l10Node_1 [] (.exit 2) (S_spec_l10Node_5)) := by kernel_rfl
theorem k_spec_l10Node_2 (a0 : List kInode.ty) (a1 : Int) (n : Nat) (u2_0 : Int) (u2_1 : Int) (u2_2 : ByteArray) (u2_3 : Bool) (u2_4 : Int) (u2_5 : Int) (u2_6 : Int) (u2_7 : List kPiece.ty) (u2_8 : Int) : KP L n 26 p_spec_l10Node_0 [] (.exit 0) (S_spec_l10Node_2 a0 a1 u2_0 u2_1 u2_2 u2_3 u2_4 u2_5 u2_6 u2_7 u2_8) = LP L n 26 p_spec_l10Node_1 [] n (S_spec_l10Node_3 a0 a1 u2_0 0) := by kernel_rfl
theorem k_spec_l10Node_1 (n : Nat) : KP L n 26 p_spec_l10Node_0 [] .ret (S_spec_l10Node_1) = some [⟨.bool, false⟩] := by kernel_rfl
theorem l_spec_l10Node_0 (n : Nat) (a0 : List kInode.ty) (a1 : Int) (a2 : Int) (m : Nat) (v0 : Int) : LP L n 26 p_spec_l10Node_0 [] (m + 1) (S_spec_l10Node_0 a0 a1 a2 v0) = cnd (ilt v0 a2) (bnd (must (inB v0 (rlen a0))) fun (_ : Unit) => bnd (cnd (ieq (((rget a0 v0 kInode.dflt).2).1) (((rget a0 a2 kInode.dflt).2).1)) (must (inB v0 (rlen a0))) (some ())) fun (_ : Unit) => cnd (sel (ieq (((rget a0 v0 kInode.dflt).2).1) (((rget a0 a2 kInode.dflt).2).1)) (seq ((((rget a0 v0 kInode.dflt).2).2).1) ((((rget a0 a2 kInode.dflt).2).2).1)) false) (KP L n 26 p_spec_l10Node_0 [] .ret (S_spec_l10Node_1)) (LP L n 26 p_spec_l10Node_0 [] m (S_spec_l10Node_0 a0 a1 a2 (iadd .i64 v0 1)))) (KP L n 26 p_spec_l10Node_0 [] (.exit 0) (S_spec_l10Node_2 a0 a1 ((rget a0 a2 kInode.dflt).1) (((rget a0 a2 kInode.dflt).2).1) ((((rget a0 a2 kInode.dflt).2).2).1) (((((rget a0 a2 kInode.dflt).2).2).2).1) ((((((rget a0 a2 kInode.dflt).2).2).2).2).1) (((((((rget a0 a2 kInode.dflt).2).2).2).2).2).1) ((((((((rget a0 a2 kInode.dflt).2).2).2).2).2).2).1) (((((((((rget a0 a2 kInode.dflt).2).2).2).2).2).2).2).1) ((((((((((rget a0 a2 kInode.dflt).2).2).2).2).2).2).2).2).1))) := by kernel_rfl
theorem f_spec_l10Node (a0 : List kInode.ty) (a1 : Int) (a2 : Int) (n : Nat) : pcall L (n + 1) 26 [⟨.row kInode, a0⟩, ⟨ki, a1⟩, ⟨ki, a2⟩] = bnd (must (inB a2 (rlen a0))) fun (_ : Unit) => bnd (cnd (band (bnot (ige ((rget a0 a2 kInode.dflt).1) a1)) (igt a2 0)) (must (inB (isub .i64 a2 1) (rlen a0))) (some ())) fun (_ : Unit) => cnd (sel (sel (ige ((rget a0 a2 kInode.dflt).1) a1) true (sel (igt a2 0) (ige ((rget a0 (isub .i64 a2 1) kInode.dflt).1) ((rget a0 a2 kInode.dflt).1)) false)) true (sel (ieq a2 0) (sel (sel (sel (sel (ine ((rget a0 a2 kInode.dflt).1) 1) true (ine (((rget a0 a2 kInode.dflt).2).1) 0)) true (bnot (seq ((((rget a0 a2 kInode.dflt).2).2).1) ⟨#[]⟩))) true (bnot (((((rget a0 a2 kInode.dflt).2).2).2).1))) true (ieq ((((((rget a0 a2 kInode.dflt).2).2).2).2).1) 0)) false)) (some [⟨.bool, false⟩]) (bnd (cnd (((((rget a0 a2 kInode.dflt).2).2).2).1) (pc L n 25 [⟨ki, (((((rget a0 a2 kInode.dflt).2).2).2).2).1⟩, ⟨ki, 0⟩, ⟨ki, 3⟩] (.pair .bool .unit)) (some (false, ()))) fun (q0 : (Bool × Unit)) => bnd (cnd (band (((((rget a0 a2 kInode.dflt).2).2).2).1) (bnot (bnot q0.1))) (pc L n 25 [⟨ki, ((((((rget a0 a2 kInode.dflt).2).2).2).2).2).1⟩, ⟨ki, 0⟩, ⟨ki, 1000⟩] (.pair .bool .unit)) (some (false, ()))) fun (q1 : (Bool × Unit)) => bnd (cnd (band (bnot (sel (((((rget a0 a2 kInode.dflt).2).2).2).1) (sel (sel (sel (sel (bnot q0.1) true (bnot q1.1)) true (ine ((((((((rget a0 a2 kInode.dflt).2).2).2).2).2).2).1) 0)) true (igt (rlen (((((((((rget a0 a2 kInode.dflt).2).2).2).2).2).2).2).1)) 0)) true (ine ((((((((((rget a0 a2 kInode.dflt).2).2).2).2).2).2).2).2).1) 0)) false)) (bnot (((((rget a0 a2 kInode.dflt).2).2).2).1))) (pc L n 47 [⟨ki, (rget a0 a2 kInode.dflt).1⟩, ⟨ki, ((rget a0 a2 kInode.dflt).2).1⟩, ⟨.str, (((rget a0 a2 kInode.dflt).2).2).1⟩, ⟨.bool, ((((rget a0 a2 kInode.dflt).2).2).2).1⟩, ⟨ki, (((((rget a0 a2 kInode.dflt).2).2).2).2).1⟩, ⟨ki, ((((((rget a0 a2 kInode.dflt).2).2).2).2).2).1⟩, ⟨ki, (((((((rget a0 a2 kInode.dflt).2).2).2).2).2).2).1⟩, ⟨.row kPiece, ((((((((rget a0 a2 kInode.dflt).2).2).2).2).2).2).2).1⟩, ⟨ki, (((((((((rget a0 a2 kInode.dflt).2).2).2).2).2).2).2).2).1⟩] (.pair .bool .unit)) (some (false, ()))) fun (q2 : (Bool × Unit)) => cnd (sel (sel (((((rget a0 a2 kInode.dflt).2).2).2).1) (sel (sel (sel (sel (bnot q0.1) true (bnot q1.1)) true (ine ((((((((rget a0 a2 kInode.dflt).2).2).2).2).2).2).1) 0)) true (igt (rlen (((((((((rget a0 a2 kInode.dflt).2).2).2).2).2).2).2).1)) 0)) true (ine ((((((((((rget a0 a2 kInode.dflt).2).2).2).2).2).2).2).2).1) 0)) false) true (sel (bnot (((((rget a0 a2 kInode.dflt).2).2).2).1)) (bnot q2.1) false)) (some [⟨.bool, false⟩]) (cnd (ieq a2 0) (some [⟨.bool, true⟩]) (bnd (pc L n 12 [⟨.row kInode, a0⟩, ⟨ki, a1⟩, ⟨ki, ((rget a0 a2 kInode.dflt).2).1⟩] (.pair ki .unit)) fun (q3 : (Int × Unit)) => bnd (pc L n 48 [⟨.str, (((rget a0 a2 kInode.dflt).2).2).1⟩] (.pair .bool .unit)) fun (q4 : (Bool × Unit)) => bnd (cnd (bnot (sel (bnot q4.1) true (ilt q3.1 0))) (must (inB q3.1 (rlen a0))) (some ())) fun (_ : Unit) => cnd (sel (sel (bnot q4.1) true (ilt q3.1 0)) true (bnot (((((rget a0 q3.1 kInode.dflt).2).2).2).1))) (some [⟨.bool, false⟩]) (LP L n 26 p_spec_l10Node_0 [] n (S_spec_l10Node_0 a0 a1 a2 0))))) := by kernel_rfl
theorem l10At_ge (ns : List kInode.ty) (nx id : Int) (hl : ns.length < 4611686018427387904) (n : Nat) (hn : ns.length + 1 ≤ n) :
  pc L (n + 1) 12 [⟨.row kInode, ns⟩, ⟨ki, nx⟩, ⟨ki, id⟩] (.pair ki .unit) = some (atI id ns 0, ()) :=
 pc_of ((f_spec_l10At ns nx id n).trans (l10At_loop n ns nx id hl n 0 (Nat.zero_le _) (by omega)))

def wayS (ns : List kInode.ty) : Nat → Int → Bool
 | 0, _ => false
 | k + 1, v =>
  if atI v ns 0 < 0 then false
  else if ieq (rget ns (atI v ns 0) kInode.dflt).2.1 1 = true then true
  else wayS ns k (rget ns (atI v ns 0) kInode.dflt).2.1

theorem k_spec_l10Node_4' (n : Nat) : KP L n 26 p_spec_l10Node_1 [] .ret (⟨tT 173 [(4, .one (.d .bool true))], []⟩) = some [⟨.bool, true⟩] := by kernel_rfl

theorem way_loop (n : Nat) (ns : List kInode.ty) (nx : Int) (hl : ns.length < 4611686018427387904) (hn : ns.length + 1 ≤ n) : ∀ (k m : Nat) (v w : Int), w = 4 - k → 0 ≤ w → k < m →
  LP L (n + 1) 26 p_spec_l10Node_1 [] m (S_spec_l10Node_3 ns nx v w) = some [⟨.bool, wayS ns k v⟩]
 | k, 0, _, _, _, _, hm => by omega
 | 0, m + 1, v, w, hw, hw0, hm => by
  rw [l_spec_l10Node_3, show ilt w 4 = false from decide_eq_false (by omega), cnd_f]
  exact k_spec_l10Node_5 _
 | k + 1, m + 1, v, w, hw, hw0, hm => by
  rw [l_spec_l10Node_3, show ilt w 4 = true from decide_eq_true (by omega), cnd_t, l10At_ge ns nx _ hl n hn, bnd_s]
  have hlt := atI_lt v ns 0
  unfold wayS
  by_cases h : atI v ns 0 < 0
  ·rw [if_pos h, show ilt (atI v ns 0, ()).1 0 = true from decide_eq_true h, cnd_t]
   exact k_spec_l10Node_4 _
  ·have hi : inB (atI v ns 0) (rlen ns) = true := by
    have h0 : @LE.le Int _ 0 (atI v ns 0) := Int.not_lt.1 h
    have h1 : @LT.lt Int _ (atI v ns 0) ns.length := by omega
    unfold inB rlen
    rw [Bool.and_eq_true]
    exact ⟨decide_eq_true h0, decide_eq_true h1⟩
   rw [if_neg h, show ilt (atI v ns 0, ()).1 0 = false from decide_eq_false h, cnd_f, must_of hi, bnd_s]
   cases hc : ieq (rget ns (atI v ns 0) kInode.dflt).2.1 1 with
   | true =>
    rw [cnd_t, if_pos rfl]
    exact k_spec_l10Node_4' _
   | false =>
    rw [cnd_f, if_neg (by decide), iadd_eq (by omega) (by omega)]
    exact way_loop n ns nx hl hn k m _ (w + 1) (by omega) (by omega) (by omega)
theorem twins_loop (n : Nat) (ns : List kInode.ty) (nx : Int) (hl : ns.length < 4611686018427387904) (hn : ns.length + 1 ≤ n) (h5 : 5 ≤ n) (j : Nat) (hj : j < ns.length) : ∀ (m i : Nat), i ≤ j → j - i < m →
  LP L (n + 1) 26 p_spec_l10Node_0 [] m (S_spec_l10Node_0 ns nx j i) =
   some [⟨.bool, !((ns.take j).drop i).any (twinB (rget ns j kInode.dflt)) && wayS ns 4 (rget ns j kInode.dflt).1⟩]
 | 0, i, _, hm => by omega
 | m + 1, i, hi, hm => by
  rw [l_spec_l10Node_0]
  by_cases h : i < j
  ·have hil : i < ns.length := by omega
   have hd : (ns.take j).drop i = ns[i] :: (ns.take j).drop (i + 1) := by
    rw [List.drop_eq_getElem_cons (by rw [List.length_take]; omega), List.getElem_take]
   rw [show ilt (i : Int) (j : Int) = true from decide_eq_true (by omega), cnd_t]
   simp only [must_of (row_in hil), cnd_same, bnd_s]
   rw [row_get hil, hd, List.any_cons, show sel (ieq ns[i].2.1 (rget ns j kInode.dflt).2.1) (seq ns[i].2.2.1 (rget ns j kInode.dflt).2.2.1) false = twinB (rget ns j kInode.dflt) ns[i] from rfl]
   cases hb : twinB (rget ns j kInode.dflt) ns[i] with
   | true =>
    rw [cnd_t, Bool.true_or, Bool.not_true, Bool.false_and]
    exact k_spec_l10Node_1 _
   | false =>
    rw [cnd_f, Bool.false_or, iadd_eq (by omega) (by omega)]
    exact twins_loop n ns nx hl hn h5 j hj m (i + 1) (by omega) (by omega)
  ·obtain rfl : i = j := by omega
   rw [show ilt (i : Int) (i : Int) = false from decide_eq_false (by omega), cnd_f, List.drop_eq_nil_of_le (by rw [List.length_take]; omega), k_spec_l10Node_2, List.any_nil, Bool.not_false, Bool.true_and]
   exact way_loop n ns nx hl hn 4 (n + 1) _ 0 rfl (by decide) (by omega)
def badRoot (x : kInode.ty) : Bool := sel (sel (sel (sel (ine x.1 1) true (ine x.2.1 0)) true (bnot (seq x.2.2.1 ⟨#[]⟩))) true (bnot x.2.2.2.1)) true (ieq x.2.2.2.2.1 0)
def okNode (x : kInode.ty) : Bool := if x.2.2.2.1 = true then dirOk x.2.2.2.2.1 x.2.2.2.2.2.1 x.2.2.2.2.2.2.1 x.2.2.2.2.2.2.2.1 x.2.2.2.2.2.2.2.2.1 else fileOk x.2.2.2.2.1 x.2.2.2.2.2.1 x.2.2.2.2.2.2.1 x.2.2.2.2.2.2.2.1 x.2.2.2.2.2.2.2.2.1
def badAt (ns : List kInode.ty) (nx i : Int) : Bool := sel (ige (rget ns i kInode.dflt).1 nx) true (sel (igt i 0) (ige (rget ns (isub .i64 i 1) kInode.dflt).1 (rget ns i kInode.dflt).1) false)
def nodeS (ns : List kInode.ty) (nx i : Int) : Bool :=
 if sel (badAt ns nx i) true (sel (ieq i 0) (badRoot (rget ns i kInode.dflt)) false) = true then false
 else if okNode (rget ns i kInode.dflt) = false then false
 else if ieq i 0 = true then true
 else if nameOk (rget ns i kInode.dflt).2.2.1 = false then false
 else if ilt (atI (rget ns i kInode.dflt).2.1 ns 0) 0 = true then false
 else if (rget ns (atI (rget ns i kInode.dflt).2.1 ns 0) kInode.dflt).2.2.2.1 = false then false
 else !(ns.take i.toNat).any (twinB (rget ns i kInode.dflt)) && wayS ns 4 (rget ns i kInode.dflt).1

theorem inB_of {xs : List kInode.ty} {k : Int} (h0 : @LE.le Int _ 0 k) (h1 : @LT.lt Int _ k xs.length) : inB k (rlen xs) = true := by
 unfold inB rlen
 rw [Bool.and_eq_true]
 exact ⟨decide_eq_true h0, decide_eq_true h1⟩

theorem atI_in (ns : List kInode.ty) (id : Int) (h : ¬ atI id ns 0 < 0) : inB (atI id ns 0) (rlen ns) = true := by
 have hlt := atI_lt id ns 0
 exact inB_of (Int.not_lt.1 h) (by omega)

theorem l10Node_ge (n : Nat) (ns : List kInode.ty) (nx : Int) (hl : ns.length < 4294967296) (hn : ns.length + 9 ≤ n)
  (h1 : ∀ x ∈ ns, pc L (n + 1) 48 [⟨.str, x.2.2.1⟩] (.pair .bool .unit) = some (nameOk x.2.2.1, ()))
  (h2 : ∀ x ∈ ns, pc L (n + 1) 47 [⟨ki, x.1⟩, ⟨ki, x.2.1⟩, ⟨.str, x.2.2.1⟩, ⟨.bool, x.2.2.2.1⟩, ⟨ki, x.2.2.2.2.1⟩, ⟨ki, x.2.2.2.2.2.1⟩, ⟨ki, x.2.2.2.2.2.2.1⟩, ⟨.row kPiece, x.2.2.2.2.2.2.2.1⟩, ⟨ki, x.2.2.2.2.2.2.2.2.1⟩] (.pair .bool .unit) = some (fileOk x.2.2.2.2.1 x.2.2.2.2.2.1 x.2.2.2.2.2.2.1 x.2.2.2.2.2.2.2.1 x.2.2.2.2.2.2.2.2.1, ()))
  (i : Nat) (hi : i < ns.length) :
  pc L (n + 2) 26 [⟨.row kInode, ns⟩, ⟨ki, nx⟩, ⟨ki, (i : Int)⟩] (.pair .bool .unit) = some (nodeS ns nx i, ()) := by
 refine pc_of ((f_spec_l10Node ns nx i (n + 1)).trans ?_)
 have hx : rget ns (i : Int) kInode.dflt ∈ ns := by rw [row_get hi]; exact List.getElem_mem hi
 have H1 := h1 _ hx
 have H2 := h2 _ hx
 have hT := fun h5 => twins_loop n ns nx (by omega) (by omega) h5 i hi (n + 1) 0 (Nat.zero_le _) (by omega)
 rw [must_of (row_in hi), bnd_s]
 unfold nodeS badAt badRoot okNode
 generalize hX : rget ns (i : Int) kInode.dflt = x at *
 have hm : (cnd (band (bnot (ige x.1 nx)) (igt (i : Int) 0)) (must (inB (isub .i64 (i : Int) 1) (rlen ns))) (some ())) = some () := by
  cases hb : band (bnot (ige x.1 nx)) (igt (i : Int) 0) with
  | false => rfl
  | true =>
   have h0 : igt (i : Int) 0 = true := by revert hb; unfold band; cases igt (i : Int) 0 <;> simp
   have h0 : @LT.lt Int _ 0 i := of_decide_eq_true h0
   rw [cnd_t, must_of]
   refine inB_of ?_ ?_
   ·unfold isub; rw [wrap64_eq (by omega) (by omega)]; omega
   ·unfold isub; rw [wrap64_eq (by omega) (by omega)]; omega
 rw [hm, bnd_s]
 cases hA : sel (sel (ige x.1 nx) true (sel (igt (i : Int) 0) (ige (rget ns (isub .i64 (i : Int) 1) kInode.dflt).1 x.1) false)) true (sel (ieq (i : Int) 0) (sel (sel (sel (sel (ine x.1 1) true (ine x.2.1 0)) true (bnot (seq x.2.2.1 ⟨#[]⟩))) true (bnot x.2.2.2.1)) true (ieq x.2.2.2.2.1 0)) false) with
 | true => rw [cnd_t, if_pos rfl]; rfl
 | false =>
  rw [cnd_f, if_neg (by decide)]
  have hR : (cnd (ieq (i : Int) 0) (some [⟨.bool, true⟩]) (bnd (pc L (n + 1) 12 [⟨.row kInode, ns⟩, ⟨ki, nx⟩, ⟨ki, x.2.1⟩] (.pair ki .unit)) fun (q3 : (Int × Unit)) => bnd (pc L (n + 1) 48 [⟨.str, x.2.2.1⟩] (.pair .bool .unit)) fun (q4 : (Bool × Unit)) => bnd (cnd (bnot (sel (bnot q4.1) true (ilt q3.1 0))) (must (inB q3.1 (rlen ns))) (some ())) fun (_ : Unit) => cnd (sel (sel (bnot q4.1) true (ilt q3.1 0)) true (bnot (((((rget ns q3.1 kInode.dflt).2).2).2).1))) (some [⟨.bool, false⟩]) (LP L (n + 1) 26 p_spec_l10Node_0 [] (n + 1) (S_spec_l10Node_0 ns nx i 0)))) = some [⟨.bool, if ieq (i : Int) 0 = true then true else if nameOk x.2.2.1 = false then false else if ilt (atI x.2.1 ns 0) 0 = true then false else if (rget ns (atI x.2.1 ns 0) kInode.dflt).2.2.2.1 = false then false else !(ns.take (i : Int).toNat).any (twinB x) && wayS ns 4 x.1⟩] := by
   cases hz : ieq (i : Int) 0 with
   | true => rfl
   | false =>
    rw [cnd_f, l10At_ge ns nx _ (by omega) n (by omega), bnd_s, H1, bnd_s, if_neg (by decide)]
    cases hn : nameOk x.2.2.1 with
    | false => rfl
    | true =>
     cases ha : ilt (atI x.2.1 ns 0) 0 with
     | true => simp only [bnot, Bool.not_true, sel_f, sel_t, cnd_f, cnd_t, bnd_s]; rfl
     | false =>
      have hm := atI_in ns x.2.1 (of_decide_eq_false ha)
      simp only [bnot, Bool.not_true, Bool.not_false, sel_f, sel_t, cnd_f, cnd_t, bnd_s, must_of hm]
      rw [if_neg (by decide), if_neg (by decide)]
      cases hd : (rget ns (atI x.2.1 ns 0) kInode.dflt).2.2.2.1 with
      | false => rfl
      | true =>
       rw [Bool.not_true, cnd_f, if_neg (by decide)]
       exact (hT (by omega)).trans (by rw [List.drop_zero]; rfl)
  cases hd : x.2.2.2.1 with
  | true =>
   rw [cnd_t, within_ev, bnd_s]
   unfold dirOk
   have e1 : ine x.2.2.2.2.2.2.1 0 = !(x.2.2.2.2.2.2.1 == 0) := rfl
   have e2 : ine x.2.2.2.2.2.2.2.2.1 0 = !(x.2.2.2.2.2.2.2.2.1 == 0) := rfl
   have e3 : igt (rlen x.2.2.2.2.2.2.2.1) 0 = !((x.2.2.2.2.2.2.2.1.length : Int) == 0) := by
    unfold igt rlen
    cases x.2.2.2.2.2.2.2.1 <;> simp <;> omega
   rw [e1, e2, e3]
   cases (decide (0 ≤ x.2.2.2.2.1) && decide (x.2.2.2.2.1 ≤ 3)) with
   | false => rfl
   | true =>
    simp only [band, bnot, Bool.not_true, Bool.not_false, Bool.and_true, cnd_t, within_ev, bnd_s]
    cases (decide (0 ≤ x.2.2.2.2.2.1) && decide (x.2.2.2.2.2.1 ≤ 1000)) <;> cases (x.2.2.2.2.2.2.1 == 0) <;> cases ((x.2.2.2.2.2.2.2.1.length : Int) == 0) <;> cases (x.2.2.2.2.2.2.2.2.1 == 0) <;> first | rfl | exact hR
  | false =>
   rw [hd] at H2
   simp only [band, bnot, Bool.not_true, Bool.not_false, Bool.and_true, cnd_t, cnd_f, bnd_s, sel_f, H2]
   cases fileOk x.2.2.2.2.1 x.2.2.2.2.2.1 x.2.2.2.2.2.2.1 x.2.2.2.2.2.2.2.1 x.2.2.2.2.2.2.2.2.1 <;> first | rfl | exact hR
def allFrom (p : Nat → Bool) (i k : Nat) : Bool := (List.range' i k).all p
theorem allFrom_succ (p : Nat → Bool) (i k : Nat) : allFrom p i (k + 1) = (p i && allFrom p (i + 1) k) := by unfold allFrom; rw [List.range'_succ, List.all_cons]

def treeS (ns : List kInode.ty) (nx : Int) : Bool := (decide (1 ≤ (ns.length : Int)) && decide ((ns.length : Int) ≤ 14)) && decide (nx ≤ 100000) && allFrom (fun j => nodeS ns nx j) 0 ns.length

theorem TreeOkS_loop (n : Nat) (ns : List kInode.ty) (nx : Int) (hl : ns.length < 4294967296)
  (h : ∀ i, i < ns.length → pc L n 26 [⟨.row kInode, ns⟩, ⟨ki, nx⟩, ⟨ki, (i : Int)⟩] (.pair .bool .unit) = some (nodeS ns nx i, ())) : ∀ (k m i : Nat), i + k = ns.length → k < m →
  LP L n 10 p_spec_TreeOk_0 [] m (S_spec_TreeOk_0 ns nx i) = some [⟨.bool, allFrom (fun j => nodeS ns nx j) i k⟩]
 | k, 0, i, hi, hm => by omega
 | 0, m + 1, i, hi, hm => by
  obtain rfl : i = ns.length := by omega
  rw [l_spec_TreeOk_0, row_end, cnd_f]
  exact k_spec_TreeOk_2 n
 | k + 1, m + 1, i, hi, hm => by
  rw [l_spec_TreeOk_0, row_lt (by omega), cnd_t, h i (by omega), bnd_s, allFrom_succ]
  cases nodeS ns nx i with
  | false => simp only [bnot, Bool.not_false, cnd_t, Bool.false_and]; exact k_spec_TreeOk_1 n
  | true =>
   simp only [bnot, Bool.not_true, cnd_f, Bool.true_and]
   rw [iadd_eq (by omega) (by omega)]
   exact TreeOkS_loop n ns nx hl h k m (i + 1) (by omega) (by omega)

def Sized (ns : List kInode.ty) : Prop := ns.length < 4294967296 ∧ ∀ x ∈ ns, x.2.2.1.size < 4611686018427387904 ∧ x.2.2.2.2.2.2.2.1.length < 4294967296

theorem TreeOkS_ev (ns : List kInode.ty) (nx : Int) (hs : Sized ns) : Evt fun n => pc L n 10 [⟨.row kInode, ns⟩, ⟨ki, nx⟩] (.pair .bool .unit) = some (treeS ns nx, ()) :=
 have hA := Evt.all (l := ns) fun x hx => NameOk_ev x.2.2.1 (hs.2 x hx).1
 have hB := Evt.all (l := ns) fun x hx => l10File_ev x.1 x.2.1 x.2.2.1 x.2.2.2.1 x.2.2.2.2.1 x.2.2.2.2.2.1 x.2.2.2.2.2.2.1 x.2.2.2.2.2.2.2.1 x.2.2.2.2.2.2.2.2.1 (hs.2 x hx).2
 have hC : Evt fun n => ((∀ x ∈ ns, pc L (n + 1) 48 [⟨.str, x.2.2.1⟩] (.pair .bool .unit) = some (nameOk x.2.2.1, ())) ∧ (∀ x ∈ ns, pc L (n + 1) 47 [⟨ki, x.1⟩, ⟨ki, x.2.1⟩, ⟨.str, x.2.2.1⟩, ⟨.bool, x.2.2.2.1⟩, ⟨ki, x.2.2.2.2.1⟩, ⟨ki, x.2.2.2.2.2.1⟩, ⟨ki, x.2.2.2.2.2.2.1⟩, ⟨.row kPiece, x.2.2.2.2.2.2.2.1⟩, ⟨ki, x.2.2.2.2.2.2.2.2.1⟩] (.pair .bool .unit) = some (fileOk x.2.2.2.2.1 x.2.2.2.2.2.1 x.2.2.2.2.2.2.1 x.2.2.2.2.2.2.2.1 x.2.2.2.2.2.2.2.2.1, ()))) ∧ ns.length + 9 ≤ n := by
  obtain ⟨N, hN⟩ := hA.and hB
  exact ⟨max N (ns.length + 9), fun n hn => ⟨hN (n + 1) (by omega), by omega⟩⟩
 Evt.succ (Evt.succ (Evt.succ (hC.mono fun n hn => pc_of ((f_spec_TreeOk ns nx (n + 2)).trans (by
  have hN := fun i hi => l10Node_ge n ns nx hs.1 hn.2 hn.1.1 hn.1.2 i hi
  have hl0 := hs.1
  have hL := TreeOkS_loop (n + 2) ns nx hs.1 hN ns.length (n + 2) 0 (by omega) (by omega)
  rw [within_ev, bnd_s]
  unfold treeS
  rw [show rlen ns = (ns.length : Int) from rfl, igt_not]
  cases (decide (1 ≤ (ns.length : Int)) && decide ((ns.length : Int) ≤ 14)) with
  | false => simp only [bnot, sel_t, cnd_t, Bool.not_false, Bool.false_and]; rfl
  | true =>
   cases decide (nx ≤ 100000) with
   | false => simp only [bnot, sel_f, cnd_t, Bool.not_false, Bool.not_true, Bool.false_and, Bool.true_and]; rfl
   | true => simp only [bnot, sel_f, cnd_f, Bool.not_true, Bool.true_and]; exact hL)))))

def nodeI (ns : List kInode.ty) (nx i : Int) : Bool :=
 if sel (sel (bnot (okNode (rget ns i kInode.dflt))) true (ige (rget ns i kInode.dflt).1 nx)) true (sel (igt i 0) (ige (rget ns (isub .i64 i 1) kInode.dflt).1 (rget ns i kInode.dflt).1) false) = true then false
 else if (igt i 0 && !(nameOk (rget ns i kInode.dflt).2.2.1 && reachI ns 4 (rget ns i kInode.dflt))) = true then false
 else !(ns.take i.toNat).any (twinB (rget ns i kInode.dflt))
def treeI (ns : List kInode.ty) (nx : Int) : Bool := (decide (1 ≤ (ns.length : Int)) && decide ((ns.length : Int) ≤ 14)) && decide (nx ≤ 100000) && !badRoot (rget ns 0 kInode.dflt) && allFrom (fun j => nodeI ns nx j) 0 ns.length

theorem has_ge (ns : List kInode.ty) (y : kInode.ty) (hl : ns.length < 4611686018427387904) (n : Nat) (hn : ns.length + 1 ≤ n) :
  pc L (n + 3) 35 [⟨.row kInode, ns⟩, ⟨.clo 36 (.pair (.iptr kInode) .unit), (y, ())⟩] (.pair .bool .unit) = some (ns.any (twinB y), ()) :=
 pc_of ((f35 ns y (n + 2)).trans (by
  rw [pc_of (k := .pair ki .unit) (x := (findI (twinB y) ns 0, ())) ((f_has ns y (n + 1)).trans ((has_loop n ns y hl (n + 1) 0 (Nat.zero_le _) (by omega)).trans rfl)), bnd_s, findI_any]
  rfl))

theorem TreeOkI_loop (n : Nat) (ns : List kInode.ty) (nx : Int) (hl : ns.length < 4294967296) (hn : ns.length + 9 ≤ n)
  (h1 : ∀ x ∈ ns, pc L (n + 4) 33 [⟨.str, x.2.2.1⟩] (.pair .bool .unit) = some (nameOk x.2.2.1, ()))
  (h2 : ∀ x ∈ ns, pc L (n + 4) 32 [⟨ki, x.1⟩, ⟨ki, x.2.1⟩, ⟨.str, x.2.2.1⟩, ⟨.bool, x.2.2.2.1⟩, ⟨ki, x.2.2.2.2.1⟩, ⟨ki, x.2.2.2.2.2.1⟩, ⟨ki, x.2.2.2.2.2.2.1⟩, ⟨.row kPiece, x.2.2.2.2.2.2.2.1⟩, ⟨ki, x.2.2.2.2.2.2.2.2.1⟩] (.pair .bool .unit) = some (okNode x, ())) : ∀ (k m i : Nat), i + k = ns.length → k < m →
  LP L (n + 4) 16 p_impl_TreeOk_0 [] m (S_impl_TreeOk_0 ns nx i) = some [⟨.bool, allFrom (fun j => nodeI ns nx j) i k⟩]
 | k, 0, i, hi, hm => by omega
 | 0, m + 1, i, hi, hm => by
  obtain rfl : i = ns.length := by omega
  rw [l_impl_TreeOk_0, row_end, cnd_f]
  exact k_impl_TreeOk_2 _
 | k + 1, m + 1, i, hi, hm => by
  have hil : i < ns.length := by omega
  have hx : rget ns (i : Int) kInode.dflt ∈ ns := by rw [row_get hil]; exact List.getElem_mem hil
  have H1 := h1 _ hx
  have H2 := h2 _ hx
  have HR := reaches_ge n ns nx (rget ns (i : Int) kInode.dflt) (by omega) (by omega) (by omega)
  have HT := has_ge (ns.take i) (rget ns (i : Int) kInode.dflt) (by rw [List.length_take]; omega) (n + 1) (by rw [List.length_take]; omega)
  have HL := TreeOkI_loop n ns nx hl hn h1 h2 k m (i + 1) (by omega) (by omega)
  have hcut : rcut ns 0 (i : Int) = ns.take i := by simp [rcut]
  have hcb : cutB 0 (i : Int) (rlen ns) = true := by simp [cutB, rlen]; omega
  rw [l_impl_TreeOk_0, row_lt hil, cnd_t, must_of (row_in hil), bnd_s, H2, bnd_s, allFrom_succ]
  have hm : (cnd (band (bnot (sel (bnot (okNode (rget ns (i : Int) kInode.dflt))) true (ige (rget ns (i : Int) kInode.dflt).1 nx))) (igt (i : Int) 0)) (must (inB (isub .i64 (i : Int) 1) (rlen ns))) (some ())) = some () := by
   cases hb : band (bnot (sel (bnot (okNode (rget ns (i : Int) kInode.dflt))) true (ige (rget ns (i : Int) kInode.dflt).1 nx))) (igt (i : Int) 0) with
   | false => rfl
   | true =>
    have h0 : igt (i : Int) 0 = true := by revert hb; unfold band; cases igt (i : Int) 0 <;> simp
    have h0 : @LT.lt Int _ 0 i := of_decide_eq_true h0
    rw [cnd_t, must_of]
    refine inB_of ?_ ?_
    ·unfold isub; rw [wrap64_eq (by omega) (by omega)]; omega
    ·unfold isub; rw [wrap64_eq (by omega) (by omega)]; omega
  rw [hm, bnd_s]
  show _ = (some [⟨.bool, nodeI ns nx i && allFrom (fun j => nodeI ns nx j) (i + 1) k⟩] : Option (List Leaf))
  unfold nodeI
  cases hA : sel (sel (bnot (okNode (rget ns (i : Int) kInode.dflt))) true (ige (rget ns (i : Int) kInode.dflt).1 nx)) true (sel (igt (i : Int) 0) (ige (rget ns (isub .i64 (i : Int) 1) kInode.dflt).1 (rget ns (i : Int) kInode.dflt).1) false) with
  | true => rw [cnd_t, if_pos rfl, Bool.false_and]; exact k_impl_TreeOk_1 _
  | false =>
   rw [cnd_f, if_neg (by decide), hcut, must_of hcb, bnd_s]
   have hE : ∀ q : Bool, (bnd (pc L (n + 4) 35 [⟨.row kInode, ns.take i⟩, ⟨.clo 36 (.pair (.iptr kInode) .unit), (rget ns (i : Int) kInode.dflt, ())⟩] (.pair .bool .unit)) fun (q3 : (Bool × Unit)) => cnd q3.1 (KP L (n + 4) 16 p_impl_TreeOk_0 [] .ret (S_impl_TreeOk_1)) (LP L (n + 4) 16 p_impl_TreeOk_0 [] m (S_impl_TreeOk_0 ns nx (iadd .i64 (i : Int) 1)))) = some [⟨.bool, !(ns.take (i : Int).toNat).any (twinB (rget ns (i : Int) kInode.dflt)) && allFrom (fun j => nodeI ns nx j) (i + 1) k⟩] := by
    intro _
    rw [HT, bnd_s, show (i : Int).toNat = i from rfl]
    cases (ns.take i).any (twinB (rget ns (i : Int) kInode.dflt)) with
    | true => rw [cnd_t, Bool.not_true, Bool.false_and]; exact k_impl_TreeOk_1 _
    | false => rw [cnd_f, Bool.not_false, Bool.true_and, iadd_eq (by omega) (by omega)]; exact HL
   cases hz : igt (i : Int) 0 with
   | false =>
    simp only [cnd_f, bnd_s, band, sel_f, Bool.false_and]
    exact hE true
   | true =>
    rw [cnd_t, H1, bnd_s]
    cases nameOk (rget ns (i : Int) kInode.dflt).2.2.1 with
    | false =>
     simp only [band, bnot, Bool.not_true, Bool.not_false, Bool.and_false, cnd_f, cnd_t, bnd_s, Bool.true_and, Bool.false_and, sel_t, sel_f, if_true]
     exact k_impl_TreeOk_1 _
    | true =>
     simp only [band, bnot, Bool.not_true, Bool.not_false, Bool.and_true, cnd_t, Bool.true_and, sel_t, sel_f]
     rw [HR, bnd_s]
     cases reachI ns 4 (rget ns (i : Int) kInode.dflt) with
     | false =>
      simp only [Bool.not_false, cnd_t, Bool.false_and, if_true]
      exact k_impl_TreeOk_1 _
     | true =>
      simp only [Bool.not_true, cnd_f]
      exact hE true

theorem TreeOkI_ev (ns : List kInode.ty) (nx : Int) (hs : Sized ns) : Evt fun n => pc L n 16 [⟨.row kInode, ns⟩, ⟨ki, nx⟩] (.pair .bool .unit) = some (treeI ns nx, ()) :=
 have hA := Evt.all (l := ns) fun x hx => NameOk_ev' x.2.2.1 (hs.2 x hx).1
 have hB := Evt.all (l := ns) fun x hx => inodeOk_ev x.1 x.2.1 x.2.2.1 x.2.2.2.1 x.2.2.2.2.1 x.2.2.2.2.2.1 x.2.2.2.2.2.2.1 x.2.2.2.2.2.2.2.1 x.2.2.2.2.2.2.2.2.1 (hs.2 x hx).2
 have hC : Evt fun n => ((∀ x ∈ ns, pc L (n + 4) 33 [⟨.str, x.2.2.1⟩] (.pair .bool .unit) = some (nameOk x.2.2.1, ())) ∧ (∀ x ∈ ns, pc L (n + 4) 32 [⟨ki, x.1⟩, ⟨ki, x.2.1⟩, ⟨.str, x.2.2.1⟩, ⟨.bool, x.2.2.2.1⟩, ⟨ki, x.2.2.2.2.1⟩, ⟨ki, x.2.2.2.2.2.1⟩, ⟨ki, x.2.2.2.2.2.2.1⟩, ⟨.row kPiece, x.2.2.2.2.2.2.2.1⟩, ⟨ki, x.2.2.2.2.2.2.2.2.1⟩] (.pair .bool .unit) = some (okNode x, ()))) ∧ ns.length + 9 ≤ n := by
  obtain ⟨N, hN⟩ := hA.and hB
  exact ⟨max N (ns.length + 9), fun n hn => ⟨hN (n + 4) (by omega), by omega⟩⟩
 Evt.succ (Evt.succ (Evt.succ (Evt.succ (Evt.succ (hC.mono fun n hn => pc_of ((f_impl_TreeOk ns nx (n + 4)).trans (by
  have hl0 := hs.1
  have hL := TreeOkI_loop n ns nx hs.1 hn.2 hn.1.1 hn.1.2 ns.length (n + 4) 0 (by omega) (by omega)
  rw [within_ev', bnd_s]
  unfold treeI
  rw [show igt nx 100000 = !decide (nx ≤ 100000) from igt_not]
  show cnd (sel (bnot (decide (1 ≤ (ns.length : Int)) && decide ((ns.length : Int) ≤ 14))) true (!decide (nx ≤ 100000))) _ _ = _
  cases hc : (decide (1 ≤ (ns.length : Int)) && decide ((ns.length : Int) ≤ 14)) with
  | false => rfl
  | true =>
   have h0 : 0 < ns.length := by simp only [Bool.and_eq_true, decide_eq_true_eq] at hc; omega
   cases decide (nx ≤ 100000) with
   | false => rfl
   | true =>
    simp only [bnot, Bool.not_true, sel_f, cnd_f]
    rw [must_of (show inB 0 (rlen ns) = true from row_in (i := 0) h0), bnd_s]
    show cnd (badRoot (rget ns 0 kInode.dflt)) _ _ = _
    cases badRoot (rget ns 0 kInode.dflt) with
    | true => rw [cnd_t]; rfl
    | false => rw [cnd_f]; exact hL)))))))
abbrev nth (ns : List kInode.ty) (i : Int) : kInode.ty := rget ns i kInode.dflt

theorem atI_spec (id : Int) : ∀ (ns : List kInode.ty) (k j : Nat) (hj : j < ns.length), (ns[j]).1 = id → (∀ j' (h : j' < j), (ns[j']'(by omega)).1 ≠ id) → atI id ns k = k + j
 | [], _, _, hj, _, _ => by cases hj
 | x :: xs, k, 0, _, h, _ => by simp only [atI]; rw [if_pos (show x.1 = id from h)]; omega
 | x :: xs, k, j + 1, hj, h, hn => by
  simp only [atI]
  rw [if_neg (show ¬ x.1 = id from hn 0 (by omega)), atI_spec id xs (k + 1) j (by simpa using hj) h (fun j' hj' => hn (j' + 1) (by omega))]
  omega

theorem atI_cases (id : Int) : ∀ (ns : List kInode.ty) (k : Nat), atI id ns k = -1 ∨ ∃ j, ∃ h : j < ns.length, atI id ns k = k + j ∧ (ns[j]).1 = id
 | [], _ => .inl rfl
 | x :: xs, k => by
  simp only [atI]
  by_cases h : x.1 = id
  ·rw [if_pos h]; exact .inr ⟨0, by simp, by omega, h⟩
  ·rw [if_neg h]
   rcases atI_cases id xs (k + 1) with h1 | ⟨j, hj, h1, h2⟩
   ·exact .inl h1
   ·exact .inr ⟨j + 1, by simpa using hj, by omega, h2⟩

theorem atI_nth {id : Int} {ns : List kInode.ty} (h : ¬ atI id ns 0 < 0) : (nth ns (atI id ns 0)).1 = id := by
 rcases atI_cases id ns 0 with h1 | ⟨j, hj, h1, h2⟩
 ·omega
 ·have h3 : atI id ns 0 = (j : Int) := by omega
  rw [h3]
  show (rget ns (j : Int) kInode.dflt).1 = id
  rw [row_get hj, h2]

theorem reach_way (ns : List kInode.ty) : ∀ (k : Nat) (x : kInode.ty), nth ns (atI x.1 ns 0) = x → ¬ atI x.1 ns 0 < 0 → reachI ns k x = true → wayS ns k x.1 = true
 | 0, _, _, _, h => by cases h
 | k + 1, x, hx, h0, h => by
  unfold reachI at h
  unfold wayS
  split at h
  ·cases h
  ·rename_i hp
   split at h
   ·cases h
   ·have hy := atI_nth hp
    rw [if_neg h0]
    rw [show rget ns (atI x.1 ns 0) kInode.dflt = x from hx]
    split at h
    ·rename_i h1
     rw [show (rget ns (atI x.2.1 ns 0) kInode.dflt).1 = x.2.1 from hy] at h1
     rw [if_pos h1]
    ·split
     ·rfl
     ·have := reach_way ns k (nth ns (atI x.2.1 ns 0)) (by rw [hy]) (by rw [hy]; exact hp) h
      rw [hy] at this
      exact this

def Asc (ns : List kInode.ty) : Prop := ∀ i, i + 1 < ns.length → @LT.lt Int _ (nth ns (i : Nat)).1 (nth ns ((i + 1 : Nat) : Int)).1

theorem Asc.lt {ns : List kInode.ty} (h : Asc ns) : ∀ (d i : Nat), i + d + 1 < ns.length → @LT.lt Int _ (nth ns (i : Nat)).1 (nth ns ((i + d + 1 : Nat) : Int)).1
 | 0, i, hi => h i hi
 | d + 1, i, hi => Int.lt_trans (h.lt d i (by omega)) (h (i + d + 1) (by omega))

theorem nth_get {ns : List kInode.ty} {i : Nat} (h : i < ns.length) : nth ns (i : Int) = ns[i] := row_get h

theorem Asc.at {ns : List kInode.ty} (h : Asc ns) {i : Nat} (hi : i < ns.length) : atI (nth ns (i : Int)).1 ns 0 = i := by
 rw [nth_get hi, atI_spec _ ns 0 i hi rfl ?_]
 ·omega
 ·intro j hj he
  have := h.lt (i - j - 1) j (by omega)
  rw [show j + (i - j - 1) + 1 = i by omega, nth_get hi, nth_get (by omega), he] at this
  exact Int.lt_irrefl _ this

theorem way_reach (ns : List kInode.ty) (ha : Asc ns) (h0 : (nth ns 0).1 = 1) (hp : ∀ i : Nat, 0 < i → i < ns.length → ¬ atI (nth ns (i : Int)).2.1 ns 0 < 0 ∧ (nth ns (atI (nth ns (i : Int)).2.1 ns 0)).2.2.2.1 = true) :
  ∀ (k i : Nat), 0 < i → i < ns.length → wayS ns k (nth ns (i : Int)).1 = true → reachI ns k (nth ns (i : Int)) = true
 | 0, _, _, _, h => by cases h
 | k + 1, i, hi0, hi, h => by
  obtain ⟨hp1, hp2⟩ := hp i hi0 hi
  have hy := atI_nth hp1
  unfold wayS at h
  unfold reachI
  rw [ha.at hi] at h
  rw [if_neg (by omega)] at h
  rw [if_neg hp1, if_neg (by rw [show (rget ns (atI (nth ns (i : Int)).2.1 ns 0) kInode.dflt).2.2.2.1 = true from hp2]; decide)]
  split at h
  ·rename_i h1
   rw [if_pos (by rw [show (rget ns (atI (nth ns (i : Int)).2.1 ns 0) kInode.dflt).1 = (nth ns (i : Int)).2.1 from hy]; exact h1)]
  ·rename_i h1
   split
   ·rfl
   ·rename_i h2
    rcases atI_cases (nth ns (i : Int)).2.1 ns 0 with h3 | ⟨j, hj, h3, h4⟩
    ·omega
    ·have h5 : atI (nth ns (i : Int)).2.1 ns 0 = (j : Int) := by omega
     rw [h5] at h2 hy ⊢
     have hj0 : 0 < j := by
      rcases Nat.eq_zero_or_pos j with rfl | h6
      ·exact absurd (beq_iff_eq.2 h0) h2
      ·exact h6
     refine way_reach ns ha h0 hp k j hj0 hj ?_
     rw [hy]
     exact h

theorem allFrom_iff (p : Nat → Bool) (n : Nat) : allFrom p 0 n = true ↔ ∀ i, i < n → p i = true := by
 unfold allFrom
 rw [List.all_eq_true]
 constructor
 ·intro h i hi; exact h i (by rw [List.mem_range'_1]; omega)
 ·intro h i hi; rw [List.mem_range'_1] at hi; exact h i (by omega)

theorem badAt_asc {ns : List kInode.ty} {nx : Int} (hl : ns.length < 4294967296) (h : ∀ i : Nat, i < ns.length → badAt ns nx i = false) : Asc ns := by
 intro i hi
 have := h (i + 1) hi
 unfold badAt at this
 revert this
 cases ige (rget ns ((i + 1 : Nat) : Int) kInode.dflt).1 nx with
 | true => intro h; cases h
 | false =>
  rw [sel_f, show igt ((i + 1 : Nat) : Int) 0 = true from decide_eq_true (by omega), sel_t, show isub .i64 ((i + 1 : Nat) : Int) 1 = (i : Int) by unfold isub; rw [wrap64_eq (by omega) (by omega)]; omega]
  intro h
  exact Int.not_le.1 (of_decide_eq_false h)

theorem nodeI_iff (ns : List kInode.ty) (nx i : Int) : nodeI ns nx i = true ↔ okNode (nth ns i) = true ∧ badAt ns nx i = false ∧ (igt i 0 = true → nameOk (nth ns i).2.2.1 = true ∧ reachI ns 4 (nth ns i) = true) ∧ (ns.take i.toNat).any (twinB (nth ns i)) = false := by
 unfold nodeI badAt nth
 generalize okNode (rget ns i kInode.dflt) = a
 generalize ige (rget ns i kInode.dflt).1 nx = b
 generalize ige (rget ns (isub .i64 i 1) kInode.dflt).1 (rget ns i kInode.dflt).1 = d
 generalize igt i 0 = c
 generalize nameOk (rget ns i kInode.dflt).2.2.1 = e
 generalize reachI ns 4 (rget ns i kInode.dflt) = f
 generalize (ns.take i.toNat).any (twinB (rget ns i kInode.dflt)) = g
 cases a <;> cases b <;> cases c <;> cases d <;> cases e <;> cases f <;> cases g <;> simp [sel, bnot]

theorem nodeS_iff (ns : List kInode.ty) (nx i : Int) : nodeS ns nx i = true ↔ badAt ns nx i = false ∧ (ieq i 0 = true → badRoot (nth ns i) = false) ∧ okNode (nth ns i) = true ∧ (ieq i 0 = true ∨ (nameOk (nth ns i).2.2.1 = true ∧ ilt (atI (nth ns i).2.1 ns 0) 0 = false ∧ (nth ns (atI (nth ns i).2.1 ns 0)).2.2.2.1 = true ∧ (ns.take i.toNat).any (twinB (nth ns i)) = false ∧ wayS ns 4 (nth ns i).1 = true)) := by
 unfold nodeS nth
 generalize badAt ns nx i = b
 generalize badRoot (rget ns i kInode.dflt) = r
 generalize ieq i 0 = c
 generalize okNode (rget ns i kInode.dflt) = a
 generalize nameOk (rget ns i kInode.dflt).2.2.1 = e
 generalize ilt (atI (rget ns i kInode.dflt).2.1 ns 0) 0 = d
 generalize (rget ns (atI (rget ns i kInode.dflt).2.1 ns 0) kInode.dflt).2.2.2.1 = h
 generalize (ns.take i.toNat).any (twinB (rget ns i kInode.dflt)) = g
 generalize wayS ns 4 (rget ns i kInode.dflt).1 = f
 cases b <;> cases r <;> cases c <;> cases a <;> cases e <;> cases d <;> cases h <;> cases g <;> cases f <;> simp [sel]

theorem tree_eq (ns : List kInode.ty) (nx : Int) (hl : ns.length < 4294967296) : treeI ns nx = treeS ns nx := by
 rw [Bool.eq_iff_iff]
 unfold treeI treeS
 simp only [Bool.and_eq_true, decide_eq_true_eq, Bool.not_eq_true', allFrom_iff, nodeI_iff, nodeS_iff]
 constructor
 ·rintro ⟨⟨⟨hlen, hnx⟩, hr⟩, hall⟩
  refine ⟨⟨hlen, hnx⟩, fun i hi => ?_⟩
  obtain ⟨h1, h2, h3, h4⟩ := hall i hi
  have ha := badAt_asc hl fun i hi => (hall i hi).2.1
  refine ⟨h2, fun hz => ?_, h1, ?_⟩
  ·have hz : @Eq Int i 0 := beq_iff_eq.1 hz
   rw [hz]; exact hr
  ·by_cases hz : ieq (i : Int) 0 = true
   ·exact .inl hz
   ·have hz' : ¬ @Eq Int i 0 := fun h => hz (beq_iff_eq.2 h)
    obtain ⟨h5, h6⟩ := h3 (decide_eq_true (by omega))
    refine .inr ⟨h5, ?_, ?_, h4, ?_⟩
    ·unfold reachI at h6
     split at h6
     ·cases h6
     ·rename_i hp; exact decide_eq_false hp
    ·unfold reachI at h6
     split at h6
     ·cases h6
     ·split at h6
      ·cases h6
      ·rename_i hd; revert hd; cases hb : (rget ns (atI (nth ns (i : Int)).2.1 ns 0) kInode.dflt).2.2.2.1 <;> simp
    ·exact reach_way ns 4 _ (by rw [ha.at hi]) (by rw [ha.at hi]; omega) h6
 ·rintro ⟨⟨hlen, hnx⟩, hall⟩
  have ha := badAt_asc hl fun i hi => (hall i hi).1
  have hr : badRoot (nth ns ((0 : Nat) : Int)) = false := (hall 0 (by omega)).2.1 rfl
  have h0 : (nth ns 0).1 = 1 := by
   have := hr
   unfold badRoot at this
   by_cases h : (nth ns ((0 : Nat) : Int)).1 = 1
   ·exact h
   ·rw [show ine (nth ns ((0 : Nat) : Int)).1 1 = true from bne_iff_ne.2 h] at this
    cases this
  refine ⟨⟨⟨hlen, hnx⟩, hr⟩, fun i hi => ?_⟩
  obtain ⟨h1, h2, h3, h4⟩ := hall i hi
  refine ⟨h3, h1, fun hz => ?_, ?_⟩
  ·have hz : @LT.lt Int _ 0 i := of_decide_eq_true hz
   rcases h4 with h4 | ⟨h5, _, _, _, h6⟩
   ·have h4 : @Eq Int i 0 := beq_iff_eq.1 h4
    omega
   ·refine ⟨h5, way_reach ns ha h0 (fun j hj0 hj => ?_) 4 i (by omega) hi h6⟩
    rcases (hall j hj).2.2.2 with h7 | ⟨_, h8, h9, _, _⟩
    ·have h7 : @Eq Int j 0 := beq_iff_eq.1 h7
     omega
    ·exact ⟨of_decide_eq_false h8, h9⟩
  ·rcases h4 with h4 | ⟨_, _, _, h5, _⟩
   ·have h4 : @Eq Int i 0 := beq_iff_eq.1 h4
    rw [show (i : Int).toNat = 0 by omega]
    rfl
   ·exact h5
def p_impl_ShowTree_0 : List Dir := [.r, .r, .r, .l, .r, .i]
def S_impl_ShowTree_0 (a0 : List kInode.ty) (a1 : Int) (v0 : Int) (v1 : List ByteArray) : St := ⟨tT 54 [(1, .one (.adr 1 0)), (3, .one (.ref 4099 0)), (15, .one (.d (.row kInode) (rcut a0 1 (rlen a0)))), (16, .one (.d ki (rlen (rcut a0 1 (rlen a0))))), (17, .one (.d ki v0))], [(1, ⟨true, [.tl (.d (.row kInode) a0), .tl (.d ki a1)]⟩), (4099, ⟨false, [.own 1 .str v1 none]⟩)]⟩
def S_impl_ShowTree_1 (v1 : List ByteArray) : St := ⟨tT 54 [(3, .one (.ref 4099 0))], [(4099, ⟨false, [.own 1 .str v1 none]⟩)]⟩
def p_impl_ShowTree_1 : List Dir := [.r, .r, .r, .r, .r, .r, .l, .r, .i]
def S_impl_ShowTree_2 (v2_0 : Int) (v2_1 : List ByteArray) (v2_2 : ByteArray) (v2_3 : Int) : St := ⟨tT 54 [(7, .one (.d .str v2_2)), (42, .one (.ref 4099 0)), (43, .one (.d ki v2_0)), (44, .one (.d ki v2_3))], [(4099, ⟨false, [.own 1 .str v2_1 none]⟩)]⟩
def S_impl_ShowTree_3 (v2_2 : ByteArray) : St := ⟨tT 54 [(7, .one (.d .str v2_2))], []⟩
theorem k_impl_ShowTree_3 (n : Nat) (v2_2 : ByteArray) : KP L n 7 p_impl_ShowTree_1 [] (.exit 2) (S_impl_ShowTree_3 v2_2) = some [⟨.str, v2_2⟩] := by kernel_rfl
theorem l_impl_ShowTree_2 (n : Nat) (m : Nat) (v2_0 : Int) (v2_1 : List ByteArray) (v2_2 : ByteArray) (v2_3 : Int) : LP L n 7 p_impl_ShowTree_1 [] (m + 1) (S_impl_ShowTree_2 v2_0 v2_1 v2_2 v2_3) = cnd (ilt v2_3 v2_0) (bnd (must (inB v2_3 (rlen v2_1))) fun (_ : Unit) => bnd (must (ile (iplus (slen (rget v2_1 v2_3 ⟨#[]⟩)) (slen ⟨#[10]⟩)) 9223372036854775807)) fun (_ : Unit) => bnd (must (ile (iplus (slen v2_2) (slen (scat (rget v2_1 v2_3 ⟨#[]⟩) ⟨#[10]⟩))) 9223372036854775807)) fun (_ : Unit) => LP L n 7 p_impl_ShowTree_1 [] m (S_impl_ShowTree_2 v2_0 v2_1 (scat v2_2 (scat (rget v2_1 v2_3 ⟨#[]⟩) ⟨#[10]⟩)) (iadd .i64 v2_3 1))) (KP L n 7 p_impl_ShowTree_1 [] (.exit 2) (S_impl_ShowTree_3 v2_2)) := by kernel_rfl
theorem k_impl_ShowTree_1 (n : Nat) (v1 : List ByteArray) : KP L n 7 p_impl_ShowTree_0 [] (.exit 0) (S_impl_ShowTree_1 v1) = bnd (sortI 19 [⟨.clo 20 .unit, ()⟩] .str v1) fun (q0 : List ByteArray) => LP L n 7 p_impl_ShowTree_1 [] n (S_impl_ShowTree_2 (rlen q0) q0 ⟨#[]⟩ 0) := by kernel_rfl
theorem l_impl_ShowTree_0 (a0 : List kInode.ty) (a1 : Int) (n : Nat) (m : Nat) (v0 : Int) (v1 : List ByteArray) : LP L n 7 p_impl_ShowTree_0 [] (m + 1) (S_impl_ShowTree_0 a0 a1 v0 v1) = cnd (ilt v0 (rlen (rcut a0 1 (rlen a0)))) (bnd (must (inB v0 (rlen (rcut a0 1 (rlen a0))))) fun (_ : Unit) => bnd (pc L n 17 [⟨.row kInode, a0⟩, ⟨ki, a1⟩, ⟨ki, (rget (rcut a0 1 (rlen a0)) v0 kInode.dflt).1⟩] (.pair .str .unit)) fun (q0 : (ByteArray × Unit)) => cnd (((((rget (rcut a0 1 (rlen a0)) v0 kInode.dflt).2).2).2).1) (bnd (must (ile (iplus (slen q0.1) (slen ⟨#[47]⟩)) 9223372036854775807)) fun (_ : Unit) => bnd (must (ile (iplus (rlen v1) (rlen [scat q0.1 ⟨#[47]⟩])) 1073741824)) fun (_ : Unit) => LP L n 7 p_impl_ShowTree_0 [] m (S_impl_ShowTree_0 a0 a1 (iadd .i64 v0 1) (rapp v1 [scat q0.1 ⟨#[47]⟩]))) (bnd (pc L n 18 [⟨ki, (((((((rget (rcut a0 1 (rlen a0)) v0 kInode.dflt).2).2).2).2).2).2).1⟩] (.pair .str .unit)) fun (q1 : (ByteArray × Unit)) => bnd (must (ile (iplus (slen ⟨#[32]⟩) (slen q1.1)) 9223372036854775807)) fun (_ : Unit) => bnd (must (ile (iplus (slen q0.1) (slen (scat ⟨#[32]⟩ q1.1))) 9223372036854775807)) fun (_ : Unit) => bnd (must (ile (iplus (rlen v1) (rlen [scat q0.1 (scat ⟨#[32]⟩ q1.1)])) 1073741824)) fun (_ : Unit) => LP L n 7 p_impl_ShowTree_0 [] m (S_impl_ShowTree_0 a0 a1 (iadd .i64 v0 1) (rapp v1 [scat q0.1 (scat ⟨#[32]⟩ q1.1)])))) (KP L n 7 p_impl_ShowTree_0 [] (.exit 0) (S_impl_ShowTree_1 v1)) := by kernel_rfl
theorem f_impl_ShowTree (a0 : List kInode.ty) (a1 : Int) (n : Nat) : pcall L (n + 1) 7 [⟨.row kInode, a0⟩, ⟨ki, a1⟩] = bnd (pc L n 16 [⟨.row kInode, a0⟩, ⟨ki, a1⟩] (.pair .bool .unit)) fun (q0 : (Bool × Unit)) => cnd (bnot q0.1) (some [⟨.str, ⟨#[]⟩⟩]) (bnd (must (cutB 1 (rlen a0) (rlen a0))) fun (_ : Unit) => LP L n 7 p_impl_ShowTree_0 [] n (S_impl_ShowTree_0 a0 a1 0 (([] : List ByteArray)))) := by kernel_rfl
def p_impl_PathOf_0 : List Dir := [.r, .r, .r, .l, .i]
def S_impl_PathOf_0 (a0 : List kInode.ty) (a1 : Int) (v0 : Int) (v1 : List ByteArray) : St := ⟨tT 34 [(1, .one (.d ki v0)), (2, .one (.adr 2 0)), (5, .one (.ref 4101 0))], [(2, ⟨true, [.tl (.d (.row kInode) a0), .tl (.d ki a1)]⟩), (4101, ⟨false, [.own 1 .str v1 none]⟩)]⟩
def S_impl_PathOf_1 (v1 : List ByteArray) : St := ⟨tT 34 [(5, .one (.ref 4101 0))], [(4101, ⟨false, [.own 1 .str v1 none]⟩)]⟩
theorem k_impl_PathOf_1 (n : Nat) (v1 : List ByteArray) : KP L n 17 p_impl_PathOf_0 [] (.exit 0) (S_impl_PathOf_1 v1) = bnd (pc L n 38 [⟨.row .str, v1⟩] (.pair .str .unit)) fun (q0 : (ByteArray × Unit)) => some [⟨.str, q0.1⟩] := by kernel_rfl
theorem l_impl_PathOf_0 (a0 : List kInode.ty) (a1 : Int) (n : Nat) (m : Nat) (v0 : Int) (v1 : List ByteArray) : LP L n 17 p_impl_PathOf_0 [] (m + 1) (S_impl_PathOf_0 a0 a1 v0 v1) = cnd (ine v0 1) (bnd (pc L n 37 [⟨.row kInode, a0⟩, ⟨ki, a1⟩, ⟨ki, v0⟩] (.pair ki .unit)) fun (q0 : (Int × Unit)) => bnd (must (inB q0.1 (rlen a0))) fun (_ : Unit) => bnd (must (ile (iplus (rlen [(((rget a0 q0.1 kInode.dflt).2).2).1]) (rlen v1)) 1073741824)) fun (_ : Unit) => LP L n 17 p_impl_PathOf_0 [] m (S_impl_PathOf_0 a0 a1 (((rget a0 q0.1 kInode.dflt).2).1) (rapp [(((rget a0 q0.1 kInode.dflt).2).2).1] v1))) (KP L n 17 p_impl_PathOf_0 [] (.exit 0) (S_impl_PathOf_1 v1)) := by kernel_rfl
theorem f_impl_PathOf (a0 : List kInode.ty) (a1 : Int) (a2 : Int) (n : Nat) : pcall L (n + 1) 17 [⟨.row kInode, a0⟩, ⟨ki, a1⟩, ⟨ki, a2⟩] = bnd (pc L n 16 [⟨.row kInode, a0⟩, ⟨ki, a1⟩] (.pair .bool .unit)) fun (q0 : (Bool × Unit)) => bnd (cnd (bnot (bnot q0.1)) (pc L n 37 [⟨.row kInode, a0⟩, ⟨ki, a1⟩, ⟨ki, a2⟩] (.pair ki .unit)) (some (0, ()))) fun (q1 : (Int × Unit)) => cnd (sel (bnot q0.1) true (ilt q1.1 0)) (some [⟨.str, ⟨#[]⟩⟩]) (LP L n 17 p_impl_PathOf_0 [] n (S_impl_PathOf_0 a0 a1 a2 (([] : List ByteArray)))) := by kernel_rfl
theorem f_impl_JoinPath (a0 : List ByteArray) (n : Nat) : pcall L (n + 1) 38 [⟨.row .str, a0⟩] = bnd (pc L n 53 [⟨.row .str, a0⟩, ⟨.str, ⟨#[47]⟩⟩] (.pair .str .unit)) fun (q0 : (ByteArray × Unit)) => bnd (must (ile (iplus (slen ⟨#[47]⟩) (slen q0.1)) 9223372036854775807)) fun (_ : Unit) => some [⟨.str, scat ⟨#[47]⟩ q0.1⟩] := by kernel_rfl
abbrev bs (s : ByteArray) : List UInt8 := s.data.toList
theorem bs_len (s : ByteArray) : (bs s).length = s.size := rfl
theorem bs_inj {a b : ByteArray} (h : bs a = bs b) : a = b := ByteArray.ext (Array.toList_inj.1 h)
theorem data_append' (a b : ByteArray) : (a ++ b).data.toList = a.data.toList ++ b.data.toList := by
 simp
theorem bs_cat (a b : ByteArray) : bs (scat a b) = bs a ++ bs b := data_append' a b
theorem size_cat (a b : ByteArray) : (scat a b).size = a.size + b.size := by rw [← bs_len, bs_cat, List.length_append]; rfl

theorem fits {a b : ByteArray} (h : a.size + b.size ≤ 9223372036854775807) : must (ile (iplus (slen a) (slen b)) 9223372036854775807) = some () :=
 must_of (decide_eq_true (by unfold iplus slen; omega))
theorem fitsR {α : Type} {xs ys : List α} (h : xs.length + ys.length ≤ 1073741824) : must (ile (iplus (rlen xs) (rlen ys)) 1073741824) = some () :=
 must_of (decide_eq_true (by unfold iplus rlen; omega))

def joinL : List ByteArray → List UInt8
 | [] => []
 | x :: xs => 47 :: bs x ++ joinL xs
def joinF : List ByteArray → ByteArray → ByteArray
 | [], s => s
 | x :: xs, s => joinF xs (scat (scat s ⟨#[47]⟩) x)
theorem joinF_bs : ∀ (xs : List ByteArray) (s : ByteArray), bs (joinF xs s) = bs s ++ joinL xs
 | [], s => by simp [joinF, joinL]
 | x :: xs, s => by
  rw [joinF, joinF_bs xs, bs_cat, bs_cat, joinL, List.append_assoc, List.append_assoc]
  rfl

theorem joinS_loop (n : Nat) (xs : List ByteArray) (hl : xs.length < 1000) (hx : ∀ x ∈ xs, x.size ≤ 1000) : ∀ (m i : Nat) (s : ByteArray), i ≤ xs.length → xs.length - i < m → s.size ≤ 1001 * i →
  LP L n 27 p_spec_JoinPath_0 [] m (S_spec_JoinPath_0 xs s i) = some [⟨.str, joinF (xs.drop i) s⟩]
 | 0, i, _, _, hm, _ => by omega
 | m + 1, i, s, hi, hm, hs => by
  rw [l_spec_JoinPath_0]
  by_cases h : i < xs.length
  ·have hd : xs.drop i = xs[i] :: xs.drop (i + 1) := List.drop_eq_getElem_cons h
   have hz := hx _ (List.getElem_mem h)
   have h1 : (ByteArray.mk #[47]).size = 1 := rfl
   have h2 : ile (iplus (slen s) (slen ⟨#[47]⟩)) 9223372036854775807 = true := decide_eq_true (by unfold iplus slen; rw [h1]; omega)
   have h3 : ile (iplus (slen (scat s ⟨#[47]⟩)) (slen xs[i])) 9223372036854775807 = true := decide_eq_true (by unfold iplus slen; rw [size_cat, h1]; omega)
   rw [row_lt h, cnd_t, must_of h2, bnd_s, must_of (row_in h), bnd_s, row_get h, must_of h3, bnd_s, iadd_eq (by omega) (by omega), hd]
   exact joinS_loop n xs hl hx m (i + 1) _ (by omega) (by omega) (by rw [size_cat, size_cat, h1]; omega)
  ·obtain rfl : i = xs.length := by omega
   rw [row_end, cnd_f, List.drop_length]
   exact k_spec_JoinPath_1 n s

def pathOfL (xs : List ByteArray) : ByteArray := ⟨(if xs = [] then [47] else joinL xs).toArray⟩

theorem JoinPathS_ge (n : Nat) (xs : List ByteArray) (hl : xs.length < 1000) (hx : ∀ x ∈ xs, x.size ≤ 1000) (hn : xs.length < n) :
  pc L (n + 1) 27 [⟨.row .str, xs⟩] (.pair .str .unit) = some (pathOfL xs, ()) := by
 refine pc_of ((f_spec_JoinPath xs n).trans ?_)
 cases xs with
 | nil => rfl
 | cons x xs =>
  rw [show ieq (rlen (x :: xs)) 0 = false from beq_eq_false_iff_ne.2 (by unfold rlen; simp only [List.length_cons]; omega), cnd_f]
  refine (joinS_loop n (x :: xs) hl hx n 0 _ (Nat.zero_le _) (by omega) (by exact Nat.zero_le _)).trans ?_
  rw [List.drop_zero]
  congr 2
  have : joinF (x :: xs) ⟨#[]⟩ = pathOfL (x :: xs) := bs_inj (by rw [joinF_bs]; unfold pathOfL; rw [if_neg (by simp)]; rfl)
  rw [this]

theorem join_slash : ∀ xs : List ByteArray, xs ≠ [] → 47 :: Go.Lib.join (xs.map (·.data.toList)) [47] = joinL xs
 | [], h => absurd rfl h
 | x :: xs, h => by
  rw [List.map_cons, Go.Lib.join_cons, joinL]
  show 47 :: (bs x ++ _) = 47 :: (bs x ++ _)
  congr 2
  clear h
  induction xs with
  | nil => rfl
  | cons y ys ih =>
   simp only [Go.Lib.joinTail, List.map_cons, List.flatten_cons, joinL]
   simp only [Go.Lib.joinTail] at ih
   rw [ih]
   rfl

theorem joinL_len : ∀ (xs : List ByteArray), (∀ x ∈ xs, x.size ≤ 1000) → (joinL xs).length ≤ 1001 * xs.length
 | [], _ => by simp [joinL]
 | x :: xs, h => by
  have h1 := joinL_len xs fun y hy => h y (List.mem_cons_of_mem _ hy)
  have h2 := h x (List.mem_cons_self ..)
  have h3 : (bs x).length = x.size := rfl
  simp only [joinL, List.length_append, List.length_cons]
  omega

theorem JoinPathI_ge (n : Nat) (xs : List ByteArray) (hl : xs.length < 1000) (hx : ∀ x ∈ xs, x.size ≤ 1000) :
  pc L (n + 2) 38 [⟨.row .str, xs⟩] (.pair .str .unit) = some (pathOfL xs, ()) := by
 refine pc_of ((f_impl_JoinPath xs (n + 1)).trans ?_)
 have hb : (Go.Lib.join (xs.map (·.data.toList)) [47]).length ≤ 1001 * xs.length := by
  have := joinL_len xs hx
  cases xs with
  | nil => simp [Go.Lib.join_nil]
  | cons x xs => rw [← join_slash _ (by simp), List.length_cons] at this; omega
 have hj : pc L (n + 1) 53 [⟨.row .str, xs⟩, ⟨.str, ⟨#[47]⟩⟩] (.pair .str .unit) = some (⟨(Go.Lib.join (xs.map (·.data.toList)) [47]).toArray⟩, ()) := by
  refine pc_of ?_
  show joinX xs ⟨#[47]⟩ = _
  unfold joinX
  rw [if_pos ⟨by omega, by show (Go.Lib.join (xs.map (·.data.toList)) [47]).length ≤ _; omega⟩]
  rfl
 have h1 : (ByteArray.mk #[47]).size = 1 := rfl
 have h2 : (ByteArray.mk (Go.Lib.join (xs.map (·.data.toList)) [47]).toArray).size = (Go.Lib.join (xs.map (·.data.toList)) [47]).length := List.size_toArray
 rw [hj, bnd_s, fits (by rw [h1, h2]; omega), bnd_s]
 congr 2
 have : scat ⟨#[47]⟩ ⟨(Go.Lib.join (xs.map (·.data.toList)) [47]).toArray⟩ = pathOfL xs := bs_inj (by
  rw [bs_cat]
  unfold pathOfL
  by_cases h : xs = []
  ·subst h; rfl
  ·rw [if_neg h, ← join_slash xs h]; rfl)
 rw [this]
structure Right (ns : List kInode.ty) : Prop where
 len : 1 ≤ ns.length ∧ ns.length ≤ 14
 asc : Asc ns
 root : (nth ns 0).1 = 1
 rootDir : (nth ns 0).2.2.2.1 = true
 ok : ∀ i : Nat, i < ns.length → okNode (nth ns (i : Int)) = true
 node : ∀ i : Nat, 0 < i → i < ns.length → nameOk (nth ns (i : Int)).2.2.1 = true ∧ reachI ns 4 (nth ns (i : Int)) = true
 one : ∀ i j : Nat, i < j → j < ns.length → twinB (nth ns (j : Int)) (nth ns (i : Int)) = false

theorem right_of {ns : List kInode.ty} {nx : Int} (hl : ns.length < 4294967296) (h : treeI ns nx = true) : Right ns := by
 unfold treeI at h
 simp only [Bool.and_eq_true, decide_eq_true_eq, Bool.not_eq_true', allFrom_iff, nodeI_iff] at h
 obtain ⟨⟨⟨hlen, hnx⟩, hr⟩, hall⟩ := h
 refine ⟨by omega, badAt_asc hl fun i hi => (hall i hi).2.1, ?_, ?_, fun i hi => (hall i hi).1, fun i h0 hi => (hall i hi).2.2.1 (decide_eq_true (by omega)), fun i j hij hj => ?_⟩
 ·have := hr
  unfold badRoot at this
  by_cases h : (rget ns 0 kInode.dflt).1 = 1
  ·exact h
  ·rw [show ine (rget ns 0 kInode.dflt).1 1 = true from bne_iff_ne.2 h] at this
   cases this
 ·have := hr
  unfold badRoot at this
  cases h : (rget ns 0 kInode.dflt).2.2.2.1 with
  | true => rfl
  | false =>
   rw [h] at this
   revert this
   cases ine (rget ns 0 kInode.dflt).1 1 <;> cases ine (rget ns 0 kInode.dflt).2.1 0 <;> cases seq (rget ns 0 kInode.dflt).2.2.1 ⟨#[]⟩ <;> simp [sel, bnot]
 ·have := (hall j hj).2.2.2
  rw [List.any_eq_false] at this
  have h1 := this (ns[i]'(by omega)) (by rw [show (j : Int).toNat = j from rfl]; rw [List.mem_take_iff_getElem]; exact ⟨i, by omega, rfl⟩)
  rw [nth_get (i := i) (by omega)]
  exact Bool.eq_false_iff.2 h1

def upN (ns : List kInode.ty) : Nat → kInode.ty → List ByteArray → List ByteArray
 | 0, _, acc => acc
 | k + 1, x, acc => if x.2.1 = 1 then x.2.2.1 :: acc else upN ns k (nth ns (atI x.2.1 ns 0)) (x.2.2.1 :: acc)

structure Low (ns : List kInode.ty) (x : kInode.ty) (i : Nat) : Prop where
 pos : 0 < i
 lt : i < ns.length
 eq : nth ns (i : Int) = x

theorem Low.at {ns : List kInode.ty} (hr : Right ns) {x i} (h : Low ns x i) : atI x.1 ns 0 = i := by rw [← h.eq]; exact hr.asc.at h.lt
theorem Low.ne {ns : List kInode.ty} (hr : Right ns) {x i} (h : Low ns x i) : ¬ x.1 = 1 := by
 intro h1
 have h2 := h.at hr
 have h3 := hr.asc.at (i := 0) (by have := h.lt; omega)
 have hr0 : (nth ns ((0 : Nat) : Int)).1 = 1 := hr.root
 rw [hr0] at h3
 rw [h1, h3] at h2
 have := h.pos
 omega

theorem up_cases {ns : List kInode.ty} (hr : Right ns) {k : Nat} {x : kInode.ty} (h : reachI ns (k + 1) x = true) :
  x.2.1 = 1 ∨ (¬ x.2.1 = 1 ∧ (nth ns (atI x.2.1 ns 0)).1 = x.2.1 ∧ reachI ns k (nth ns (atI x.2.1 ns 0)) = true ∧ (nth ns (atI x.2.1 ns 0)).2.2.2.1 = true ∧ ∃ j, Low ns (nth ns (atI x.2.1 ns 0)) j) := by
 unfold reachI at h
 split at h
 ·cases h
 ·rename_i hp
  have hy := atI_nth hp
  split at h
  ·cases h
  ·rename_i hd
   split at h
   ·rename_i h1
    left
    rw [← hy]
    exact beq_iff_eq.1 h1
   ·rename_i h1
    right
    have h1 : ¬ x.2.1 = 1 := by
     intro h2
     apply h1
     rw [show (rget ns (atI x.2.1 ns 0) kInode.dflt).1 = x.2.1 from hy, h2]
     rfl
    refine ⟨h1, hy, h, ?_, ?_⟩
    ·revert hd; cases hb : (rget ns (atI x.2.1 ns 0) kInode.dflt).2.2.2.1 <;> simp
    ·rcases atI_cases x.2.1 ns 0 with h3 | ⟨j, hj, h3, h4⟩
     ·omega
     ·have h5 : atI x.2.1 ns 0 = (j : Int) := by omega
      refine ⟨j, ?_, hj, by rw [h5]⟩
      rcases Nat.eq_zero_or_pos j with rfl | h6
      ·rw [h5] at hy
       exact absurd (hy.symm.trans hr.root) h1
      ·exact h6

theorem upN_len (ns : List kInode.ty) : ∀ (k : Nat) (x : kInode.ty) (acc : List ByteArray), (upN ns k x acc).length ≤ acc.length + k
 | 0, _, acc => by simp [upN]
 | k + 1, x, acc => by
  unfold upN
  split
  ·simp
  ·refine Nat.le_trans (upN_len ns k _ _) ?_
   simp; omega

theorem upN_mem {ns : List kInode.ty} (hr : Right ns) : ∀ (k : Nat) (x : kInode.ty) (i : Nat) (acc : List ByteArray), Low ns x i → reachI ns k x = true → (∀ s ∈ acc, nameOk s = true) → ∀ s ∈ upN ns k x acc, nameOk s = true
 | 0, _, _, _, _, h, _ => by cases h
 | k + 1, x, i, acc, hx, h, ha => by
  have hn : nameOk x.2.2.1 = true := by rw [← hx.eq]; exact (hr.node i hx.pos hx.lt).1
  have ha' : ∀ s ∈ x.2.2.1 :: acc, nameOk s = true := by
   intro s hs
   rcases List.mem_cons.1 hs with rfl | hs
   ·exact hn
   ·exact ha s hs
  unfold upN
  rcases up_cases hr h with h1 | ⟨h1, hy, hk, _, j, hj⟩
  ·rw [if_pos h1]; exact ha'
  ·rw [if_neg h1]; exact upN_mem hr k _ j _ hj hk ha'

theorem PathOfI_loop (n : Nat) (ns : List kInode.ty) (nx : Int) (hr : Right ns) (hn : ns.length + 1 ≤ n) : ∀ (k m i : Nat) (x : kInode.ty) (acc : List ByteArray), Low ns x i → reachI ns k x = true → acc.length + k ≤ 1000 → k < m →
  LP L (n + 3) 17 p_impl_PathOf_0 [] m (S_impl_PathOf_0 ns nx x.1 acc) = KP L (n + 3) 17 p_impl_PathOf_0 [] (.exit 0) (S_impl_PathOf_1 (upN ns k x acc))
 | 0, _, _, _, _, _, h, _, _ => by cases h
 | k + 1, 0, _, _, _, _, _, _, hm => by omega
 | k + 1, m + 1, i, x, acc, hx, h, ha, hm => by
  have hl := hr.len
  rw [l_impl_PathOf_0, show ine x.1 1 = true from bne_iff_ne.2 (hx.ne hr), cnd_t, nodeAt_ge ns nx _ (by omega) n hn, bnd_s, hx.at hr, must_of (row_in hx.lt), bnd_s]
  rw [show rget ns (i : Int) kInode.dflt = x from hx.eq, fitsR (by simp; omega), bnd_s]
  unfold upN
  rcases up_cases hr h with h1 | ⟨h1, hy, hk, _, j, hj⟩
  ·rw [if_pos h1, h1]
   obtain ⟨m, rfl⟩ : ∃ m', m = m' + 1 := ⟨m - 1, by omega⟩
   rw [l_impl_PathOf_0, show ine 1 1 = false from rfl, cnd_f]
   rfl
  ·rw [if_neg h1]
   have := PathOfI_loop n ns nx hr hn k m j _ (x.2.2.1 :: acc) hj hk (by simp; omega) (by omega)
   rw [hy] at this
   exact this

def pathN (ns : List kInode.ty) (x : kInode.ty) : ByteArray := pathOfL (upN ns 4 x [])

theorem name_size {s : ByteArray} (h : nameOk s = true) : s.size ≤ 8 ∧ 1 ≤ s.size := by
 unfold nameOk at h
 simp only [Bool.and_eq_true, decide_eq_true_eq] at h
 omega

theorem PathOfI_ge (n : Nat) (ns : List kInode.ty) (nx : Int) (hr : Right ns) (hn : ns.length + 9 ≤ n) (hT : pc L (n + 3) 16 [⟨.row kInode, ns⟩, ⟨ki, nx⟩] (.pair .bool .unit) = some (true, ())) {x : kInode.ty} {i : Nat} (hx : Low ns x i) :
  pc L (n + 4) 17 [⟨.row kInode, ns⟩, ⟨ki, nx⟩, ⟨ki, x.1⟩] (.pair .str .unit) = some (pathN ns x, ()) := by
 have hl := hr.len
 have hk := hr.node i hx.pos hx.lt
 rw [hx.eq] at hk
 have hlen := upN_len ns 4 x []
 refine pc_of ((f_impl_PathOf ns nx x.1 (n + 3)).trans ?_)
 rw [hT, bnd_s]
 simp only [bnot, Bool.not_true, Bool.not_false, cnd_t, sel_f]
 rw [nodeAt_ge ns nx _ (by omega) n (by omega), bnd_s, hx.at hr, show ilt (i : Int) 0 = false from decide_eq_false (by omega), cnd_f]
 rw [PathOfI_loop n ns nx hr (by omega) 4 (n + 3) i x [] hx hk.2 (by simp) (by omega), k_impl_PathOf_1]
 rw [JoinPathI_ge (n + 1) _ (by simp at hlen; omega) fun s hs => by have := name_size (upN_mem hr 4 x i [] hx hk.2 (by simp) s hs); omega]
 rfl

theorem PathOfS_loop (n : Nat) (ns : List kInode.ty) (nx : Int) (hr : Right ns) (hn : ns.length + 9 ≤ n) : ∀ (k m i : Nat) (v : Int) (x : kInode.ty) (acc : List ByteArray), Low ns x i → reachI ns k x = true → acc.length + k ≤ 900 → (∀ s ∈ acc, nameOk s = true) → 0 ≤ v → v + k ≤ 14 → k < m →
  LP L (n + 1000) 11 p_spec_PathOf_0 [] m (S_spec_PathOf_0 ns nx x.1 v acc) = some [⟨.str, pathOfL (upN ns k x acc)⟩]
 | 0, _, _, _, _, _, _, h, _, _, _, _, _ => by cases h
 | k + 1, 0, _, _, _, _, _, _, _, _, _, _, hm => by omega
 | k + 1, m + 1, i, v, x, acc, hx, h, ha, hA, hv0, hv, hm => by
  have hl := hr.len
  have hnm : nameOk x.2.2.1 = true := by rw [← hx.eq]; exact (hr.node i hx.pos hx.lt).1
  have hA' : ∀ s ∈ x.2.2.1 :: acc, nameOk s = true := by
   intro s hs
   rcases List.mem_cons.1 hs with rfl | hs
   ·exact hnm
   ·exact hA s hs
  have hne : ieq x.1 1 = false := beq_eq_false_iff_ne.2 (hx.ne hr)
  rw [l_spec_PathOf_0, show ile v 14 = true from decide_eq_true (by omega), cnd_t, hne, cnd_f, bnd_s, sel_f, cnd_f, l10At_ge ns nx _ (by omega) (n + 999) (by omega), bnd_s, hx.at hr, show ilt (i : Int) 0 = false from decide_eq_false (by omega), cnd_f, must_of (row_in hx.lt)]
  simp only [bnd_s]
  rw [show rget ns (i : Int) kInode.dflt = x from hx.eq, fitsR (by simp; omega), bnd_s, iadd_eq (by omega) (by omega)]
  unfold upN
  rcases up_cases hr h with h1 | ⟨h1, hy, hk, _, j, hj⟩
  ·rw [if_pos h1, h1]
   obtain ⟨m, rfl⟩ : ∃ m', m = m' + 1 := ⟨m - 1, by omega⟩
   have h0 : atI 1 ns 0 = 0 := by
    have := hr.asc.at (i := 0) (by omega)
    rw [show (nth ns ((0 : Nat) : Int)).1 = 1 from hr.root] at this
    exact this
   rw [l_spec_PathOf_0, show ile (v + 1) 14 = true from decide_eq_true (by omega), cnd_t, show ieq 1 1 = true from rfl, cnd_t, l10At_ge ns nx _ (by omega) (n + 999) (by omega), bnd_s, h0, sel_t, show ige 0 0 = true from rfl, cnd_t]
   rw [show rapp [x.2.2.1] acc = x.2.2.1 :: acc from rfl, JoinPathS_ge (n + 999) _ (by simp; omega) (fun s hs => by have := name_size (hA' s hs); omega) (by simp; omega), bnd_s]
   exact k_spec_PathOf_1 _ _
  ·rw [if_neg h1]
   have := PathOfS_loop n ns nx hr hn k m j (v + 1) _ (x.2.2.1 :: acc) hj hk (by simp; omega) hA' (by omega) (by omega) (by omega)
   rw [hy] at this
   exact this

theorem PathOfS_ge (n : Nat) (ns : List kInode.ty) (nx : Int) (hr : Right ns) (hn : ns.length + 9 ≤ n) (hT : pc L (n + 1000) 10 [⟨.row kInode, ns⟩, ⟨ki, nx⟩] (.pair .bool .unit) = some (true, ())) {x : kInode.ty} {i : Nat} (hx : Low ns x i) :
  pc L (n + 1001) 11 [⟨.row kInode, ns⟩, ⟨ki, nx⟩, ⟨ki, x.1⟩] (.pair .str .unit) = some (pathN ns x, ()) := by
 have hk := hr.node i hx.pos hx.lt
 rw [hx.eq] at hk
 refine pc_of ((f_spec_PathOf ns nx x.1 (n + 1000)).trans ?_)
 rw [hT, bnd_s]
 simp only [bnot, Bool.not_true, cnd_f]
 exact PathOfS_loop n ns nx hr hn 4 (n + 1000) i 0 x [] hx hk.2 (by simp) (by simp) (by omega) (by omega) (by omega)
def p_spec_FindPath_0 : List Dir := [.r, .r, .r, .r, .l, .r, .i]
def S_spec_FindPath_0 (a0 : List kInode.ty) (a1 : Int) (v0 : Int) (v1 : Int) (v2 : List ByteArray) : St := ⟨tT 71 [(2, .one (.adr 2 0)), (5, .one (.ref 4101 0)), (7, .one (.d ki v0)), (8, .one (.d ki v1))], [(2, ⟨true, [.tl (.d (.row kInode) a0), .tl (.d ki a1)]⟩), (4101, ⟨false, [.own 1 .str v2 none]⟩)]⟩
def p_spec_FindPath_1 : List Dir := [.r, .r, .r, .r, .l, .r, .i, .i, .r, .l, .i, .r, .l, .r, .i]
def S_spec_FindPath_1 (a0 : List kInode.ty) (a1 : Int) (v0 : Int) (v1 : Int) (v2 : List ByteArray) (v1_0 : Int) (v1_1 : Int) : St := ⟨tT 71 [(2, .one (.adr 2 0)), (5, .one (.ref 4101 0)), (7, .one (.d ki v0)), (8, .one (.d ki v1)), (9, .one (.d ki v1_0)), (10, .one (.d ki v1_1))], [(2, ⟨true, [.tl (.d (.row kInode) a0), .tl (.d ki a1)]⟩), (4101, ⟨false, [.own 1 .str v2 none]⟩)]⟩
def S_spec_FindPath_2 (v0 : Int) : St := ⟨tT 71 [(7, .one (.d ki v0))], []⟩
def S_spec_FindPath_3 (a0 : List kInode.ty) (a1 : Int) (v1 : Int) (v2 : List ByteArray) (v1_0 : Int) : St := ⟨tT 71 [(2, .one (.adr 2 0)), (5, .one (.ref 4101 0)), (8, .one (.d ki v1)), (9, .one (.d ki v1_0))], [(2, ⟨true, [.tl (.d (.row kInode) a0), .tl (.d ki a1)]⟩), (4101, ⟨false, [.own 1 .str v2 none]⟩)]⟩
def S_spec_FindPath_4  : St := ⟨tT 71 [(4, .one (.d ki 0))], []⟩
theorem k_spec_FindPath_3 (n : Nat) (a0 : List kInode.ty) (a1 : Int) (v1 : Int) (v2 : List ByteArray) (v1_0 : Int) (m0 : Nat) : KP L n 13 p_spec_FindPath_1 [m0] (.exit 2) (S_spec_FindPath_3 a0 a1 v1 v2 v1_0) = cnd (ieq v1_0 0) (KP L n 13 p_spec_FindPath_0 [] .ret (S_spec_FindPath_4)) (LP L n 13 p_spec_FindPath_0 [] m0 (S_spec_FindPath_0 a0 a1 v1_0 (iadd .i64 v1 1) v2)) := by kernel_rfl
theorem k_spec_FindPath_2 (n : Nat) (v0 : Int) : KP L n 13 p_spec_FindPath_0 [] (.exit 0) (S_spec_FindPath_2 v0) = some [⟨ki, v0⟩] := by kernel_rfl
theorem l_spec_FindPath_1 (n : Nat) (a0 : List kInode.ty) (a1 : Int) (v0 : Int) (v1 : Int) (v2 : List ByteArray) (m : Nat) (m0 : Nat) (v1_0 : Int) (v1_1 : Int) : LP L n 13 p_spec_FindPath_1 [m0] (m + 1) (S_spec_FindPath_1 a0 a1 v0 v1 v2 v1_0 v1_1) = cnd (ilt v1_1 (rlen a0)) (bnd (must (inB v1_1 (rlen a0))) fun (_ : Unit) => bnd (cnd (ieq (((rget a0 v1_1 kInode.dflt).2).1) v0) (must (inB v1_1 (rlen a0))) (some ())) fun (_ : Unit) => bnd (cnd (ieq (((rget a0 v1_1 kInode.dflt).2).1) v0) (must (inB v1 (rlen v2))) (some ())) fun (_ : Unit) => cnd (sel (sel (ieq (((rget a0 v1_1 kInode.dflt).2).1) v0) (seq ((((rget a0 v1_1 kInode.dflt).2).2).1) (rget v2 v1 ⟨#[]⟩)) false) (ieq v1_0 0) false) (bnd (must (inB v1_1 (rlen a0))) fun (_ : Unit) => LP L n 13 p_spec_FindPath_1 [m0] m (S_spec_FindPath_1 a0 a1 v0 v1 v2 ((rget a0 v1_1 kInode.dflt).1) (iadd .i64 v1_1 1))) (LP L n 13 p_spec_FindPath_1 [m0] m (S_spec_FindPath_1 a0 a1 v0 v1 v2 v1_0 (iadd .i64 v1_1 1)))) (KP L n 13 p_spec_FindPath_1 [m0] (.exit 2) (S_spec_FindPath_3 a0 a1 v1 v2 v1_0)) := by kernel_rfl
theorem l_spec_FindPath_0 (a0 : List kInode.ty) (a1 : Int) (n : Nat) (m : Nat) (v0 : Int) (v1 : Int) (v2 : List ByteArray) : LP L n 13 p_spec_FindPath_0 [] (m + 1) (S_spec_FindPath_0 a0 a1 v0 v1 v2) = cnd (ilt v1 (rlen v2)) (LP L n 13 p_spec_FindPath_1 [m] n (S_spec_FindPath_1 a0 a1 v0 v1 v2 0 0)) (KP L n 13 p_spec_FindPath_0 [] (.exit 0) (S_spec_FindPath_2 v0)) := by kernel_rfl
theorem f_spec_FindPath (a0 : List kInode.ty) (a1 : Int) (a2 : ByteArray) (n : Nat) : pcall L (n + 1) 13 [⟨.row kInode, a0⟩, ⟨ki, a1⟩, ⟨.str, a2⟩] = bnd (pc L n 28 [⟨.str, a2⟩] (.pair (.row .str) (.pair .bool .unit))) fun (q0 : (List ByteArray × (Bool × Unit))) => bnd (cnd (bnot (bnot q0.2.1)) (pc L n 12 [⟨.row kInode, a0⟩, ⟨ki, a1⟩, ⟨ki, 1⟩] (.pair ki .unit)) (some (0, ()))) fun (q1 : (Int × Unit)) => cnd (sel (bnot q0.2.1) true (ilt q1.1 0)) (some [⟨ki, 0⟩]) (LP L n 13 p_spec_FindPath_0 [] n (S_spec_FindPath_0 a0 a1 1 0 q0.1)) := by kernel_rfl
def p_spec_SplitPath_0 : List Dir := [.r, .r, .r, .r, .r, .l, .r, .i]
def S_spec_SplitPath_0 (a0 : ByteArray) (v0 : Int) (v1 : Int) (v2 : List ByteArray) : St := ⟨tT 57 [(0, .one (.d .str a0)), (4, .one (.ref 4100 0)), (5, .one (.d ki v0)), (6, .one (.d ki v1))], [(4100, ⟨false, [.own 1 .str v2 none]⟩)]⟩
def S_spec_SplitPath_1  : St := ⟨tT 57 [(2, .one (.ref 4098 0)), (3, .one (.d .bool false))], [(4098, ⟨false, [.own 1 .str (([] : List ByteArray)) none]⟩)]⟩
def S_spec_SplitPath_2 (v2 : List ByteArray) : St := ⟨tT 57 [(4, .one (.ref 4100 0))], [(4100, ⟨false, [.own 1 .str v2 none]⟩)]⟩
theorem k_spec_SplitPath_2 (n : Nat) (v2 : List ByteArray) : KP L n 28 p_spec_SplitPath_0 [] (.exit 0) (S_spec_SplitPath_2 v2) = cnd (igt (rlen v2) 4) (some [⟨.row .str, ([] : List ByteArray)⟩, ⟨.bool, false⟩]) (some [⟨.row .str, v2⟩, ⟨.bool, true⟩]) := by kernel_rfl
theorem l_spec_SplitPath_0 (a0 : ByteArray) (n : Nat) (m : Nat) (v0 : Int) (v1 : Int) (v2 : List ByteArray) : LP L n 28 p_spec_SplitPath_0 [] (m + 1) (S_spec_SplitPath_0 a0 v0 v1 v2) = cnd (ile v1 (slen a0)) (bnd (cnd (ilt v1 (slen a0)) (must (inB v1 (slen a0))) (some ())) fun (_ : Unit) => cnd (sel (ilt v1 (slen a0)) (ine (sat a0 v1) 47) false) (LP L n 28 p_spec_SplitPath_0 [] m (S_spec_SplitPath_0 a0 v0 (iadd .i64 v1 1) v2)) (bnd (must (cutB v0 v1 (slen a0))) fun (_ : Unit) => bnd (pc L n 48 [⟨.str, scut a0 v0 v1⟩] (.pair .bool .unit)) fun (q0 : (Bool × Unit)) => cnd (bnot q0.1) (KP L n 28 p_spec_SplitPath_0 [] .ret (S_spec_SplitPath_1)) (bnd (must (cutB v0 v1 (slen a0))) fun (_ : Unit) => bnd (must (ile (iplus (rlen v2) (rlen [scut a0 v0 v1])) 1073741824)) fun (_ : Unit) => LP L n 28 p_spec_SplitPath_0 [] m (S_spec_SplitPath_0 a0 (iadd .i64 v1 1) (iadd .i64 v1 1) (rapp v2 [scut a0 v0 v1]))))) (KP L n 28 p_spec_SplitPath_0 [] (.exit 0) (S_spec_SplitPath_2 v2)) := by kernel_rfl
theorem f_spec_SplitPath (a0 : ByteArray) (n : Nat) : pcall L (n + 1) 28 [⟨.str, a0⟩] = bnd (cnd (bnot (ieq (slen a0) 0)) (must (inB 0 (slen a0))) (some ())) fun (_ : Unit) => cnd (sel (ieq (slen a0) 0) true (ine (sat a0 0) 47)) (some [⟨.row .str, ([] : List ByteArray)⟩, ⟨.bool, false⟩]) (cnd (seq a0 ⟨#[47]⟩) (some [⟨.row .str, ([] : List ByteArray)⟩, ⟨.bool, true⟩]) (LP L n 28 p_spec_SplitPath_0 [] n (S_spec_SplitPath_0 a0 1 1 (([] : List ByteArray))))) := by kernel_rfl
theorem NameOkS_ge (n : Nat) (s : ByteArray) (hl : s.size < 4611686018427387904) (hn : s.size + 1 ≤ n) : pc L (n + 2) 48 [⟨.str, s⟩] (.pair .bool .unit) = some (nameOk s, ()) :=
 pc_of ((f_spec_NameOk s (n + 1)).trans (NameOkS_loop n s hl (n + 1) 0 (Nat.zero_le _) (by omega)))

theorem sat_bs (s : ByteArray) (i : Nat) : sat s (i : Int) = (((bs s).getD i 0).toNat : Int) := by
 unfold sat bs
 simp

theorem name_chars {s : ByteArray} (h : nameOk s = true) : ∀ c ∈ bs s, c ≠ 47 ∧ c ≠ 32 := by
 intro c hc
 unfold nameOk at h
 simp only [Bool.and_eq_true, Bool.not_eq_true', List.any_eq_false] at h
 have h1 := h.1.1 (c.toNat : Int) (List.mem_map.2 ⟨c, hc, rfl⟩)
 constructor
 ·rintro rfl; exact h1 rfl
 ·rintro rfl; exact h1 rfl

theorem chars_loop (n : Nat) (p x : ByteArray) (out : List ByteArray) (pre post : List UInt8) (hp : bs p = pre ++ (bs x ++ post)) (hx : ∀ c ∈ bs x, c ≠ 47) (hl : p.size < 100000) : ∀ (d m i : Nat), i + d = pre.length + x.size → pre.length ≤ i →
  LP L n 28 p_spec_SplitPath_0 [] (m + d) (S_spec_SplitPath_0 p pre.length i out) = LP L n 28 p_spec_SplitPath_0 [] m (S_spec_SplitPath_0 p pre.length (pre.length + x.size : Nat) out)
 | 0, m, i, hi, _ => by rw [show i = pre.length + x.size by omega]; rfl
 | d + 1, m, i, hi, h0 => by
  have hlen : p.size = pre.length + (x.size + post.length) := by rw [← bs_len, hp, List.length_append, List.length_append]; rfl
  rw [show m + (d + 1) = (m + d) + 1 by omega, l_spec_SplitPath_0]
  have hc : (bs p).getD i 0 ∈ bs x := by
   rw [hp, List.getD_eq_getElem?_getD, List.getElem?_append_right h0, List.getElem?_append_left (by show i - pre.length < x.size; omega), List.getElem?_eq_getElem (by show i - pre.length < x.size; omega)]
   exact List.getElem_mem _
  have hne : ine (sat p (i : Int)) 47 = true := by
   rw [sat_bs]
   refine bne_iff_ne.2 fun h => hx _ hc ?_
   have h47 : ((bs p).getD i 0).toNat = 47 := by exact_mod_cast h
   exact UInt8.toNat_inj.1 (h47.trans rfl)
  rw [show ile (i : Int) (slen p) = true from decide_eq_true (by unfold slen; omega), cnd_t, show ilt (i : Int) (slen p) = true from decide_eq_true (by unfold slen; omega), cnd_t, must_of (str_in (by omega)), bnd_s, sel_t, hne, cnd_t, iadd_eq (by omega) (by omega)]
  exact chars_loop n p x out pre post hp hx hl d m (i + 1) (by omega) (by omega)

theorem seg_loop (n : Nat) (p : ByteArray) (hl : p.size < 100000) (hn : p.size + 3 ≤ n) (xs : List ByteArray) (x : ByteArray) (pre : List UInt8) (out : List ByteArray) (m : Nat) (hp : bs p = pre ++ (bs x ++ joinL xs)) (hx : nameOk x = true) (ho : out.length + xs.length < 1000) :
  LP L (n + 2) 28 p_spec_SplitPath_0 [] ((m + 1) + x.size) (S_spec_SplitPath_0 p pre.length pre.length out) = LP L (n + 2) 28 p_spec_SplitPath_0 [] m (S_spec_SplitPath_0 p (pre.length + x.size + 1 : Nat) (pre.length + x.size + 1 : Nat) (rapp out [x])) := by
  have hlen : p.size = pre.length + (x.size + (joinL xs).length) := by rw [← bs_len, hp, List.length_append, List.length_append]; rfl
  rw [chars_loop (n + 2) p x out pre (joinL xs) hp (fun c hc => (name_chars hx c hc).1) hl x.size (m + 1) pre.length rfl (Nat.le_refl _), l_spec_SplitPath_0]
  rw [show ile ((pre.length + x.size : Nat) : Int) (slen p) = true from decide_eq_true (by unfold slen; omega), cnd_t]
  have hm1 : (cnd (ilt ((pre.length + x.size : Nat) : Int) (slen p)) (must (inB ((pre.length + x.size : Nat) : Int) (slen p))) (some ())) = some () := by
   cases hb : ilt ((pre.length + x.size : Nat) : Int) (slen p) with
   | false => rfl
   | true => rw [cnd_t, must_of (str_in (by have := of_decide_eq_true hb; unfold slen at this; omega))]
  have hs : sel (ilt ((pre.length + x.size : Nat) : Int) (slen p)) (ine (sat p ((pre.length + x.size : Nat) : Int)) 47) false = false := by
   cases xs with
   | nil =>
    rw [show ilt ((pre.length + x.size : Nat) : Int) (slen p) = false from decide_eq_false (by simp [joinL] at hlen; unfold slen; omega)]
    rfl
   | cons y ys =>
    have hc : (bs p).getD (pre.length + x.size) 0 = 47 := by
     rw [hp, List.getD_eq_getElem?_getD, List.getElem?_append_right (by omega), List.getElem?_append_right (by show x.size ≤ _; omega)]
     rw [show pre.length + x.size - pre.length - (bs x).length = 0 by rw [bs_len]; omega]
     rfl
    rw [sat_bs, hc]
    have h47 : ine (((47 : UInt8).toNat : Nat) : Int) 47 = false := by decide
    rw [h47]
    cases ilt ((pre.length + x.size : Nat) : Int) (slen p) <;> rfl
  have hcut : scut p (pre.length : Int) ((pre.length + x.size : Nat) : Int) = x := by
   refine bs_inj ?_
   unfold scut
   show (p.extract pre.length (pre.length + x.size)).data.toList = _
   rw [Go.Lib.extract_data]
   show ((bs p).drop pre.length).take (pre.length + x.size - pre.length) = _
   rw [hp, List.drop_left, show pre.length + x.size - pre.length = (bs x).length by rw [bs_len]; omega, List.take_left]
  have hcb : cutB (pre.length : Int) ((pre.length + x.size : Nat) : Int) (slen p) = true := by
   unfold cutB slen
   simp only [Bool.and_eq_true, decide_eq_true_eq]
   omega
  have hxz := name_size hx
  rw [hm1, bnd_s, hs, cnd_f, must_of hcb, bnd_s, hcut, NameOkS_ge n x (by omega) (by omega), bnd_s, hx]
  rw [show bnot ((true, ()) : Bool × Unit).1 = false from rfl, cnd_f, bnd_s]
  rw [fitsR (by rw [List.length_singleton]; omega), bnd_s, iadd_eq (by omega) (by omega)]
  rw [show ((pre.length + x.size : Nat) : Int) + 1 = ((pre.length + x.size + 1 : Nat) : Int) by omega]

theorem split_loop (n : Nat) (p : ByteArray) (hl : p.size < 100000) (hn : p.size + 3 ≤ n) (xs : List ByteArray) : ∀ (x : ByteArray) (pre : List UInt8) (out : List ByteArray) (m : Nat), bs p = pre ++ (bs x ++ joinL xs) → nameOk x = true → (∀ y ∈ xs, nameOk y = true) → out.length + xs.length < 1000 → p.size - pre.length + 2 ≤ m →
  LP L (n + 2) 28 p_spec_SplitPath_0 [] m (S_spec_SplitPath_0 p pre.length pre.length out) = KP L (n + 2) 28 p_spec_SplitPath_0 [] (.exit 0) (S_spec_SplitPath_2 (out ++ x :: xs)) := by
 induction xs with
 | nil =>
  intro x pre out m hp hx _ ho hm
  have hlen : p.size = pre.length + x.size := by rw [← bs_len, hp]; simp only [joinL, List.append_nil, List.length_append]; rfl
  obtain ⟨m, rfl⟩ : ∃ m', m = ((m' + 1) + 1) + x.size := ⟨m - x.size - 2, by omega⟩
  rw [seg_loop n p hl hn [] x pre out (m + 1) hp hx ho, l_spec_SplitPath_0, show ile ((pre.length + x.size + 1 : Nat) : Int) (slen p) = false from decide_eq_false (by unfold slen; omega), cnd_f]
  rfl
 | cons y ys ih =>
  intro x pre out m hp hx hxs ho hm
  have h1 : (joinL (y :: ys)).length = 1 + y.size + (joinL ys).length := by simp only [joinL, List.length_append, List.length_cons]; rw [bs_len]; omega
  have hlen : p.size = pre.length + (x.size + (joinL (y :: ys)).length) := by rw [← bs_len, hp, List.length_append, List.length_append]; rfl
  have hpre : (pre ++ (bs x ++ [47])).length = pre.length + x.size + 1 := by simp only [List.length_append, List.length_cons, List.length_nil]; rw [bs_len]; omega
  obtain ⟨m, rfl⟩ : ∃ m', m = (m' + 1) + x.size := ⟨m - x.size - 1, by omega⟩
  have := ih y (pre ++ (bs x ++ [47])) (rapp out [x]) m (by rw [hp, joinL]; simp) (hxs y (List.mem_cons_self ..)) (fun z hz => hxs z (List.mem_cons_of_mem _ hz)) (by simp [rapp]; simp at ho; omega) (by rw [hpre]; omega)
  rw [hpre] at this
  rw [seg_loop n p hl hn (y :: ys) x pre out m hp hx ho, this]
  simp [rapp]

theorem SplitPath_ge (n : Nat) (xs : List ByteArray) (h0 : xs ≠ []) (h4 : xs.length ≤ 4) (hx : ∀ x ∈ xs, nameOk x = true) (hl : (joinL xs).length < 100000) (hn : (joinL xs).length + 3 ≤ n) :
  pc L (n + 3) 28 [⟨.str, pathOfL xs⟩] (.pair (.row .str) (.pair .bool .unit)) = some (xs, true, ()) := by
 refine pc_of ((f_spec_SplitPath (pathOfL xs) (n + 2)).trans ?_)
 obtain ⟨x, xs, rfl⟩ : ∃ y ys, xs = y :: ys := by cases xs with | nil => exact absurd rfl h0 | cons y ys => exact ⟨y, ys, rfl⟩
 have hb : bs (pathOfL (x :: xs)) = [47] ++ (bs x ++ joinL xs) := by unfold pathOfL; rw [if_neg h0]; rfl
 have hz : (pathOfL (x :: xs)).size = (joinL (x :: xs)).length := by rw [← bs_len, hb]; rfl
 have hxz := name_size (hx x (List.mem_cons_self ..))
 have hj : (joinL (x :: xs)).length = 1 + x.size + (joinL xs).length := by simp only [joinL, List.length_append, List.length_cons]; rw [bs_len]; omega
 rw [show ieq (slen (pathOfL (x :: xs))) 0 = false from beq_eq_false_iff_ne.2 (by unfold slen; omega)]
 simp only [bnot, Bool.not_false, cnd_t, sel_f]
 rw [must_of (show inB 0 (slen (pathOfL (x :: xs))) = true from str_in (i := 0) (by omega)), bnd_s, show sat (pathOfL (x :: xs)) 0 = 47 from by
  have := sat_bs (pathOfL (x :: xs)) 0
  rw [hb] at this
  exact this]
 rw [show ine 47 47 = false from rfl, cnd_f, show seq (pathOfL (x :: xs)) ⟨#[47]⟩ = false from by
  unfold seq
  rw [beq_eq_false_iff_ne]
  intro h
  have h := congrArg List.length h
  rw [ByteArray.toList_eq, ByteArray.toList_eq] at h
  have h1 : (bs (pathOfL (x :: xs))).length = 1 := h
  rw [hb] at h1
  simp only [List.length_append, List.length_cons, List.length_nil, bs_len] at h1
  omega, cnd_f]
 have := split_loop n (pathOfL (x :: xs)) (by omega) (by omega) xs x [47] [] (n + 2) hb (hx x (List.mem_cons_self ..)) (fun y hy => hx y (List.mem_cons_of_mem _ hy)) (by simp at h4 ⊢; omega) (by simp; omega)
 refine Eq.trans this ?_
 rw [k_spec_SplitPath_2, List.nil_append, show igt (rlen (x :: xs)) 4 = false from decide_eq_false (by unfold rlen; omega), cnd_f]
 rfl
theorem seq_refl (s : ByteArray) : seq s s = true := by unfold seq; exact beq_self_eq_true _

theorem id_pos {ns : List kInode.ty} (hr : Right ns) {x : kInode.ty} {i : Nat} (hx : Low ns x i) : @LT.lt Int _ 1 x.1 := by
 have h := hr.asc.lt (i - 1) 0 (by have := hx.pos; have := hx.lt; omega)
 have hp := hx.pos
 rw [show (0 + (i - 1) + 1 : Nat) = i by omega, hx.eq] at h
 rw [show (nth ns ((0 : Nat) : Int)).1 = 1 from hr.root] at h
 exact h

theorem find_after (n : Nat) (ns : List kInode.ty) (nx : Int) (hl : ns.length < 1000) (v0 : Int) (p : Nat) (F : List ByteArray) (m0 : Nat) (hp : p < F.length) (w : Int) (hw : ¬ w = 0) : ∀ (m k : Nat), k ≤ ns.length → ns.length - k < m →
  LP L n 13 p_spec_FindPath_1 [m0] m (S_spec_FindPath_1 ns nx v0 p F w k) = KP L n 13 p_spec_FindPath_1 [m0] (.exit 2) (S_spec_FindPath_3 ns nx p F w)
 | 0, k, _, hm => by omega
 | m + 1, k, hk, hm => by
  rw [l_spec_FindPath_1]
  by_cases h : k < ns.length
  ·have hs : ∀ b, sel b (ieq w 0) false = false := fun b => by
    rw [show ieq w 0 = false from beq_eq_false_iff_ne.2 hw]; cases b <;> rfl
   rw [row_lt h, cnd_t, must_of (row_in h), bnd_s, cnd_same, bnd_s, must_of (row_in hp), cnd_same, bnd_s, hs, cnd_f, iadd_eq (by omega) (by omega)]
   exact find_after n ns nx hl v0 p F m0 hp w hw m (k + 1) (by omega) (by omega)
  ·obtain rfl : k = ns.length := by omega
   rw [row_end, cnd_f]

theorem find_before (n : Nat) (ns : List kInode.ty) (nx : Int) (hr : Right ns) {x : kInode.ty} {i : Nat} (hx : Low ns x i) (p : Nat) (F : List ByteArray) (m0 : Nat) (hp : p < F.length) (hF : F[p] = x.2.2.1) : ∀ (m k : Nat), k ≤ i → ns.length - k < m →
  LP L n 13 p_spec_FindPath_1 [m0] m (S_spec_FindPath_1 ns nx x.2.1 p F 0 k) = KP L n 13 p_spec_FindPath_1 [m0] (.exit 2) (S_spec_FindPath_3 ns nx p F x.1)
 | 0, k, _, hm => by omega
 | m + 1, k, hk, hm => by
  have hl := hr.len
  have hxl := hx.lt
  have h : k < ns.length := by omega
  rw [l_spec_FindPath_1, row_lt h, cnd_t, must_of (row_in h), bnd_s, cnd_same, bnd_s, must_of (row_in hp), cnd_same, bnd_s, row_get hp, hF]
  rw [show sel (ieq (rget ns (k : Int) kInode.dflt).2.1 x.2.1) (seq (rget ns (k : Int) kInode.dflt).2.2.1 x.2.2.1) false = twinB x (nth ns (k : Int)) from rfl]
  rcases Nat.lt_or_ge k i with hki | hki
  ·rw [show twinB x (nth ns (k : Int)) = false by rw [← hx.eq]; exact hr.one k i hki hx.lt, sel_f, cnd_f, iadd_eq (by omega) (by omega)]
   exact find_before n ns nx hr hx p F m0 hp hF m (k + 1) (by omega) (by omega)
  ·obtain rfl : k = i := by omega
   have ht : twinB x (nth ns (k : Int)) = true := by
    rw [hx.eq]
    unfold twinB
    rw [show ieq x.2.1 x.2.1 = true from beq_self_eq_true _, sel_t, seq_refl]
   rw [ht, sel_t, show ieq 0 0 = true from rfl, cnd_t, bnd_s, iadd_eq (by omega) (by omega), show (rget ns (k : Int) kInode.dflt).1 = x.1 by rw [show rget ns (k : Int) kInode.dflt = x from hx.eq]]
   exact find_after n ns nx (by omega) x.2.1 p F m0 hp x.1 (by have := id_pos hr hx; omega) m (k + 1) (by omega) (by omega)

theorem find_step (n : Nat) (ns : List kInode.ty) (nx : Int) (hr : Right ns) (hn : ns.length < n) {x : kInode.ty} {i : Nat} (hx : Low ns x i) (p : Nat) (F : List ByteArray) (hp : p < F.length) (hF : F[p] = x.2.2.1) (hFl : F.length < 1000) (m : Nat) :
  LP L n 13 p_spec_FindPath_0 [] (m + 1) (S_spec_FindPath_0 ns nx x.2.1 p F) = LP L n 13 p_spec_FindPath_0 [] m (S_spec_FindPath_0 ns nx x.1 (p + 1 : Nat) F) := by
 rw [l_spec_FindPath_0, row_lt hp, cnd_t]
 have := find_before n ns nx hr hx p F m hp hF n 0 (Nat.zero_le _) (by omega)
 refine Eq.trans this ?_
 rw [k_spec_FindPath_3, show ieq x.1 0 = false from beq_eq_false_iff_ne.2 (by have := id_pos hr hx; omega), cnd_f, iadd_eq (by omega) (by omega)]
 rfl

theorem find_loop (n : Nat) (ns : List kInode.ty) (nx : Int) (hr : Right ns) (hn : ns.length < n) (F : List ByteArray) (hFl : F.length < 1000) : ∀ (k : Nat) (x : kInode.ty) (i : Nat) (acc : List ByteArray) (m : Nat), Low ns x i → reachI ns k x = true → F = upN ns k x acc →
  ∃ d, F.length = d + acc.length ∧ F.drop d = acc ∧ LP L n 13 p_spec_FindPath_0 [] (m + d) (S_spec_FindPath_0 ns nx 1 0 F) = LP L n 13 p_spec_FindPath_0 [] m (S_spec_FindPath_0 ns nx x.1 d F)
 | 0, _, _, _, _, _, h, _ => by cases h
 | k + 1, x, i, acc, m, hx, h, hF => by
  unfold upN at hF
  rcases up_cases hr h with h1 | ⟨h1, hy, hk, _, j, hj⟩
  ·rw [if_pos h1] at hF
   subst hF
   refine ⟨1, by simp; omega, rfl, ?_⟩
   have := find_step n ns nx hr hn hx 0 (x.2.2.1 :: acc) (by simp) rfl hFl m
   rw [h1] at this
   exact this
  ·rw [if_neg h1] at hF
   obtain ⟨d, hd, hdr, hL⟩ := find_loop n ns nx hr hn F hFl k _ j (x.2.2.1 :: acc) (m + 1) hj hk hF
   have hdl : d < F.length := by rw [hd]; simp
   refine ⟨d + 1, by rw [hd]; simp; omega, ?_, ?_⟩
   ·rw [List.drop_eq_getElem_cons hdl] at hdr
    exact (List.cons.inj hdr).2
   ·rw [show m + (d + 1) = m + 1 + d by omega, hL, hy]
    refine find_step n ns nx hr hn hx d F hdl ?_ hFl m
    rw [List.drop_eq_getElem_cons hdl] at hdr
    exact (List.cons.inj hdr).1

theorem upN_ne {ns : List kInode.ty} : ∀ (k : Nat) (x : kInode.ty) (acc : List ByteArray), acc ≠ [] → upN ns k x acc ≠ []
 | 0, _, acc, h => h
 | k + 1, x, acc, _ => by
  unfold upN
  split
  ·simp
  ·exact upN_ne k _ _ (by simp)
theorem upN_ne4 (ns : List kInode.ty) (x : kInode.ty) : upN ns 4 x [] ≠ [] := by
 unfold upN
 split
 ·simp
 ·exact upN_ne 3 _ _ (by simp)

theorem joinL_len8 : ∀ (xs : List ByteArray), (∀ x ∈ xs, nameOk x = true) → (joinL xs).length ≤ 9 * xs.length
 | [], _ => by simp [joinL]
 | x :: xs, h => by
  have h1 := joinL_len8 xs fun y hy => h y (List.mem_cons_of_mem _ hy)
  have h2 := name_size (h x (List.mem_cons_self ..))
  have h3 : (bs x).length = x.size := rfl
  simp only [joinL, List.length_append, List.length_cons]
  omega

theorem FindPath_ge (n : Nat) (ns : List kInode.ty) (nx : Int) (hr : Right ns) (hn : 100 ≤ n) {x : kInode.ty} {i : Nat} (hx : Low ns x i) :
  pc L (n + 4) 13 [⟨.row kInode, ns⟩, ⟨ki, nx⟩, ⟨.str, pathN ns x⟩] (.pair ki .unit) = some (x.1, ()) := by
 have hl := hr.len
 have hk := hr.node i hx.pos hx.lt
 rw [hx.eq] at hk
 have hlen := upN_len ns 4 x []
 have hlen : (upN ns 4 x []).length ≤ 4 := by simpa using hlen
 have hmem := upN_mem hr 4 x i [] hx hk.2 (by simp)
 have hj := joinL_len8 _ hmem
 have h0 : atI 1 ns 0 = 0 := by
  have := hr.asc.at (i := 0) (by omega)
  rw [show (nth ns ((0 : Nat) : Int)).1 = 1 from hr.root] at this
  exact this
 refine pc_of ((f_spec_FindPath ns nx (pathN ns x) (n + 3)).trans ?_)
 unfold pathN
 rw [SplitPath_ge n _ (upN_ne4 ns x) hlen hmem (by omega) (by omega), bnd_s]
 rw [show bnot (bnot true) = true from rfl, cnd_t, l10At_ge ns nx _ (by omega) (n + 2) (by omega), bnd_s, h0, show sel (bnot true) true (ilt 0 0) = false from rfl, cnd_f]
 obtain ⟨d, hd, _, hL⟩ := find_loop (n + 3) ns nx hr (by omega) (upN ns 4 x []) (by omega) 4 x i [] (n + 3 - (upN ns 4 x []).length) hx hk.2 rfl
 rw [show n + 3 - (upN ns 4 x []).length + d = n + 3 by simp at hd; omega] at hL
 refine Eq.trans hL ?_
 obtain ⟨m, hm⟩ : ∃ m, n + 3 - (upN ns 4 x []).length = m + 1 := ⟨n + 2 - (upN ns 4 x []).length, by omega⟩
 rw [hm, l_spec_FindPath_0, show (d : Int) = ((upN ns 4 x []).length : Int) by rw [hd]; simp, row_end, cnd_f]
 exact k_spec_FindPath_2 _ _
theorem wrap8_eq {n : Int} (h0 : 0 ≤ n) (h1 : n < 256) : IntKind.u8.wrap n = n := by
 rw [IntKind.wrap_u8]
 omega

theorem Figure_ev (n k : Nat) (hk : k < 10) : pc L (n + 1) 29 [⟨ki, (k : Int)⟩] (.pair ku8 .unit) = some (((48 + k : Nat) : Int), ()) := by
 refine pc_of ((f_spec_l01Figure n k).trans ?_)
 rw [show ilt (k : Int) 10 = true from decide_eq_true (by omega), cnd_t, iadd_eq (by omega) (by omega)]
 unfold iwrap
 rw [wrap8_eq (by omega) (by omega)]
 rfl

def decB (k : Nat) : ByteArray := ⟨(Go.Lib.decDigits k).toArray⟩

theorem digit_cat (k : Nat) (s : ByteArray) : bs (scat (sof [((48 + k : Nat) : Int)]) s) = UInt8.ofNat (48 + k) :: bs s := by
 rw [bs_cat]
 rfl

theorem dec_loop (n : Nat) (a : Int) (ha : 0 ≤ a) : ∀ (k m : Nat) (s : ByteArray), 0 < k → k < 1000000 → k < m → s.size + k < 3000000 →
  ∃ r : ByteArray, bs r = Go.Lib.decDigits k ++ bs s ∧ LP L (n + 1) 14 p_spec_Decimal_0 [] m (S_spec_Decimal_0 a k s) = some [⟨.str, r⟩]
 | k, 0, _, _, _, hm, _ => by omega
 | k, m + 1, s, h0, hk, hm, hs => by
  have h1 : irem (k : Int) 10 = ((k % 10 : Nat) : Int) := by unfold irem; rw [Int.tmod_eq_emod_of_nonneg (by omega)]; omega
  have h2 : iquo .i64 (k : Int) 10 = ((k / 10 : Nat) : Int) := by unfold iquo; rw [Int.tdiv_eq_ediv_of_nonneg (by omega), wrap64_eq (by omega) (by omega)]; omega
  have hz : (sof [((48 + k % 10 : Nat) : Int)]).size = 1 := rfl
  rw [l_spec_Decimal_0, show ine (k : Int) 0 = true from bne_iff_ne.2 (by omega), cnd_t, h1, show ilt ((k % 10 : Nat) : Int) 0 = false from decide_eq_false (by omega), cnd_f, Figure_ev n (k % 10) (by omega), bnd_s, fits (by rw [hz]; omega), bnd_s, h2]
  by_cases hk9 : k < 10
  ·rw [show k / 10 = 0 by omega]
   obtain ⟨m, rfl⟩ : ∃ m', m = m' + 1 := ⟨m - 1, by omega⟩
   refine ⟨scat (sof [((48 + k % 10 : Nat) : Int)]) s, ?_, ?_⟩
   ·rw [digit_cat, Go.Lib.decDigits, dif_pos hk9, show k % 10 = k by omega]; rfl
   ·rw [l_spec_Decimal_0, show ine ((0 : Nat) : Int) 0 = false from rfl, cnd_f, k_spec_Decimal_1, show ilt a 0 = false from decide_eq_false (by omega), cnd_f]
  ·obtain ⟨r, hr, hL⟩ := dec_loop n a ha (k / 10) m (scat (sof [((48 + k % 10 : Nat) : Int)]) s) (by omega) (by omega) (by omega) (by rw [size_cat, hz]; omega)
   refine ⟨r, ?_, hL⟩
   rw [hr, digit_cat]
   rw [Go.Lib.decDigits.eq_def k, dif_neg hk9, List.append_assoc]
   rfl

theorem DecimalS_ge (n k : Nat) (hk : k < 1000000) (hn : k < n) : pc L (n + 2) 14 [⟨ki, (k : Int)⟩] (.pair .str .unit) = some (decB k, ()) := by
 refine pc_of ((f_spec_Decimal k (n + 1)).trans ?_)
 by_cases h0 : k = 0
 ·subst h0
  rw [show ieq ((0 : Nat) : Int) 0 = true from rfl, cnd_t]
  unfold decB
  rw [Go.Lib.decDigits, dif_pos (by omega)]
  rfl
 ·rw [show ieq (k : Int) 0 = false from beq_eq_false_iff_ne.2 (by omega), cnd_f]
  obtain ⟨r, hr, hL⟩ := dec_loop n k (by omega) k (n + 1) ⟨#[]⟩ (by omega) hk (by omega) (by show 0 + k < 3000000; omega)
  rw [hL]
  have : r = decB k := bs_inj (by rw [hr]; show _ ++ [] = _; rw [List.append_nil]; rfl)
  rw [this]
  rfl

theorem DecimalI_ge (n k : Nat) (hk : k < 1000000) : pc L (n + 2) 18 [⟨ki, (k : Int)⟩] (.pair .str .unit) = some (decB k, ()) := by
 refine pc_of ((f_impl_Decimal k (n + 1)).trans ?_)
 have hj : pc L (n + 1) 39 [⟨ki, (k : Int)⟩] (.pair .str .unit) = some (decB k, ()) := by
  refine pc_of ?_
  show itoaX k = _
  unfold itoaX
  rw [if_pos ⟨by omega, by omega⟩]
  unfold Go.Lib.itoa
  rw [if_neg (by omega)]
  rfl
 rw [hj, bnd_s]
 rfl

theorem nDigits_le (k : Nat) (hk : k < 1000000) : (decB k).size ≤ 7 := by
 have h : (decB k).size = (Go.Lib.decDigits k).length := List.size_toArray
 rw [h]
 have : ∀ (d k : Nat), k < 10 ^ d → (Go.Lib.decDigits k).length ≤ d + 1 := by
  intro d
  induction d with
  | zero => intro k hk; rw [Go.Lib.decDigits, dif_pos (by omega)]; simp
  | succ d ih =>
   intro k hk
   rw [Go.Lib.decDigits]
   split
   ·simp
   ·have := ih (k / 10) (by rw [Nat.pow_succ] at hk; omega)
    simp
    omega
 exact this 6 k (by omega)
theorem idx_no : ∀ l : List UInt8, (∀ c ∈ l, c ≠ 32) → Go.Lib.index l [32] = -1
 | [], _ => rfl
 | c :: l, h => by
  have h1 := idx_no l fun d hd => h d (List.mem_cons_of_mem _ hd)
  have h2 : c ≠ 32 := h c (List.mem_cons_self ..)
  have h3 : ([32] : List UInt8).isPrefixOf (c :: l) = false := by simp [List.isPrefixOf]; exact fun h => h2 h.symm
  unfold Go.Lib.index
  rw [h3, h1]
  rfl

theorem idx_at : ∀ (l r : List UInt8), (∀ c ∈ l, c ≠ 32) → Go.Lib.index (l ++ 32 :: r) [32] = l.length
 | [], r, _ => by
  show Go.Lib.index (32 :: r) [32] = 0
  unfold Go.Lib.index
  simp [List.isPrefixOf]
 | c :: l, r, h => by
  have h1 := idx_at l r fun d hd => h d (List.mem_cons_of_mem _ hd)
  have h2 : c ≠ 32 := h c (List.mem_cons_self ..)
  have h3 : ([32] : List UInt8).isPrefixOf (c :: (l ++ 32 :: r)) = false := by simp [List.isPrefixOf]; exact fun h => h2 h.symm
  show Go.Lib.index (c :: (l ++ 32 :: r)) [32] = _
  unfold Go.Lib.index
  rw [h3, h1]
  have h4 : ((l.length : Int) == -1) = false := beq_eq_false_iff_ne.2 (by omega)
  rw [h4]
  simp

theorem joinL_no32 : ∀ xs : List ByteArray, (∀ x ∈ xs, nameOk x = true) → ∀ c ∈ joinL xs, c ≠ 32
 | [], _, c, hc => by cases hc
 | x :: xs, h, c, hc => by
  rw [joinL, List.cons_append] at hc
  rcases List.mem_cons.1 hc with rfl | hc
  ·decide
  ·rcases List.mem_append.1 hc with hc | hc
   ·exact (name_chars (h x (List.mem_cons_self ..)) c hc).2
   ·exact joinL_no32 xs (fun y hy => h y (List.mem_cons_of_mem _ hy)) c hc

theorem joinL_last : ∀ xs : List ByteArray, xs ≠ [] → (∀ x ∈ xs, nameOk x = true) → ∃ c, (joinL xs).getLast? = some c ∧ c ≠ 47
 | [], h, _ => absurd rfl h
 | [x], _, h => by
  have hx := h x (List.mem_cons_self ..)
  have hz := name_size hx
  have hne : bs x ≠ [] := fun h0 => by
   have h1 : (bs x).length = 0 := by rw [h0]; rfl
   rw [bs_len] at h1
   omega
  refine ⟨(bs x).getLast hne, ?_, (name_chars hx _ (List.getLast_mem hne)).1⟩
  rw [joinL, joinL, List.append_nil, List.getLast?_cons]
  rw [List.getLast?_eq_some_getLast hne]
  rfl
 | x :: y :: ys, _, h => by
  obtain ⟨c, hc, h47⟩ := joinL_last (y :: ys) (by simp) fun z hz => h z (List.mem_cons_of_mem _ hz)
  refine ⟨c, ?_, h47⟩
  rw [joinL, List.getLast?_append, hc]
  rfl

def lineI (ns : List kInode.ty) (x : kInode.ty) : ByteArray :=
 if x.2.2.2.1 = true then scat (pathN ns x) ⟨#[47]⟩ else scat (pathN ns x) (scat ⟨#[32]⟩ (decB x.2.2.2.2.2.2.1.toNat))

theorem bs_path (ns : List kInode.ty) (x : kInode.ty) : bs (pathN ns x) = joinL (upN ns 4 x []) := by
 unfold pathN pathOfL
 rw [if_neg (upN_ne4 ns x)]

theorem key_line {ns : List kInode.ty} (hr : Right ns) {x : kInode.ty} {i : Nat} (hx : Low ns x i) : pathKey (lineI ns x) = bs (pathN ns x) := by
 have hk := hr.node i hx.pos hx.lt
 rw [hx.eq] at hk
 have hmem := upN_mem hr 4 x i [] hx hk.2 (by simp)
 have h32 := joinL_no32 _ hmem
 obtain ⟨c, hc, h47⟩ := joinL_last _ (upN_ne4 ns x) hmem
 rw [← bs_path] at h32 hc
 unfold pathKey lineI
 by_cases hd : x.2.2.2.1 = true
 ·rw [if_pos hd]
  have hb : (scat (pathN ns x) ⟨#[47]⟩).data.toList = bs (pathN ns x) ++ [47] := bs_cat _ _
  have hi : Go.Lib.index (bs (pathN ns x) ++ [47]) [32] = -1 := idx_no _ fun d hd => by
   rcases List.mem_append.1 hd with hd | hd
   ·exact h32 d hd
   ·rw [List.mem_singleton.1 hd]; decide
  rw [hb]
  unfold Go.Lib.cut
  rw [hi]
  simp
 ·rw [if_neg hd]
  have hb : (scat (pathN ns x) (scat ⟨#[32]⟩ (decB x.2.2.2.2.2.2.1.toNat))).data.toList = bs (pathN ns x) ++ 32 :: bs (decB x.2.2.2.2.2.2.1.toNat) := by
   show bs _ = _
   rw [bs_cat, bs_cat]; rfl
  have hi := idx_at (bs (pathN ns x)) (bs (decB x.2.2.2.2.2.2.1.toNat)) h32
  rw [hb]
  unfold Go.Lib.cut
  rw [hi]
  simp only [show (0 : Int) ≤ ((bs (pathN ns x)).length : Int) from Int.natCast_nonneg _, if_true, Int.toNat_natCast, List.take_left]
  rw [hc, if_neg (by simpa using h47)]

theorem cb_lt : ∀ a b : List UInt8, decide (Go.Lib.compareBytes a b < 0) = Go.Sort.ltStr a b
 | [], [] => by simp [Go.Lib.compareBytes, Go.Sort.ltStr]
 | [], _ :: _ => by simp [Go.Lib.compareBytes, Go.Sort.ltStr]
 | _ :: _, [] => by simp [Go.Lib.compareBytes, Go.Sort.ltStr]
 | a :: x, b :: y => by
  have ih := cb_lt x y
  unfold Go.Sort.ltStr at ih ⊢
  unfold Go.Lib.compareBytes
  simp only [List.cons_lt_cons_iff]
  by_cases h1 : a < b
  ·simp [h1]
  ·by_cases h2 : b < a
   ·have h3 : a ≠ b := fun h => h1 (h ▸ h2)
    simp [h1, h2, h3]
   ·have h3 : a = b := UInt8.le_antisymm (UInt8.not_lt.1 h2) (UInt8.not_lt.1 h1)
    subst h3
    simp only [h1, if_false, false_or, true_and]
    exact ih

theorem ltOf_key (a b : Short) : ltOf cmpS a b = Go.Sort.ltStr (pathKey a.1) (pathKey b.1) := cb_lt _ _

theorem swo_line : Go.Sort.SWO (ltOf cmpS) where
 irrefl x := by rw [ltOf_key]; exact Go.Sort.swo_ltStr.irrefl _
 trans x y z h1 h2 := by rw [ltOf_key] at *; exact Go.Sort.swo_ltStr.trans _ _ _ h1 h2
 ntrans x y z h1 h2 := by rw [ltOf_key] at *; exact Go.Sort.swo_ltStr.ntrans _ _ _ h1 h2

theorem sorted_one {α : Type} (lt : α → α → Bool) (hirr : ∀ x, lt x x = false) : ∀ (A B : List α), A.Perm B → A.Pairwise (fun a b => lt b a = false) → B.Pairwise (fun a b => lt a b = true) → A = B
 | [], B, h, _, _ => (List.nil_perm.1 h).symm
 | a :: A, [], h, _, _ => absurd h.symm (by simp)
 | a :: A, b :: B, h, hA, hB => by
  have hA' := List.pairwise_cons.1 hA
  have hB' := List.pairwise_cons.1 hB
  have hab : a = b := by
   have h1 : a ∈ b :: B := h.subset (List.mem_cons_self ..)
   have h2 : b ∈ a :: A := h.symm.subset (List.mem_cons_self ..)
   rcases List.mem_cons.1 h1 with h1 | h1
   ·exact h1
   ·rcases List.mem_cons.1 h2 with h2 | h2
    ·exact h2.symm
    ·have h3 := hA'.1 b h2
     have h4 := hB'.1 a h1
     rw [h3] at h4
     cases h4
  subst hab
  rw [sorted_one lt hirr A B h.cons_inv hA'.2 hB'.2]

theorem toShort_val {x : ByteArray} (h : x.size < 4294967281) : (toShort x).1 = x := by
 have h1 : toShort x = ⟨x, h⟩ := dif_pos h
 rw [h1]
theorem map_toShort : ∀ X : List ByteArray, (∀ x ∈ X, x.size < 4294967281) → (X.map toShort).map (·.1) = X
 | [], _ => rfl
 | x :: X, h => by
  rw [List.map_cons, List.map_cons, toShort_val (h x (List.mem_cons_self ..)), map_toShort X fun y hy => h y (List.mem_cons_of_mem _ hy)]

theorem sortX_one (X Y : List ByteArray) (hz : ∀ x ∈ X, x.size < 4294967281) (hl : X.length < 1000000) (hp : Y.Perm X) (hs : Y.Pairwise (fun a b => Go.Sort.ltStr (pathKey a) (pathKey b) = true)) : sortX X = some Y := by
 unfold sortX
 rw [if_pos ⟨hz, by omega⟩]
 have hm := map_toShort X hz
 have hml : (X.map toShort).length = X.length := List.length_map _
 generalize X.map toShort = Z at *
 have h := Go.Sort.pdq_sorts (ltOf cmpS) swo_line Z.toArray 0 X.length (Go.Lib.bitLen X.length) true true (Nat.zero_le _) (by simp; omega) (Or.inl rfl)
 obtain ⟨⟨hsz, _, hperm⟩, hso⟩ := h
 generalize hQ : Go.Sort.pdq (ltOf cmpS) Z.toArray 0 X.length (Go.Lib.bitLen X.length) true true = Q at *
 have hsz : Q.size = X.length := by rw [hsz, ← hml]; simp
 have hq : Q.toList.Perm Z := by
  have e1 : (Q.extract 0 X.length).toList = Q.toList := by rw [← hsz]; simp
  have e2 : (Z.toArray.extract 0 X.length).toList = Z := by rw [← hml]; simp
  rw [e1, e2] at hperm
  exact hperm
 have hq' : (Q.toList.map (·.1)).Perm X := by
  have h := hq.map (fun s : Short => s.1)
  have hm' : Z.map (fun s : Short => s.1) = X := hm
  rw [hm'] at h
  exact h
 congr 1
 refine sorted_one (fun a b => Go.Sort.ltStr (pathKey a) (pathKey b)) (fun x => Go.Sort.swo_ltStr.irrefl _) _ _ (hq'.trans hp.symm) ?_ hs
 rw [List.pairwise_map, List.pairwise_iff_getElem]
 intro i j hi hj hij
 have hi' : i < Q.size := by simpa using hi
 have hj' : j < Q.size := by simpa using hj
 have := hso i j (Nat.zero_le _) hij (by omega)
 rw [ltOf_key] at this
 rw [getElem!_pos Q i hi', getElem!_pos Q j hj'] at this
 simpa using this
theorem psum_nonneg (s : Int) : ∀ ps : List kPiece.ty, ps.all (pieceOk s) = true → 0 ≤ psum ps
 | [], _ => Int.le_refl 0
 | p :: ps, h => by
  rw [List.all_cons, Bool.and_eq_true] at h
  have h1 := psum_nonneg s ps h.2
  have h2 := h.1
  unfold pieceOk at h2
  simp only [Bool.and_eq_true, decide_eq_true_eq] at h2
  have h3 : @LE.le Int _ 1 p.2.1 := h2.2.1
  unfold psum
  omega

theorem len_ok {ns : List kInode.ty} (hr : Right ns) {x : kInode.ty} {i : Nat} (hx : Low ns x i) (hd : x.2.2.2.1 = false) : ∃ k : Nat, x.2.2.2.2.2.2.1 = (k : Int) ∧ k ≤ 1000 := by
 have h := hr.ok i hx.lt
 rw [hx.eq] at h
 unfold okNode at h
 rw [if_neg (by rw [hd]; decide)] at h
 unfold fileOk at h
 simp only [Bool.and_eq_true, decide_eq_true_eq] at h
 have h1 := psum_nonneg _ _ h.2.1
 have h2 : @Eq Int x.2.2.2.2.2.2.1 (psum x.2.2.2.2.2.2.2.1) := h.2.2.1
 have h3 := h.2.2.2
 exact ⟨(psum x.2.2.2.2.2.2.2.1).toNat, h2.trans (Int.toNat_of_nonneg h1).symm, by omega⟩

theorem T_low {ns : List kInode.ty} {i : Nat} (hi : i < (ns.drop 1).length) : Low ns ((ns.drop 1)[i]) (i + 1) := by
 have hi' : i + 1 < ns.length := by rw [List.length_drop] at hi; omega
 refine ⟨by omega, hi', ?_⟩
 rw [nth_get hi', List.getElem_drop]
 congr 1
 omega

theorem path_size {ns : List kInode.ty} (hr : Right ns) {x : kInode.ty} {i : Nat} (hx : Low ns x i) : (pathN ns x).size ≤ 36 := by
 have hk := hr.node i hx.pos hx.lt
 rw [hx.eq] at hk
 have hmem := upN_mem hr 4 x i [] hx hk.2 (by simp)
 have h1 := joinL_len8 _ hmem
 have h2 := upN_len ns 4 x []
 have h2 : (upN ns 4 x []).length ≤ 4 := by simpa using h2
 rw [← bs_len, bs_path]
 omega

theorem line_size {ns : List kInode.ty} (hr : Right ns) {x : kInode.ty} {i : Nat} (hx : Low ns x i) : (lineI ns x).size ≤ 44 := by
 have h := path_size hr hx
 unfold lineI
 split
 ·rw [size_cat]; show _ + 1 ≤ 44; omega
 ·rename_i hd
  obtain ⟨k, hk, hk1⟩ := len_ok hr hx (by simpa using hd)
  have h2 := nDigits_le k (by omega)
  rw [size_cat, size_cat, hk]
  show _ + (1 + (decB k).size) ≤ 44
  omega

theorem rcut_T (ns : List kInode.ty) : rcut ns 1 (rlen ns) = ns.drop 1 := by
 unfold rcut rlen
 rw [List.take_of_length_le (by rw [List.length_drop]; omega)]
 rfl

theorem ShowI_lines (n : Nat) (ns : List kInode.ty) (nx : Int) (hr : Right ns) (hn : 100 ≤ n) (hT : pc L (n + 3) 16 [⟨.row kInode, ns⟩, ⟨ki, nx⟩] (.pair .bool .unit) = some (true, ())) : ∀ (m i : Nat) (acc : List ByteArray), i ≤ (ns.drop 1).length → (ns.drop 1).length - i < m → acc.length ≤ i →
  LP L (n + 4) 7 p_impl_ShowTree_0 [] m (S_impl_ShowTree_0 ns nx i acc) = KP L (n + 4) 7 p_impl_ShowTree_0 [] (.exit 0) (S_impl_ShowTree_1 (acc ++ ((ns.drop 1).drop i).map (lineI ns)))
 | 0, i, _, _, hm, _ => by omega
 | m + 1, i, acc, hi, hm, ha => by
  have hl := hr.len
  have hTl : (ns.drop 1).length ≤ 13 := by rw [List.length_drop]; omega
  rw [l_impl_ShowTree_0, rcut_T]
  by_cases h : i < (ns.drop 1).length
  ·have hx := T_low h
   have hd : (ns.drop 1).drop i = (ns.drop 1)[i] :: (ns.drop 1).drop (i + 1) := List.drop_eq_getElem_cons h
   have hp := path_size hr hx
   rw [row_lt h, cnd_t, must_of (row_in h), bnd_s, row_get h, PathOfI_ge n ns nx hr (by omega) hT hx, bnd_s, hd, List.map_cons]
   have hl1 : (ByteArray.mk #[47]).size = 1 := rfl
   have hl2 : (ByteArray.mk #[32]).size = 1 := rfl
   cases hb : ((ns.drop 1)[i]).2.2.2.1 with
   | true =>
    rw [cnd_t, fits (by rw [hl1]; show (pathN ns _).size + 1 ≤ _; omega), bnd_s, fitsR (by rw [List.length_singleton]; omega), bnd_s, iadd_eq (by omega) (by omega)]
    have := ShowI_lines n ns nx hr hn hT m (i + 1) (rapp acc [scat (pathN ns (ns.drop 1)[i]) ⟨#[47]⟩]) (by omega) (by omega) (by unfold rapp; rw [List.length_append, List.length_singleton]; omega)
    refine Eq.trans this ?_
    have hli : lineI ns (ns.drop 1)[i] = scat (pathN ns (ns.drop 1)[i]) ⟨#[47]⟩ := by unfold lineI; rw [if_pos hb]
    rw [hli]
    unfold rapp
    rw [List.append_assoc, List.singleton_append]
   | false =>
    obtain ⟨k, hk, hk1⟩ := len_ok hr hx hb
    have hds := nDigits_le k (by omega)
    rw [cnd_f, hk, DecimalI_ge (n + 2) k (by omega), bnd_s, fits (by rw [hl2]; show 1 + (decB k).size ≤ _; omega), bnd_s, fits (by rw [size_cat, hl2]; show (pathN ns _).size + (1 + (decB k).size) ≤ _; omega), bnd_s, fitsR (by rw [List.length_singleton]; omega), bnd_s, iadd_eq (by omega) (by omega)]
    have := ShowI_lines n ns nx hr hn hT m (i + 1) (rapp acc [scat (pathN ns (ns.drop 1)[i]) (scat ⟨#[32]⟩ (decB k))]) (by omega) (by omega) (by unfold rapp; rw [List.length_append, List.length_singleton]; omega)
    refine Eq.trans this ?_
    have hli : lineI ns (ns.drop 1)[i] = scat (pathN ns (ns.drop 1)[i]) (scat ⟨#[32]⟩ (decB k)) := by unfold lineI; rw [if_neg (by rw [hb]; decide), hk]; rfl
    rw [hli]
    unfold rapp
    rw [List.append_assoc, List.singleton_append]
  ·have hie : i = (ns.drop 1).length := by omega
   rw [hie, row_end, cnd_f, List.drop_length, List.map_nil, List.append_nil]

def catF : List ByteArray → ByteArray → ByteArray
 | [], s => s
 | l :: ls, s => catF ls (scat s (scat l ⟨#[10]⟩))

theorem ShowI_cat (n : Nat) (Y : List ByteArray) (hl : Y.length < 1000) (hY : ∀ y ∈ Y, y.size ≤ 44) : ∀ (m i : Nat) (s : ByteArray), i ≤ Y.length → Y.length - i < m → s.size ≤ 45 * i →
  LP L n 7 p_impl_ShowTree_1 [] m (S_impl_ShowTree_2 (rlen Y) Y s i) = some [⟨.str, catF (Y.drop i) s⟩]
 | 0, i, _, _, hm, _ => by omega
 | m + 1, i, s, hi, hm, hs => by
  rw [l_impl_ShowTree_2]
  by_cases h : i < Y.length
  ·have hd : Y.drop i = Y[i] :: Y.drop (i + 1) := List.drop_eq_getElem_cons h
   have hz := hY _ (List.getElem_mem h)
   have hl1 : (ByteArray.mk #[10]).size = 1 := rfl
   rw [row_lt h, cnd_t, must_of (row_in h), bnd_s, row_get h, fits (by rw [hl1]; omega), bnd_s, fits (by rw [size_cat, hl1]; omega), bnd_s, iadd_eq (by omega) (by omega), hd]
   exact ShowI_cat n Y hl hY m (i + 1) _ (by omega) (by omega) (by rw [size_cat, size_cat, hl1]; omega)
  ·obtain rfl : i = Y.length := by omega
   rw [row_end, cnd_f, List.drop_length]
   exact k_impl_ShowTree_3 n s

theorem ShowI_ge (n : Nat) (ns : List kInode.ty) (nx : Int) (hr : Right ns) (hn : 100 ≤ n) (hT : pc L (n + 3) 16 [⟨.row kInode, ns⟩, ⟨ki, nx⟩] (.pair .bool .unit) = some (true, ())) (hT' : pc L (n + 4) 16 [⟨.row kInode, ns⟩, ⟨ki, nx⟩] (.pair .bool .unit) = some (true, ()))
  (Y : List ByteArray) (hp : Y.Perm ((ns.drop 1).map (lineI ns))) (hs : Y.Pairwise (fun a b => Go.Sort.ltStr (pathKey a) (pathKey b) = true)) :
  pc L (n + 5) 7 [⟨.row kInode, ns⟩, ⟨ki, nx⟩] (.pair .str .unit) = some (catF Y ⟨#[]⟩, ()) := by
 have hl := hr.len
 refine pc_of ((f_impl_ShowTree ns nx (n + 4)).trans ?_)
 have hsz : ∀ x ∈ (ns.drop 1).map (lineI ns), x.size ≤ 44 := by
  intro x hx
  obtain ⟨y, hy, rfl⟩ := List.mem_map.1 hx
  obtain ⟨i, hi, rfl⟩ := List.mem_iff_getElem.1 hy
  exact line_size hr (T_low hi)
 have hlen : ((ns.drop 1).map (lineI ns)).length ≤ 13 := by rw [List.length_map, List.length_drop]; omega
 rw [hT', bnd_s, show bnot ((true, ()) : Bool × Unit).1 = false from rfl, cnd_f, must_of (by unfold cutB rlen; simp only [Bool.and_eq_true, decide_eq_true_eq]; omega), bnd_s]
 have hL := ShowI_lines n ns nx hr hn hT (n + 4) 0 [] (Nat.zero_le _) (by rw [List.length_drop]; omega) (by simp)
 refine Eq.trans hL ?_
 rw [List.drop_zero, List.nil_append, k_impl_ShowTree_1]
 have hx : sortI 19 [⟨.clo 20 .unit, ()⟩] .str ((ns.drop 1).map (lineI ns)) = some Y :=
  sortX_one _ _ (fun x hx => by have := hsz x hx; omega) (by omega) hp hs
 rw [hx, bnd_s]
 have hY : Y.length ≤ 13 := by rw [hp.length_eq]; exact hlen
 exact ShowI_cat (n + 4) Y (by omega) (fun y hy => hsz y (hp.subset hy)) (n + 4) 0 ⟨#[]⟩ (Nat.zero_le _) (by omega) (by show 0 ≤ _; omega)
def p_spec_ShowTree_0 : List Dir := [.r, .r, .r, .l, .r, .i]
def S_spec_ShowTree_0 (a0 : List kInode.ty) (a1 : Int) (v0 : Int) (v1 : List ByteArray) : St := ⟨tT 115 [(1, .one (.adr 1 0)), (3, .one (.ref 4099 0)), (4, .one (.d ki v0))], [(1, ⟨true, [.tl (.d (.row kInode) a0), .tl (.d ki a1)]⟩), (4099, ⟨false, [.own 1 .str v1 none]⟩)]⟩
def p_spec_ShowTree_1 : List Dir := [.r, .r, .r, .l, .r, .i, .i, .r, .l, .i, .r, .r, .l, .r, .i]
def S_spec_ShowTree_1 (a0 : List kInode.ty) (a1 : Int) (v0 : Int) (v1 : List ByteArray) (v1_0 : ByteArray) (v1_1 : Int) (v1_2 : List ByteArray) : St := ⟨tT 115 [(1, .one (.adr 1 0)), (3, .one (.ref 4099 0)), (4, .one (.d ki v0)), (5, .one (.d .str v1_0)), (6, .one (.ref 4102 0)), (7, .one (.d ki v1_1))], [(1, ⟨true, [.tl (.d (.row kInode) a0), .tl (.d ki a1)]⟩), (4099, ⟨false, [.own 1 .str v1 none]⟩), (4102, ⟨false, [.own 1 .str v1_2 none]⟩)]⟩
def S_spec_ShowTree_2 (a0 : List kInode.ty) (a1 : Int) (v1 : List ByteArray) : St := ⟨tT 115 [(1, .one (.adr 1 0)), (3, .one (.ref 4099 0))], [(1, ⟨true, [.tl (.d (.row kInode) a0), .tl (.d ki a1)]⟩), (4099, ⟨false, [.own 1 .str v1 none]⟩)]⟩
def S_spec_ShowTree_3 (a0 : List kInode.ty) (a1 : Int) (v0 : Int) (v1 : List ByteArray) (v1_0 : ByteArray) (v1_2 : List ByteArray) : St := ⟨tT 115 [(1, .one (.adr 1 0)), (3, .one (.ref 4099 0)), (4, .one (.d ki v0)), (5, .one (.d .str v1_0)), (6, .one (.ref 4102 0))], [(1, ⟨true, [.tl (.d (.row kInode) a0), .tl (.d ki a1)]⟩), (4099, ⟨false, [.own 1 .str v1 none]⟩), (4102, ⟨false, [.own 1 .str v1_2 none]⟩)]⟩
def p_spec_ShowTree_2 : List Dir := [.r, .r, .r, .r, .r, .l, .r, .i]
def S_spec_ShowTree_4 (a0 : List kInode.ty) (a1 : Int) (v1 : List ByteArray) (v4_0 : ByteArray) (v4_1 : Int) : St := ⟨tT 115 [(1, .one (.adr 1 0)), (3, .one (.ref 4099 0)), (9, .one (.d .str v4_0)), (10, .one (.d ki v4_1))], [(1, ⟨true, [.tl (.d (.row kInode) a0), .tl (.d ki a1)]⟩), (4099, ⟨false, [.own 1 .str v1 none]⟩)]⟩
def p_spec_ShowTree_3 : List Dir := [.r, .r, .r, .l, .r, .i, .i, .r, .l, .i, .r, .r, .r, .r, .l, .r, .i]
def S_spec_ShowTree_5 (a0 : List kInode.ty) (a1 : Int) (v0 : Int) (v1 : List ByteArray) (v1_0 : ByteArray) (v5_0 : Int) (v5_1 : List ByteArray) : St := ⟨tT 115 [(1, .one (.adr 1 0)), (3, .one (.ref 4099 0)), (4, .one (.d ki v0)), (5, .one (.d .str v1_0)), (6, .one (.ref 4102 0)), (8, .one (.d ki v5_0))], [(1, ⟨true, [.tl (.d (.row kInode) a0), .tl (.d ki a1)]⟩), (4099, ⟨false, [.own 1 .str v1 none]⟩), (4102, ⟨false, [.own 1 .str v5_1 none]⟩)]⟩
def S_spec_ShowTree_6 (v4_0 : ByteArray) : St := ⟨tT 115 [(9, .one (.d .str v4_0))], []⟩
def S_spec_ShowTree_7 (a0 : List kInode.ty) (a1 : Int) (v0 : Int) (v5_1 : List ByteArray) : St := ⟨tT 115 [(1, .one (.adr 1 0)), (4, .one (.d ki v0)), (6, .one (.ref 4102 0))], [(1, ⟨true, [.tl (.d (.row kInode) a0), .tl (.d ki a1)]⟩), (4102, ⟨false, [.own 1 .str v5_1 none]⟩)]⟩
theorem k_spec_ShowTree_7 (n : Nat) (a0 : List kInode.ty) (a1 : Int) (v0 : Int) (v5_1 : List ByteArray) (m0 : Nat) : KP L n 5 p_spec_ShowTree_3 [m0] (.exit 4) (S_spec_ShowTree_7 a0 a1 v0 v5_1) = LP L n 5 p_spec_ShowTree_0 [] m0 (S_spec_ShowTree_0 a0 a1 (iadd .i64 v0 1) v5_1) := by kernel_rfl
theorem k_spec_ShowTree_6 (n : Nat) (v4_0 : ByteArray) : KP L n 5 p_spec_ShowTree_2 [] (.exit 6) (S_spec_ShowTree_6 v4_0) = some [⟨.str, v4_0⟩] := by kernel_rfl
theorem l_spec_ShowTree_5 (n : Nat) (a0 : List kInode.ty) (a1 : Int) (v0 : Int) (v1 : List ByteArray) (v1_0 : ByteArray) (m : Nat) (m0 : Nat) (v5_0 : Int) (v5_1 : List ByteArray) : LP L n 5 p_spec_ShowTree_3 [m0] (m + 1) (S_spec_ShowTree_5 a0 a1 v0 v1 v1_0 v5_0 v5_1) = cnd (ilt v5_0 (rlen v1)) (bnd (must (inB v5_0 (rlen v1))) fun (_ : Unit) => cnd (bnot (sle (rget v1 v5_0 ⟨#[]⟩) v1_0)) (bnd (must (inB v5_0 (rlen v1))) fun (_ : Unit) => bnd (must (ile (iplus (rlen v5_1) (rlen [rget v1 v5_0 ⟨#[]⟩])) 1073741824)) fun (_ : Unit) => LP L n 5 p_spec_ShowTree_3 [m0] m (S_spec_ShowTree_5 a0 a1 v0 v1 v1_0 (iadd .i64 v5_0 1) (rapp v5_1 [rget v1 v5_0 ⟨#[]⟩]))) (LP L n 5 p_spec_ShowTree_3 [m0] m (S_spec_ShowTree_5 a0 a1 v0 v1 v1_0 (iadd .i64 v5_0 1) v5_1))) (KP L n 5 p_spec_ShowTree_3 [m0] (.exit 4) (S_spec_ShowTree_7 a0 a1 v0 v5_1)) := by kernel_rfl
theorem l_spec_ShowTree_4 (a0 : List kInode.ty) (a1 : Int) (n : Nat) (v1 : List ByteArray) (m : Nat) (v4_0 : ByteArray) (v4_1 : Int) : LP L n 5 p_spec_ShowTree_2 [] (m + 1) (S_spec_ShowTree_4 a0 a1 v1 v4_0 v4_1) = cnd (ilt v4_1 (rlen v1)) (bnd (must (inB v4_1 (rlen v1))) fun (_ : Unit) => bnd (pc L n 13 [⟨.row kInode, a0⟩, ⟨ki, a1⟩, ⟨.str, rget v1 v4_1 ⟨#[]⟩⟩] (.pair ki .unit)) fun (q0 : (Int × Unit)) => bnd (pc L n 12 [⟨.row kInode, a0⟩, ⟨ki, a1⟩, ⟨ki, q0.1⟩] (.pair ki .unit)) fun (q1 : (Int × Unit)) => bnd (must (inB q1.1 (rlen a0))) fun (_ : Unit) => cnd (((((rget a0 q1.1 kInode.dflt).2).2).2).1) (bnd (must (inB v4_1 (rlen v1))) fun (_ : Unit) => bnd (must (ile (iplus (slen v4_0) (slen (rget v1 v4_1 ⟨#[]⟩))) 9223372036854775807)) fun (_ : Unit) => bnd (must (ile (iplus (slen (scat v4_0 (rget v1 v4_1 ⟨#[]⟩))) (slen (⟨#[47, 10]⟩))) 9223372036854775807)) fun (_ : Unit) => LP L n 5 p_spec_ShowTree_2 [] m (S_spec_ShowTree_4 a0 a1 v1 (scat (scat v4_0 (rget v1 v4_1 ⟨#[]⟩)) (⟨#[47, 10]⟩)) (iadd .i64 v4_1 1))) (bnd (must (inB v4_1 (rlen v1))) fun (_ : Unit) => bnd (must (ile (iplus (slen v4_0) (slen (rget v1 v4_1 ⟨#[]⟩))) 9223372036854775807)) fun (_ : Unit) => bnd (must (ile (iplus (slen (scat v4_0 (rget v1 v4_1 ⟨#[]⟩))) (slen ⟨#[32]⟩)) 9223372036854775807)) fun (_ : Unit) => bnd (pc L n 14 [⟨ki, (((((((rget a0 q1.1 kInode.dflt).2).2).2).2).2).2).1⟩] (.pair .str .unit)) fun (q2 : (ByteArray × Unit)) => bnd (must (ile (iplus (slen (scat (scat v4_0 (rget v1 v4_1 ⟨#[]⟩)) ⟨#[32]⟩)) (slen q2.1)) 9223372036854775807)) fun (_ : Unit) => bnd (must (ile (iplus (slen (scat (scat (scat v4_0 (rget v1 v4_1 ⟨#[]⟩)) ⟨#[32]⟩) q2.1)) (slen ⟨#[10]⟩)) 9223372036854775807)) fun (_ : Unit) => LP L n 5 p_spec_ShowTree_2 [] m (S_spec_ShowTree_4 a0 a1 v1 (scat (scat (scat (scat v4_0 (rget v1 v4_1 ⟨#[]⟩)) ⟨#[32]⟩) q2.1) ⟨#[10]⟩) (iadd .i64 v4_1 1)))) (KP L n 5 p_spec_ShowTree_2 [] (.exit 6) (S_spec_ShowTree_6 v4_0)) := by kernel_rfl
theorem k_spec_ShowTree_3 (a0 : List kInode.ty) (a1 : Int) (n : Nat) (v0 : Int) (v1 : List ByteArray) (v1_0 : ByteArray) (v1_2 : List ByteArray) (m0 : Nat) : KP L n 5 p_spec_ShowTree_1 [m0] (.exit 2) (S_spec_ShowTree_3 a0 a1 v0 v1 v1_0 v1_2) = bnd (must (ile (iplus (rlen v1_2) (rlen [v1_0])) 1073741824)) fun (_ : Unit) => LP L n 5 p_spec_ShowTree_3 [m0] n (S_spec_ShowTree_5 a0 a1 v0 v1 v1_0 0 (rapp v1_2 [v1_0])) := by kernel_rfl
theorem k_spec_ShowTree_2 (a0 : List kInode.ty) (a1 : Int) (n : Nat) (v1 : List ByteArray) : KP L n 5 p_spec_ShowTree_0 [] (.exit 0) (S_spec_ShowTree_2 a0 a1 v1) = LP L n 5 p_spec_ShowTree_2 [] n (S_spec_ShowTree_4 a0 a1 v1 ⟨#[]⟩ 0) := by kernel_rfl
theorem l_spec_ShowTree_1 (n : Nat) (a0 : List kInode.ty) (a1 : Int) (v0 : Int) (v1 : List ByteArray) (m : Nat) (m0 : Nat) (v1_0 : ByteArray) (v1_1 : Int) (v1_2 : List ByteArray) : LP L n 5 p_spec_ShowTree_1 [m0] (m + 1) (S_spec_ShowTree_1 a0 a1 v0 v1 v1_0 v1_1 v1_2) = cnd (ilt v1_1 (rlen v1)) (bnd (must (inB v1_1 (rlen v1))) fun (_ : Unit) => cnd (slt (rget v1 v1_1 ⟨#[]⟩) v1_0) (bnd (must (inB v1_1 (rlen v1))) fun (_ : Unit) => bnd (must (ile (iplus (rlen v1_2) (rlen [rget v1 v1_1 ⟨#[]⟩])) 1073741824)) fun (_ : Unit) => LP L n 5 p_spec_ShowTree_1 [m0] m (S_spec_ShowTree_1 a0 a1 v0 v1 v1_0 (iadd .i64 v1_1 1) (rapp v1_2 [rget v1 v1_1 ⟨#[]⟩]))) (LP L n 5 p_spec_ShowTree_1 [m0] m (S_spec_ShowTree_1 a0 a1 v0 v1 v1_0 (iadd .i64 v1_1 1) v1_2))) (KP L n 5 p_spec_ShowTree_1 [m0] (.exit 2) (S_spec_ShowTree_3 a0 a1 v0 v1 v1_0 v1_2)) := by kernel_rfl
theorem l_spec_ShowTree_0 (a0 : List kInode.ty) (a1 : Int) (n : Nat) (m : Nat) (v0 : Int) (v1 : List ByteArray) : LP L n 5 p_spec_ShowTree_0 [] (m + 1) (S_spec_ShowTree_0 a0 a1 v0 v1) = cnd (ilt v0 (rlen a0)) (bnd (must (inB v0 (rlen a0))) fun (_ : Unit) => bnd (pc L n 11 [⟨.row kInode, a0⟩, ⟨ki, a1⟩, ⟨ki, (rget a0 v0 kInode.dflt).1⟩] (.pair .str .unit)) fun (q0 : (ByteArray × Unit)) => LP L n 5 p_spec_ShowTree_1 [m] n (S_spec_ShowTree_1 a0 a1 v0 v1 q0.1 0 (([] : List ByteArray)))) (KP L n 5 p_spec_ShowTree_0 [] (.exit 0) (S_spec_ShowTree_2 a0 a1 v1)) := by kernel_rfl
theorem f_spec_ShowTree (a0 : List kInode.ty) (a1 : Int) (n : Nat) : pcall L (n + 1) 5 [⟨.row kInode, a0⟩, ⟨ki, a1⟩] = bnd (pc L n 10 [⟨.row kInode, a0⟩, ⟨ki, a1⟩] (.pair .bool .unit)) fun (q0 : (Bool × Unit)) => cnd (bnot q0.1) (some [⟨.str, ⟨#[]⟩⟩]) (LP L n 5 p_spec_ShowTree_0 [] n (S_spec_ShowTree_0 a0 a1 1 (([] : List ByteArray)))) := by kernel_rfl
theorem below_loop (n : Nat) (ns : List kInode.ty) (nx v0 : Int) (P : List ByteArray) (q : ByteArray) (m0 : Nat) (hl : P.length < 1000) : ∀ (m j : Nat) (acc : List ByteArray), j ≤ P.length → P.length - j < m → acc.length ≤ j →
  LP L n 5 p_spec_ShowTree_1 [m0] m (S_spec_ShowTree_1 ns nx v0 P q j acc) = KP L n 5 p_spec_ShowTree_1 [m0] (.exit 2) (S_spec_ShowTree_3 ns nx v0 P q (acc ++ (P.drop j).filter fun r => slt r q))
 | 0, j, _, _, hm, _ => by omega
 | m + 1, j, acc, hj, hm, ha => by
  rw [l_spec_ShowTree_1]
  by_cases h : j < P.length
  ·have hd : P.drop j = P[j] :: P.drop (j + 1) := List.drop_eq_getElem_cons h
   rw [row_lt h, cnd_t, must_of (row_in h), bnd_s, row_get h, hd, List.filter_cons, iadd_eq (by omega) (by omega)]
   cases hb : slt P[j] q with
   | true =>
    rw [cnd_t, bnd_s, fitsR (by rw [List.length_singleton]; omega), bnd_s, if_pos rfl]
    refine (below_loop n ns nx v0 P q m0 hl m (j + 1) (rapp acc [P[j]]) (by omega) (by omega) (by unfold rapp; rw [List.length_append, List.length_singleton]; omega)).trans ?_
    unfold rapp
    rw [List.append_assoc, List.singleton_append]
   | false =>
    rw [cnd_f, if_neg (by decide)]
    exact below_loop n ns nx v0 P q m0 hl m (j + 1) acc (by omega) (by omega) (by omega)
  ·have hje : j = P.length := by omega
   rw [hje, row_end, cnd_f, List.drop_length, List.filter_nil, List.append_nil]

theorem above_loop (n : Nat) (ns : List kInode.ty) (nx v0 : Int) (P : List ByteArray) (q : ByteArray) (m0 : Nat) (hl : P.length < 1000) : ∀ (m j : Nat) (acc : List ByteArray), j ≤ P.length → P.length - j < m → acc.length ≤ 2000 + j →
  LP L n 5 p_spec_ShowTree_3 [m0] m (S_spec_ShowTree_5 ns nx v0 P q j acc) = KP L n 5 p_spec_ShowTree_3 [m0] (.exit 4) (S_spec_ShowTree_7 ns nx v0 (acc ++ (P.drop j).filter fun r => bnot (sle r q)))
 | 0, j, _, _, hm, _ => by omega
 | m + 1, j, acc, hj, hm, ha => by
  rw [l_spec_ShowTree_5]
  by_cases h : j < P.length
  ·have hd : P.drop j = P[j] :: P.drop (j + 1) := List.drop_eq_getElem_cons h
   rw [row_lt h, cnd_t, must_of (row_in h), bnd_s, row_get h, hd, List.filter_cons, iadd_eq (by omega) (by omega)]
   cases hb : bnot (sle P[j] q) with
   | true =>
    rw [cnd_t, bnd_s, fitsR (by rw [List.length_singleton]; omega), bnd_s, if_pos rfl]
    refine (above_loop n ns nx v0 P q m0 hl m (j + 1) (rapp acc [P[j]]) (by omega) (by omega) (by unfold rapp; rw [List.length_append, List.length_singleton]; omega)).trans ?_
    unfold rapp
    rw [List.append_assoc, List.singleton_append]
   | false =>
    rw [cnd_f, if_neg (by decide)]
    exact above_loop n ns nx v0 P q m0 hl m (j + 1) acc (by omega) (by omega) (by omega)
  ·have hje : j = P.length := by omega
   rw [hje, row_end, cnd_f, List.drop_length, List.filter_nil, List.append_nil]

def insX (ns : List kInode.ty) (X : List kInode.ty) (x : kInode.ty) : List kInode.ty :=
 X.filter (fun y => slt (pathN ns y) (pathN ns x)) ++ ([x] ++ X.filter (fun y => bnot (sle (pathN ns y) (pathN ns x))))

theorem ShowS_paths (n : Nat) (ns : List kInode.ty) (nx : Int) (hr : Right ns) (hn : 1000 ≤ n) (hP : ∀ x i, Low ns x i → pc L n 11 [⟨.row kInode, ns⟩, ⟨ki, nx⟩, ⟨ki, x.1⟩] (.pair .str .unit) = some (pathN ns x, ()))
  (hX : ∀ i, ((ns.drop 1).take i |>.foldl (insX ns) []).length ≤ 14) : ∀ (d m i : Nat), i + d = ns.length → 0 < i → d < m →
  LP L n 5 p_spec_ShowTree_0 [] m (S_spec_ShowTree_0 ns nx i ((((ns.drop 1).take (i - 1)).foldl (insX ns) []).map (pathN ns))) = KP L n 5 p_spec_ShowTree_0 [] (.exit 0) (S_spec_ShowTree_2 ns nx (((ns.drop 1).foldl (insX ns) []).map (pathN ns)))
 | d, 0, i, _, _, hm => by omega
 | 0, m + 1, i, hi, h0, hm => by
  have hie : i = ns.length := by omega
  have hl := hr.len
  rw [l_spec_ShowTree_0, hie, row_end, cnd_f, List.take_of_length_le (by rw [List.length_drop]; omega)]
 | d + 1, m + 1, i, hi, h0, hm => by
  have hl := hr.len
  have hil : i < ns.length := by omega
  have hx : Low ns ns[i] i := ⟨h0, hil, nth_get hil⟩
  generalize hXe : ((ns.drop 1).take (i - 1)).foldl (insX ns) [] = X
  have hXl : X.length ≤ 14 := by rw [← hXe]; exact hX (i - 1)
  have hnext : insX ns X ns[i] = ((ns.drop 1).take (i + 1 - 1)).foldl (insX ns) [] := by
   rw [show i + 1 - 1 = i - 1 + 1 by omega, List.take_succ_eq_append_getElem (by rw [List.length_drop]; omega), List.foldl_append, hXe]
   simp only [List.foldl_cons, List.foldl_nil, List.getElem_drop]
   congr 2
   omega
  rw [l_spec_ShowTree_0, row_lt hil, cnd_t, must_of (row_in hil), bnd_s, row_get hil, hP _ i hx, bnd_s]
  have h1 := below_loop n ns nx i (X.map (pathN ns)) (pathN ns ns[i]) m (by rw [List.length_map]; omega) n 0 [] (Nat.zero_le _) (by rw [List.length_map]; omega) (by simp)
  refine Eq.trans h1 ?_
  rw [List.drop_zero, List.nil_append, List.filter_map, k_spec_ShowTree_3]
  have hf1 := List.length_filter_le ((fun r => slt r (pathN ns ns[i])) ∘ pathN ns) X
  rw [fitsR (by rw [List.length_map, List.length_singleton]; omega), bnd_s]
  have h2 := above_loop n ns nx i (X.map (pathN ns)) (pathN ns ns[i]) m (by rw [List.length_map]; omega) n 0 (rapp ((X.filter ((fun r => slt r (pathN ns ns[i])) ∘ pathN ns)).map (pathN ns)) [pathN ns ns[i]]) (Nat.zero_le _) (by rw [List.length_map]; omega) (by unfold rapp; rw [List.length_append, List.length_map, List.length_singleton]; omega)
  refine Eq.trans h2 ?_
  rw [List.drop_zero, List.filter_map, k_spec_ShowTree_7, iadd_eq (by omega) (by omega)]
  have h3 : rapp ((X.filter ((fun r => slt r (pathN ns ns[i])) ∘ pathN ns)).map (pathN ns)) [pathN ns ns[i]] ++ (X.filter ((fun r => bnot (sle r (pathN ns ns[i]))) ∘ pathN ns)).map (pathN ns) = (insX ns X ns[i]).map (pathN ns) := by
   unfold insX rapp
   rw [List.map_append, List.map_append, List.append_assoc]
   rfl
  rw [h3, hnext]
  exact ShowS_paths n ns nx hr hn hP hX d m (i + 1) (by omega) (by omega) (by omega)

theorem ShowS_out (n : Nat) (ns : List kInode.ty) (nx : Int) (hr : Right ns) (hn : 10000 ≤ n) (X : List kInode.ty) (hX : ∀ x ∈ X, ∃ i, Low ns x i) (hl : X.length ≤ 14) : ∀ (m j : Nat) (s : ByteArray), j ≤ X.length → X.length - j < m → s.size ≤ 45 * j →
  LP L n 5 p_spec_ShowTree_2 [] m (S_spec_ShowTree_4 ns nx (X.map (pathN ns)) s j) = some [⟨.str, catF ((X.drop j).map (lineI ns)) s⟩]
 | 0, j, _, _, hm, _ => by omega
 | m + 1, j, s, hj, hm, hs => by
  have hnl := hr.len
  rw [l_spec_ShowTree_4]
  by_cases h : j < X.length
  ·have hm' : j < (X.map (pathN ns)).length := by rw [List.length_map]; exact h
   have hd : X.drop j = X[j] :: X.drop (j + 1) := List.drop_eq_getElem_cons h
   obtain ⟨i, hx⟩ := hX _ (List.getElem_mem h)
   have hF := FindPath_ge (n - 4) ns nx hr (by omega) hx
   rw [show n - 4 + 4 = n by omega] at hF
   have hA := l10At_ge ns nx X[j].1 (by omega) (n - 1) (by omega)
   rw [show n - 1 + 1 = n by omega, hx.at hr] at hA
   have hps := path_size hr hx
   have hls := line_size hr hx
   have e1 : (ByteArray.mk #[47, 10]).size = 2 := rfl
   have e2 : (ByteArray.mk #[32]).size = 1 := rfl
   have e3 : (ByteArray.mk #[10]).size = 1 := rfl
   rw [row_lt hm', cnd_t, must_of (row_in hm'), bnd_s, row_get hm', List.getElem_map, hF, bnd_s, hA, bnd_s, must_of (row_in hx.lt), bnd_s, show rget ns (i : Int) kInode.dflt = X[j] from hx.eq, hd, List.map_cons, iadd_eq (by omega) (by omega)]
   cases hb : X[j].2.2.2.1 with
   | true =>
    rw [cnd_t, bnd_s, fits (by omega), bnd_s, fits (by rw [size_cat, e1]; omega), bnd_s]
    have hli : scat (scat s (pathN ns X[j])) ⟨#[47, 10]⟩ = scat s (scat (lineI ns X[j]) ⟨#[10]⟩) := by
     refine bs_inj ?_
     unfold lineI
     rw [if_pos hb]
     simp only [bs_cat, List.append_assoc]
     rfl
    rw [hli]
    exact ShowS_out n ns nx hr hn X hX hl m (j + 1) _ (by omega) (by omega) (by rw [size_cat, size_cat, e3]; omega)
   | false =>
    obtain ⟨k, hk, hk1⟩ := len_ok hr hx hb
    have hds := nDigits_le k (by omega)
    have hD := DecimalS_ge (n - 2) k (by omega) (by omega)
    rw [show n - 2 + 2 = n by omega] at hD
    rw [cnd_f, bnd_s, fits (by omega), bnd_s, fits (by rw [size_cat, e2]; omega), bnd_s, hk, hD, bnd_s]
    rw [fits (by rw [size_cat, size_cat, e2]; show _ + (decB k).size ≤ _; omega), bnd_s, fits (by rw [size_cat, size_cat, size_cat, e2, e3]; show _ + (decB k).size + 1 ≤ _; omega), bnd_s]
    have hli : scat (scat (scat (scat s (pathN ns X[j])) ⟨#[32]⟩) (decB k)) ⟨#[10]⟩ = scat s (scat (lineI ns X[j]) ⟨#[10]⟩) := by
     refine bs_inj ?_
     unfold lineI
     rw [if_neg (by rw [hb]; decide), hk]
     simp only [bs_cat, List.append_assoc]
     rfl
    show LP L n _ _ _ _ (S_spec_ShowTree_4 ns nx _ (scat (scat (scat (scat s (pathN ns X[j])) ⟨#[32]⟩) (decB k)) ⟨#[10]⟩) _) = _
    rw [hli]
    exact ShowS_out n ns nx hr hn X hX hl m (j + 1) _ (by omega) (by omega) (by rw [size_cat, size_cat, e3]; omega)
  ·obtain rfl : j = X.length := by omega
   rw [show ilt (X.length : Int) (rlen (X.map (pathN ns))) = false from decide_eq_false (by unfold rlen; rw [List.length_map]; omega), cnd_f, List.drop_length]
   exact k_spec_ShowTree_6 n s
theorem slt_eq (a b : ByteArray) : slt a b = Go.Sort.ltStr (bs a) (bs b) := by
 unfold slt Go.Sort.ltStr
 rw [ByteArray.toList_eq, ByteArray.toList_eq, bytesLess_eq]

theorem sgt_eq (a b : ByteArray) : bnot (sle a b) = Go.Sort.ltStr (bs b) (bs a) := by
 unfold sle Go.Sort.ltStr bnot
 rw [ByteArray.toList_eq, ByteArray.toList_eq, bytesLess_eq]
 show (!(decide (bs a < bs b) || (bs a == bs b))) = decide (bs b < bs a)
 by_cases h1 : bs b < bs a
 ·have h2 : ¬ bs a < bs b := fun h => List.lt_irrefl _ (List.lt_trans h h1)
  have h3 : ¬ bs a = bs b := fun h => by rw [h] at h1; exact List.lt_irrefl _ h1
  rw [decide_eq_true h1, decide_eq_false h2, beq_eq_false_iff_ne.2 h3]
  rfl
 ·by_cases h2 : bs a < bs b
  ·simp [h1, h2]
  ·have h3 : bs a = bs b := List.le_antisymm (List.not_lt.1 h1) (List.not_lt.1 h2)
   rw [h3]
   simp [List.lt_irrefl]

abbrev pl (ns : List kInode.ty) (a b : kInode.ty) : Prop := Go.Sort.ltStr (bs (pathN ns a)) (bs (pathN ns b)) = true

theorem insX_ok (ns X : List kInode.ty) (x : kInode.ty) (hs : X.Pairwise (pl ns)) (hd : ∀ y ∈ X, pathN ns y ≠ pathN ns x) : (insX ns X x).Pairwise (pl ns) ∧ (insX ns X x).Perm (x :: X) := by
 unfold insX
 constructor
 ·rw [List.pairwise_append]
  refine ⟨hs.filter _, ?_, ?_⟩
  ·rw [List.singleton_append, List.pairwise_cons]
   refine ⟨fun y hy => ?_, hs.filter _⟩
   have := (List.mem_filter.1 hy).2
   rw [sgt_eq] at this
   exact this
  ·intro a ha b hb
   have h1 := (List.mem_filter.1 ha).2
   rw [slt_eq] at h1
   rcases List.mem_append.1 hb with hb | hb
   ·rw [List.mem_singleton.1 hb]; exact h1
   ·have h2 := (List.mem_filter.1 hb).2
    rw [sgt_eq] at h2
    exact Go.Sort.swo_ltStr.trans _ _ _ h1 h2
 ·have h1 : X.filter (fun y => bnot (sle (pathN ns y) (pathN ns x))) = X.filter (fun y => !slt (pathN ns y) (pathN ns x)) := by
   refine List.filter_congr fun y hy => ?_
   have hne := hd y hy
   rw [sgt_eq, slt_eq]
   unfold Go.Sort.ltStr
   by_cases h1 : bs (pathN ns x) < bs (pathN ns y)
   ·have h2 : ¬ bs (pathN ns y) < bs (pathN ns x) := fun h => List.lt_irrefl _ (List.lt_trans h h1)
    simp [h1, h2]
   ·by_cases h2 : bs (pathN ns y) < bs (pathN ns x)
    ·simp [h1, h2]
    ·exact absurd (bs_inj (List.le_antisymm (List.not_lt.1 h1) (List.not_lt.1 h2))) hne
  rw [h1]
  refine (List.perm_middle (l₁ := X.filter fun y => slt (pathN ns y) (pathN ns x)) (a := x) (l₂ := X.filter fun y => !slt (pathN ns y) (pathN ns x))).trans ?_
  exact (List.filter_append_perm _ X).cons x

theorem foldX (ns : List kInode.ty) : ∀ (T X : List kInode.ty), X.Pairwise (pl ns) → (∀ y ∈ X, ∀ x ∈ T, pathN ns y ≠ pathN ns x) → T.Pairwise (fun a b => pathN ns a ≠ pathN ns b) → (T.foldl (insX ns) X).Pairwise (pl ns) ∧ (T.foldl (insX ns) X).Perm (X ++ T)
 | [], X, h, _, _ => ⟨h, by rw [List.append_nil]; exact List.Perm.refl _⟩
 | x :: T, X, h, hd, hT => by
  have hT' := List.pairwise_cons.1 hT
  obtain ⟨h1, h2⟩ := insX_ok ns X x h fun y hy => hd y hy x (List.mem_cons_self ..)
  obtain ⟨h3, h4⟩ := foldX ns T (insX ns X x) h1 (fun y hy z hz => by
   rcases List.mem_cons.1 (h2.subset hy) with rfl | hy
   ·exact hT'.1 z hz
   ·exact hd y hy z (List.mem_cons_of_mem _ hz)) hT'.2
  exact ⟨h3, h4.trans ((h2.append_right T).trans List.perm_middle.symm)⟩

theorem path_inj {ns : List kInode.ty} (hr : Right ns) {x y : kInode.ty} {i j : Nat} (hx : Low ns x i) (hy : Low ns y j) (h : pathN ns x = pathN ns y) : i = j := by
 have h1 := FindPath_ge 100 ns 0 hr (by omega) hx
 have h2 := FindPath_ge 100 ns 0 hr (by omega) hy
 rw [h, h2] at h1
 have h3 : y.1 = x.1 := (Prod.mk.inj (Option.some.inj h1)).1
 have h4 := hx.at hr
 have h5 := hy.at hr
 rw [h3, h4] at h5
 omega

theorem T_pair {ns : List kInode.ty} (hr : Right ns) : (ns.drop 1).Pairwise (fun a b => pathN ns a ≠ pathN ns b) := by
 rw [List.pairwise_iff_getElem]
 intro i j hi hj hij h
 have := path_inj hr (T_low hi) (T_low hj) h
 omega

def showX (ns : List kInode.ty) : List kInode.ty := (ns.drop 1).foldl (insX ns) []
def showR (ns : List kInode.ty) (nx : Int) : ByteArray := if treeI ns nx = true then catF ((showX ns).map (lineI ns)) ⟨#[]⟩ else ⟨#[]⟩

theorem show_both (ns : List kInode.ty) (nx : Int) (hs : Sized ns) : Evt fun n => pc L n 5 [⟨.row kInode, ns⟩, ⟨ki, nx⟩] (.pair .str .unit) = some (showR ns nx, ()) ∧ pc L n 7 [⟨.row kInode, ns⟩, ⟨ki, nx⟩] (.pair .str .unit) = some (showR ns nx, ()) := by
 obtain ⟨N1, h1⟩ := TreeOkI_ev ns nx hs
 obtain ⟨N2, h2⟩ := TreeOkS_ev ns nx hs
 refine ⟨N1 + N2 + 30000, fun n hn => ?_⟩
 rw [← tree_eq ns nx hs.1] at h2
 unfold showR
 cases hb : treeI ns nx with
 | false =>
  rw [hb] at h1 h2
  obtain ⟨k, rfl⟩ : ∃ k, n = k + 1 := ⟨n - 1, by omega⟩
  constructor
  ·refine pc_of ((f_spec_ShowTree ns nx k).trans ?_)
   rw [h2 k (by omega), bnd_s]
   rfl
  ·refine pc_of ((f_impl_ShowTree ns nx k).trans ?_)
   rw [h1 k (by omega), bnd_s]
   rfl
 | true =>
  rw [hb] at h1 h2
  rw [if_pos rfl]
  have hr := right_of hs.1 hb
  have hl := hr.len
  have hTl : (ns.drop 1).length ≤ 13 := by rw [List.length_drop]; omega
  obtain ⟨hX1, hX2⟩ := foldX ns (ns.drop 1) [] List.Pairwise.nil (by intro y hy; cases hy) (T_pair hr)
  rw [List.nil_append] at hX2
  have hmem : ∀ x ∈ showX ns, ∃ i, Low ns x i := by
   intro x hx
   obtain ⟨i, hi, rfl⟩ := List.mem_iff_getElem.1 (hX2.subset hx)
   exact ⟨i + 1, T_low hi⟩
  constructor
  ·obtain ⟨k, rfl⟩ : ∃ k, n = k + 1 := ⟨n - 1, by omega⟩
   refine pc_of ((f_spec_ShowTree ns nx k).trans ?_)
   rw [h2 k (by omega), bnd_s, show bnot ((true, ()) : Bool × Unit).1 = false from rfl, cnd_f]
   have hP : ∀ x i, Low ns x i → pc L k 11 [⟨.row kInode, ns⟩, ⟨ki, nx⟩, ⟨ki, x.1⟩] (.pair .str .unit) = some (pathN ns x, ()) := by
    intro x i hx
    have := PathOfS_ge (k - 1001) ns nx hr (by omega) (h2 _ (by omega)) hx
    rwa [show k - 1001 + 1001 = k by omega] at this
   have hlen : ∀ i, ((ns.drop 1).take i |>.foldl (insX ns) []).length ≤ 14 := by
    intro i
    have := (foldX ns ((ns.drop 1).take i) [] List.Pairwise.nil (by intro y hy; cases hy) ((T_pair hr).sublist (List.take_sublist _ _))).2.length_eq
    rw [this, List.nil_append]
    rw [List.length_take]
    omega
   have hL := ShowS_paths k ns nx hr (by omega) hP hlen (ns.length - 1) k 1 (by omega) (by omega) (by omega)
   refine Eq.trans hL ?_
   rw [k_spec_ShowTree_2]
   exact ShowS_out k ns nx hr (by omega) (showX ns) hmem (by rw [show (showX ns).length = _ from hX2.length_eq]; omega) k 0 ⟨#[]⟩ (Nat.zero_le _) (by rw [show (showX ns).length = _ from hX2.length_eq]; omega) (by show 0 ≤ _; omega)
  ·obtain ⟨k, rfl⟩ : ∃ k, n = k + 5 := ⟨n - 5, by omega⟩
   refine ShowI_ge k ns nx hr (by omega) (h1 _ (by omega)) (h1 _ (by omega)) _ (hX2.map _) ?_
   rw [List.pairwise_map]
   refine hX1.imp_of_mem fun {a b} ha hb h => ?_
   obtain ⟨i, hi⟩ := hmem a ha
   obtain ⟨j, hj⟩ := hmem b hb
   rw [key_line hr hi, key_line hr hj]
   exact h
theorem f_laws_FnExactShowTree (a0 : List kInode.ty) (a1 : Int) (n : Nat) : pcall L (n + 1) 3 [⟨.row kInode, a0⟩, ⟨ki, a1⟩] = bnd (pc L n 4 [⟨.row kInode, a0⟩, ⟨ki, a1⟩, ⟨ki, 1048576⟩] (.pair ki .unit)) fun (q0 : (Int × Unit)) => cnd (ilt q0.1 0) (some [⟨.bool, true⟩]) (bnd (pc L n 6 [⟨.row kInode, a0⟩, ⟨ki, a1⟩] kTree) fun (q1 : kTree.ty) => bnd (pc L n 5 [⟨.row kInode, q1.1⟩, ⟨ki, q1.2.1⟩] (.pair .str .unit)) fun (q2 : (ByteArray × Unit)) => bnd (pc L n 6 [⟨.row kInode, a0⟩, ⟨ki, a1⟩] kTree) fun (q3 : kTree.ty) => bnd (pc L n 7 [⟨.row kInode, q3.1⟩, ⟨ki, q3.2.1⟩] (.pair .str .unit)) fun (q4 : (ByteArray × Unit)) => cnd (bnot (seq q4.1 q2.1)) (some [⟨.bool, false⟩]) (bnd (pc L n 6 [⟨.row kInode, a0⟩, ⟨ki, a1⟩] kTree) fun (q5 : kTree.ty) => bnd (pc L n 8 [⟨.row kInode, q3.1⟩, ⟨ki, q3.2.1⟩, ⟨.row kInode, q5.1⟩, ⟨ki, q5.2.1⟩] (.pair .bool .unit)) fun (q6 : (Bool × Unit)) => cnd (bnot q6.1) (some [⟨.bool, false⟩]) (some [⟨.bool, true⟩]))) := by kernel_rfl
theorem f_laws_szTree (a0 : List kInode.ty) (a1 : Int) (a2 : Int) (n : Nat) : pcall L (n + 1) 4 [⟨.row kInode, a0⟩, ⟨ki, a1⟩, ⟨ki, a2⟩] = bnd (pc L n 9 [⟨.row kInode, a0⟩, ⟨ki, a2⟩] (.pair ki .unit)) fun (q0 : (Int × Unit)) => cnd (ilt q0.1 0) (some [⟨ki, (-1)⟩]) (some [⟨ki, q0.1⟩]) := by kernel_rfl
theorem f_laws_toTree (a0 : List kInode.ty) (a1 : Int) (n : Nat) : pcall L (n + 1) 6 [⟨.row kInode, a0⟩, ⟨ki, a1⟩] = bnd (pc L n 15 [⟨.row kInode, a0⟩] (.pair (.row kInode) .unit)) fun (q0 : (List kInode.ty × Unit)) => some [⟨.row kInode, q0.1⟩, ⟨ki, a1⟩] := by kernel_rfl
theorem f_laws_eqTree (a0 : List kInode.ty) (a1 : Int) (a2 : List kInode.ty) (a3 : Int) (n : Nat) : pcall L (n + 1) 8 [⟨.row kInode, a0⟩, ⟨ki, a1⟩, ⟨.row kInode, a2⟩, ⟨ki, a3⟩] = bnd (pc L n 23 [⟨.row kInode, a0⟩, ⟨.row kInode, a2⟩] (.pair .bool .unit)) fun (q0 : (Bool × Unit)) => cnd (bnot q0.1) (some [⟨.bool, false⟩]) (cnd (ine a1 a3) (some [⟨.bool, false⟩]) (some [⟨.bool, true⟩])) := by kernel_rfl
def p_laws_szInodeS_0 : List Dir := [.r, .r, .r, .l, .r, .i]
def S_laws_szInodeS_0 (a0 : List kInode.ty) (v0 : Int) (v1 : Int) : St := ⟨tT 27 [(0, .one (.d (.row kInode) a0)), (1, .one (.d ki v0)), (5, .one (.d ki v1))], []⟩
def S_laws_szInodeS_1  : St := ⟨tT 27 [(4, .one (.d ki (-1)))], []⟩
def S_laws_szInodeS_2 (v0 : Int) : St := ⟨tT 27 [(1, .one (.d ki v0))], []⟩
theorem k_laws_szInodeS_2 (n : Nat) (v0 : Int) : KP L n 9 p_laws_szInodeS_0 [] (.exit 0) (S_laws_szInodeS_2 v0) = some [⟨ki, v0⟩] := by kernel_rfl
theorem k_laws_szInodeS_1 (n : Nat) : KP L n 9 p_laws_szInodeS_0 [] .ret (S_laws_szInodeS_1) = some [⟨ki, (-1)⟩] := by kernel_rfl
theorem l_laws_szInodeS_0 (a0 : List kInode.ty) (n : Nat) (m : Nat) (v0 : Int) (v1 : Int) : LP L n 9 p_laws_szInodeS_0 [] (m + 1) (S_laws_szInodeS_0 a0 v0 v1) = cnd (ilt v1 (rlen a0)) (bnd (must (inB v1 (rlen a0))) fun (_ : Unit) => bnd (pc L n 24 [⟨ki, (rget a0 v1 kInode.dflt).1⟩, ⟨ki, ((rget a0 v1 kInode.dflt).2).1⟩, ⟨.str, (((rget a0 v1 kInode.dflt).2).2).1⟩, ⟨.bool, ((((rget a0 v1 kInode.dflt).2).2).2).1⟩, ⟨ki, (((((rget a0 v1 kInode.dflt).2).2).2).2).1⟩, ⟨ki, ((((((rget a0 v1 kInode.dflt).2).2).2).2).2).1⟩, ⟨ki, (((((((rget a0 v1 kInode.dflt).2).2).2).2).2).2).1⟩, ⟨.row kPiece, ((((((((rget a0 v1 kInode.dflt).2).2).2).2).2).2).2).1⟩, ⟨ki, (((((((((rget a0 v1 kInode.dflt).2).2).2).2).2).2).2).2).1⟩, ⟨ki, v0⟩] (.pair ki .unit)) fun (q0 : (Int × Unit)) => cnd (ilt q0.1 0) (KP L n 9 p_laws_szInodeS_0 [] .ret (S_laws_szInodeS_1)) (LP L n 9 p_laws_szInodeS_0 [] m (S_laws_szInodeS_0 a0 q0.1 (iadd .i64 v1 1)))) (KP L n 9 p_laws_szInodeS_0 [] (.exit 0) (S_laws_szInodeS_2 v0)) := by kernel_rfl
theorem f_laws_szInodeS (a0 : List kInode.ty) (a1 : Int) (n : Nat) : pcall L (n + 1) 9 [⟨.row kInode, a0⟩, ⟨ki, a1⟩] = cnd (ilt (isub .i64 a1 (rlen a0)) 0) (some [⟨ki, (-1)⟩]) (LP L n 9 p_laws_szInodeS_0 [] n (S_laws_szInodeS_0 a0 (isub .i64 a1 (rlen a0)) 0)) := by kernel_rfl
def p_laws_toInodeS_0 : List Dir := [.r, .r, .l, .r, .i]
def S_laws_toInodeS_0 (a0 : List kInode.ty) (v0 : Int) (v1 : List kInode.ty) : St := ⟨tT 23 [(0, .one (.d (.row kInode) a0)), (3, .one (.ref 4099 0)), (4, .one (.d ki v0))], [(4099, ⟨false, [.own 1 kInode v1 none]⟩)]⟩
def S_laws_toInodeS_1 (v1 : List kInode.ty) : St := ⟨tT 23 [(3, .one (.ref 4099 0))], [(4099, ⟨false, [.own 1 kInode v1 none]⟩)]⟩
theorem k_laws_toInodeS_1 (n : Nat) (v1 : List kInode.ty) : KP L n 15 p_laws_toInodeS_0 [] (.exit 0) (S_laws_toInodeS_1 v1) = some [⟨.row kInode, v1⟩] := by kernel_rfl
theorem l_laws_toInodeS_0 (a0 : List kInode.ty) (n : Nat) (m : Nat) (v0 : Int) (v1 : List kInode.ty) : LP L n 15 p_laws_toInodeS_0 [] (m + 1) (S_laws_toInodeS_0 a0 v0 v1) = cnd (ilt v0 (rlen a0)) (bnd (must (inB v0 (rlen a0))) fun (_ : Unit) => bnd (pc L n 30 [⟨ki, (rget a0 v0 kInode.dflt).1⟩, ⟨ki, ((rget a0 v0 kInode.dflt).2).1⟩, ⟨.str, (((rget a0 v0 kInode.dflt).2).2).1⟩, ⟨.bool, ((((rget a0 v0 kInode.dflt).2).2).2).1⟩, ⟨ki, (((((rget a0 v0 kInode.dflt).2).2).2).2).1⟩, ⟨ki, ((((((rget a0 v0 kInode.dflt).2).2).2).2).2).1⟩, ⟨ki, (((((((rget a0 v0 kInode.dflt).2).2).2).2).2).2).1⟩, ⟨.row kPiece, ((((((((rget a0 v0 kInode.dflt).2).2).2).2).2).2).2).1⟩, ⟨ki, (((((((((rget a0 v0 kInode.dflt).2).2).2).2).2).2).2).2).1⟩] kInode) fun (q0 : kInode.ty) => bnd (must (inB v0 (rlen v1))) fun (_ : Unit) => LP L n 15 p_laws_toInodeS_0 [] m (S_laws_toInodeS_0 a0 (iadd .i64 v0 1) (rset v1 v0 (q0.1, (q0.2.1, (q0.2.2.1, (q0.2.2.2.1, (q0.2.2.2.2.1, (q0.2.2.2.2.2.1, (q0.2.2.2.2.2.2.1, (q0.2.2.2.2.2.2.2.1, (q0.2.2.2.2.2.2.2.2.1, (((((((((rget v1 v0 kInode.dflt).2).2).2).2).2).2).2).2).2)))))))))))) (KP L n 15 p_laws_toInodeS_0 [] (.exit 0) (S_laws_toInodeS_1 v1)) := by kernel_rfl
theorem f_laws_toInodeS (a0 : List kInode.ty) (n : Nat) : pcall L (n + 1) 15 [⟨.row kInode, a0⟩] = bnd (must (cutB 0 (rlen a0) 1073741824)) fun (_ : Unit) => LP L n 15 p_laws_toInodeS_0 [] n (S_laws_toInodeS_0 a0 0 (rrep (rlen a0) (0, (0, (⟨#[]⟩, (false, (0, (0, (0, (([] : List kPiece.ty), (0, ()))))))))))) := by kernel_rfl
def p_laws_eqInodeS_0 : List Dir := [.r, .r, .l, .r, .i]
def S_laws_eqInodeS_0 (a0 : List kInode.ty) (a1 : List kInode.ty) (v0 : Int) : St := ⟨tT 27 [(0, .one (.d (.row kInode) a0)), (1, .one (.d (.row kInode) a1)), (5, .one (.d ki v0))], []⟩
def S_laws_eqInodeS_1  : St := ⟨tT 27 [(4, .one (.d .bool false))], []⟩
def S_laws_eqInodeS_2  : St := ⟨tT 27 [], []⟩
theorem k_laws_eqInodeS_2 (n : Nat) : KP L n 23 p_laws_eqInodeS_0 [] (.exit 0) (S_laws_eqInodeS_2) = some [⟨.bool, true⟩] := by kernel_rfl
theorem l_laws_eqInodeS_0 (a0 : List kInode.ty) (a1 : List kInode.ty) (n : Nat) (m : Nat) (v0 : Int) : LP L n 23 p_laws_eqInodeS_0 [] (m + 1) (S_laws_eqInodeS_0 a0 a1 v0) = cnd (ilt v0 (rlen a0)) (bnd (must (inB v0 (rlen a0))) fun (_ : Unit) => bnd (must (inB v0 (rlen a1))) fun (_ : Unit) => bnd (pc L n 45 [⟨ki, (rget a0 v0 kInode.dflt).1⟩, ⟨ki, ((rget a0 v0 kInode.dflt).2).1⟩, ⟨.str, (((rget a0 v0 kInode.dflt).2).2).1⟩, ⟨.bool, ((((rget a0 v0 kInode.dflt).2).2).2).1⟩, ⟨ki, (((((rget a0 v0 kInode.dflt).2).2).2).2).1⟩, ⟨ki, ((((((rget a0 v0 kInode.dflt).2).2).2).2).2).1⟩, ⟨ki, (((((((rget a0 v0 kInode.dflt).2).2).2).2).2).2).1⟩, ⟨.row kPiece, ((((((((rget a0 v0 kInode.dflt).2).2).2).2).2).2).2).1⟩, ⟨ki, (((((((((rget a0 v0 kInode.dflt).2).2).2).2).2).2).2).2).1⟩, ⟨ki, (rget a1 v0 kInode.dflt).1⟩, ⟨ki, ((rget a1 v0 kInode.dflt).2).1⟩, ⟨.str, (((rget a1 v0 kInode.dflt).2).2).1⟩, ⟨.bool, ((((rget a1 v0 kInode.dflt).2).2).2).1⟩, ⟨ki, (((((rget a1 v0 kInode.dflt).2).2).2).2).1⟩, ⟨ki, ((((((rget a1 v0 kInode.dflt).2).2).2).2).2).1⟩, ⟨ki, (((((((rget a1 v0 kInode.dflt).2).2).2).2).2).2).1⟩, ⟨.row kPiece, ((((((((rget a1 v0 kInode.dflt).2).2).2).2).2).2).2).1⟩, ⟨ki, (((((((((rget a1 v0 kInode.dflt).2).2).2).2).2).2).2).2).1⟩] (.pair .bool .unit)) fun (q0 : (Bool × Unit)) => cnd (bnot q0.1) (KP L n 23 p_laws_eqInodeS_0 [] .ret (S_laws_eqInodeS_1)) (LP L n 23 p_laws_eqInodeS_0 [] m (S_laws_eqInodeS_0 a0 a1 (iadd .i64 v0 1)))) (KP L n 23 p_laws_eqInodeS_0 [] (.exit 0) (S_laws_eqInodeS_2)) := by kernel_rfl
theorem f_laws_eqInodeS (a0 : List kInode.ty) (a1 : List kInode.ty) (n : Nat) : pcall L (n + 1) 23 [⟨.row kInode, a0⟩, ⟨.row kInode, a1⟩] = cnd (ine (rlen a0) (rlen a1)) (some [⟨.bool, false⟩]) (LP L n 23 p_laws_eqInodeS_0 [] n (S_laws_eqInodeS_0 a0 a1 0)) := by kernel_rfl
theorem f_laws_szInode (a0 : Int) (a1 : Int) (a2 : ByteArray) (a3 : Bool) (a4 : Int) (a5 : Int) (a6 : Int) (a7 : List kPiece.ty) (a8 : Int) (a9 : Int) (n : Nat) : pcall L (n + 1) 24 [⟨ki, a0⟩, ⟨ki, a1⟩, ⟨.str, a2⟩, ⟨.bool, a3⟩, ⟨ki, a4⟩, ⟨ki, a5⟩, ⟨ki, a6⟩, ⟨.row kPiece, a7⟩, ⟨ki, a8⟩, ⟨ki, a9⟩] = cnd (ilt (isub .i64 a9 (slen a2)) 0) (some [⟨ki, (-1)⟩]) (bnd (pc L n 46 [⟨.row kPiece, a7⟩, ⟨ki, isub .i64 a9 (slen a2)⟩] (.pair ki .unit)) fun (q0 : (Int × Unit)) => cnd (ilt q0.1 0) (some [⟨ki, (-1)⟩]) (some [⟨ki, q0.1⟩])) := by kernel_rfl
theorem f_laws_toInode (a0 : Int) (a1 : Int) (a2 : ByteArray) (a3 : Bool) (a4 : Int) (a5 : Int) (a6 : Int) (a7 : List kPiece.ty) (a8 : Int) (n : Nat) : pcall L (n + 1) 30 [⟨ki, a0⟩, ⟨ki, a1⟩, ⟨.str, a2⟩, ⟨.bool, a3⟩, ⟨ki, a4⟩, ⟨ki, a5⟩, ⟨ki, a6⟩, ⟨.row kPiece, a7⟩, ⟨ki, a8⟩] = bnd (pc L n 49 [⟨.row kPiece, a7⟩] (.pair (.row kPiece) .unit)) fun (q0 : (List kPiece.ty × Unit)) => some [⟨ki, a0⟩, ⟨ki, a1⟩, ⟨.str, a2⟩, ⟨.bool, a3⟩, ⟨ki, a4⟩, ⟨ki, a5⟩, ⟨ki, a6⟩, ⟨.row kPiece, q0.1⟩, ⟨ki, a8⟩] := by kernel_rfl
theorem f_laws_eqInode (a0 : Int) (a1 : Int) (a2 : ByteArray) (a3 : Bool) (a4 : Int) (a5 : Int) (a6 : Int) (a7 : List kPiece.ty) (a8 : Int) (a9 : Int) (a10 : Int) (a11 : ByteArray) (a12 : Bool) (a13 : Int) (a14 : Int) (a15 : Int) (a16 : List kPiece.ty) (a17 : Int) (n : Nat) : pcall L (n + 1) 45 [⟨ki, a0⟩, ⟨ki, a1⟩, ⟨.str, a2⟩, ⟨.bool, a3⟩, ⟨ki, a4⟩, ⟨ki, a5⟩, ⟨ki, a6⟩, ⟨.row kPiece, a7⟩, ⟨ki, a8⟩, ⟨ki, a9⟩, ⟨ki, a10⟩, ⟨.str, a11⟩, ⟨.bool, a12⟩, ⟨ki, a13⟩, ⟨ki, a14⟩, ⟨ki, a15⟩, ⟨.row kPiece, a16⟩, ⟨ki, a17⟩] = cnd (ine a0 a9) (some [⟨.bool, false⟩]) (cnd (ine a1 a10) (some [⟨.bool, false⟩]) (cnd (bnot (seq a2 a11)) (some [⟨.bool, false⟩]) (cnd (bnot (beq a3 a12)) (some [⟨.bool, false⟩]) (cnd (ine a4 a13) (some [⟨.bool, false⟩]) (cnd (ine a5 a14) (some [⟨.bool, false⟩]) (cnd (ine a6 a15) (some [⟨.bool, false⟩]) (bnd (pc L n 68 [⟨.row kPiece, a7⟩, ⟨.row kPiece, a16⟩] (.pair .bool .unit)) fun (q0 : (Bool × Unit)) => cnd (bnot q0.1) (some [⟨.bool, false⟩]) (cnd (ine a8 a17) (some [⟨.bool, false⟩]) (some [⟨.bool, true⟩]))))))))) := by kernel_rfl
theorem f_laws_szPieceS (n : Nat) (a0 : List kPiece.ty) (a1 : Int) : pcall L (n + 1) 46 [⟨.row kPiece, a0⟩, ⟨ki, a1⟩] = cnd (ilt (isub .i64 a1 (rlen a0)) 0) (some [⟨ki, (-1)⟩]) (some [⟨ki, isub .i64 a1 (rlen a0)⟩]) := by kernel_rfl
def p_laws_toPieceS_0 : List Dir := [.r, .r, .l, .r, .i]
def S_laws_toPieceS_0 (a0 : List kPiece.ty) (v0 : Int) (v1 : List kPiece.ty) : St := ⟨tT 23 [(0, .one (.d (.row kPiece) a0)), (3, .one (.ref 4099 0)), (4, .one (.d ki v0))], [(4099, ⟨false, [.own 1 kPiece v1 none]⟩)]⟩
def S_laws_toPieceS_1 (v1 : List kPiece.ty) : St := ⟨tT 23 [(3, .one (.ref 4099 0))], [(4099, ⟨false, [.own 1 kPiece v1 none]⟩)]⟩
theorem k_laws_toPieceS_1 (n : Nat) (v1 : List kPiece.ty) : KP L n 49 p_laws_toPieceS_0 [] (.exit 0) (S_laws_toPieceS_1 v1) = some [⟨.row kPiece, v1⟩] := by kernel_rfl
theorem l_laws_toPieceS_0 (a0 : List kPiece.ty) (n : Nat) (m : Nat) (v0 : Int) (v1 : List kPiece.ty) : LP L n 49 p_laws_toPieceS_0 [] (m + 1) (S_laws_toPieceS_0 a0 v0 v1) = cnd (ilt v0 (rlen a0)) (bnd (must (inB v0 (rlen a0))) fun (_ : Unit) => bnd (pc L n 70 [⟨ki, (rget a0 v0 kPiece.dflt).1⟩, ⟨ki, ((rget a0 v0 kPiece.dflt).2).1⟩] kPiece) fun (q0 : kPiece.ty) => bnd (must (inB v0 (rlen v1))) fun (_ : Unit) => LP L n 49 p_laws_toPieceS_0 [] m (S_laws_toPieceS_0 a0 (iadd .i64 v0 1) (rset v1 v0 (q0.1, (q0.2.1, ((rget v1 v0 kPiece.dflt).2).2))))) (KP L n 49 p_laws_toPieceS_0 [] (.exit 0) (S_laws_toPieceS_1 v1)) := by kernel_rfl
theorem f_laws_toPieceS (a0 : List kPiece.ty) (n : Nat) : pcall L (n + 1) 49 [⟨.row kPiece, a0⟩] = bnd (must (cutB 0 (rlen a0) 1073741824)) fun (_ : Unit) => LP L n 49 p_laws_toPieceS_0 [] n (S_laws_toPieceS_0 a0 0 (rrep (rlen a0) (0, (0, ())))) := by kernel_rfl
def p_laws_eqPieceS_0 : List Dir := [.r, .r, .l, .r, .i]
def S_laws_eqPieceS_0 (a0 : List kPiece.ty) (a1 : List kPiece.ty) (v0 : Int) : St := ⟨tT 27 [(0, .one (.d (.row kPiece) a0)), (1, .one (.d (.row kPiece) a1)), (5, .one (.d ki v0))], []⟩
def S_laws_eqPieceS_1  : St := ⟨tT 27 [(4, .one (.d .bool false))], []⟩
def S_laws_eqPieceS_2  : St := ⟨tT 27 [], []⟩
theorem k_laws_eqPieceS_2 (n : Nat) : KP L n 68 p_laws_eqPieceS_0 [] (.exit 0) (S_laws_eqPieceS_2) = some [⟨.bool, true⟩] := by kernel_rfl
theorem l_laws_eqPieceS_0 (a0 : List kPiece.ty) (a1 : List kPiece.ty) (n : Nat) (m : Nat) (v0 : Int) : LP L n 68 p_laws_eqPieceS_0 [] (m + 1) (S_laws_eqPieceS_0 a0 a1 v0) = cnd (ilt v0 (rlen a0)) (bnd (must (inB v0 (rlen a0))) fun (_ : Unit) => bnd (must (inB v0 (rlen a1))) fun (_ : Unit) => bnd (pc L n 83 [⟨ki, (rget a0 v0 kPiece.dflt).1⟩, ⟨ki, ((rget a0 v0 kPiece.dflt).2).1⟩, ⟨ki, (rget a1 v0 kPiece.dflt).1⟩, ⟨ki, ((rget a1 v0 kPiece.dflt).2).1⟩] (.pair .bool .unit)) fun (q0 : (Bool × Unit)) => cnd (bnot q0.1) (KP L n 68 p_laws_eqPieceS_0 [] .ret (S_laws_eqPieceS_1)) (LP L n 68 p_laws_eqPieceS_0 [] m (S_laws_eqPieceS_0 a0 a1 (iadd .i64 v0 1)))) (KP L n 68 p_laws_eqPieceS_0 [] (.exit 0) (S_laws_eqPieceS_2)) := by kernel_rfl
theorem f_laws_eqPieceS (a0 : List kPiece.ty) (a1 : List kPiece.ty) (n : Nat) : pcall L (n + 1) 68 [⟨.row kPiece, a0⟩, ⟨.row kPiece, a1⟩] = cnd (ine (rlen a0) (rlen a1)) (some [⟨.bool, false⟩]) (LP L n 68 p_laws_eqPieceS_0 [] n (S_laws_eqPieceS_0 a0 a1 0)) := by kernel_rfl
theorem f_laws_toPiece (n : Nat) (a0 : Int) (a1 : Int) : pcall L (n + 1) 70 [⟨ki, a0⟩, ⟨ki, a1⟩] = some [⟨ki, a0⟩, ⟨ki, a1⟩] := by kernel_rfl
theorem f_laws_eqPiece (n : Nat) (a0 : Int) (a1 : Int) (a2 : Int) (a3 : Int) : pcall L (n + 1) 83 [⟨ki, a0⟩, ⟨ki, a1⟩, ⟨ki, a2⟩, ⟨ki, a3⟩] = cnd (ine a0 a2) (some [⟨.bool, false⟩]) (cnd (ine a1 a3) (some [⟨.bool, false⟩]) (some [⟨.bool, true⟩])) := by kernel_rfl
theorem rset_take {α : Type} (ns : List α) (z : α) (i : Nat) (h : i < ns.length) : rset (ns.take i ++ List.replicate (ns.length - i) z) (i : Int) ns[i] = ns.take (i + 1) ++ List.replicate (ns.length - (i + 1)) z := by
 unfold rset
 rw [show (i : Int).toNat = i from rfl, List.set_append_right _ _ (by rw [List.length_take]; omega), List.length_take, Nat.min_eq_left (by omega), Nat.sub_self, show ns.length - i = (ns.length - (i + 1)) + 1 by omega, List.replicate_succ, List.set_cons_zero, List.take_succ_eq_append_getElem h, List.append_assoc]
 rfl

theorem toPieceS_loop (n : Nat) (ns : List kPiece.ty) (hl : ns.length < 1000000000) (z : kPiece.ty) : ∀ (m i : Nat), i ≤ ns.length → ns.length - i < m →
  LP L (n + 1) 49 p_laws_toPieceS_0 [] m (S_laws_toPieceS_0 ns i (ns.take i ++ List.replicate (ns.length - i) z)) = some [⟨.row kPiece, ns⟩]
 | 0, i, _, hm => by omega
 | m + 1, i, hi, hm => by
  rw [l_laws_toPieceS_0]
  by_cases h : i < ns.length
  ·have hc : pc L (n + 1) 70 [⟨ki, (rget ns (i : Int) kPiece.dflt).1⟩, ⟨ki, ((rget ns (i : Int) kPiece.dflt).2).1⟩] kPiece = some (ns[i]) := by
    refine pc_of ((f_laws_toPiece n _ _).trans ?_)
    rw [row_get h]
    rfl
   have hin : inB (i : Int) (rlen (ns.take i ++ List.replicate (ns.length - i) z)) = true := row_in (by rw [List.length_append, List.length_take, List.length_replicate]; omega)
   rw [row_lt h, cnd_t, must_of (row_in h), bnd_s, hc, bnd_s, must_of hin, bnd_s, iadd_eq (by omega) (by omega)]
   have := toPieceS_loop n ns hl z m (i + 1) (by omega) (by omega)
   rw [← rset_take ns z i h] at this
   exact this
  ·obtain rfl : i = ns.length := by omega
   rw [row_end, cnd_f, List.take_length, Nat.sub_self, List.replicate_zero, List.append_nil]
   exact k_laws_toPieceS_1 _ _

theorem cutB_len {α : Type} {xs : List α} (h : xs.length ≤ 1073741824) : cutB 0 (rlen xs) 1073741824 = true := by
 unfold cutB rlen
 simp only [Bool.and_eq_true, decide_eq_true_eq]
 omega

theorem toPieceS_ge (n : Nat) (ns : List kPiece.ty) (hl : ns.length < 1000000000) (hn : ns.length < n) : pc L (n + 2) 49 [⟨.row kPiece, ns⟩] (.pair (.row kPiece) .unit) = some (ns, ()) := by
 refine pc_of ((f_laws_toPieceS ns (n + 1)).trans ?_)
 rw [must_of (cutB_len (by omega)), bnd_s]
 exact toPieceS_loop n ns hl (0, (0, ())) (n + 1) 0 (Nat.zero_le _) (by omega)

def Small (ns : List kInode.ty) : Prop := ns.length ≤ 1048576 ∧ ∀ x ∈ ns, x.2.2.1.size ≤ 1048576 ∧ x.2.2.2.2.2.2.2.1.length ≤ 1048576

theorem toInodeS_loop (n : Nat) (ns : List kInode.ty) (hs : Small ns) (hn : 1048576 < n) (z : kInode.ty) : ∀ (m i : Nat), i ≤ ns.length → ns.length - i < m →
  LP L (n + 3) 15 p_laws_toInodeS_0 [] m (S_laws_toInodeS_0 ns i (ns.take i ++ List.replicate (ns.length - i) z)) = some [⟨.row kInode, ns⟩]
 | 0, i, _, hm => by omega
 | m + 1, i, hi, hm => by
  have hl := hs.1
  rw [l_laws_toInodeS_0]
  by_cases h : i < ns.length
  ·have hp := (hs.2 _ (List.getElem_mem h)).2
   have hc : pc L (n + 3) 30 [⟨ki, (rget ns (i : Int) kInode.dflt).1⟩, ⟨ki, ((rget ns (i : Int) kInode.dflt).2).1⟩, ⟨.str, (((rget ns (i : Int) kInode.dflt).2).2).1⟩, ⟨.bool, ((((rget ns (i : Int) kInode.dflt).2).2).2).1⟩, ⟨ki, (((((rget ns (i : Int) kInode.dflt).2).2).2).2).1⟩, ⟨ki, ((((((rget ns (i : Int) kInode.dflt).2).2).2).2).2).1⟩, ⟨ki, (((((((rget ns (i : Int) kInode.dflt).2).2).2).2).2).2).1⟩, ⟨.row kPiece, ((((((((rget ns (i : Int) kInode.dflt).2).2).2).2).2).2).2).1⟩, ⟨ki, (((((((((rget ns (i : Int) kInode.dflt).2).2).2).2).2).2).2).2).1⟩] kInode = some (ns[i]) := by
    refine pc_of ((f_laws_toInode _ _ _ _ _ _ _ _ _ (n + 2)).trans ?_)
    rw [row_get h, toPieceS_ge n _ (by omega) (by omega), bnd_s]
    rfl
   have hin : inB (i : Int) (rlen (ns.take i ++ List.replicate (ns.length - i) z)) = true := row_in (by rw [List.length_append, List.length_take, List.length_replicate]; omega)
   rw [row_lt h, cnd_t, must_of (row_in h), bnd_s, hc, bnd_s, must_of hin, bnd_s, iadd_eq (by omega) (by omega)]
   have := toInodeS_loop n ns hs hn z m (i + 1) (by omega) (by omega)
   rw [← rset_take ns z i h] at this
   exact this
  ·obtain rfl : i = ns.length := by omega
   rw [row_end, cnd_f, List.take_length, Nat.sub_self, List.replicate_zero, List.append_nil]
   exact k_laws_toInodeS_1 _ _

theorem toTree_ge (n : Nat) (ns : List kInode.ty) (nx : Int) (hs : Small ns) (hn : 1048576 < n) : pc L (n + 5) 6 [⟨.row kInode, ns⟩, ⟨ki, nx⟩] kTree = some (ns, nx, ()) := by
 have hl := hs.1
 have h1 : pc L (n + 4) 15 [⟨.row kInode, ns⟩] (.pair (.row kInode) .unit) = some (ns, ()) := by
  refine pc_of ((f_laws_toInodeS ns (n + 3)).trans ?_)
  rw [must_of (cutB_len (by omega)), bnd_s]
  exact toInodeS_loop n ns hs hn (0, (0, (⟨#[]⟩, (false, (0, (0, (0, (([] : List kPiece.ty), (0, ()))))))))) (n + 3) 0 (Nat.zero_le _) (by omega)
 refine pc_of ((f_laws_toTree ns nx (n + 4)).trans ?_)
 rw [h1, bnd_s]
 rfl

theorem ine_self (a : Int) : ine a a = false := by unfold ine; simp
theorem beq_self' (a : Bool) : beq a a = true := by cases a <;> rfl

theorem eqPieceS_loop (n : Nat) (ns : List kPiece.ty) (hl : ns.length < 1000000000) : ∀ (m i : Nat), i ≤ ns.length → ns.length - i < m →
  LP L (n + 1) 68 p_laws_eqPieceS_0 [] m (S_laws_eqPieceS_0 ns ns i) = some [⟨.bool, true⟩]
 | 0, i, _, hm => by omega
 | m + 1, i, hi, hm => by
  rw [l_laws_eqPieceS_0]
  by_cases h : i < ns.length
  ·have hc : pc L (n + 1) 83 [⟨ki, (rget ns (i : Int) kPiece.dflt).1⟩, ⟨ki, ((rget ns (i : Int) kPiece.dflt).2).1⟩, ⟨ki, (rget ns (i : Int) kPiece.dflt).1⟩, ⟨ki, ((rget ns (i : Int) kPiece.dflt).2).1⟩] (.pair .bool .unit) = some (true, ()) := by
    refine pc_of ((f_laws_eqPiece n _ _ _ _).trans ?_)
    rw [ine_self, cnd_f, ine_self, cnd_f]
    rfl
   rw [row_lt h, cnd_t, must_of (row_in h), bnd_s, bnd_s, hc, bnd_s, show bnot ((true, ()) : Bool × Unit).1 = false from rfl, cnd_f, iadd_eq (by omega) (by omega)]
   exact eqPieceS_loop n ns hl m (i + 1) (by omega) (by omega)
  ·obtain rfl : i = ns.length := by omega
   rw [row_end, cnd_f]
   exact k_laws_eqPieceS_2 _

theorem eqPieceS_ge (n : Nat) (ns : List kPiece.ty) (hl : ns.length < 1000000000) (hn : ns.length < n) : pc L (n + 2) 68 [⟨.row kPiece, ns⟩, ⟨.row kPiece, ns⟩] (.pair .bool .unit) = some (true, ()) := by
 refine pc_of ((f_laws_eqPieceS ns ns (n + 1)).trans ?_)
 rw [ine_self, cnd_f]
 exact eqPieceS_loop n ns hl (n + 1) 0 (Nat.zero_le _) (by omega)

theorem eqInode_ge (n : Nat) (x : kInode.ty) (hl : x.2.2.2.2.2.2.2.1.length < 1000000000) (hn : x.2.2.2.2.2.2.2.1.length < n) :
  pc L (n + 3) 45 [⟨ki, x.1⟩, ⟨ki, x.2.1⟩, ⟨.str, x.2.2.1⟩, ⟨.bool, x.2.2.2.1⟩, ⟨ki, x.2.2.2.2.1⟩, ⟨ki, x.2.2.2.2.2.1⟩, ⟨ki, x.2.2.2.2.2.2.1⟩, ⟨.row kPiece, x.2.2.2.2.2.2.2.1⟩, ⟨ki, x.2.2.2.2.2.2.2.2.1⟩, ⟨ki, x.1⟩, ⟨ki, x.2.1⟩, ⟨.str, x.2.2.1⟩, ⟨.bool, x.2.2.2.1⟩, ⟨ki, x.2.2.2.2.1⟩, ⟨ki, x.2.2.2.2.2.1⟩, ⟨ki, x.2.2.2.2.2.2.1⟩, ⟨.row kPiece, x.2.2.2.2.2.2.2.1⟩, ⟨ki, x.2.2.2.2.2.2.2.2.1⟩] (.pair .bool .unit) = some (true, ()) := by
 refine pc_of ((f_laws_eqInode _ _ _ _ _ _ _ _ _ _ _ _ _ _ _ _ _ _ (n + 2)).trans ?_)
 rw [ine_self, cnd_f, ine_self, cnd_f, seq_refl, show bnot true = false from rfl, cnd_f, beq_self', show bnot true = false from rfl, cnd_f, ine_self, cnd_f, ine_self, cnd_f, ine_self, cnd_f, eqPieceS_ge n _ hl hn, bnd_s, show bnot ((true, ()) : Bool × Unit).1 = false from rfl, cnd_f, ine_self, cnd_f]
 rfl

theorem eqInodeS_loop (n : Nat) (ns : List kInode.ty) (hs : Small ns) (hn : 1048576 < n) : ∀ (m i : Nat), i ≤ ns.length → ns.length - i < m →
  LP L (n + 3) 23 p_laws_eqInodeS_0 [] m (S_laws_eqInodeS_0 ns ns i) = some [⟨.bool, true⟩]
 | 0, i, _, hm => by omega
 | m + 1, i, hi, hm => by
  have hl := hs.1
  rw [l_laws_eqInodeS_0]
  by_cases h : i < ns.length
  ·have hp := (hs.2 _ (List.getElem_mem h)).2
   rw [row_lt h, cnd_t, must_of (row_in h), bnd_s, bnd_s, row_get h, eqInode_ge n ns[i] (by omega) (by omega), bnd_s, show bnot ((true, ()) : Bool × Unit).1 = false from rfl, cnd_f, iadd_eq (by omega) (by omega)]
   exact eqInodeS_loop n ns hs hn m (i + 1) (by omega) (by omega)
  ·obtain rfl : i = ns.length := by omega
   rw [row_end, cnd_f]
   exact k_laws_eqInodeS_2 _

theorem eqTree_ge (n : Nat) (ns : List kInode.ty) (nx : Int) (hs : Small ns) (hn : 1048576 < n) : pc L (n + 5) 8 [⟨.row kInode, ns⟩, ⟨ki, nx⟩, ⟨.row kInode, ns⟩, ⟨ki, nx⟩] (.pair .bool .unit) = some (true, ()) := by
 have hl := hs.1
 have h1 : pc L (n + 4) 23 [⟨.row kInode, ns⟩, ⟨.row kInode, ns⟩] (.pair .bool .unit) = some (true, ()) := by
  refine pc_of ((f_laws_eqInodeS ns ns (n + 3)).trans ?_)
  rw [ine_self, cnd_f]
  exact eqInodeS_loop n ns hs hn (n + 3) 0 (Nat.zero_le _) (by omega)
 refine pc_of ((f_laws_eqTree ns nx ns nx (n + 4)).trans ?_)
 rw [h1, bnd_s, show bnot ((true, ()) : Bool × Unit).1 = false from rfl, cnd_f, ine_self, cnd_f]
 rfl

def Wide (ns : List kInode.ty) : Prop := ns.length < 9223372036854775808 ∧ ∀ x ∈ ns, x.2.2.1.size < 9223372036854775808 ∧ x.2.2.2.2.2.2.2.1.length < 9223372036854775808

theorem isub_eq {a b : Int} (h0 : -9223372036854775808 ≤ a - b) (h1 : a - b < 9223372036854775808) : isub .i64 a b = a - b := wrap64_eq h0 h1

theorem szInode_ge (n : Nat) (x : kInode.ty) (v : Int) (h0 : 0 ≤ v) (h1 : v ≤ 1048576) (hx : x.2.2.1.size < 9223372036854775808 ∧ x.2.2.2.2.2.2.2.1.length < 9223372036854775808) :
  ∃ w : Int, w ≤ v ∧ (0 ≤ w → x.2.2.1.size ≤ 1048576 ∧ x.2.2.2.2.2.2.2.1.length ≤ 1048576) ∧ pc L (n + 2) 24 [⟨ki, x.1⟩, ⟨ki, x.2.1⟩, ⟨.str, x.2.2.1⟩, ⟨.bool, x.2.2.2.1⟩, ⟨ki, x.2.2.2.2.1⟩, ⟨ki, x.2.2.2.2.2.1⟩, ⟨ki, x.2.2.2.2.2.2.1⟩, ⟨.row kPiece, x.2.2.2.2.2.2.2.1⟩, ⟨ki, x.2.2.2.2.2.2.2.2.1⟩, ⟨ki, v⟩] (.pair ki .unit) = some (w, ()) := by
 have hd := f_laws_szInode x.1 x.2.1 x.2.2.1 x.2.2.2.1 x.2.2.2.2.1 x.2.2.2.2.2.1 x.2.2.2.2.2.2.1 x.2.2.2.2.2.2.2.1 x.2.2.2.2.2.2.2.2.1 v (n + 1)
 rw [isub_eq (a := v) (b := slen x.2.2.1) (by unfold slen; omega) (by unfold slen; omega)] at hd
 by_cases hA : v - slen x.2.2.1 < 0
 ·refine ⟨-1, by omega, by omega, pc_of (hd.trans ?_)⟩
  rw [show ilt (v - slen x.2.2.1) 0 = true from decide_eq_true hA, cnd_t]
  rfl
 ·rw [show ilt (v - slen x.2.2.1) 0 = false from decide_eq_false hA, cnd_f] at hd
  have hp := f_laws_szPieceS n x.2.2.2.2.2.2.2.1 (v - slen x.2.2.1)
  unfold slen rlen at *
  rw [isub_eq (by omega) (by omega)] at hp
  by_cases hB : v - (x.2.2.1.size : Int) - (x.2.2.2.2.2.2.2.1.length : Int) < 0
  ·rw [show ilt (v - (x.2.2.1.size : Int) - (x.2.2.2.2.2.2.2.1.length : Int)) 0 = true from decide_eq_true hB, cnd_t] at hp
   refine ⟨-1, by omega, by omega, pc_of (hd.trans ?_)⟩
   rw [pc_of (k := .pair ki .unit) (x := ((-1 : Int), ())) hp, bnd_s]
   rfl
  ·rw [show ilt (v - (x.2.2.1.size : Int) - (x.2.2.2.2.2.2.2.1.length : Int)) 0 = false from decide_eq_false hB, cnd_f] at hp
   refine ⟨v - (x.2.2.1.size : Int) - (x.2.2.2.2.2.2.2.1.length : Int), by omega, fun _ => by omega, pc_of (hd.trans ?_)⟩
   rw [pc_of (k := .pair ki .unit) (x := ((v - (x.2.2.1.size : Int) - (x.2.2.2.2.2.2.2.1.length : Int) : Int), ())) hp, bnd_s, show ilt (v - (x.2.2.1.size : Int) - (x.2.2.2.2.2.2.2.1.length : Int)) 0 = false from decide_eq_false hB, cnd_f]
   rfl

theorem szInodeS_loop (n : Nat) (ns : List kInode.ty) (hw : Wide ns) : ∀ (m i : Nat) (v : Int), i ≤ ns.length → ns.length - i < m → 0 ≤ v → v ≤ 1048576 →
  ∃ w : Int, (0 ≤ w → ∀ x ∈ ns.drop i, x.2.2.1.size ≤ 1048576 ∧ x.2.2.2.2.2.2.2.1.length ≤ 1048576) ∧ LP L (n + 2) 9 p_laws_szInodeS_0 [] m (S_laws_szInodeS_0 ns v i) = some [⟨ki, w⟩]
 | 0, i, _, _, hm, _, _ => by omega
 | m + 1, i, v, hi, hm, h0, h1 => by
  have hl := hw.1
  rw [l_laws_szInodeS_0]
  by_cases h : i < ns.length
  ·have hd : ns.drop i = ns[i] :: ns.drop (i + 1) := List.drop_eq_getElem_cons h
   obtain ⟨w, hwv, hws, hc⟩ := szInode_ge n ns[i] v h0 h1 (hw.2 _ (List.getElem_mem h))
   rw [row_lt h, cnd_t, must_of (row_in h), bnd_s, row_get h, hc, bnd_s]
   by_cases hz : w < 0
   ·refine ⟨-1, by omega, ?_⟩
    rw [show ilt ((w, ()) : Int × Unit).1 0 = true from decide_eq_true hz, cnd_t]
    exact k_laws_szInodeS_1 _
   ·rw [show ilt ((w, ()) : Int × Unit).1 0 = false from decide_eq_false hz, cnd_f, iadd_eq (by omega) (by omega)]
    obtain ⟨w', h2, h3⟩ := szInodeS_loop n ns hw m (i + 1) w (by omega) (by omega) (by omega) (by omega)
    refine ⟨w', fun h4 x hx => ?_, h3⟩
    rw [hd] at hx
    rcases List.mem_cons.1 hx with rfl | hx
    ·exact hws (by omega)
    ·exact h2 h4 x hx
  ·obtain rfl : i = ns.length := by omega
   rw [row_end, cnd_f, List.drop_length]
   exact ⟨v, fun _ x hx => (by cases hx), k_laws_szInodeS_2 _ _⟩

theorem szTree_ge (n : Nat) (ns : List kInode.ty) (nx : Int) (hw : Wide ns) (hn : ns.length < n) : ∃ w : Int, (0 ≤ w → Small ns) ∧ pc L (n + 4) 4 [⟨.row kInode, ns⟩, ⟨ki, nx⟩, ⟨ki, 1048576⟩] (.pair ki .unit) = some (w, ()) := by
 have hl := hw.1
 have hd := f_laws_szInodeS ns 1048576 (n + 2)
 unfold rlen at hd
 rw [isub_eq (by omega) (by omega)] at hd
 by_cases hA : (1048576 : Int) - (ns.length : Int) < 0
 ·rw [show ilt ((1048576 : Int) - (ns.length : Int)) 0 = true from decide_eq_true hA, cnd_t] at hd
  refine ⟨-1, by omega, pc_of ((f_laws_szTree ns nx 1048576 (n + 3)).trans ?_)⟩
  rw [pc_of (k := .pair ki .unit) (x := ((-1 : Int), ())) hd, bnd_s]
  rfl
 ·rw [show ilt ((1048576 : Int) - (ns.length : Int)) 0 = false from decide_eq_false hA, cnd_f] at hd
  obtain ⟨w, h1, h2⟩ := szInodeS_loop n ns hw (n + 2) 0 ((1048576 : Int) - (ns.length : Int)) (Nat.zero_le _) (by omega) (by omega) (by omega)
  have h2 := hd.trans h2
  by_cases hz : w < 0
  ·refine ⟨-1, by omega, pc_of ((f_laws_szTree ns nx 1048576 (n + 3)).trans ?_)⟩
   rw [pc_of (k := .pair ki .unit) (x := (w, ())) h2, bnd_s, show ilt ((w, ()) : Int × Unit).1 0 = true from decide_eq_true hz, cnd_t]
   rfl
  ·refine ⟨w, fun h3 => ⟨by omega, fun x hx => h1 h3 x hx⟩, pc_of ((f_laws_szTree ns nx 1048576 (n + 3)).trans ?_)⟩
   rw [pc_of (k := .pair ki .unit) (x := (w, ())) h2, bnd_s, show ilt ((w, ()) : Int × Unit).1 0 = false from decide_eq_false hz, cnd_f]
   rfl

theorem law_true (ns : List kInode.ty) (nx : Int) (hw : Wide ns) : ∃ n, pcall L n 3 [⟨.row kInode, ns⟩, ⟨ki, nx⟩] = some [⟨.bool, true⟩] := by
 have hT : ∀ hs : Small ns, Sized ns := fun hs => ⟨by have := hs.1; omega, fun x hx => by have := hs.2 x hx; omega⟩
 by_cases hs : Small ns
 ·obtain ⟨N, hN⟩ := show_both ns nx (hT hs)
  let n := N + ns.length + 2000000
  obtain ⟨w, hw1, hw2⟩ := szTree_ge (n - 4) ns nx hw (by omega)
  have h1 := toTree_ge (n - 5) ns nx hs (by omega)
  have h2 := eqTree_ge (n - 5) ns nx hs (by omega)
  rw [show n - 4 + 4 = n by omega] at hw2
  rw [show n - 5 + 5 = n by omega] at h1 h2
  obtain ⟨h3, h4⟩ := hN n (by omega)
  refine ⟨n + 1, (f_laws_FnExactShowTree ns nx n).trans ?_⟩
  rw [hw2, bnd_s]
  by_cases hz : w < 0
  ·rw [show ilt ((w, ()) : Int × Unit).1 0 = true from decide_eq_true hz, cnd_t]
  ·rw [show ilt ((w, ()) : Int × Unit).1 0 = false from decide_eq_false hz, cnd_f, h1, bnd_s, h3, bnd_s, bnd_s, h4, bnd_s, seq_refl, show bnot true = false from rfl, cnd_f, bnd_s, h2, bnd_s, show bnot ((true, ()) : Bool × Unit).1 = false from rfl, cnd_f]
 ·obtain ⟨w, hw1, hw2⟩ := szTree_ge (ns.length + 1) ns nx hw (by omega)
  refine ⟨ns.length + 1 + 4 + 1, (f_laws_FnExactShowTree ns nx _).trans ?_⟩
  have hz : w < 0 := Int.not_le.1 fun h => hs (hw1 h)
  rw [hw2, bnd_s, show ilt ((w, ()) : Int × Unit).1 0 = true from decide_eq_true hz, cnd_t]
end Go.Proofs.YtmddbohokaijeaaGreatDoor.Pv
namespace Go.Proofs
open Go.Shelf
def Tryz.lays156_ren : Go.Shelf.Ren := ⟨fun | 156 => 53 | 165 => 72 | 166 => 73 | 169 => 74 | 240 => 86 | 241 => 87 | 276 => 97 | 277 => 98 | n => n, fun | 31 => 35 | 9 => 9 | 3 => 3 | 4 => 4 | 0 => 0 | 20 => 20 | 72 => 95 | 76 => 99 | 70 => 93 | 37 => 58 | 75 => 98 | 127 => 113 | 164 => 122 | 5 => 5 | 80 => 101 | n => n, fun | n => n⟩
theorem Tryz.lays156 : Go.Proofs.Lays.n156 Tryz.prog Tryz.lays156_ren := {
 mixed := by kernel_rfl
 f156 := Tryz.func53.trans (congrArg some (by kernel_rfl))
 f165 := Tryz.func72.trans (congrArg some (by kernel_rfl))
 f166 := Tryz.func73.trans (congrArg some (by kernel_rfl))
 f169 := Tryz.func74.trans (congrArg some (by kernel_rfl))
 f240 := Tryz.func86.trans (congrArg some (by kernel_rfl))
 f241 := Tryz.func87.trans (congrArg some (by kernel_rfl))
 f276 := Tryz.func97.trans (congrArg some (by kernel_rfl))
 f277 := Tryz.func98.trans (congrArg some (by kernel_rfl))
 t0 := Tryz.underlying0
 a0 := Tryz.isAgg0
 z0 := Tryz.sizeOf0
 v0 := Tryz.zeroValue0
 t3 := Tryz.underlying3
 a3 := Tryz.isAgg3
 z3 := Tryz.sizeOf3
 v3 := Tryz.zeroValue3
 t4 := Tryz.underlying4
 a4 := Tryz.isAgg4
 z4 := Tryz.sizeOf4
 v4 := Tryz.zeroValue4
 t9 := Tryz.underlying9
 a9 := Tryz.isAgg9
 z9 := Tryz.sizeOf9
 v9 := Tryz.zeroValue9
 t20 := Tryz.underlying20
 a20 := Tryz.isAgg20
 z20 := Tryz.sizeOf20
 v20 := Tryz.zeroValue20
 t31 := Tryz.underlying35
 a31 := Tryz.isAgg35
 z31 := Tryz.sizeOf35
 v31 := Tryz.zeroValue35
 t37 := Tryz.underlying58
 a37 := Tryz.isAgg58
 z37 := Tryz.sizeOf58
 v37 := Tryz.zeroValue58
 t70 := Tryz.underlying93
 a70 := Tryz.isAgg93
 z70 := Tryz.sizeOf93
 v70 := Tryz.zeroValue93
 t72 := Tryz.underlying95
 a72 := Tryz.isAgg95
 z72 := Tryz.sizeOf95
 v72 := Tryz.zeroValue95
 t75 := Tryz.underlying98
 a75 := Tryz.isAgg98
 z75 := Tryz.sizeOf98
 v75 := Tryz.zeroValue98
 t76 := Tryz.underlying99
 a76 := Tryz.isAgg99
 z76 := Tryz.sizeOf99
 v76 := Tryz.zeroValue99
 t127 := Tryz.underlying113
 a127 := Tryz.isAgg113
 z127 := Tryz.sizeOf113
 v127 := Tryz.zeroValue113
 t164 := Tryz.underlying122
 a164 := Tryz.isAgg122
 z164 := Tryz.sizeOf122
 v164 := Tryz.zeroValue122 }
theorem Tryz.Builder_Extra_156 : Builder.Extra Tryz.prog Tryz.lays156_ren := {
 sizeBuilder := by kernel_rfl
 liesBuilder := by kernel_rfl
 t5 := Tryz.underlying5
 a5 := Tryz.isAgg5
 z5 := Tryz.sizeOf5
 v5 := Tryz.zeroValue5
 infoByte := by kernel_rfl
 cellsByte := by kernel_rfl
 sizeByte := by kernel_rfl
 neB5 := by decide }
open Go.RowKit in
theorem Tryz.strings_Join_none (a : Option Addr) (c : Nat) (sep : ByteArray) (w : World) :
  Calls Tryz.prog 53 #[.slice a 0 c, .string sep] w fun e w' => e = .returned (.string ⟨#[]⟩) ∧ w' = w := Any.strings_Join_none Tryz.lays156 Tryz.Builder_Extra_156 a c sep w
open Go.RowKit in
theorem Tryz.strings_Join (bk o c : Nat) (xs : List ByteArray) (sep : ByteArray) (w : World) (hcells : ∀ (j : Nat) x, xs[j]? = some x → w.cell? ⟨bk, o + j, none⟩ = some (.string x)) (hbk : bk < w.heap.size) (hN : xs.length ≤ 140737488355328) (hcap : xs.length ≤ c) (hlen : (Lib.join (xs.map (·.data.toList)) sep.data.toList).length ≤ 140737488355328) :
  Calls Tryz.prog 53 #[.slice (some ⟨bk, o, none⟩) xs.length c, .string sep] w fun e w' => e = .returned (.string ⟨(Lib.join (xs.map (·.data.toList)) sep.data.toList).toArray⟩) ∧ Below w.heap.size w w' := Any.strings_Join Tryz.lays156 Tryz.Builder_Extra_156 bk o c xs sep w hcells hbk hN hcap hlen
def Tryz.lays125_ren : Go.Shelf.Ren := ⟨fun | 125 => 41 | 128 => 63 | 129 => 64 | n => n, fun | 46 => 66 | 3 => 3 | 51 => 84 | 53 => 86 | 4 => 4 | 5 => 5 | 9 => 9 | n => n, fun | n => n⟩
theorem Tryz.lays125 : Go.Proofs.Lays.n125 Tryz.prog Tryz.lays125_ren := {
 mixed := by kernel_rfl
 f125 := Tryz.func41.trans (congrArg some (by kernel_rfl))
 f128 := Tryz.func63.trans (congrArg some (by kernel_rfl))
 f129 := Tryz.func64.trans (congrArg some (by kernel_rfl))
 t3 := Tryz.underlying3
 a3 := Tryz.isAgg3
 z3 := Tryz.sizeOf3
 v3 := Tryz.zeroValue3
 t4 := Tryz.underlying4
 a4 := Tryz.isAgg4
 z4 := Tryz.sizeOf4
 v4 := Tryz.zeroValue4
 t5 := Tryz.underlying5
 a5 := Tryz.isAgg5
 z5 := Tryz.sizeOf5
 v5 := Tryz.zeroValue5
 t9 := Tryz.underlying9
 a9 := Tryz.isAgg9
 z9 := Tryz.sizeOf9
 v9 := Tryz.zeroValue9
 t46 := Tryz.underlying66
 a46 := Tryz.isAgg66
 z46 := Tryz.sizeOf66
 v46 := Tryz.zeroValue66
 t51 := Tryz.underlying84
 a51 := Tryz.isAgg84
 z51 := Tryz.sizeOf84
 v51 := Tryz.zeroValue84
 t53 := Tryz.underlying86
 a53 := Tryz.isAgg86
 z53 := Tryz.sizeOf86
 v53 := Tryz.zeroValue86 }
theorem Tryz.bits_Len (x : Int) (w : World) (h0 : 0 ≤ x) (h1 : x ≤ 18446744073709551615) :
  Calls Tryz.prog 41 #[.int .u64 x] w fun e w' => e = .returned (.int .i64 (Lib.bitLen x.toNat)) ∧ w' = w := Any.bits_Len Tryz.lays125 x w h0 h1
def Tryz.lays106_ren : Go.Shelf.Ren := ⟨fun | 106 => 21 | 213 => 42 | 265 => 65 | n => n, fun | 9 => 9 | 3 => 3 | n => n, fun | n => n⟩
theorem Tryz.lays106 : Go.Proofs.Lays.n106 Tryz.prog Tryz.lays106_ren := {
 mixed := by kernel_rfl
 f106 := Tryz.func21.trans (congrArg some (by kernel_rfl))
 f213 := Tryz.func42.trans (congrArg some (by kernel_rfl))
 f265 := Tryz.func65.trans (congrArg some (by kernel_rfl))
 t3 := Tryz.underlying3
 a3 := Tryz.isAgg3
 z3 := Tryz.sizeOf3
 v3 := Tryz.zeroValue3
 t9 := Tryz.underlying9
 a9 := Tryz.isAgg9
 z9 := Tryz.sizeOf9
 v9 := Tryz.zeroValue9 }
open Go.RowKit in
theorem Tryz.strings_Compare (a b : ByteArray) (w : World) :
  Calls Tryz.prog 21 #[.string a, .string b] w fun e w' => e = .returned (.int .i64 (Lib.compareBytes a.data.toList b.data.toList)) ∧ w' = w := Any.strings_Compare Tryz.lays106 a b w
def Tryz.laysM171_ren : Go.Shelf.Ren := ⟨fun | 171 => 39 | 243 => 54 | 246 => 75 | 283 => 88 | 284 => 89 | 285 => 90 | 286 => 91 | 129 => 64 | 317 => 99 | 318 => 100 | 319 => 101 | 320 => 102 | 337 => 105 | 338 => 106 | n => n, fun | 3 => 3 | 9 => 9 | 2 => 2 | 4 => 4 | 171 => 114 | 0 => 0 | 53 => 86 | 37 => 58 | 5 => 5 | 173 => 116 | 212 => 126 | 51 => 84 | 20 => 20 | 213 => 127 | 46 => 66 | 232 => 131 | 233 => 132 | n => n, fun | 17 => 1 | 18 => 2 | 19 => 3 | n => n⟩
theorem Tryz.laysM171 : Go.Proofs.LaysM.n171 Tryz.prog Tryz.laysM171_ren := {
 mixed := by kernel_rfl
 f129 := Tryz.func64.trans (congrArg some (by kernel_rfl))
 f171 := Tryz.func39.trans (congrArg some (by kernel_rfl))
 f243 := Tryz.func54.trans (congrArg some (by kernel_rfl))
 f246 := Tryz.func75.trans (congrArg some (by kernel_rfl))
 f283 := Tryz.func88.trans (congrArg some (by kernel_rfl))
 f284 := Tryz.func89.trans (congrArg some (by kernel_rfl))
 f285 := Tryz.func90.trans (congrArg some (by kernel_rfl))
 f286 := Tryz.func91.trans (congrArg some (by kernel_rfl))
 f317 := Tryz.func99.trans (congrArg some (by kernel_rfl))
 f318 := Tryz.func100.trans (congrArg some (by kernel_rfl))
 f319 := Tryz.func101.trans (congrArg some (by kernel_rfl))
 f320 := Tryz.func102.trans (congrArg some (by kernel_rfl))
 f337 := Tryz.func105.trans (congrArg some (by kernel_rfl))
 f338 := Tryz.func106.trans (congrArg some (by kernel_rfl))
 t0 := Tryz.underlying0
 a0 := Tryz.isAgg0
 z0 := Tryz.sizeOf0
 v0 := Tryz.zeroValue0
 t2 := Tryz.underlying2
 a2 := Tryz.isAgg2
 z2 := Tryz.sizeOf2
 v2 := Tryz.zeroValue2
 t3 := Tryz.underlying3
 a3 := Tryz.isAgg3
 z3 := Tryz.sizeOf3
 v3 := Tryz.zeroValue3
 t4 := Tryz.underlying4
 a4 := Tryz.isAgg4
 z4 := Tryz.sizeOf4
 v4 := Tryz.zeroValue4
 t5 := Tryz.underlying5
 a5 := Tryz.isAgg5
 z5 := Tryz.sizeOf5
 v5 := Tryz.zeroValue5
 t9 := Tryz.underlying9
 a9 := Tryz.isAgg9
 z9 := Tryz.sizeOf9
 v9 := Tryz.zeroValue9
 t20 := Tryz.underlying20
 a20 := Tryz.isAgg20
 z20 := Tryz.sizeOf20
 v20 := Tryz.zeroValue20
 t37 := Tryz.underlying58
 a37 := Tryz.isAgg58
 z37 := Tryz.sizeOf58
 v37 := Tryz.zeroValue58
 t46 := Tryz.underlying66
 a46 := Tryz.isAgg66
 z46 := Tryz.sizeOf66
 v46 := Tryz.zeroValue66
 t51 := Tryz.underlying84
 a51 := Tryz.isAgg84
 z51 := Tryz.sizeOf84
 v51 := Tryz.zeroValue84
 t53 := Tryz.underlying86
 a53 := Tryz.isAgg86
 z53 := Tryz.sizeOf86
 v53 := Tryz.zeroValue86
 t171 := Tryz.underlying114
 a171 := Tryz.isAgg114
 z171 := Tryz.sizeOf114
 v171 := Tryz.zeroValue114
 t173 := Tryz.underlying116
 a173 := Tryz.isAgg116
 z173 := Tryz.sizeOf116
 v173 := Tryz.zeroValue116
 t212 := Tryz.underlying126
 a212 := Tryz.isAgg126
 z212 := Tryz.sizeOf126
 v212 := Tryz.zeroValue126
 t213 := Tryz.underlying127
 a213 := Tryz.isAgg127
 z213 := Tryz.sizeOf127
 t232 := Tryz.underlying131
 a232 := Tryz.isAgg131
 z232 := Tryz.sizeOf131
 v232 := Tryz.zeroValue131
 t233 := Tryz.underlying132
 a233 := Tryz.isAgg132
 z233 := Tryz.sizeOf132
 v233 := Tryz.zeroValue132
 g17 := by kernel_rfl
 g18 := by kernel_rfl
 g19 := by kernel_rfl
 i0 := by kernel_rfl
 i2 := by kernel_rfl
 i3 := by kernel_rfl
 i4 := by kernel_rfl
 i5 := by kernel_rfl
 i9 := by kernel_rfl
 i20 := by kernel_rfl
 i37 := by kernel_rfl
 i46 := by kernel_rfl
 i51 := by kernel_rfl
 i53 := by kernel_rfl
 i171 := by kernel_rfl
 i173 := by kernel_rfl
 i212 := by kernel_rfl
 i232 := by kernel_rfl
 i233 := by kernel_rfl
 m17 := by kernel_rfl
 m18 := by kernel_rfl
 m19 := by kernel_rfl }
open Go.RowKit Go.Sort Go.Lib in
theorem Tryz.strconv_Itoa (n : Int) (h0 : -9223372036854775808 ≤ n) (h1 : n ≤ 9223372036854775807) (w : World) (htab : Lib.TabIs Tryz.prog w "internal/strconv.uint64pow10" .u64 Lib.pow10Tab) :
  Calls Tryz.prog 39 #[.int .i64 n] w fun e w' => e = .returned (.string ⟨(Lib.itoa n).toArray⟩) ∧ ∃ k os, w' = grow (w.drewN k) os := Any.strconv_Itoa Tryz.laysM171 n h0 h1 w htab
def Tryz.lays219_ren : Go.Shelf.Ren := ⟨fun | 219 => 81 | 217 => 93 | 225 => 94 | 224 => 95 | 267 => 96 | 266 => 103 | 314 => 104 | n => n, fun | 9 => 9 | 3 => 3 | 4 => 4 | 5 => 5 | 46 => 66 | 146 => 129 | 51 => 84 | n => n, fun | 1 => 0 | n => n⟩
theorem Tryz.lays219 : Go.Proofs.Lays.n219 Tryz.prog Tryz.lays219_ren := {
 mixed := by kernel_rfl
 f217 := Tryz.func93.trans (congrArg some (by kernel_rfl))
 f219 := Tryz.func81.trans (congrArg some (by kernel_rfl))
 f224 := Tryz.func95.trans (congrArg some (by kernel_rfl))
 f225 := Tryz.func94.trans (congrArg some (by kernel_rfl))
 f266 := Tryz.func103.trans (congrArg some (by kernel_rfl))
 f267 := Tryz.func96.trans (congrArg some (by kernel_rfl))
 f314 := Tryz.func104.trans (congrArg some (by kernel_rfl))
 t3 := Tryz.underlying3
 a3 := Tryz.isAgg3
 z3 := Tryz.sizeOf3
 v3 := Tryz.zeroValue3
 t4 := Tryz.underlying4
 a4 := Tryz.isAgg4
 z4 := Tryz.sizeOf4
 v4 := Tryz.zeroValue4
 t5 := Tryz.underlying5
 a5 := Tryz.isAgg5
 z5 := Tryz.sizeOf5
 v5 := Tryz.zeroValue5
 t9 := Tryz.underlying9
 a9 := Tryz.isAgg9
 z9 := Tryz.sizeOf9
 v9 := Tryz.zeroValue9
 t46 := Tryz.underlying66
 a46 := Tryz.isAgg66
 z46 := Tryz.sizeOf66
 v46 := Tryz.zeroValue66
 t51 := Tryz.underlying84
 a51 := Tryz.isAgg84
 z51 := Tryz.sizeOf84
 v51 := Tryz.zeroValue84
 t146 := Tryz.underlying129
 a146 := Tryz.isAgg129
 z146 := Tryz.sizeOf129
 v146 := Tryz.zeroValue129
 g1 := by kernel_rfl }
open Go.RowKit Go.Lib in
theorem Tryz.stringslite_Index_one (s : ByteArray) (c : UInt8) (w : World) :
  Calls Tryz.prog 81 #[.string s, .string ⟨#[c]⟩] w fun e w' => e = .returned (.int .i64 (Lib.indexByte s.data.toList c)) ∧ w' = w := Any.stringslite_Index_one Tryz.lays219 s c w
def Tryz.lays102_ren : Go.Shelf.Ren := ⟨fun | 102 => 44 | 209 => 67 | 207 => 82 | n => n, fun | 9 => 9 | 4 => 4 | 3 => 3 | n => n, fun | n => n⟩
theorem Tryz.lays102 : Go.Proofs.Lays.n102 Tryz.prog Tryz.lays102_ren := {
 mixed := by kernel_rfl
 f102 := Tryz.func44.trans (congrArg some (by kernel_rfl))
 f207 := Tryz.func82.trans (congrArg some (by kernel_rfl))
 f209 := Tryz.func67.trans (congrArg some (by kernel_rfl))
 t3 := Tryz.underlying3
 a3 := Tryz.isAgg3
 z3 := Tryz.sizeOf3
 v3 := Tryz.zeroValue3
 t4 := Tryz.underlying4
 a4 := Tryz.isAgg4
 z4 := Tryz.sizeOf4
 v4 := Tryz.zeroValue4
 t9 := Tryz.underlying9
 a9 := Tryz.isAgg9
 z9 := Tryz.sizeOf9
 v9 := Tryz.zeroValue9 }
open Go.RowKit Go.Lib in
theorem Tryz.strings_TrimSuffix (s p : ByteArray) (w : World) (hs : s.size ≤ 9223372036854775807) :
  Calls Tryz.prog 44 #[.string s, .string p] w fun e w' => e = .returned (.string ⟨(Lib.trimSuffix s.data.toList p.data.toList).toArray⟩) ∧ w' = w := Any.strings_TrimSuffix Tryz.lays102 s p w hs
def Tryz.laysSlF6_f19_ren : Go.Shelf.Ren := ⟨fun | 6 => 19 | 15 => 41 | 14 => 40 | 28 => 63 | 29 => 64 | 20 => 55 | 21 => 56 | 22 => 57 | 23 => 58 | 24 => 59 | 25 => 60 | 26 => 61 | 27 => 62 | 46 => 76 | 47 => 77 | 48 => 78 | 49 => 79 | 50 => 80 | 57 => 92 | n => n, fun | 22 => 35 | 24 => 9 | 25 => 45 | 3 => 3 | 39 => 66 | 0 => 0 | 53 => 84 | 55 => 86 | 4 => 4 | 46 => 77 | 45 => 76 | 50 => 81 | 5 => 5 | 9 => 9 | 66 => 103 | 70 => 107 | 76 => 118 | 77 => 119 | n => n, fun | n => n⟩
theorem Tryz.laysSlF6_f19 : Go.Proofs.SlLaysF.n6 Tryz.prog Tryz.laysSlF6_f19_ren := {
 mixed := by kernel_rfl
 f6 := ⟨Tryz.f19.name, by decide, Tryz.func19.trans (congrArg some (by kernel_rfl))⟩
 f14 := ⟨Tryz.f40.name, by decide, Tryz.func40.trans (congrArg some (by kernel_rfl))⟩
 f15 := Tryz.func41.trans (congrArg some (by kernel_rfl))
 f20 := ⟨Tryz.f55.name, by decide, Tryz.func55.trans (congrArg some (by kernel_rfl))⟩
 f21 := ⟨Tryz.f56.name, by decide, Tryz.func56.trans (congrArg some (by kernel_rfl))⟩
 f22 := ⟨Tryz.f57.name, by decide, Tryz.func57.trans (congrArg some (by kernel_rfl))⟩
 f23 := ⟨Tryz.f58.name, by decide, Tryz.func58.trans (congrArg some (by kernel_rfl))⟩
 f24 := ⟨Tryz.f59.name, by decide, Tryz.func59.trans (congrArg some (by kernel_rfl))⟩
 f25 := ⟨Tryz.f60.name, by decide, Tryz.func60.trans (congrArg some (by kernel_rfl))⟩
 f26 := ⟨Tryz.f61.name, by decide, Tryz.func61.trans (congrArg some (by kernel_rfl))⟩
 f27 := ⟨Tryz.f62.name, by decide, Tryz.func62.trans (congrArg some (by kernel_rfl))⟩
 f28 := Tryz.func63.trans (congrArg some (by kernel_rfl))
 f29 := Tryz.func64.trans (congrArg some (by kernel_rfl))
 f46 := ⟨Tryz.f76.name, by decide, Tryz.func76.trans (congrArg some (by kernel_rfl))⟩
 f47 := Tryz.func77.trans (congrArg some (by kernel_rfl))
 f48 := Tryz.func78.trans (congrArg some (by kernel_rfl))
 f49 := ⟨Tryz.f79.name, by decide, Tryz.func79.trans (congrArg some (by kernel_rfl))⟩
 f50 := ⟨Tryz.f80.name, by decide, Tryz.func80.trans (congrArg some (by kernel_rfl))⟩
 f57 := ⟨Tryz.f92.name, by decide, Tryz.func92.trans (congrArg some (by kernel_rfl))⟩
 t0 := Tryz.underlying0
 a0 := Tryz.isAgg0
 z0 := Tryz.sizeOf0
 v0 := Tryz.zeroValue0
 t3 := Tryz.underlying3
 a3 := Tryz.isAgg3
 z3 := Tryz.sizeOf3
 v3 := Tryz.zeroValue3
 t4 := Tryz.underlying4
 a4 := Tryz.isAgg4
 z4 := Tryz.sizeOf4
 v4 := Tryz.zeroValue4
 t5 := Tryz.underlying5
 a5 := Tryz.isAgg5
 z5 := Tryz.sizeOf5
 v5 := Tryz.zeroValue5
 t9 := Tryz.underlying9
 a9 := Tryz.isAgg9
 z9 := Tryz.sizeOf9
 v9 := Tryz.zeroValue9
 t22 := Tryz.underlying35
 a22 := Tryz.isAgg35
 z22 := Tryz.sizeOf35
 v22 := Tryz.zeroValue35
 a24 := Tryz.isAgg9
 z24 := Tryz.sizeOf9
 t25 := Tryz.underlying45
 a25 := Tryz.isAgg45
 z25 := Tryz.sizeOf45
 v25 := Tryz.zeroValue45
 t39 := Tryz.underlying66
 a39 := Tryz.isAgg66
 z39 := Tryz.sizeOf66
 v39 := Tryz.zeroValue66
 t45 := Tryz.underlying76
 a45 := Tryz.isAgg76
 z45 := Tryz.sizeOf76
 v45 := Tryz.zeroValue76
 t46 := Tryz.underlying77
 a46 := Tryz.isAgg77
 z46 := Tryz.sizeOf77
 v46 := Tryz.zeroValue77
 t50 := Tryz.underlying81
 a50 := Tryz.isAgg81
 z50 := Tryz.sizeOf81
 v50 := Tryz.zeroValue81
 t53 := Tryz.underlying84
 a53 := Tryz.isAgg84
 z53 := Tryz.sizeOf84
 v53 := Tryz.zeroValue84
 t55 := Tryz.underlying86
 a55 := Tryz.isAgg86
 z55 := Tryz.sizeOf86
 v55 := Tryz.zeroValue86
 t66 := Tryz.underlying103
 a66 := Tryz.isAgg103
 z66 := Tryz.sizeOf103
 v66 := Tryz.zeroValue103
 t70 := Tryz.underlying107
 a70 := Tryz.isAgg107
 z70 := Tryz.sizeOf107
 v70 := Tryz.zeroValue107
 t76 := Tryz.underlying118
 a76 := Tryz.isAgg118
 z76 := Tryz.sizeOf118
 v76 := Tryz.zeroValue118
 t77 := Tryz.underlying119
 a77 := Tryz.isAgg119
 z77 := Tryz.sizeOf119
 v77 := Tryz.zeroValue119 }
open Go.RowKit Go.Lib Go.Sort in
theorem Tryz.slices_SortFunc_eq {α : Type} [Inhabited α] (enc : α → Value) (h1 : OneCell enc) (cf : α → α → Int) (hO : SWO (ltOf cf)) (g : Nat) (cb : Array Value) (blk off cap : Nat) (d : Array α) (w : World) (eg : ∀ args w, (callFunc g args).run Tryz.prog w = .ok (.enter g args) w) (hcmp : CmpLays1 Tryz.prog g cb enc cf blk off d.size w) (hH : Holds enc w blk off d) (hblk : blk < w.heap.size) (hsz : d.size < 4611686018427387904) :
  Calls Tryz.prog 19 #[.slice (some ⟨blk, off, none⟩) d.size cap, .func (.func g) #[] cb] w fun e w' =>
   e = .returned (.tuple #[]) ∧ ∃ n os, w' = sortWorld enc w blk off n (pdq (ltOf cf) d 0 d.size (Lib.bitLen d.size) true true) os := Any.slices_SortFunc_eq Tryz.laysSlF6_f19 enc h1 cf hO g cb blk off cap d w eg hcmp hH hblk hsz
end Go.Proofs
namespace Go.Proofs.YtmddbohokaijeaaGreatDoor.Pv
open Go Go.Proofs Go.RowKit
def GI : Glob := ⟨1 + 1, fun w => Go.Lib.TabIs Tryz.prog w "internal/strconv.uint64pow10" .u64 Go.Lib.pow10Tab, fun w w' h hk => by
 have hg : Tryz.prog.globalNamed "internal/strconv.uint64pow10" = some 1 := by kernel_rfl
 unfold Go.Lib.TabIs World.var? at hk ⊢
 rw [hg] at hk ⊢
 simp only [Option.bind_some] at hk ⊢
 rw [h 1 (by decide)]
 exact hk⟩

theorem sig53 : sigX 53 = some ⟨[false, false], [(false, [(.str, 0)])], []⟩ := by kernel_rfl
theorem sig39 : sigX 39 = some ⟨[false], [(false, [(.str, 0)])], []⟩ := by kernel_rfl

theorem join_ok (xs : List ByteArray) (sep : ByteArray) (r : List Leaf) (h : joinX xs sep = some r) : FnOk GI Tryz.prog sigX 53 [⟨.row .str, xs⟩, ⟨.str, sep⟩] r := by
 unfold joinX at h
 split at h
 case isFalse => cases h
 rename_i hb
 cases h
 refine fnOk_val (q0 := ([.one (.d (.row .str) xs), .one (.d .str sep)], [], [])) sig53 rfl (fun F hF => ?_) ?_
 ·have hF' : Tryz.prog.funcs[53]? = some Tryz.f53 := Tryz.func53
  rw [hF'] at hF
  cases hF
  have he : enterP Tryz.prog 0 Tryz.f53.params.toList [false, false] [] [⟨.row .str, xs⟩, ⟨.str, sep⟩] = some ([.one (.d (.row .str) xs), .one (.d .str sep)], [], []) := by kernel_rfl
  exact he
 ·intro g pin args hok hS hsz ha
  obtain ⟨v0, h0, t0⟩ := ha 0 _ rfl
  obtain ⟨v1, h1, t1⟩ := ha 1 _ rfl
  have hargs : args = #[v0, v1] := by
   have hsz : args.size = 2 := hsz
   apply Array.ext_getElem?
   intro i
   match i with
   | 0 => rw [h0]; rfl
   | 1 => rw [h1]; rfl
   | i + 2 => rw [Array.getElem?_eq_none (by omega)]; rfl
  have t0 : (K.row .str).isLeaf = true ∧ Sh g.S g.w (.row .str) xs (one v0) := t0 #[]
  have t1 : (K.str).isLeaf = true ∧ Sh g.S g.w .str sep (one v1) := t1 #[]
  obtain ⟨a, len, cap, q1, q2, q3, q4⟩ := t0.2
  have e0 : v0 = .slice a len cap := Option.some.inj q1
  have e1 : v1 = .string sep := Option.some.inj t1.2
  subst q2
  rw [hargs, e0, e1]
  have hfin : Calls Tryz.prog 53 #[.slice a xs.length cap, .string sep] g.w fun e w' => e = .returned (.string ⟨(Go.Lib.join (xs.map (·.data.toList)) sep.data.toList).toArray⟩) ∧ Below g.w.heap.size g.w w' := by
   rcases q4 with rfl | ⟨b, o, rfl, hSb, hc⟩
   ·exact (Tryz.strings_Join_none a cap sep g.w).mono fun e w' ⟨he, hw⟩ => ⟨he, hw ▸ Below.refl _ _⟩
   ·refine Tryz.strings_Join b o cap xs sep g.w (fun j x hj => ?_) (hS b hSb) hb.1 q3 hb.2
    obtain ⟨hj', rfl⟩ := List.getElem?_eq_some_iff.1 hj
    have := hc j hj'
    have this : cel g.w b (o + j * 1 + 0) = some (.string xs[j]) := this
    rw [show o + j * 1 + 0 = o + j by omega] at this
    exact this
  refine hfin.mono fun e w' ⟨he, hw⟩ => ⟨[.string ⟨(Go.Lib.join (xs.map (·.data.toList)) sep.data.toList).toArray⟩], he.trans rfl, hw, rfl, rfl, ?_⟩
  intro j k o l v hj hl hv
  match j with
  | 0 => cases hj; cases hl; cases hv; exact ⟨rfl, rfl, rfl⟩
  | j + 1 => cases hj

theorem itoa_ok (n : Int) (r : List Leaf) (h : itoaX n = some r) : FnOk GI Tryz.prog sigX 39 [⟨.int .i64, n⟩] r := by
 unfold itoaX at h
 split at h
 case isFalse => cases h
 rename_i hb
 cases h
 refine fnOk_val (q0 := ([.one (.d (.int .i64) n)], [], [])) sig39 rfl (fun F hF => ?_) ?_
 ·have hF' : Tryz.prog.funcs[39]? = some Tryz.f39 := Tryz.func39
  rw [hF'] at hF
  cases hF
  have he : enterP Tryz.prog 0 Tryz.f39.params.toList [false] [] [⟨.int .i64, n⟩] = some ([.one (.d (.int .i64) n)], [], []) := by kernel_rfl
  exact he
 ·intro g pin args hok hS hsz ha
  obtain ⟨v0, h0, t0⟩ := ha 0 _ rfl
  have hargs : args = #[v0] := by
   have hsz : args.size = 1 := hsz
   apply Array.ext_getElem?
   intro i
   match i with
   | 0 => rw [h0]; rfl
   | i + 1 => rw [Array.getElem?_eq_none (by omega)]; rfl
  have t0 : (K.int .i64).isLeaf = true ∧ Sh g.S g.w (.int .i64) n (one v0) := t0 #[]
  have e0 : v0 = .int .i64 n := Option.some.inj t0.2
  rw [hargs, e0]
  refine (Tryz.strconv_Itoa n hb.1 hb.2 g.w hok).mono fun e w' ⟨he, k, os, hw⟩ => ⟨[.string ⟨(Go.Lib.itoa n).toArray⟩], he.trans rfl, ?_, rfl, rfl, ?_⟩
  ·rw [hw]
   refine ⟨rfl, rfl, rfl, ?_, fun b hb => ?_⟩
   ·show g.w.heap.size ≤ (g.w.heap ++ os).size
    rw [Array.size_append]; omega
   ·show (g.w.heap ++ os)[b]? = _
    rw [Array.getElem?_append, if_pos hb]
  ·intro j k o l v hj hl hv
   match j with
   | 0 => cases hj; cases hl; cases hv; exact ⟨rfl, rfl, rfl⟩
   | j + 1 => cases hj

theorem ext_ok : ∀ f ls r, L.ext f ls = some (some r) → FnOk GI Tryz.prog sigX f ls r := by
 intro f ls r h
 have h : extX f ls = some (some r) := h
 unfold extX at h
 split at h
 ·rename_i hf
  subst hf
  have h := Option.some.inj h
  split at h
  ·exact join_ok _ _ _ h
  ·cases h
 ·split at h
  ·rename_i hf
   subst hf
   have h := Option.some.inj h
   split at h
   ·exact itoa_ok _ _ h
   ·cases h
  ·cases h
end Go.Proofs.YtmddbohokaijeaaGreatDoor.Pv
namespace Go.Proofs.YtmddbohokaijeaaGreatDoor.Pv
open Go Go.Proofs Go.RowKit Go.Lib Go.Shelf
set_option maxHeartbeats 2000000 in
set_option maxRecDepth 100000 in
theorem liteCut (s sep : ByteArray) (w : World) (hs : s.size < 4294967281) (hI : ∀ w, Calls Tryz.prog 81 #[.string s, .string sep] w fun e w' => e = .returned (.int .i64 (Lib.index s.data.toList sep.data.toList)) ∧ w' = w) : Calls Tryz.prog 66 #[.string s, .string sep] w fun e w' =>
  e = .returned (.tuple #[.string ⟨(Lib.cut s.data.toList sep.data.toList).1.toArray⟩, .string ⟨(Lib.cut s.data.toList sep.data.toList).2.1.toArray⟩, .bool (Lib.cut s.data.toList sep.data.toList).2.2]) ∧ ∃ n, w' = w.drewN n := by
 rcases Lib.indexB_cases s sep with hix | ⟨i, hix, hroom⟩
 ·obtain ⟨e1, e2, e3⟩ := Lib.cutB_miss s sep hix
  rw [e1, e2, e3]
  go_enter Tryz.func66, Tryz.ntmps66
  go_wp2_with (go_at_call 81; refine (hI _).mono ?_; rintro e w' ⟨rfl, rfl⟩; rw [show Lib.index s.data.toList sep.data.toList = _ from hix])
  go_ret3
  exact ⟨rfl, 0, rfl⟩
 ·obtain ⟨e1, e2, e3⟩ := Lib.cutB_hit s sep i hix
  rw [e1, e2, e3]
  have c1 : (0 : Int) ≤ ↑i := by omega
  have c2 : (↑i : Int) ≤ ↑s.size := by omega
  have c3 : (0 : Int) ≤ ↑i + ↑sep.size := by omega
  have c4 : (↑i + ↑sep.size : Int) ≤ ↑s.size := by omega
  have mixed : Tryz.prog.follows .mixedOrders = true := by kernel_rfl
  go_enter Tryz.func66, Tryz.ntmps66
  go_wp2_with (go_at_call 81; refine (hI _).mono ?_; rintro e w' ⟨rfl, rfl⟩; rw [show Lib.index s.data.toList sep.data.toList = _ from hix])
  go_region_o
  go_wp2
  go_ret3
  exact ⟨rfl, 1, rfl⟩

theorem oneCut (s : ByteArray) (w : World) (hs : s.size < 4294967281) : Calls Tryz.prog 43 #[.string s, .string ⟨#[32]⟩] w fun e w' =>
  e = .returned (.tuple #[.string ⟨(Lib.cut s.data.toList [32]).1.toArray⟩, .string ⟨(Lib.cut s.data.toList [32]).2.1.toArray⟩, .bool (Lib.cut s.data.toList [32]).2.2]) ∧ ∃ n, w' = w.drewN n := by
 have hI : ∀ w, Calls Tryz.prog 81 #[.string s, .string ⟨#[32]⟩] w fun e w' => e = .returned (.int .i64 (Lib.index s.data.toList (ByteArray.mk #[32]).data.toList)) ∧ w' = w := fun w =>
  (Tryz.stringslite_Index_one s 32 w).mono fun e w' ⟨he, hw⟩ => ⟨he.trans (by rw [← Lib.index_one]), hw⟩
 have hC := fun w => liteCut s ⟨#[32]⟩ w hs hI
 clear hI
 generalize hsep : (⟨#[32]⟩ : ByteArray) = sep at hC ⊢
 have h32 : ([32] : List UInt8) = sep.data.toList := by rw [← hsep]
 rw [h32]
 generalize Lib.cut s.data.toList sep.data.toList = r at hC ⊢
 go_enter Tryz.func43, Tryz.ntmps43
 go_wp2_with (go_at_call 66; refine (hC _).mono ?_; rintro e w' ⟨rfl, n, rfl⟩)
 go_ret3
 exact ⟨rfl, n, rfl⟩

theorem trim_key (l : List UInt8) : Lib.trimSuffix l [47] = if l.getLast? = some 47 then l.dropLast else l := by
 unfold Lib.trimSuffix Lib.hasSuffix
 rcases List.eq_nil_or_concat l with rfl | ⟨a, b, rfl⟩
 ·rfl
 ·rw [List.concat_eq_append, List.getLast?_concat]
  have h1 : ([47] : List UInt8).isSuffixOf (a ++ [b]) = ((47 : UInt8) == b) := by
   unfold List.isSuffixOf
   simp [List.isPrefixOf]
  rw [h1]
  by_cases hb : b = 47
  ·subst hb
   simp
  ·have h2 : ((47 : UInt8) == b) = false := beq_eq_false_iff_ne.2 fun h => hb h.symm
   rw [h2, if_neg (by decide), if_neg (by simpa using hb)]

theorem pathIn_calls (s : ByteArray) (w : World) (hs : s.size < 4294967281) : Calls Tryz.prog 22 #[.string s] w fun e w' => e = .returned (.string ⟨(pathKey s).toArray⟩) ∧ ∃ n, w' = w.drewN n := by
 have hC := fun w => oneCut s w hs
 have hcl : (Lib.cut s.data.toList [32]).1.length ≤ s.size := by
  unfold Lib.cut
  split
  ·simp only [List.length_take]; exact Nat.min_le_right _ _
  ·exact Nat.le_refl _
 have hk : pathKey s = Lib.trimSuffix (ByteArray.mk (Lib.cut s.data.toList [32]).1.toArray).data.toList (ByteArray.mk #[47]).data.toList := (trim_key _).symm
 have hT := fun w => Tryz.strings_TrimSuffix ⟨(Lib.cut s.data.toList [32]).1.toArray⟩ ⟨#[47]⟩ w (by show (Lib.cut s.data.toList [32]).1.toArray.size ≤ _; rw [List.size_toArray]; omega)
 rw [hk]
 generalize Lib.trimSuffix (ByteArray.mk (Lib.cut s.data.toList [32]).1.toArray).data.toList (ByteArray.mk #[47]).data.toList = t at hT ⊢
 generalize (⟨(Lib.cut s.data.toList [32]).1.toArray⟩ : ByteArray) = p at hC hT
 go_enter Tryz.func22, Tryz.ntmps22
 go_wp2_with (first | (go_at_call 43; refine (hC _).mono ?_; rintro e w' ⟨rfl, n, rfl⟩) | (go_at_call 44; refine (hT _).mono ?_; rintro e w' ⟨rfl, rfl⟩))
 go_ret
 exact ⟨rfl, _, rfl⟩

def keyB (x : Short) : ByteArray := ⟨(pathKey x.1).toArray⟩
theorem cmp_calls (a b : Short) (w : World) : Calls Tryz.prog 20 #[.string a.1, .string b.1] w fun e w' => e = .returned (.int .i64 (cmpS a b)) ∧ ∃ n, w' = w.drewN n := by
 have h1 : ∀ (x : Short) (w : World), Calls Tryz.prog 22 #[.string x.1] w fun e w' => e = .returned (.string (keyB x)) ∧ ∃ n, w' = w.drewN n := fun x w => pathIn_calls x.1 w x.2
 have h3 : ∀ w, Calls Tryz.prog 21 #[.string (keyB a), .string (keyB b)] w fun e w' => e = .returned (.int .i64 (cmpS a b)) ∧ w' = w := fun w => Tryz.strings_Compare (keyB a) (keyB b) w
 generalize cmpS a b = c at h3 ⊢
 go_enter Tryz.func20, Tryz.ntmps20
 go_wp2_with (first | (go_at_call 22; refine (h1 _ _).mono ?_; rintro e w' ⟨rfl, n1, rfl⟩) | (go_at_call 21; refine (h3 _).mono ?_; rintro e w' ⟨rfl, rfl⟩))
 go_ret
 exact ⟨rfl, _, rfl⟩
end Go.Proofs.YtmddbohokaijeaaGreatDoor.Pv
namespace Go.Proofs.YtmddbohokaijeaaGreatDoor.Pv
open Go Go.Proofs Go.RowKit Go.Lib Go.Shelf Go.Sort
set_option maxHeartbeats 2000000 in
theorem ins_none (p : Option Addr) (cap : Nat) (fv : Value) (w : World) : Calls Tryz.prog 55 #[.slice p 0 cap, .int .i64 0, .int .i64 0, fv] w fun e w' => e = .returned (.tuple #[]) ∧ w' = w := by
 go_enter Tryz.func55, Tryz.ntmps55
 go_wp2
 refine wp_loop_rounds 1 ?_
 rw [rounds_succ]
 go_wp2
 go_end0
 exact ⟨rfl, rfl⟩

set_option maxHeartbeats 2000000 in
theorem pdq_none (p : Option Addr) (cap : Nat) (lim : Int) (fv : Value) (w : World) : Calls Tryz.prog 40 #[.slice p 0 cap, .int .i64 0, .int .i64 0, .int .i64 lim, fv] w fun e w' => e = .returned (.tuple #[]) ∧ w' = w := by
 go_enter Tryz.func40, Tryz.ntmps40
 go_wp2
 refine wp_loop_rounds 1 ?_
 rw [rounds_succ]
 go_wp2_with (go_at_call 55; refine (ins_none p cap fv _).mono ?_; rintro e w' ⟨rfl, rfl⟩)
 (try simp only [Exit.inBlock, Exit.then]); refine bodyPost_ret (results_none rfl _ _ _) rfl ?_
 exact ⟨rfl, rfl⟩

set_option maxHeartbeats 2000000 in
theorem sort_none (p : Option Addr) (cap : Nat) (fv : Value) (w : World) : Calls Tryz.prog 19 #[.slice p 0 cap, fv] w fun e w' => e = .returned (.tuple #[]) ∧ w' = w := by
 have hl : ∀ W, Calls Tryz.prog 41 #[.int .u64 0] W fun e w' => e = .returned (.int .i64 (Lib.bitLen 0 : Nat)) ∧ w' = W := fun W => Tryz.bits_Len 0 W (by omega) (by omega)
 go_enter Tryz.func19, Tryz.ntmps19
 go_wp2_with (first | (go_at_call 41; refine (hl _).mono ?_; rintro e w' ⟨rfl, rfl⟩) | (go_at_call 40; refine (pdq_none p cap _ fv _).mono ?_; rintro e w' ⟨rfl, rfl⟩))
 go_end0
 exact ⟨rfl, rfl⟩

def encS (x : Short) : Value := .string x.1

theorem sort_ok (ls : List Leaf) (e : K) (xs ys : List e.ty) (h : sortI 19 ls e xs = some ys) : InpOk GI Tryz.prog 19 ls e xs ys := by
 unfold sortI at h
 split at h
 case h_2 => cases h
 rename_i xs
 split at h
 case h_2 => cases h
 rename_i g x
 split at h
 case isFalse => cases h
 rename_i hg
 obtain ⟨_, rfl⟩ := hg
 intro F q hF hq G pin a cap args hok hS hrow hsz ha
 have hF' : Tryz.prog.funcs[19]? = some Tryz.f19 := Tryz.func19
 rw [hF'] at hF
 cases hF
 have he : enterP Tryz.prog 1 Tryz.f19.params.toList.tail [] [] [⟨.clo 20 .unit, x⟩] = some ([.one (.d (.clo 20 .unit) x)], [], []) := by kernel_rfl
 have hq := he.symm.trans hq
 cases hq
 obtain ⟨v0, h0, t0⟩ := ha 0 _ rfl
 have hargs : args = #[v0] := by
  have hsz : args.size = 1 := hsz
  apply Array.ext_getElem?
  intro i
  match i with
  | 0 => rw [h0]; rfl
  | i + 1 => rw [Array.getElem?_eq_none (by omega)]; rfl
 have t0 : (K.clo 20 .unit).isLeaf = true ∧ Sh G.S G.w (.clo 20 .unit) x (one v0) := t0 #[]
 obtain ⟨caps, q1, q2, _⟩ := t0.2
 have hcaps : caps = #[] := Array.eq_empty_of_size_eq_zero q2
 subst hcaps
 have e0 : v0 = .func (.func 20) #[] #[] := Option.some.inj q1
 rw [hargs, e0]
 show Calls Tryz.prog 19 #[.slice a xs.length cap, .func (.func 20) #[] #[]] G.w _
 unfold sortX at h
 split at h
 case isFalse => cases h
 rename_i hb
 cases h
 have hm := map_toShort xs hb.1
 have hml : (xs.map toShort).length = xs.length := List.length_map _
 by_cases hx : xs = []
 ·subst hx
  refine (sort_none a cap _ G.w).mono fun e w' ⟨he, hw⟩ => ⟨he, ?_⟩
  rw [hw]
  have hp := Go.Sort.pdq_sorts (ltOf cmpS) swo_line (([] : List ByteArray).map toShort).toArray 0 0 (Lib.bitLen 0) true true (Nat.zero_le _) (by simp) (Or.inl rfl)
  refine ⟨?_, Like.refl _, Nat.le_refl _, fun _ _ _ => rfl, fun _ _ _ h => absurd rfl h⟩
  rw [List.length_map, Array.length_toList]
  exact hp.1.1
 ·rcases hrow with ⟨_, hr⟩ | ⟨b, off, cs, t, fr, rfl, hlen, hnS, hcs, hfz, hoff, hcell⟩
  ·exact absurd hr hx
  ·generalize hZ : xs.map toShort = Z at *
   have hd : Z.toArray.size = xs.length := by rw [← hml]; simp
   have hget : ∀ j (h : j < xs.length), (Z.toArray[j]!).1 = xs[j] := by
    intro j hj
    have hjz : j < Z.length := by omega
    rw [getElem!_pos Z.toArray j (by simpa using hjz)]
    have hm' : Z.map (fun s : Short => s.1) = xs := hm
    have := List.getElem_of_eq hm'.symm hj
    rw [this, List.getElem_map]
    simp
   have hH : Holds encS G.w b off Z.toArray := by
    intro j hj
    rw [hd] at hj
    constructor
    ·unfold World.cell?
     rw [hcs]
     show cs[off + j]? = some (encS Z.toArray[j]!)
     unfold encS
     rw [hcell j hj, hget j hj]
     rfl
    ·unfold World.frozen?
     rw [hcs]
     have := hfz (off + j) (by omega)
     show (decide (fr.1 ≤ off + j) && decide (off + j < fr.2)) = false
     by_cases h1 : fr.1 ≤ off + j
     ·rw [decide_eq_false (fun h2 => this ⟨h1, h2⟩), Bool.and_false]
     ·rw [decide_eq_false h1, Bool.false_and]
   have hblk : b < G.w.heap.size := by
    rcases Nat.lt_or_ge b G.w.heap.size with h' | h'
    ·exact h'
    ·rw [Array.getElem?_eq_none h'] at hcs; cases hcs
   have hcmp : CmpLays1 Tryz.prog 20 #[] encS cmpS b off Z.toArray.size G.w := by
    intro m os dk _ x y
    refine Calls.mono (cmp_calls x y _) fun e w' ⟨he, n, hw⟩ => ⟨he, n, #[], ?_⟩
    rw [hw, grow_empty]
   have eg : ∀ args w, (callFunc 20 args).run Tryz.prog w = .ok (.enter 20 args) w := enters_of Tryz.func20 (by kernel_rfl) rfl
   have hC := Tryz.slices_SortFunc_eq encS (fun _ => rfl) cmpS swo_line 20 #[] b off cap Z.toArray G.w eg hcmp hH hblk (by rw [hd]; exact hb.2)
   have hp := Go.Sort.pdq_sorts (ltOf cmpS) swo_line Z.toArray 0 xs.length (Lib.bitLen xs.length) true true (Nat.zero_le _) (by omega) (Or.inl rfl)
   rw [hd] at hC
   refine hC.mono fun e w' ⟨he, n, os, hw⟩ => ⟨he, ?_⟩
   generalize hQ : Go.Sort.pdq (ltOf cmpS) Z.toArray 0 xs.length (Lib.bitLen xs.length) true true = Q at *
   have hQs : Q.size = xs.length := by rw [hp.1.1, hd]
   subst hw
   refine ⟨?_, ⟨rfl, rfl, rfl⟩, ?_, ?_, ?_⟩
   ·rw [List.length_map, Array.length_toList, hQs]
   ·show G.w.heap.size ≤ ((G.w.heap.modify b _) ++ os).size
    rw [Array.size_append, Array.size_modify]; omega
   ·intro b' hb' hne
    have hbb : b ≠ b' := fun h => hx (hne off (by rw [h]))
    show ((G.w.heap.modify b _) ++ os)[b']? = _
    rw [Array.getElem?_append_left (by rw [Array.size_modify]; exact hb'), Array.getElem?_modify, if_neg hbb]
   ·intro b' off' ha _
    cases ha
    refine ⟨cs, putCells encS off Q cs, t, fr, hcs, ?_, ?_, ?_⟩
    ·show ((G.w.heap.modify b _) ++ os)[b]? = _
     rw [Array.getElem?_append_left (by rw [Array.size_modify]; exact hblk), Array.getElem?_modify, if_pos rfl, hcs]
     rfl
    ·unfold putCells; rw [Array.size_mapIdx]
    ·intro i hi
     have hi' : i < Q.size := by rw [List.length_map, Array.length_toList] at hi; exact hi
     unfold putCells
     rw [Array.getElem?_mapIdx, Array.getElem?_eq_getElem (by omega)]
     simp only [Option.map_some]
     rw [if_pos (by omega), show off + i - off = i by omega, getElem!_pos Q i hi']
     unfold encS
     simp only [List.getElem_map, Array.getElem_toList]
     rfl

theorem inp_ok : ∀ (fn : Nat) (ip : List Leaf → (e : K) → List e.ty → Option (List e.ty)) (ls : List Leaf) (e : K) (xs ys : List e.ty), L.inp fn = some ip → ip ls e xs = some ys → InpOk GI L.P fn ls e xs ys := by
 intro fn ip ls e xs ys h1 h2
 have h1 : (if fn = 19 then some (sortI fn) else none) = some ip := h1
 split at h1
 ·rename_i hf
  subst hf
  cases h1
  exact sort_ok ls e xs ys h2
 ·cases h1

theorem law_ok (ns : List kInode.ty) (nx : Int) (hw : Wide ns) : FnOk GI Tryz.prog sigX 3 [⟨.row kInode, ns⟩, ⟨ki, nx⟩] [⟨.bool, true⟩] := by
 obtain ⟨n, hn⟩ := law_true ns nx hw
 exact pcall_ok L (by kernel_rfl) ext_ok inp_ok n _ _ _ hn
end Go.Proofs.YtmddbohokaijeaaGreatDoor.Pv
namespace Go.Proofs.YtmddbohokaijeaaGreatDoor.Pv
open Go Go.RowKit Go.Proofs.YtmddbohokaijeaaGreatDoorW.PrintWords
abbrev inW (w : World) (b : Nat) : Prop := b < w.heap.size

structure Br {α : Type} (d : Kd α) (k : K) (f : α → k.ty) : Prop where
 sz : d.sz = k.width
 sh : ∀ (w : World) (x : α) (cs : List Value), d.K w x cs → Sh (inW w) w k (f x) (fun j => cs[j]?)

theorem br_int (k : IntKind) : Br (Kd.int k) (.int k) (fun n => n) := ⟨rfl, fun w x cs h => by cases h; rfl⟩
theorem br_bool : Br Kd.bool .bool (fun n => n) := ⟨rfl, fun w x cs h => by cases h; rfl⟩
theorem br_str : Br Kd.string .str (fun n => n) := ⟨rfl, fun w x cs h => by cases h; rfl⟩
theorem br_pair {α β : Type} {a : Kd α} {b : Kd β} {ka kb : K} {f : α → ka.ty} {g : β → kb.ty} (ha : Br a ka f) (hb : Br b kb g) : Br (Kd.pair a b) (.pair ka kb) (fun x => (f x.1, g x.2)) := by
 refine ⟨by show a.sz + b.sz = ka.width + kb.width; rw [ha.sz, hb.sz], ?_⟩
 rintro w x cs ⟨c0, c1, rfl, h0, h1⟩
 have l0 := (a.K_len h0).trans ha.sz
 refine ⟨Sh.congr ka _ _ _ (fun j hj => ?_) (ha.sh w _ _ h0), Sh.congr kb _ _ _ (fun j _ => ?_) (hb.sh w _ _ h1)⟩
 ·show (c0 ++ c1)[j]? = c0[j]?
  rw [List.getElem?_append_left (by omega)]
 ·show (c0 ++ c1)[ka.width + j]? = c1[j]?
  rw [List.getElem?_append_right (by omega)]
  congr 1
  omega
theorem br_last {α : Type} {a : Kd α} {ka : K} {f : α → ka.ty} (ha : Br a ka f) : Br a (.pair ka .unit) (fun x => (f x, ())) :=
 ⟨ha.sz, fun w x cs h => ⟨ha.sh w x cs h, trivial⟩⟩
theorem br_iso {α β : Type} {d : Kd α} {k : K} {f : α → k.ty} (h : Br d k f) (g : β → α) : Br (Kd.iso d g) k (fun x => f (g x)) := ⟨h.sz, fun w x cs hk => h.sh w (g x) cs hk⟩

theorem row_sh {α : Type} {d : Kd α} {k : K} {f : α → k.ty} (h : Br d k f) (hk : 0 < k.width) (w : World) (A : Option Addr) (xs : List α) (c : Nat) (hl : xs.length ≤ c) (hC : d.C w A xs.length xs) : Sh (inW w) w (.row k) (xs.map f) (one (.slice A xs.length c)) := by
 refine ⟨A, xs.length, c, rfl, List.length_map _, hl, ?_⟩
 by_cases hx : xs = []
 ·left; rw [hx]; rfl
 ·right
  have hpos : 0 < xs.length := List.length_pos_iff.2 hx
  obtain ⟨_, _, h3⟩ := hC
  obtain ⟨ad, rfl, hc⟩ := h3 hpos
  obtain ⟨c0, hs0, _, hcell0⟩ := hc 0 _ (List.getElem?_eq_getElem hpos)
  have hc0 : 0 < c0.length := by rw [hs0, h.sz]; exact hk
  have h0 := hcell0 0 _ (List.getElem?_eq_getElem hc0)
  obtain ⟨b, o, sp⟩ := ad
  have hsp : sp = none := by
   cases sp with
   | none => rfl
   | some z =>
    exfalso
    rw [show (0 * d.sz + 0 : Nat) = 0 by omega] at h0
    unfold Addr.add World.cell? at h0
    simp only [if_true, Option.isSome_some] at h0
    split at h0 <;> cases h0
  subst hsp
  have hadd : ∀ n, Addr.add ⟨b, o, none⟩ n = ⟨b, o + n, none⟩ := fun n => by
   unfold Addr.add
   split
   ·rename_i hn; subst hn; rfl
   ·rfl
  refine ⟨b, o, rfl, ?_, fun i hi => ?_⟩
  ·have := World.block_lt_of_cell? w _ h0
   rw [hadd] at this
   exact this
  ·have hi' : i < xs.length := by rw [List.length_map] at hi; exact hi
   obtain ⟨ci, hsi, hKi, hcelli⟩ := hc i _ (List.getElem?_eq_getElem hi')
   rw [List.getElem_map]
   refine Sh.congr k _ _ _ (fun j hj => ?_) (h.sh w _ _ hKi)
   have hj' : j < ci.length := by rw [hsi, h.sz]; exact hj
   have := hcelli j _ (List.getElem?_eq_getElem hj')
   rw [hadd, h.sz] at this
   show w.cell? _ = ci[j]?
   rw [List.getElem?_eq_getElem hj', ← this, Nat.add_assoc]

theorem br_row {α : Type} {d : Kd α} {k : K} {f : α → k.ty} (h : Br d k f) (hk : 0 < k.width) (e : Nat) : Br (Kd.slice e d) (.row k) (List.map f) := by
 refine ⟨rfl, ?_⟩
 rintro w xs cs ⟨A, c, rfl, hl, hC⟩
 refine Sh.congr (.row k) _ _ _ (fun j hj => ?_) (row_sh h hk w A xs c hl hC)
 have hj : j < 1 := hj
 rw [show j = 0 by omega]
 rfl
end Go.Proofs.YtmddbohokaijeaaGreatDoor.Pv
namespace Go.Proofs.YtmddbohokaijeaaGreatDoor.Pv
open Go Go.RowKit Go.Proofs.YtmddbohokaijeaaGreatDoorW.PrintWords Go.Proofs.YtmddbohokaijeaaGreatDoor.Pr Go.Proofs.YtmddbohokaijeaaGreatDoor.SFnExactShowTree
def toP (x : S92) : kPiece.ty := (x.f0, x.f1, ())
def toN (x : S51) : kInode.ty := (x.f0, x.f1, x.f2, x.f3, x.f4, x.f5, x.f6, x.f7.map toP, x.f8, ())
theorem brP : Br k92 kPiece toP := br_iso (br_pair (br_int .i64) (br_last (br_int .i64))) _
theorem brN : Br k51 kInode toN :=
 br_iso (br_pair (br_int .i64) (br_pair (br_int .i64) (br_pair br_str (br_pair br_bool (br_pair (br_int .i64) (br_pair (br_int .i64) (br_pair (br_int .i64) (br_pair (br_row brP (by decide) 92) (br_last (br_int .i64)))))))))) _

theorem sig3 : sigX 3 = some ⟨[false], [(false, [(.bool, 0)])], []⟩ := by kernel_rfl

theorem direct : Go.Proofs.YtmddbohokaijeaaGreatDoor.SFnExactShowTree.Direct := by
 intro x0 A c w hC hc hwf htab
 have hw : Wide (x0.f0.map toN) := by
  obtain ⟨⟨h1, h2⟩, _⟩ := hwf
  unfold maxLen at h1
  refine ⟨by rw [List.length_map]; omega, fun y hy => ?_⟩
  obtain ⟨z, hz, rfl⟩ := List.mem_map.1 hy
  obtain ⟨_, _, h3, _, _, _, _, ⟨h4, _⟩, _⟩ := h2 z hz
  unfold maxLen at h3 h4
  refine ⟨?_, ?_⟩
  ·show z.f2.size < _; omega
  ·show (z.f7.map toP).length < _
   rw [List.length_map]; omega
 have hq : enterP Tryz.prog 0 Tryz.f3.params.toList [false] [] [⟨.row kInode, x0.f0.map toN⟩, ⟨ki, x0.f1⟩] = some ([.agg [.d (.row kInode) (x0.f0.map toN), .d ki x0.f1]], [], []) := by kernel_rfl
 have hn : GI.n ≤ w.heap.size := by
  have hg : Tryz.prog.globalNamed "internal/strconv.uint64pow10" = some 1 := by kernel_rfl
  have h := htab
  unfold Go.Lib.TabIs World.var? at h
  rw [hg] at h
  simp only [Option.bind_some] at h
  rcases Nat.lt_or_ge 1 w.heap.size with h' | h'
  ·exact h'
  ·rw [Array.getElem?_eq_none h'] at h; cases h
 refine law_call (law_ok (x0.f0.map toN) x0.f1 hw) sig3 Tryz.func3 hq rfl rfl rfl htab hn rfl ?_
 intro i tv hi
 match i with
 | 0 =>
  cases hi
  refine ⟨_, rfl, fun _ => ⟨_, rfl, rfl, fun j l hj => ?_⟩⟩
  match j with
  | 0 =>
   cases hj
   exact ⟨_, rfl, rfl, Sh.mono (fun b hb => ⟨hb, rfl, .inl trivial⟩) (fun _ _ _ => rfl) _ _ _ (row_sh brN (by decide) w A x0.f0 c hc hC)⟩
  | 1 => cases hj; exact ⟨_, rfl, rfl, rfl⟩
  | j + 2 => cases hj
 | i + 1 => cases hi
end Go.Proofs.YtmddbohokaijeaaGreatDoor.Pv
namespace Go.Proofs.YtmddbohokaijeaaGreatDoor.Pure
theorem FnExactShowTree : Go.Proofs.YtmddbohokaijeaaGreatDoor.SFnExactShowTree.Direct := Go.Proofs.YtmddbohokaijeaaGreatDoor.Pv.direct

end Go.Proofs.YtmddbohokaijeaaGreatDoor.Pure
