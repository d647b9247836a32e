/- A part of the proof of the law FnExactReadGroup: its texts, one behind the other. -/
import Derived.Deep.LoopGhost
import Derived.Lib.LazyBuf
import Derived.Shelf.Abstract
import Derived.WalkLawsBesides
import Derived.Test.YtahimindlnkmoaaBFnExactReadGroup1
import Derived.Test.YtahimindlnkmoaaBFnExactReadGroup2
import Derived.Test.YtahimindlnkmoaaBFnExactReadGroup3
namespace Go.Proofs.Ytahimindlnkmoaa.Pr
open Go.RowKit Go.Proofs.YtahimindlnkmoaaW.PrintWords Go.Proofs.YtahimindlnkmoaaW.PrintLast Go.Proofs.YtahimindlnkmoaaW.PrintMore
set_option linter.unusedVariables false
set_option linter.unusedSimpArgs false
open Go.Lib Go.Shelf
def spec_MulText.f (k : Nat) (a0 : Int) (a1 : ByteArray) : Option ByteArray := if a1.size ≤ 1048576 ∧ ∀ j, j < a1.size → (spec_MulG.f k a0 (btN a1 j)).isSome = true then some (strOfNums ((List.range a1.size).map fun j => ((spec_MulG.f k a0 (btN a1 j)).getD 0) % 256)) else none
set_option maxHeartbeats 8000000 in
set_option maxRecDepth 100000 in
theorem spec_MulText.calls (k : Nat) (a0 : Int) (a1 : ByteArray) (r : ByteArray) (w : World) (h : spec_MulText.f k a0 a1 = some r) :
    Calls Try.prog 46 #[.int .i64 a0, .string a1] w fun e w' => e = .returned (.string r) ∧ Below w.heap.size w w' := by
  unfold spec_MulText.f at h
  by_cases hz : a1.size ≤ 1048576 ∧ ∀ j, j < a1.size → (spec_MulG.f k a0 (btN a1 j)).isSome = true
  case neg => rw [if_neg hz] at h; cases h
  rw [if_pos hz] at h
  obtain ⟨hz1, hsome⟩ := hz
  have HS := Aside0.mk hsome
  have HR := Aside0.mk (Option.some.inj h)
  clear h hsome
  have mixed : Try.prog.follows .mixedOrders = true := by kernel_rfl
  have u58 := Try.underlying58
  have hcv := Lib.run_convert_string_bytes (P := Try.prog) w 9 58 5 a1 Try.underlying9 Try.underlying58 Try.underlying5
  have HB0 := Aside0.mk (below_bytes w 5 a1)
  have HU0 := Aside0.mk (Buf.new w 5 a1)
  have hbz := bytesWorld_size w 5 a1
  generalize bytesWorld w 5 a1 = W1 at hcv HB0 HU0 hbz
  generalize grownCap w a1.size 0 5 = cp at hcv
  go_enter Try.func46, Try.ntmps46
  go_wp2
  clear hcv
  obtain ⟨bb, hbb⟩ : ∃ q, q = w.heap.size := ⟨_, rfl⟩
  have GE : Aside0 (w.heap.size ≤ bb) := ⟨by omega⟩
  rw [← hbb] at HU0
  (try rw [← hbb])
  clear hbb hbz
  have HU1 : Aside0 (Buf W1 bb a1.size (fun j => if j < 0 then ((spec_MulG.f k a0 (btN a1 j)).getD 0) % 256 else btN a1 j)) := ⟨fun j hj => by
    show _ = some (Value.int .u8 (if j < 0 then ((spec_MulG.f k a0 (btN a1 j)).getD 0) % 256 else btN a1 j)) ∧ _
    rw [if_neg (Nat.not_lt_zero _)]
    exact HU0.out j hj⟩
  clear HU0
  go_loopg [6] a1.size (fun gg s6 wr => ∃ i : Nat, s6 = .int .i64 i ∧ i ≤ a1.size ∧ a1.size - i ≤ gg ∧ Aside0 (Buf wr bb a1.size (fun j => if j < i then ((spec_MulG.f k a0 (btN a1 j)).getD 0) % 256 else btN a1 j)) ∧ Aside0 (Below w.heap.size w wr))
  case atStart => exact ⟨0, rfl, Nat.zero_le _, Nat.sub_le _ _, HU1, HB0⟩
  case round =>
    clear HU1 HB0
    obtain ⟨i, rfl, hin, hgg, HU, HB⟩ := hrel
    by_cases hlt : i < a1.size
    · have hltz : (i : Int) < (a1.size : Int) := by omega
      obtain ⟨hc, hf⟩ := HU.out i (by omega)
      replace hc : wr.cell? ⟨bb, i, none⟩ = some (.int .u8 (if i < i then ((spec_MulG.f k a0 (btN a1 i)).getD 0) % 256 else btN a1 i)) := hc
      rw [if_neg (Nat.lt_irrefl _)] at hc
      obtain ⟨y, hy⟩ := Option.isSome_iff_exists.1 (HS.out i hlt)
      have hv0 := btN_lo a1 i
      have hv1 := btN_hi a1 i
      have HYi : Aside0 (((spec_MulG.f k a0 (btN a1 i)).getD 0) % 256 = y % 256) := ⟨by rw [hy]; rfl⟩
      obtain ⟨v, hv⟩ : ∃ v, v = btN a1 i := ⟨_, rfl⟩
      rw [← hv] at hc hy hv0 hv1
      have HY := Aside0.mk hy
      clear hy hv
      have HU2 : ∀ nd, Aside0 (Buf ((wr.drewN nd).setCell ⟨bb, i, none⟩ (.int .u8 (y % 256))) bb a1.size (fun j => if j < i + 1 then ((spec_MulG.f k a0 (btN a1 j)).getD 0) % 256 else btN a1 j)) := fun nd => ⟨Buf.set (show Buf (wr.drewN nd) bb a1.size _ from HU.out) i _ _ (by
        show (if i < i + 1 then ((spec_MulG.f k a0 (btN a1 i)).getD 0) % 256 else btN a1 i) = _
        rw [if_pos (Nat.lt_succ_self _), HYi.out]) (fun j hj => by
        show (if j < i + 1 then ((spec_MulG.f k a0 (btN a1 j)).getD 0) % 256 else btN a1 j) = (if j < i then ((spec_MulG.f k a0 (btN a1 j)).getD 0) % 256 else btN a1 j)
        by_cases h1 : j < i
        · rw [if_pos h1, if_pos (by omega)]
        · rw [if_neg h1, if_neg (by omega)])⟩
      have HB2 : ∀ nd, Aside0 (Below w.heap.size w ((wr.drewN nd).setCell ⟨bb, i, none⟩ (.int .u8 (y % 256)))) := fun nd => ⟨Below.setCell (pw_below_drewN HB.out nd) (p := ⟨bb, i, none⟩) GE.out _⟩
      have HU3 := Aside0.mk HU2
      have HB3 := Aside0.mk HB2
      clear HU2 HB2 HU HB HYi
      go_wp2_with fail
      refine (spec_MulG.calls k a0 v y _ HY.out).mono ?_
      rintro e w3 ⟨rfl, ⟨nd, rfl⟩⟩
      have hc3 : (wr.drewN nd).cell? ⟨bb, i, none⟩ = some (.int .u8 v) := hc
      have hf3 : (wr.drewN nd).frozen? ⟨bb, i, none⟩ = false := hf
      have HU4 := HU3.out nd
      have HB4 := HB3.out nd
      clear HU3 HB3 hc hf
      generalize wr.drewN nd = w4 at hc3 hf3 HU4 HB4 ⊢
      go_wp2
      go_roundg (a1.size - (i + 1))
      case measure => omega
      case rel => exact ⟨i + 1, by go_num, hlt, Nat.le_refl _, HU4, HB4⟩
    · have hltz : ¬ (i : Int) < (a1.size : Int) := by omega
      obtain rfl : i = a1.size := by omega
      have hcv2 := HU.out.conv 58 5 Try.underlying58 Try.underlying5 cp 9 Try.underlying9
      have e : strOfNums ((List.range a1.size).map fun j => if j < a1.size then ((spec_MulG.f k a0 (btN a1 j)).getD 0) % 256 else btN a1 j) = r := by
        rw [← HR.out]
        congr 1
        refine List.map_congr_left fun j hj => ?_
        rw [if_pos (List.mem_range.1 hj)]
      rw [e] at hcv2
      clear e
      go_wp2
      go_ret
      exact ⟨rfl, HB.out⟩
end Go.Proofs.Ytahimindlnkmoaa.Pr

namespace Go.Proofs.Ytahimindlnkmoaa.Pr
open Go.RowKit Go.Proofs.YtahimindlnkmoaaW.PrintWords Go.Proofs.YtahimindlnkmoaaW.PrintLast Go.Proofs.YtahimindlnkmoaaW.PrintMore
attribute [local go_sem] max2_int min2_int max_two min_two max_three min_three max_four min_four
set_option linter.unusedVariables false
set_option linter.unusedSimpArgs false
mutual
def spec_ApplyM.j0 : Nat → List (List Int) → List ByteArray → List ByteArray → Bool → Option (List ByteArray)
 | 0, _, _, _, _ => none
 | k + 1, x0, x1, x5, x21 => if x21 = true then (some x5) else (spec_ApplyM.l0 k x0 x1 x5 0)
def spec_ApplyM.l0 : Nat → List (List Int) → List ByteArray → List ByteArray → Int → Option (List ByteArray)
 | 0, _, _, _, _ => none
 | k + 1, x0, x1, x5, x6 => if x6 < (x0.length : Int) then (spec_ApplyM.l1 k x0 x1 x5 x6 (⟨#[]⟩ : ByteArray) 0) else (some x5)
def spec_ApplyM.l1 : Nat → List (List Int) → List ByteArray → List ByteArray → Int → ByteArray → Int → Option (List ByteArray)
 | 0, _, _, _, _, _, _ => none
 | k + 1, x0, x1, x5, x6, x7, x8 => if x8 < (x1.length : Int) then (if 0 ≤ x6 then (if x6 < (x0.length : Int) then (if 0 ≤ x8 then (if x8 < ((rd_L9 x0 x6).length : Int) then ((spec_MulText.f k (rd (rd_L9 x0 x6) x8) (rdOf ByteArray.empty x1 x8)).bind fun t270 => ((spec_AddText.f x7 t270).bind fun t271 => (spec_ApplyM.l1 k x0 x1 x5 x6 t271 (wrap64 (x8 + 1))))) else (none)) else (none)) else (none)) else (none)) else (if x5.length < 8796093022208 then (spec_ApplyM.l0 k x0 x1 (x5 ++ [x7]) (wrap64 (x6 + 1))) else (none))
end
def spec_ApplyM.f (k : Nat) (l0 : List (List Int)) (l1 : List ByteArray) : Option (List ByteArray) := (some (([] : List ByteArray) : List ByteArray)).bind fun y262 => ((spec_MatrixOk.f k l0).bind fun t265 => (if t265 = true then (if 0 < (l0.length : Int) then (spec_ApplyM.j0 k l0 l1 y262 (((rd_L9 l0 0).length : Int) != (l1.length : Int))) else (none)) else (spec_ApplyM.j0 k l0 l1 y262 true)))
def spec_ApplyM.T11 : Bool × List (List Nat × List Nat) := (true, [([], []), ([], []), ([], []), ([1, 2], [1, 2]), ([3], [3]), ([], []), ([4, 5], [4, 5]), ([6], [6]), ([], []), ([], []), ([8, 9], [8, 9]), ([10], [10]), ([7, 11], [7, 11]), ([0, 12, 12], [0, 12]), ([13, 13, 0, 1, 2, 3, 4, 5, 6, 7, 8, 9, 10, 11, 12, 13], [0, 13])])
def spec_ApplyM.B11 : List Nat := [0, 0, 0, 6, 14, 0, 62, 126, 0, 0, 768, 1792, 4094, 8191, 16383]
theorem spec_ApplyM.tab11 : rtab .any (opsOf Try.f23 11) = spec_ApplyM.T11 := by kernel_rfl
theorem spec_ApplyM.bits11 : waitsOk spec_ApplyM.T11.2 spec_ApplyM.B11 = true := by kernel_rfl
set_option maxHeartbeats 8000000 in
set_option maxRecDepth 100000 in
theorem spec_ApplyM.calls (k : Nat) (A0 : Option Addr) (c0 : Nat) (l0 : List (List Int)) (A1 : Option Addr) (c1 : Nat) (l1 : List ByteArray) (r : List ByteArray) (w : World) (hr0 : Kd.C (Kd.slice 3 (Kd.int .i64)) w A0 l0.length l0) (hc0 : l0.length ≤ c0) (hr1 : Kd.C Kd.string w A1 l1.length l1) (hc1 : l1.length ≤ c1) (h : spec_ApplyM.f k l0 l1 = some r) :
  Calls Try.prog 23 #[.slice A0 l0.length c0, .slice A1 l1.length c1] w fun e w' => ∃ v0_ : Value, e = .returned (v0_) ∧ Kd.R Kd.string 9 w' w.heap.size (fun _ => True) v0_ r ∧ Below w.heap.size w w' := by
 have HR0 := Aside0.mk hr0
 have HC0 := Aside0.mk hc0
 clear hr0 hc0
 have HR1 := Aside0.mk hr1
 have HC1 := Aside0.mk hc1
 clear hr1 hc1
 have HB := Aside0.mk (Below.refl w.heap.size w)
 have H : ((some (([] : List ByteArray) : List ByteArray)).bind fun y262 => ((spec_MatrixOk.f k l0).bind fun t265 => (if t265 = true then (if 0 < (l0.length : Int) then (spec_ApplyM.j0 k l0 l1 y262 (((rd_L9 l0 0).length : Int) != (l1.length : Int))) else (none)) else (spec_ApplyM.j0 k l0 l1 y262 true)))) = some r := h
 clear h
 obtain ⟨y262, hy262⟩ : ∃ y_ : List ByteArray, y_ = (([] : List ByteArray)) := ⟨_, rfl⟩
 replace H : ((spec_MatrixOk.f k l0).bind fun t265 => (if t265 = true then (if 0 < (l0.length : Int) then (spec_ApplyM.j0 k l0 l1 y262 (((rd_L9 l0 0).length : Int) != (l1.length : Int))) else (none)) else (spec_ApplyM.j0 k l0 l1 y262 true))) = some r := by first | (rw [hy262]; with_reducible exact H) | (have H2_ := (Option.bind_some _ _).symm.trans H; rw [hy262]; with_reducible exact H2_) | (have H2_ := (Option.bind_some _ _).symm.trans H; with_reducible exact H2_) | with_reducible exact H | (rw [hy262]; exact H) | exact H
 have Ny262 := Aside0.mk hy262
 clear hy262
 have HC3 := Aside0.mk H
 clear H
 go_enter Try.func23, Try.ntmps23
 go_upto_region 2 with (first | ((with_reducible refine gate_dst (N := 9) rfl ?_); (try (refine gate_guard (by rfl) ?_; dsimp only)); refine Kd.R_lit Kd.string _ 9 ?hg (N := 9) ?hd (xs := ([] : List ByteArray)) (inner := []) (ok := fun _ => True) (okp := fun _ => True) ?hr ?hp (fun _ hk => hk) trivial (Below.refl _ _) (Nat.le_refl _) (by simp) ?_; (case hd => rfl); (case hg => rfl); (case hr => first | (go_simp; done) | (go_simp; rfl)); (case hp => exact (Reps.none _ _)); intro v263 w4 ho5 hb hg_ hnew_; clear hg_ hnew_; (first | rw [← Ny262.out] at ho5 | (simp only [Int.reduceToNat] at ho5; rw [← Ny262.out] at ho5)); have HO264 := Aside0.mk (Kd.R_lower ho5 (below_size (BB HB.out))); replace HB := Aside0.mk (below_step (BB HB.out) hb); clear hb ho5))
 (try simp only [Act.put, List.setIfInBounds_toArray, List.set_cons_zero, List.set_cons_succ])
 go_cut [21] (fun v21 wc => ∃ (kq : Nat) (x21_2 : Bool), v21 = .bool x21_2 ∧ Aside0 (spec_ApplyM.j0 kq l0 l1 y262 x21_2 = some r) ∧ Aside0 (kq ≤ k) ∧ Aside0 (Kd.R Kd.string 9 wc w.heap.size (fun _ => True) v263 y262) ∧ Aside0 (Below w.heap.size w wc))
 case first =>
  have H := HC3.out
  clear HC3
  replace H := Option.bind_eq_some_iff.mp H
  obtain ⟨t265, A60, H⟩ := H
  replace H : (if t265 = true then (if 0 < (l0.length : Int) then (spec_ApplyM.j0 k l0 l1 y262 (((rd_L9 l0 0).length : Int) != (l1.length : Int))) else (none)) else (spec_ApplyM.j0 k l0 l1 y262 true)) = some r := H
  have A6 := Aside0.mk A60
  clear A60
  by_cases c7 : t265 = true
  ·subst c7
   have H1 : (if 0 < (l0.length : Int) then (spec_ApplyM.j0 k l0 l1 y262 (((rd_L9 l0 0).length : Int) != (l1.length : Int))) else (none)) = some r := by rw [if_pos rfl] at H; exact H
   clear H
   have H := H1
   clear H1
   by_cases c8 : 0 < (l0.length : Int)
   ·rw [if_pos c8] at H
    have c8b0 : decide (0 < (l0.length : Int)) = true := decide_eq_true c8
    have c8b1 : decide (0 < l0.length) = true := decide_eq_true (by omega)
    clear c8
    (first | rw [c8b0] | (simp only [i64_w, i32_w]; rw [c8b0]) | skip)
    have H' := Aside0.mk H
    clear H
    go_wp2_with (first | ((with_reducible refine gate_callee (f := 42) rfl ?_); refine GL (some 11) rfl rfl Try.func42 #[.slice A0 l0.length c0] rfl ?_; (with_reducible refine (spec_MatrixOk.calls k _ _ l0 true _ ?side1 ?side2 A6.out).mono ?_); (case side1 => exact CC (Kd.C_below HR0.out HB.out)); (case side2 => exact HC0.out); rintro e w' ⟨rfl, ⟨nd, rfl⟩⟩; refine ⟨_, rfl, ?_⟩; have p266 : 0 ≤ (0 : Int) := (by omega); have q266 : 0 < (l0.length : Int) := DT; obtain ⟨ad266, A266_0, c266_0, e266, hx266_0, hl266_0, hi266_0⟩ := at_L9 HR0.out 0 p266 q266; cases e266; have qi266 : (0 < l0.length) = True := eq_true (by omega); (try rw [show ((0 : Int)).toNat = 0 from rfl] at hx266_0); (try rw [Addr.add_zero'] at hx266_0); replace hx266_0 := (HB.out.cell (World.block_lt_of_cell? w _ hx266_0)).trans hx266_0; have HR266_0 := Aside0.mk hi266_0; have HC266_0 := Aside0.mk hl266_0; clear hi266_0 hl266_0; replace p266 := eq_true p266; replace q266 := eq_true q266))
    go_meet
    case rel => exact ⟨_, ((((rd_L9 l0 0).length : Int) != (l1.length : Int))), FR, H', ⟨by first | omega | exact Nat.le_refl _⟩, ⟨(RR HO264.out)⟩, ⟨(BB HB.out)⟩⟩
   ·rw [if_neg c8] at H
    exact absurd H (by simp)
  ·replace c7 := Bool.eq_false_iff.mpr c7
   subst c7
   have H1 : (spec_ApplyM.j0 k l0 l1 y262 true) = some r := by rw [if_neg (show ¬ (false = true) by decide)] at H; exact H
   clear H
   have H := H1
   clear H1
   have H' := Aside0.mk H
   clear H
   go_wp2_with (first | ((with_reducible refine gate_callee (f := 42) rfl ?_); refine GL (some 11) rfl rfl Try.func42 #[.slice A0 l0.length c0] rfl ?_; (with_reducible refine (spec_MatrixOk.calls k _ _ l0 false _ ?side1 ?side2 A6.out).mono ?_); (case side1 => exact CC (Kd.C_below HR0.out HB.out)); (case side2 => exact HC0.out); rintro e w' ⟨rfl, ⟨nd, rfl⟩⟩; refine ⟨_, rfl, ?_⟩))
   go_meet
   case rel => exact ⟨_, (true), FR, H', ⟨by first | omega | exact Nat.le_refl _⟩, ⟨(RR HO264.out)⟩, ⟨(BB HB.out)⟩⟩
 case rest =>
  clear HC3
  try clear c1
  try clear c2
  try clear p2
  try clear q2
  try clear hx2
  try clear qi2
  try clear c4
  try clear c7
  try clear c8
  try clear c8b0
  try clear c8b1
  try clear hx266_0
  try clear p266
  try clear q266
  obtain ⟨kq, x21_2, rfl, HA, HJ2, HO_5, HB⟩ := hcut
  cases kq with
  | zero => exact absurd HA.out (by simp [spec_ApplyM.j0])
  | succ kj2 =>
   have H := HA.out
   clear HA
   simp only [spec_ApplyM.j0] at H
   by_cases c9 : x21_2 = true
   ·subst c9
    have H1 : (some y262) = some r := by rw [if_pos rfl] at H; exact H
    clear H
    have H := H1
    clear H1
    obtain rfl := Option.some.inj H
    go_wp2
    go_ret
    exact ⟨_, ER, by (with_reducible repeat (first | apply Kd.R_alloc | apply Kd.R_drewN | apply Kd.R_drew)); exact HO_5.out, (BB HB.out)⟩
   ·replace c9 := Bool.eq_false_iff.mpr c9
    subst c9
    have H1 : (spec_ApplyM.l0 kj2 l0 l1 y262 0) = some r := by rw [if_neg (show ¬ (false = true) by decide)] at H; exact H
    clear H
    have H := H1
    clear H1
    have H' := Aside0.mk H
    clear H
    go_wp2
    go_loopg [5, 6] kj2 (fun kq v5 v6 w' => ∃ (x5_2 : List ByteArray) (x6_2 : Int), v6 = .int .i64 x6_2 ∧ Aside0 (spec_ApplyM.l0 kq l0 l1 x5_2 x6_2 = some r) ∧ Aside0 (kq ≤ kj2) ∧ Aside0 (Kd.R Kd.string 9 w' w.heap.size (fun _ => True) v5 x5_2) ∧ Aside0 (Below w.heap.size w w'))
    case atStart => exact ⟨(y262), (0), FR, H', ⟨Nat.le_refl _⟩, ⟨(RR HO_5.out)⟩, ⟨(BB HB.out)⟩⟩
    case round =>
     clear H'
     try clear c1
     try clear c2
     try clear p2
     try clear q2
     try clear hx2
     try clear qi2
     try clear c4
     try clear c7
     try clear c8
     try clear c8b0
     try clear c8b1
     try clear c9
     try clear hx266_0
     try clear p2
     try clear p266
     try clear q2
     try clear q266
     obtain ⟨x5_2, x6_2, rfl, HA, HK2, HO_5, HB⟩ := hrel
     cases gk with
     | zero => exact absurd HA.out (by simp [spec_ApplyM.l0])
     | succ k2 =>
      have H := HA.out
      clear HA
      simp only [spec_ApplyM.l0] at H
      by_cases c10 : x6_2 < (l0.length : Int)
      ·rw [if_pos c10] at H
       have c10b0 : decide (x6_2 < (l0.length : Int)) = true := decide_eq_true c10
       clear c10
       have H' := Aside0.mk H
       clear H
       go_wp2
       go_loopg [7, 8] k2 (fun kq v7 v8 w' => ∃ (x7_3 : ByteArray) (x8_3 : Int), v7 = .string x7_3 ∧ v8 = .int .i64 x8_3 ∧ Aside0 (spec_ApplyM.l1 kq l0 l1 x5_2 x6_2 x7_3 x8_3 = some r) ∧ Aside0 (kq ≤ k2) ∧ Aside0 (Kd.R Kd.string 9 w' w.heap.size (fun _ => True) u5 x5_2) ∧ Aside0 (Below w.heap.size w w'))
       case atStart => exact ⟨((⟨#[]⟩ : ByteArray)), (0), FR, FR, H', ⟨Nat.le_refl _⟩, ⟨(RR HO_5.out)⟩, ⟨(BB HB.out)⟩⟩
       case round =>
        clear H'
        try clear c1
        try clear c2
        try clear p2
        try clear q2
        try clear hx2
        try clear qi2
        try clear c4
        try clear c7
        try clear c8
        try clear c8b0
        try clear c8b1
        try clear c9
        try clear c10
        try clear c10b0
        try clear hx266_0
        try clear p2
        try clear p266
        try clear q2
        try clear q266
        obtain ⟨x7_3, x8_3, rfl, rfl, HA, HK3, HO_5, HB⟩ := hrel
        cases gk with
        | zero => exact absurd HA.out (by simp [spec_ApplyM.l1])
        | succ k3 =>
         have H := HA.out
         clear HA
         simp only [spec_ApplyM.l1] at H
         by_cases c11 : x8_3 < (l1.length : Int)
         ·rw [if_pos c11] at H
          have c11b0 : decide (x8_3 < (l1.length : Int)) = true := decide_eq_true c11
          clear c11
          by_cases c12 : 0 ≤ x6_2
          ·rw [if_pos c12] at H
           have c12b0 : decide (0 ≤ x6_2) = true := decide_eq_true c12
           clear c12
           by_cases c13 : x6_2 < (l0.length : Int)
           ·rw [if_pos c13] at H
            have c13b0 : decide (x6_2 < (l0.length : Int)) = true := decide_eq_true c13
            clear c13
            by_cases c14 : 0 ≤ x8_3
            ·rw [if_pos c14] at H
             have c14b0 : decide (0 ≤ x8_3) = true := decide_eq_true c14
             clear c14
             by_cases c15 : x8_3 < ((rd_L9 l0 x6_2).length : Int)
             ·rw [if_pos c15] at H
              have c15b0 : decide (x8_3 < ((rd_L9 l0 x6_2).length : Int)) = true := decide_eq_true c15
              clear c15
              replace H := Option.bind_eq_some_iff.mp H
              obtain ⟨t270, A160, H⟩ := H
              replace H : ((spec_AddText.f x7_3 t270).bind fun t271 => (spec_ApplyM.l1 k3 l0 l1 x5_2 x6_2 t271 (wrap64 (x8_3 + 1)))) = some r := H
              have A16 := Aside0.mk A160
              clear A160
              replace H := Option.bind_eq_some_iff.mp H
              obtain ⟨t271, A170, H⟩ := H
              replace H : (spec_ApplyM.l1 k3 l0 l1 x5_2 x6_2 t271 (wrap64 (x8_3 + 1))) = some r := H
              have A17 := Aside0.mk A170
              clear A170
              have H' := Aside0.mk H
              clear H
              try go_wp2
              have n0_ := Aside0.mk (Kd.R_drew HO_5.out)
              have n1_ := Aside0.mk (below_drew1 HB.out)
              clear HO_5
              clear HB
              have HO_5 := n0_
              have HB := n1_
              clear n0_ n1_
              have p267 : 0 ≤ (x6_2 : Int) := DT
              have q267 : x6_2 < (l0.length : Int) := DT
              obtain ⟨ad267, A267_0, c267_0, e267, hx267_0, hl267_0, hi267_0⟩ := at_L9 HR0.out x6_2 p267 q267
              have hw267_0 := hx267_0
              cases e267
              replace hx267_0 := (HB.out.cell (World.block_lt_of_cell? w _ hx267_0)).trans hx267_0
              have HR267_0 := Aside0.mk hi267_0
              have HC267_0 := Aside0.mk hl267_0
              clear hi267_0 hl267_0
              replace p267 := eq_true p267
              replace q267 := eq_true q267
              have p268 : 0 ≤ (x8_3 : Int) := DT
              have q268 : x8_3 < ((rd_L9 l0 x6_2).length : Int) := DT
              obtain ⟨ad268, e268, hx268_0⟩ := Kd.at_int HR267_0.out x8_3 p268 q268
              have hw268_0 := hx268_0
              cases e268
              replace hx268_0 := (HB.out.cell (World.block_lt_of_cell? w _ hx268_0)).trans hx268_0
              replace p268 := eq_true p268
              replace q268 := eq_true q268
              have p269 : 0 ≤ (x8_3 : Int) := DT
              have q269 : x8_3 < (l1.length : Int) := DT
              obtain ⟨ad269, e269, hx269_0⟩ := Kd.at_string HR1.out x8_3 p269 q269
              have hw269_0 := hx269_0
              cases e269
              replace hx269_0 := (HB.out.cell (World.block_lt_of_cell? w _ hx269_0)).trans hx269_0
              replace p269 := eq_true p269
              replace q269 := eq_true q269
              refine start_ (n := 15) (S := fun w' => w'.cell? (ad267.add (x6_2).toNat) = some (.slice (some ad268) (rd_L9 l0 x6_2).length c267_0) ∧ w'.cell? (ad268.add (x8_3).toNat) = some (.int .i64 (rd (rd_L9 l0 x6_2) x8_3)) ∧ w'.cell? (ad269.add (x8_3).toNat) = some (.string (rdOf ByteArray.empty l1 x8_3))) (ds := []) #[false, false, false, false, false, false, false, false, false, false, false, false, false, false, false] (by kernel_rfl) rfl rfl ⟨((HB.out.cell (World.block_lt_of_cell? w _ hw267_0)).trans hw267_0), ((HB.out.cell (World.block_lt_of_cell? w _ hw268_0)).trans hw268_0), ((HB.out.cell (World.block_lt_of_cell? w _ hw269_0)).trans hw269_0)⟩ (fun hHeld => ?_); refine with_tabW spec_ApplyM.tab11 spec_ApplyM.bits11 (fun HT_ HW_ => ?_)
              generalize wr.drew = w18 at HO_5 HB HR267_0 hx267_0 hx268_0 hx269_0 hHeld ⊢
              refine pure_ (i := 0) (N := some 35) (v := ?_) (a' := ?_) #[true, false, false, false, false, false, false, false, false, false, false, false, false, false, false] rfl rfl (any_of HT_.out (by kernel_rfl)) (fun _ _ _ h => h) (Or.inl ⟨by rfl, ?_⟩) ?_ ?_
              rotate_left
              ·intro w'
               go_simp
               with_reducible rfl
              rotate_left
              ·simp only [Act.put, List.setIfInBounds_toArray, List.set_cons_zero, List.set_cons_succ, i64_w, i32_w]
               rfl
              refine pure_ (i := 1) (N := some 36) (v := ?_) (a' := ?_) #[true, true, false, false, false, false, false, false, false, false, false, false, false, false, false] rfl rfl (any_of HT_.out (by kernel_rfl)) (fun _ _ _ h => h) (Or.inl ⟨by rfl, ?_⟩) ?_ ?_
              rotate_left
              ·intro w'
               go_simp
               with_reducible rfl
              rotate_left
              ·simp only [Act.put, List.setIfInBounds_toArray, List.set_cons_zero, List.set_cons_succ, i64_w, i32_w]
               rfl
              refine pure_ (i := 2) (N := some 37) (v := ?_) (a' := ?_) #[true, true, true, false, false, false, false, false, false, false, false, false, false, false, false] rfl rfl (any_of HT_.out (by kernel_rfl)) (fun _ _ _ h => h) (Or.inl ⟨by rfl, ?_⟩) ?_ ?_
              rotate_left
              ·intro w'
               go_simp
               with_reducible rfl
              rotate_left
              ·simp only [Act.put, List.setIfInBounds_toArray, List.set_cons_zero, List.set_cons_succ, i64_w, i32_w]
               rfl
              refine pure_ (i := 3) (N := some 38) (v := ?_) (a' := ?_) #[true, true, true, true, false, false, false, false, false, false, false, false, false, false, false] rfl rfl (any_of HT_.out (by kernel_rfl)) (fun _ _ _ h => h) (Or.inl ⟨by rfl, ?_⟩) ?_ ?_
              rotate_left
              ·intro w'
               go_simp
               with_reducible rfl
              rotate_left
              ·simp only [Act.put, List.setIfInBounds_toArray, List.set_cons_zero, List.set_cons_succ, i64_w, i32_w]
               rfl
              refine pure_ (i := 5) (N := some 40) (v := ?_) (a' := ?_) #[true, true, true, true, false, true, false, false, false, false, false, false, false, false, false] rfl rfl (any_of HT_.out (by kernel_rfl)) (fun _ _ _ h => h) (Or.inl ⟨by rfl, ?_⟩) ?_ ?_
              rotate_left
              ·intro w'
               go_simp
               with_reducible rfl
              rotate_left
              ·simp only [Act.put, List.setIfInBounds_toArray, List.set_cons_zero, List.set_cons_succ, i64_w, i32_w]
               rfl
              refine pure_ (i := 8) (N := some 43) (v := ?_) (a' := ?_) #[true, true, true, true, false, true, false, false, true, false, false, false, false, false, false] rfl rfl (any_of HT_.out (by kernel_rfl)) (fun _ _ _ h => h) (Or.inl ⟨by rfl, ?_⟩) ?_ ?_
              rotate_left
              ·intro w'
               go_simp
               with_reducible rfl
              rotate_left
              ·simp only [Act.put, List.setIfInBounds_toArray, List.set_cons_zero, List.set_cons_succ, i64_w, i32_w]
               rfl
              refine pure_ (i := 9) (N := some 44) (v := ?_) (a' := ?_) #[true, true, true, true, false, true, false, false, true, true, false, false, false, false, false] rfl rfl (any_of HT_.out (by kernel_rfl)) (fun _ _ _ h => h) (Or.inl ⟨by rfl, ?_⟩) ?_ ?_
              rotate_left
              ·intro w'
               go_simp
               with_reducible rfl
              rotate_left
              ·simp only [Act.put, List.setIfInBounds_toArray, List.set_cons_zero, List.set_cons_succ, i64_w, i32_w]
               rfl
              refine pure_ (i := 10) (N := some 45) (v := ?_) (a' := ?_) #[true, true, true, true, false, true, false, false, true, true, true, false, false, false, false] rfl rfl (any_of HT_.out (by kernel_rfl)) (fun _ _ _ h => h) (Or.inl ⟨by rfl, ?_⟩) ?_ ?_
              rotate_left
              ·intro w'
               go_simp
               with_reducible rfl
              rotate_left
              ·simp only [Act.put, List.setIfInBounds_toArray, List.set_cons_zero, List.set_cons_succ, i64_w, i32_w]
               rfl
              refine take_ (i := 4) (N := some 39) (v := ?_) (a' := ?_) #[true, true, true, true, true, true, false, false, true, true, true, false, false, false, false] rfl rfl (take_ofW HT_.out HW_.out (by kernel_rfl)) (fun _ _ _ h => h) (Or.inl ⟨by rfl, ?_⟩) hHeld ?_ ?_
              rotate_left
              ·rintro w' ⟨s0, s1, s2⟩
               go_simp
               with_reducible rfl
              rotate_left
              ·simp only [Act.put, List.setIfInBounds_toArray, List.set_cons_zero, List.set_cons_succ, i64_w, i32_w]
               rfl
              refine pure_ (i := 6) (N := some 41) (v := ?_) (a' := ?_) #[true, true, true, true, true, true, true, false, true, true, true, false, false, false, false] rfl rfl (any_of HT_.out (by kernel_rfl)) (fun _ _ _ h => h) (Or.inl ⟨by rfl, ?_⟩) ?_ ?_
              rotate_left
              ·intro w'
               go_simp
               with_reducible rfl
              rotate_left
              ·simp only [Act.put, List.setIfInBounds_toArray, List.set_cons_zero, List.set_cons_succ, i64_w, i32_w]
               rfl
              refine take_ (i := 7) (N := some 42) (v := ?_) (a' := ?_) #[true, true, true, true, true, true, true, true, true, true, true, false, false, false, false] rfl rfl (take_ofW HT_.out HW_.out (by kernel_rfl)) (fun _ _ _ h => h) (Or.inl ⟨by rfl, ?_⟩) hHeld ?_ ?_
              rotate_left
              ·rintro w' ⟨s0, s1, s2⟩
               go_simp
               with_reducible rfl
              rotate_left
              ·simp only [Act.put, List.setIfInBounds_toArray, List.set_cons_zero, List.set_cons_succ, i64_w, i32_w]
               rfl
              refine take_ (i := 11) (N := some 46) (v := ?_) (a' := ?_) #[true, true, true, true, true, true, true, true, true, true, true, true, false, false, false] rfl rfl (take_ofW HT_.out HW_.out (by kernel_rfl)) (fun _ _ _ h => h) (Or.inl ⟨by rfl, ?_⟩) hHeld ?_ ?_
              rotate_left
              ·rintro w' ⟨s0, s1, s2⟩
               go_simp
               with_reducible rfl
              rotate_left
              ·simp only [Act.put, List.setIfInBounds_toArray, List.set_cons_zero, List.set_cons_succ, i64_w, i32_w]
               rfl
              refine one_ (i := 12) (N := some 47) #[true, true, true, true, true, true, true, true, true, true, true, true, true, false, false] rfl rfl (one_of HT_.out (by kernel_rfl)) (by decide) (fun K hK => ?_)
              refine goes_ Try.func46 (by kernel_rfl) rfl #[.int .i64 (rd (rd_L9 l0 x6_2) x8_3), .string (rdOf ByteArray.empty l1 x8_3)] (by rfl) rfl rfl (by (try simp only [List.map_toArray, List.map_cons, List.map_nil]); first | done | rfl | (simp only [List.length_drop, List.length_take]; rfl)) ?_
              with_reducible refine (spec_MulText.calls k3 (rd (rd_L9 l0 x6_2) x8_3) (rdOf ByteArray.empty l1 x8_3) t270 _ A16.out).mono ?_
              rintro e w19 ⟨rfl, hb⟩
              refine ⟨_, rfl, ?_⟩
              have n0_ := Aside0.mk (Kd.R_below (RR HO_5.out) hb)
              have n1_ := Aside0.mk (below_step (BB HB.out) hb)
              clear HO_5
              clear HB
              have HO_5 := n0_
              have HB := n1_
              clear n0_ n1_
              (try clear hb)
              (try clear hb2)
              (try clear hk)
              (try clear hi)
              refine hK.out _ _ ⟨((HB.out.cell (World.block_lt_of_cell? w _ hw267_0)).trans hw267_0), ((HB.out.cell (World.block_lt_of_cell? w _ hw268_0)).trans hw268_0), ((HB.out.cell (World.block_lt_of_cell? w _ hw269_0)).trans hw269_0)⟩ (fun hHeld => ?_)
              clear hK K
              refine norm_ (a' := ?_) ?_ ?_
              rotate_left
              ·show Act.put _ (some 47) _ = _
               simp only [Act.put, List.setIfInBounds_toArray, List.set_cons_zero, List.set_cons_succ, i64_w, i32_w]
               rfl
              refine one_ (i := 13) (N := some 48) #[true, true, true, true, true, true, true, true, true, true, true, true, true, true, false] rfl rfl (one_of HT_.out (by kernel_rfl)) (by decide) (fun K hK => ?_)
              refine goes_ Try.func45 (by kernel_rfl) rfl #[.string x7_3, .string t270] (by rfl) rfl rfl (by (try simp only [List.map_toArray, List.map_cons, List.map_nil]); first | done | rfl | (simp only [List.length_drop, List.length_take]; rfl)) ?_
              with_reducible refine (spec_AddText.calls x7_3 t270 t271 _ A17.out).mono ?_
              rintro e w20 ⟨rfl, hb⟩
              refine ⟨_, rfl, ?_⟩
              have n0_ := Aside0.mk (Kd.R_below (RR HO_5.out) hb)
              have n1_ := Aside0.mk (below_step (BB HB.out) hb)
              clear HO_5
              clear HB
              have HO_5 := n0_
              have HB := n1_
              clear n0_ n1_
              (try clear hb)
              (try clear hb2)
              (try clear hk)
              (try clear hi)
              refine hK.out _ _ ⟨((HB.out.cell (World.block_lt_of_cell? w _ hw267_0)).trans hw267_0), ((HB.out.cell (World.block_lt_of_cell? w _ hw268_0)).trans hw268_0), ((HB.out.cell (World.block_lt_of_cell? w _ hw269_0)).trans hw269_0)⟩ (fun hHeld => ?_)
              clear hK K
              refine norm_ (a' := ?_) ?_ ?_
              rotate_left
              ·show Act.put _ (some 48) _ = _
               simp only [Act.put, List.setIfInBounds_toArray, List.set_cons_zero, List.set_cons_succ, i64_w, i32_w]
               rfl
              refine pure_ (i := 14) (N := some 7) (v := ?_) (a' := ?_) #[true, true, true, true, true, true, true, true, true, true, true, true, true, true, true] rfl rfl (any_of HT_.out (by kernel_rfl)) (fun _ _ _ h => h) (Or.inl ⟨by rfl, ?_⟩) ?_ ?_
              rotate_left
              ·intro w'
               go_simp
               with_reducible rfl
              rotate_left
              ·simp only [Act.put, List.setIfInBounds_toArray, List.set_cons_zero, List.set_cons_succ, i64_w, i32_w]
               rfl
              refine done_ (done_of HT_.out (by kernel_rfl)) ?_
              try go_wp2
              go_roundg k3
              case measure => have := HJ2.out; have := HK2.out; have := HK3.out; omega
              case rel => exact ⟨(t271), (wrap64 (x8_3 + 1)), FR, FR, H', ⟨by have := HJ2.out; have := HK2.out; have := HK3.out; omega⟩, ⟨(RR HO_5.out)⟩, ⟨(BB HB.out)⟩⟩
             ·rw [if_neg c15] at H
              exact absurd H (by simp)
            ·rw [if_neg c14] at H
             exact absurd H (by simp)
           ·rw [if_neg c13] at H
            exact absurd H (by simp)
          ·rw [if_neg c12] at H
           exact absurd H (by simp)
         ·rw [if_neg c11] at H
          have c11b0 : decide (x8_3 < (l1.length : Int)) = false := decide_eq_false c11
          clear c11
          by_cases c21 : x5_2.length < 8796093022208
          ·rw [if_pos c21] at H
           have LMc21 := Aside0.mk c21
           clear c21
           obtain ⟨y272, hy272⟩ : ∃ y_ : List ByteArray, y_ = (x5_2 ++ [x7_3]) := ⟨_, rfl⟩
           replace H : (spec_ApplyM.l0 k3 l0 l1 y272 (wrap64 (x6_2 + 1))) = some r := by first | (rw [hy272]; with_reducible exact H) | (have H2_ := (Option.bind_some _ _).symm.trans H; rw [hy272]; with_reducible exact H2_) | (have H2_ := (Option.bind_some _ _).symm.trans H; with_reducible exact H2_) | with_reducible exact H | (rw [hy272]; exact H) | exact H
           have Ny272 := Aside0.mk hy272
           clear hy272
           have H' := Aside0.mk H
           clear H
           go_wp2_with (first | ((with_reducible refine gate_builtin (b := .append) (xs := #[.tmp 49, .tmp 51]) rfl ?_); (try (refine gate_guard (by rfl) ?_; dsimp only)); at_builtin; refine Kd.R_append Kd.string (w0 := w) w.heap.size rfl (.tmp 49) (.tmp 51) 34 9 (.string ⟨#[]⟩) 16 rfl Try.underlying34 info9 rfl (by decide) (by omega) u5 x5_2 x7_3 [.string x7_3] (fun _ => True) (fun _ => False) rfl rfl ?aP (fun _ hk => hk.elim) ?aF ?aO ?aB ?aS ?aL ?_; (case aP => exact rfl); (case aB => exact (BB HB.out)); (case aF => exact (fun _ _ => trivial)); (case aO => exact (RR HO_5.out)); (case aS => exact (below_size (BB HB.out))); (case aL => have := LMc21.out; omega); intro v273 w22 ho hb hg hat; rw [← Ny272.out] at ho; have HO274 := Aside0.mk (ho); replace HB := Aside0.mk (hb); clear HO_5; clear ho hb hg hat))
           go_roundg k3
           case measure => have := HJ2.out; have := HK2.out; have := HK3.out; omega
           case rel => exact ⟨(y272), (wrap64 (x6_2 + 1)), FR, H', ⟨by have := HJ2.out; have := HK2.out; have := HK3.out; omega⟩, ⟨(RR HO274.out)⟩, ⟨(BB HB.out)⟩⟩
          ·rw [if_neg c21] at H
           exact absurd H (by simp)
      ·rw [if_neg c10] at H
       have c10b0 : decide (x6_2 < (l0.length : Int)) = false := decide_eq_false c10
       clear c10
       obtain rfl := Option.some.inj H
       go_wp2
       go_ret
       exact ⟨_, ER, by (with_reducible repeat (first | apply Kd.R_alloc | apply Kd.R_drewN | apply Kd.R_drew)); exact HO_5.out, (BB HB.out)⟩

end Go.Proofs.Ytahimindlnkmoaa.Pr

namespace Go.Proofs.Ytahimindlnkmoaa.Pr
open Go.RowKit Go.Proofs.YtahimindlnkmoaaW.PrintWords Go.Proofs.YtahimindlnkmoaaW.PrintLast Go.Proofs.YtahimindlnkmoaaW.PrintMore
attribute [local go_sem] max2_int min2_int max_two min_two max_three min_three max_four min_four
set_option linter.unusedVariables false
set_option linter.unusedSimpArgs false
mutual
def spec_Decode.j0 : Nat → Int → List ByteArray → List Bool → Int → Int → Bool → Option (List ByteArray × Bool)
 | 0, _, _, _, _, _, _ => none
 | k + 1, x0, x1, x2, x8, x9, x41 => if x41 = true then (some ((([] : List ByteArray)), false)) else ((spec_CodeOf.f k x0).bind fun t287 => (spec_Decode.l0 k x1 x2 x8 x9 (([] : List (List Int))) (([] : List ByteArray)) (-1) t287 0))
def spec_Decode.l0 : Nat → List ByteArray → List Bool → Int → Int → List (List Int) → List ByteArray → Int → List (List Int) → Int → Option (List ByteArray × Bool)
 | 0, _, _, _, _, _, _, _, _, _ => none
 | k + 1, x1, x2, x8, x9, x11, x12, x13, x14, x15 => if x15 < (wrap64 (x8 + x9)) then (if 0 ≤ x15 then (if x15 < (x2.length : Int) then (if rdOf false x2 x15 = true then (if x13 ≥ 0 then (if x15 < (x1.length : Int) then (spec_Decode.j2 k x1 x2 x8 x9 x11 x12 x14 x15 (((rdOf ByteArray.empty x1 x15).size : Int) != x13)) else (none)) else (spec_Decode.j2 k x1 x2 x8 x9 x11 x12 x14 x15 false)) else (spec_Decode.l0 k x1 x2 x8 x9 x11 x12 x13 x14 (wrap64 (x15 + 1)))) else (none)) else (none)) else (if (x11.length : Int) < x8 then (some ((([] : List ByteArray)), false)) else ((spec_InvM.f k x11).bind fun bt307 => (if bt307.2 = true then ((spec_ApplyM.f k bt307.1 x12).bind fun t311 => (some (t311, true))) else (some ((([] : List ByteArray)), false)))))
def spec_Decode.j2 : Nat → List ByteArray → List Bool → Int → Int → List (List Int) → List ByteArray → List (List Int) → Int → Bool → Option (List ByteArray × Bool)
 | 0, _, _, _, _, _, _, _, _, _ => none
 | k + 1, x1, x2, x8, x9, x11, x12, x14, x15, x69 => if x69 = true then (some ((([] : List ByteArray)), false)) else (if 0 ≤ x15 then (if x15 < (x1.length : Int) then (if (x11.length : Int) < x8 then (if x15 < (x14.length : Int) then (if x11.length < 5864062014805 then (if x12.length < 8796093022208 then (spec_Decode.l0 k x1 x2 x8 x9 (x11 ++ [rd_L9 x14 x15]) (x12 ++ [rdOf ByteArray.empty x1 x15]) ((rdOf ByteArray.empty x1 x15).size : Int) x14 (wrap64 (x15 + 1))) else (none)) else (none)) else (none)) else (spec_Decode.l0 k x1 x2 x8 x9 x11 x12 ((rdOf ByteArray.empty x1 x15).size : Int) x14 (wrap64 (x15 + 1)))) else (none)) else (none))
end
def spec_Decode.f (k : Nat) (a0 : Int) (l1 : List ByteArray) (l2 : List Bool) : Option (List ByteArray × Bool) := (spec_SchemaOf.f a0).bind fun bt275 => (if bt275.2.2 = true then (if (l1.length : Int) = (wrap64 (bt275.1 + bt275.2.1)) then (spec_Decode.j0 k a0 l1 l2 bt275.1 bt275.2.1 ((l2.length : Int) != (wrap64 (bt275.1 + bt275.2.1)))) else (spec_Decode.j0 k a0 l1 l2 bt275.1 bt275.2.1 true)) else (spec_Decode.j0 k a0 l1 l2 bt275.1 bt275.2.1 true))
set_option maxHeartbeats 8000000 in
set_option maxRecDepth 100000 in
theorem spec_Decode.calls (k : Nat) (a0 : Int) (A1 : Option Addr) (c1 : Nat) (l1 : List ByteArray) (A2 : Option Addr) (c2 : Nat) (l2 : List Bool) (r1 : List ByteArray) (r2 : Bool) (w : World) (hr1 : Kd.C Kd.string w A1 l1.length l1) (hc1 : l1.length ≤ c1) (hr2 : Kd.C Kd.bool w A2 l2.length l2) (hc2 : l2.length ≤ c2) (h : spec_Decode.f k a0 l1 l2 = some (r1, r2)) :
  Calls Try.prog 11 #[.int .i64 a0, .slice A1 l1.length c1, .slice A2 l2.length c2] w fun e w' => ∃ v0_ : Value, e = .returned (.tuple #[v0_, .bool r2]) ∧ Kd.R Kd.string 9 w' w.heap.size (fun _ => True) v0_ r1 ∧ Below w.heap.size w w' := by
 have HR1 := Aside0.mk hr1
 have HC1 := Aside0.mk hc1
 clear hr1 hc1
 have HR2 := Aside0.mk hr2
 have HC2 := Aside0.mk hc2
 clear hr2 hc2
 have HB := Aside0.mk (Below.refl w.heap.size w)
 have H : ((spec_SchemaOf.f a0).bind fun bt275 => (if bt275.2.2 = true then (if (l1.length : Int) = (wrap64 (bt275.1 + bt275.2.1)) then (spec_Decode.j0 k a0 l1 l2 bt275.1 bt275.2.1 ((l2.length : Int) != (wrap64 (bt275.1 + bt275.2.1)))) else (spec_Decode.j0 k a0 l1 l2 bt275.1 bt275.2.1 true)) else (spec_Decode.j0 k a0 l1 l2 bt275.1 bt275.2.1 true))) = some (r1, r2) := h
 clear h
 replace H := Option.bind_eq_some_iff.mp H
 obtain ⟨⟨t275, t276, t277⟩, A40, H⟩ := H
 replace H : (if t277 = true then (if (l1.length : Int) = (wrap64 (t275 + t276)) then (spec_Decode.j0 k a0 l1 l2 t275 t276 ((l2.length : Int) != (wrap64 (t275 + t276)))) else (spec_Decode.j0 k a0 l1 l2 t275 t276 true)) else (spec_Decode.j0 k a0 l1 l2 t275 t276 true)) = some (r1, r2) := H
 have A4 := Aside0.mk A40
 clear A40
 have HC5 := Aside0.mk H
 clear H
 go_enter Try.func11, Try.ntmps11
 go_upto_region 2 with (first | ((with_reducible refine gate_callee (f := 19) rfl ?_); refine GL (some 20) rfl rfl Try.func19 #[.int .i64 a0] rfl ?_; (with_reducible refine (spec_SchemaOf.calls a0 t275 t276 t277 _ A4.out).mono ?_); rintro e w' ⟨rfl, ⟨nd, rfl⟩⟩; refine ⟨_, rfl, ?_⟩))
 (try simp only [Act.put, List.setIfInBounds_toArray, List.set_cons_zero, List.set_cons_succ])
 go_cut [41] (fun v41 wc => ∃ (kq : Nat) (x41_4 : Bool), v41 = .bool x41_4 ∧ Aside0 (spec_Decode.j0 kq a0 l1 l2 t275 t276 x41_4 = some (r1, r2)) ∧ Aside0 (kq ≤ k) ∧ Aside0 (Below w.heap.size w wc))
 case first =>
  have H := HC5.out
  clear HC5
  by_cases c6 : t277 = true
  ·subst c6
   have H1 : (if (l1.length : Int) = (wrap64 (t275 + t276)) then (spec_Decode.j0 k a0 l1 l2 t275 t276 ((l2.length : Int) != (wrap64 (t275 + t276)))) else (spec_Decode.j0 k a0 l1 l2 t275 t276 true)) = some (r1, r2) := by rw [if_pos rfl] at H; exact H
   clear H
   have H := H1
   clear H1
   by_cases c7 : (l1.length : Int) = (wrap64 (t275 + t276))
   ·rw [if_pos c7] at H
    have c7b0 : ((l1.length : Int) == (wrap64 (t275 + t276))) = true := beq_iff_eq.mpr c7
    have c7b1 : ((l1.length : Int) != (wrap64 (t275 + t276))) = false := bne_eq_false_iff_eq.mpr c7
    clear c7
    (first | rw [c7b0] | (simp only [i64_w, i32_w]; rw [c7b0]) | skip)
    have H' := Aside0.mk H
    clear H
    go_wp2
    go_meet
    case rel => exact ⟨_, (((l2.length : Int) != (wrap64 (t275 + t276)))), FR, H', ⟨by first | omega | exact Nat.le_refl _⟩, ⟨(BB HB.out)⟩⟩
   ·rw [if_neg c7] at H
    have c7b0 : ((l1.length : Int) == (wrap64 (t275 + t276))) = false := beq_eq_false_iff_ne.mpr c7
    have c7b1 : ((l1.length : Int) != (wrap64 (t275 + t276))) = true := bne_iff_ne.mpr c7
    (first | rw [c7b0] | (simp only [i64_w, i32_w]; rw [c7b0]) | skip)
    have H' := Aside0.mk H
    clear H
    go_wp2
    go_meet
    case rel => exact ⟨_, (true), FR, H', ⟨by first | omega | exact Nat.le_refl _⟩, ⟨(BB HB.out)⟩⟩
  ·replace c6 := Bool.eq_false_iff.mpr c6
   subst c6
   have H1 : (spec_Decode.j0 k a0 l1 l2 t275 t276 true) = some (r1, r2) := by rw [if_neg (show ¬ (false = true) by decide)] at H; exact H
   clear H
   have H := H1
   clear H1
   have H' := Aside0.mk H
   clear H
   go_wp2
   go_meet
   case rel => exact ⟨_, (true), FR, H', ⟨by first | omega | exact Nat.le_refl _⟩, ⟨(BB HB.out)⟩⟩
 case rest =>
  clear HC5
  try clear c1
  try clear c2
  try clear p2
  try clear c6
  try clear p6
  try clear c7
  try clear c7b0
  try clear c7b1
  obtain ⟨kq, x41_4, rfl, HA, HJ4, HB⟩ := hcut
  cases kq with
  | zero => exact absurd HA.out (by simp [spec_Decode.j0])
  | succ kj4 =>
   have H := HA.out
   clear HA
   simp only [spec_Decode.j0] at H
   by_cases c8 : x41_4 = true
   ·subst c8
    have H1 : (some ((([] : List ByteArray)), false)) = some (r1, r2) := by rw [if_pos rfl] at H; exact H
    clear H
    have H := H1
    clear H1
    obtain ⟨y278, hy278⟩ : ∃ y_ : List ByteArray, y_ = (([] : List ByteArray)) := ⟨_, rfl⟩
    replace H : (some (y278, false)) = some (r1, r2) := by first | (rw [hy278]; with_reducible exact H) | (have H2_ := (Option.bind_some _ _).symm.trans H; rw [hy278]; with_reducible exact H2_) | (have H2_ := (Option.bind_some _ _).symm.trans H; with_reducible exact H2_) | with_reducible exact H | (rw [hy278]; exact H) | exact H
    have Ny278 := Aside0.mk hy278
    clear hy278
    simp only [Option.some.injEq, Prod.mk.injEq] at H
    obtain ⟨rfl, rfl⟩ := H
    go_wp2_with (first | ((with_reducible refine gate_dst (N := 42) rfl ?_); (try (refine gate_guard (by rfl) ?_; dsimp only)); refine Kd.R_lit Kd.string _ 9 ?hg (N := 42) ?hd (xs := ([] : List ByteArray)) (inner := []) (ok := fun _ => True) (okp := fun _ => True) ?hr ?hp (fun _ hk => hk) trivial (Below.refl _ _) (Nat.le_refl _) (by simp) ?_; (case hd => rfl); (case hg => rfl); (case hr => first | (go_simp; done) | (go_simp; rfl)); (case hp => exact (Reps.none _ _)); intro v279 w9 ho10 hb hg_ hnew_; clear hg_ hnew_; (first | rw [← Ny278.out] at ho10 | (simp only [Int.reduceToNat] at ho10; rw [← Ny278.out] at ho10)); have HO280 := Aside0.mk (Kd.R_lower ho10 (below_size (BB HB.out))); replace HB := Aside0.mk (below_step (BB HB.out) hb); clear hb ho10))
    go_ret2
    exact ⟨_, ER, by (with_reducible repeat (first | apply Kd.R_alloc | apply Kd.R_drewN | apply Kd.R_drew)); exact HO280.out, (BB HB.out)⟩
   ·replace c8 := Bool.eq_false_iff.mpr c8
    subst c8
    have H1 : ((spec_CodeOf.f kj4 a0).bind fun t287 => (spec_Decode.l0 kj4 l1 l2 t275 t276 (([] : List (List Int))) (([] : List ByteArray)) (-1) t287 0)) = some (r1, r2) := by rw [if_neg (show ¬ (false = true) by decide)] at H; exact H
    clear H
    have H := H1
    clear H1
    obtain ⟨y281, hy281⟩ : ∃ y_ : List (List Int), y_ = (([] : List (List Int))) := ⟨_, rfl⟩
    replace H : ((spec_CodeOf.f kj4 a0).bind fun t287 => (spec_Decode.l0 kj4 l1 l2 t275 t276 y281 (([] : List ByteArray)) (-1) t287 0)) = some (r1, r2) := by first | (rw [hy281]; with_reducible exact H) | (have H2_ := (Option.bind_some _ _).symm.trans H; rw [hy281]; with_reducible exact H2_) | (have H2_ := (Option.bind_some _ _).symm.trans H; with_reducible exact H2_) | with_reducible exact H | (rw [hy281]; exact H) | exact H
    have Ny281 := Aside0.mk hy281
    clear hy281
    obtain ⟨y284, hy284⟩ : ∃ y_ : List ByteArray, y_ = (([] : List ByteArray)) := ⟨_, rfl⟩
    replace H : ((spec_CodeOf.f kj4 a0).bind fun t287 => (spec_Decode.l0 kj4 l1 l2 t275 t276 y281 y284 (-1) t287 0)) = some (r1, r2) := by first | (rw [hy284]; with_reducible exact H) | (have H2_ := (Option.bind_some _ _).symm.trans H; rw [hy284]; with_reducible exact H2_) | (have H2_ := (Option.bind_some _ _).symm.trans H; with_reducible exact H2_) | with_reducible exact H | (rw [hy284]; exact H) | exact H
    have Ny284 := Aside0.mk hy284
    clear hy284
    replace H := Option.bind_eq_some_iff.mp H
    obtain ⟨t287, A110, H⟩ := H
    replace H : (spec_Decode.l0 kj4 l1 l2 t275 t276 y281 y284 (-1) t287 0) = some (r1, r2) := H
    have A11 := Aside0.mk A110
    clear A110
    have H' := Aside0.mk H
    clear H
    go_wp2_with (first | ((with_reducible refine gate_dst (N := 43) rfl ?_); (try (refine gate_guard (by rfl) ?_; dsimp only)); refine Kd.N_lit (Kd.slice 3 (Kd.int .i64)) _ 52 ?hg (N' := 43) ?hd (xs := ([] : List (List Int))) (inner := []) (ok := (fun _ => True)) (okp := (fun _ => True)) ?hr ?hp (fun _ hk => hk) ((show ∀ k_, wc.heap.size ≤ k_ → (fun _ => True) k_ from fun k_ hk => trivial) _ (Nat.le_refl _)) (Below.refl _ _) (Nat.le_refl _) (by simp) ?_; (case hd => rfl); (case hg => rfl); (case hr => first | (go_simp; done) | (go_simp; rfl)); (case hp => exact (Reps.none _ _)); intro v282 w12 ho13 hb hg_ hnew_; clear hg_ hnew_; (first | rw [← Ny281.out] at ho13 | (simp only [Int.reduceToNat] at ho13; rw [← Ny281.out] at ho13)); have HO283 := Aside0.mk (Kd.N_lower ho13 (below_size (BB HB.out))); replace HB := Aside0.mk (below_step (BB HB.out) hb); clear hb ho13) | ((with_reducible refine gate_dst (N := 44) rfl ?_); (try (refine gate_guard (by rfl) ?_; dsimp only)); refine Kd.R_lit Kd.string _ 9 ?hg (N := 44) ?hd (xs := ([] : List ByteArray)) (inner := []) (ok := fun _ => True) (okp := fun _ => True) ?hr ?hp (fun _ hk => hk) trivial (Below.refl _ _) (Nat.le_refl _) (by simp) ?_; (case hd => rfl); (case hg => rfl); (case hr => first | (go_simp; done) | (go_simp; rfl)); (case hp => exact (Reps.none _ _)); intro v285 w14 ho15 hb hg_ hnew_; clear hg_ hnew_; (first | rw [← Ny284.out] at ho15 | (simp only [Int.reduceToNat] at ho15; rw [← Ny284.out] at ho15)); have n0_ := Aside0.mk (Kd.N_elder' (by (with_reducible repeat (first | apply Kd.N_alloc | apply Kd.N_drewN | apply Kd.N_drew)); exact HO283.out) (Kd.R_base ho15) hb); have n1_ := Aside0.mk (Kd.R_lower ho15 (below_size (BB HB.out))); have n2_ := Aside0.mk (below_step (BB HB.out) hb); clear HO283; clear HB; have HO283 := n0_; have HO286 := n1_; have HB := n2_; clear n0_ n1_ n2_; clear hb ho15) | ((with_reducible refine gate_callee (f := 21) rfl ?_); refine GL (some 46) rfl rfl Try.func21 #[.int .i64 a0] rfl ?_; (with_reducible refine (spec_CodeOf.calls kj4 a0 t287 _ A11.out).mono ?_); rintro e w16 ⟨v288, rfl, ho0, hb⟩; refine ⟨_, rfl, ?_⟩; have n0_ := Aside0.mk (Kd.N_elder' (by (with_reducible repeat (first | apply Kd.N_alloc | apply Kd.N_drewN | apply Kd.N_drew)); exact HO283.out) (by first | exact Kd.N_base ho0 | exact Kd.S_base ho0) hb); have n1_ := Aside0.mk (Kd.R_below (RR HO286.out) hb); have n2_ := Aside0.mk (Kd.N_lower (Kd.N_mono (ok' := fun k_ => some k_ ≠ (v282 : Value).ownBlock ∧ some k_ ≠ (v285 : Value).ownBlock) ho0 (fun k_ hk_ => ⟨(Kd.fresh' (Kd.N_lt (by (with_reducible repeat (first | apply Kd.N_alloc | apply Kd.N_drewN | apply Kd.N_drew)); exact HO283.out)) k_ hk_), (Kd.fresh' (Kd.R_lt (RR HO286.out)) k_ hk_)⟩)) (below_size (BB HB.out))); have n3_ := Aside0.mk (below_step (BB HB.out) hb); clear HO283; clear HO286; clear HB; have HO283 := n0_; have HO286 := n1_; have HO289 := n2_; have HB := n3_; clear n0_ n1_ n2_ n3_; (try clear hb); (try clear ho0)))
    go_loopg [11, 12, 13, 15] kj4 (fun kq v11 v12 v13 v15 w' => ∃ (x11_2 : List (List Int)) (x12_2 : List ByteArray) (x13_2 : Int) (x15_2 : Int), v13 = .int .i64 x13_2 ∧ v15 = .int .i64 x15_2 ∧ Aside0 (spec_Decode.l0 kq l1 l2 t275 t276 x11_2 x12_2 x13_2 t287 x15_2 = some (r1, r2)) ∧ Aside0 (kq ≤ kj4) ∧ Aside0 (Kd.N (Kd.slice 3 (Kd.int .i64)) 52 w' w.heap.size (fun k_ => some k_ ≠ (v12 : Value).ownBlock ∧ some k_ ≠ (v288 : Value).ownBlock) v11 x11_2) ∧ Aside0 (Kd.R Kd.string 9 w' w.heap.size (fun _ => True) v12 x12_2) ∧ Aside0 (Kd.N (Kd.slice 3 (Kd.int .i64)) 52 w' w.heap.size (fun k_ => some k_ ≠ (v11 : Value).ownBlock ∧ some k_ ≠ (v12 : Value).ownBlock) v288 t287) ∧ Aside0 (Below w.heap.size w w'))
    case atStart => exact ⟨(y281), (y284), ((-1)), (0), FR, FR, H', ⟨Nat.le_refl _⟩, ⟨by (with_reducible repeat (first | apply Kd.N_alloc | apply Kd.N_drewN | apply Kd.N_drew)); exact Kd.N_mono HO283.out (fun _ hk => ⟨hk.1.2, hk.2⟩)⟩, ⟨(RR HO286.out)⟩, ⟨by (with_reducible repeat (first | apply Kd.N_alloc | apply Kd.N_drewN | apply Kd.N_drew)); exact HO289.out⟩, ⟨(BB HB.out)⟩⟩
    case round =>
     clear H'
     try clear c1
     try clear c2
     try clear p2
     try clear c6
     try clear p6
     try clear c7
     try clear c7b0
     try clear c7b1
     try clear c8
     try clear c11
     try clear p2
     try clear p6
     obtain ⟨x11_2, x12_2, x13_2, x15_2, rfl, rfl, HA, HK2, HO_11, HO_12, HO_14, HB⟩ := hrel
     cases gk with
     | zero => exact absurd HA.out (by simp [spec_Decode.l0])
     | succ k2 =>
      have H := HA.out
      clear HA
      simp only [spec_Decode.l0] at H
      by_cases c17 : x15_2 < (wrap64 (t275 + t276))
      ·rw [if_pos c17] at H
       have c17b0 : decide (x15_2 < (wrap64 (t275 + t276))) = true := decide_eq_true c17
       clear c17
       by_cases c18 : 0 ≤ x15_2
       ·rw [if_pos c18] at H
        have c18b0 : decide (0 ≤ x15_2) = true := decide_eq_true c18
        clear c18
        by_cases c19 : x15_2 < (l2.length : Int)
        ·rw [if_pos c19] at H
         have c19b0 : decide (x15_2 < (l2.length : Int)) = true := decide_eq_true c19
         clear c19
         obtain ⟨bq20, hbq20⟩ : ∃ b_ : Bool, b_ = (rdOf false l2 x15_2) := ⟨_, rfl⟩
         replace H : (if bq20 = true then (if x13_2 ≥ 0 then (if x15_2 < (l1.length : Int) then (spec_Decode.j2 k2 l1 l2 t275 t276 x11_2 x12_2 t287 x15_2 (((rdOf ByteArray.empty l1 x15_2).size : Int) != x13_2)) else (none)) else (spec_Decode.j2 k2 l1 l2 t275 t276 x11_2 x12_2 t287 x15_2 false)) else (spec_Decode.l0 k2 l1 l2 t275 t276 x11_2 x12_2 x13_2 t287 (wrap64 (x15_2 + 1)))) = some (r1, r2) := by rw [← hbq20] at H; exact H
         have Nbq20 := Aside0.mk hbq20
         clear hbq20
         by_cases c21 : bq20 = true
         ·subst c21
          have H1 : (if x13_2 ≥ 0 then (if x15_2 < (l1.length : Int) then (spec_Decode.j2 k2 l1 l2 t275 t276 x11_2 x12_2 t287 x15_2 (((rdOf ByteArray.empty l1 x15_2).size : Int) != x13_2)) else (none)) else (spec_Decode.j2 k2 l1 l2 t275 t276 x11_2 x12_2 t287 x15_2 false)) = some (r1, r2) := by rw [if_pos rfl] at H; exact H
          clear H
          have H := H1
          clear H1
          have HC22 := Aside0.mk H
          clear H
          have p290 : 0 ≤ (x15_2 : Int) := DT
          have q290 : x15_2 < (l2.length : Int) := DT
          obtain ⟨ad290, e290, hx290_0⟩ := Kd.at_bool HR2.out x15_2 p290 q290
          (try rw [← Nbq20.out] at hx290_0)
          cases e290
          replace hx290_0 := (HB.out.cell (World.block_lt_of_cell? w _ hx290_0)).trans hx290_0
          replace p290 := eq_true p290
          replace q290 := eq_true q290
          go_upto_region 12 with (fail)
          go_cut [69] (fun v69 wc => ∃ (kq : Nat) (x69_21 : Bool), v69 = .bool x69_21 ∧ Aside0 (spec_Decode.j2 kq l1 l2 t275 t276 x11_2 x12_2 t287 x15_2 x69_21 = some (r1, r2)) ∧ Aside0 (kq ≤ k2) ∧ Aside0 (Kd.N (Kd.slice 3 (Kd.int .i64)) 52 wc w.heap.size (fun k_ => some k_ ≠ (u12 : Value).ownBlock ∧ some k_ ≠ (v288 : Value).ownBlock) u11 x11_2) ∧ Aside0 (Kd.R Kd.string 9 wc w.heap.size (fun _ => True) u12 x12_2) ∧ Aside0 (Kd.N (Kd.slice 3 (Kd.int .i64)) 52 wc w.heap.size (fun k_ => some k_ ≠ (u11 : Value).ownBlock ∧ some k_ ≠ (u12 : Value).ownBlock) v288 t287) ∧ Aside0 (Below w.heap.size w wc))
          case first =>
           have H := HC22.out
           clear HC22
           by_cases c23 : x13_2 ≥ 0
           ·rw [if_pos c23] at H
            have c23b0 : decide (0 ≤ x13_2) = true := decide_eq_true c23
            clear c23
            (first | rw [c23b0] | (simp only [i64_w, i32_w]; rw [c23b0]) | skip)
            by_cases c24 : x15_2 < (l1.length : Int)
            ·rw [if_pos c24] at H
             have c24b0 : decide (x15_2 < (l1.length : Int)) = true := decide_eq_true c24
             clear c24
             have H' := Aside0.mk H
             clear H
             have p291 : 0 ≤ (x15_2 : Int) := DT
             have q291 : x15_2 < (l1.length : Int) := DT
             obtain ⟨ad291, e291, hx291_0⟩ := Kd.at_string HR1.out x15_2 p291 q291
             cases e291
             replace hx291_0 := (HB.out.cell (World.block_lt_of_cell? w _ hx291_0)).trans hx291_0
             replace p291 := eq_true p291
             replace q291 := eq_true q291
             go_wp2
             go_meet
             case rel => exact ⟨_, ((((rdOf ByteArray.empty l1 x15_2).size : Int) != x13_2)), FR, H', ⟨by have := HJ4.out; have := HK2.out; first | omega | exact Nat.le_refl _⟩, ⟨by (with_reducible repeat (first | apply Kd.N_alloc | apply Kd.N_drewN | apply Kd.N_drew)); exact HO_11.out⟩, ⟨(RR HO_12.out)⟩, ⟨by (with_reducible repeat (first | apply Kd.N_alloc | apply Kd.N_drewN | apply Kd.N_drew)); exact HO_14.out⟩, ⟨(BB HB.out)⟩⟩
            ·rw [if_neg c24] at H
             exact absurd H (by simp)
           ·rw [if_neg c23] at H
            have c23b0 : decide (0 ≤ x13_2) = false := decide_eq_false c23
            clear c23
            (first | rw [c23b0] | (simp only [i64_w, i32_w]; rw [c23b0]) | skip)
            have H' := Aside0.mk H
            clear H
            go_wp2
            go_meet
            case rel => exact ⟨_, (false), FR, H', ⟨by have := HJ4.out; have := HK2.out; first | omega | exact Nat.le_refl _⟩, ⟨by (with_reducible repeat (first | apply Kd.N_alloc | apply Kd.N_drewN | apply Kd.N_drew)); exact HO_11.out⟩, ⟨(RR HO_12.out)⟩, ⟨by (with_reducible repeat (first | apply Kd.N_alloc | apply Kd.N_drewN | apply Kd.N_drew)); exact HO_14.out⟩, ⟨(BB HB.out)⟩⟩
          case rest =>
           clear HC22
           try clear c1
           try clear c2
           try clear p2
           try clear q2
           try clear hx2
           try clear c6
           try clear p6
           try clear c7
           try clear c7b0
           try clear c7b1
           try clear c8
           try clear c11
           try clear c17
           try clear c17b0
           try clear c18
           try clear c18b0
           try clear c19
           try clear c19b0
           try clear q20
           try clear c21
           try clear c23
           try clear c23b0
           try clear c24
           try clear c24b0
           try clear hx290_0
           try clear hx291_0
           try clear p2
           try clear p290
           try clear p291
           try clear p6
           try clear q290
           try clear q291
           obtain ⟨kq, x69_21, rfl, HA, HJ21, HO_11, HO_12, HO_14, HB⟩ := hcut
           cases kq with
           | zero => exact absurd HA.out (by simp [spec_Decode.j2])
           | succ kj21 =>
            have H := HA.out
            clear HA
            simp only [spec_Decode.j2] at H
            by_cases c25 : x69_21 = true
            ·subst c25
             have H1 : (some ((([] : List ByteArray)), false)) = some (r1, r2) := by rw [if_pos rfl] at H; exact H
             clear H
             have H := H1
             clear H1
             obtain ⟨y292, hy292⟩ : ∃ y_ : List ByteArray, y_ = (([] : List ByteArray)) := ⟨_, rfl⟩
             replace H : (some (y292, false)) = some (r1, r2) := by first | (rw [hy292]; with_reducible exact H) | (have H2_ := (Option.bind_some _ _).symm.trans H; rw [hy292]; with_reducible exact H2_) | (have H2_ := (Option.bind_some _ _).symm.trans H; with_reducible exact H2_) | with_reducible exact H | (rw [hy292]; exact H) | exact H
             have Ny292 := Aside0.mk hy292
             clear hy292
             simp only [Option.some.injEq, Prod.mk.injEq] at H
             obtain ⟨rfl, rfl⟩ := H
             go_wp2_with (first | ((with_reducible refine gate_dst (N := 70) rfl ?_); (try (refine gate_guard (by rfl) ?_; dsimp only)); refine Kd.R_lit Kd.string _ 9 ?hg (N := 70) ?hd (xs := ([] : List ByteArray)) (inner := []) (ok := fun _ => True) (okp := fun _ => True) ?hr ?hp (fun _ hk => hk) trivial (Below.refl _ _) (Nat.le_refl _) (by simp) ?_; (case hd => rfl); (case hg => rfl); (case hr => first | (go_simp; done) | (go_simp; rfl)); (case hp => exact (Reps.none _ _)); intro v293 w26 ho27 hb hg_ hnew_; clear hg_ hnew_; (first | rw [← Ny292.out] at ho27 | (simp only [Int.reduceToNat] at ho27; rw [← Ny292.out] at ho27)); have n0_ := Aside0.mk (Kd.N_elder' (by (with_reducible repeat (first | apply Kd.N_alloc | apply Kd.N_drewN | apply Kd.N_drew)); exact HO_11.out) (Kd.R_base ho27) hb); have n1_ := Aside0.mk (Kd.R_elder' (RR HO_12.out) (Kd.R_base ho27) hb); have n2_ := Aside0.mk (Kd.N_elder' (by (with_reducible repeat (first | apply Kd.N_alloc | apply Kd.N_drewN | apply Kd.N_drew)); exact HO_14.out) (Kd.R_base ho27) hb); have n3_ := Aside0.mk (Kd.R_lower (Kd.R_new' ho27 (Kd.R_lt (RR HO_12.out))) (below_size (BB HB.out))); have n4_ := Aside0.mk (below_step (BB HB.out) hb); clear HO_11; clear HO_12; clear HO_14; clear HB; have HO_11 := n0_; have HO_12 := n1_; have HO_14 := n2_; have HO294 := n3_; have HB := n4_; clear n0_ n1_ n2_ n3_ n4_; clear hb ho27))
             go_ret2
             exact ⟨_, ER, by (with_reducible repeat (first | apply Kd.R_alloc | apply Kd.R_drewN | apply Kd.R_drew)); exact Kd.R_mono HO294.out (fun _ hk => trivial), (BB HB.out)⟩
            ·replace c25 := Bool.eq_false_iff.mpr c25
             subst c25
             have H1 : (if 0 ≤ x15_2 then (if x15_2 < (l1.length : Int) then (if (x11_2.length : Int) < t275 then (if x15_2 < (t287.length : Int) then (if x11_2.length < 5864062014805 then (if x12_2.length < 8796093022208 then (spec_Decode.l0 kj21 l1 l2 t275 t276 (x11_2 ++ [rd_L9 t287 x15_2]) (x12_2 ++ [rdOf ByteArray.empty l1 x15_2]) ((rdOf ByteArray.empty l1 x15_2).size : Int) t287 (wrap64 (x15_2 + 1))) else (none)) else (none)) else (none)) else (spec_Decode.l0 kj21 l1 l2 t275 t276 x11_2 x12_2 ((rdOf ByteArray.empty l1 x15_2).size : Int) t287 (wrap64 (x15_2 + 1)))) else (none)) else (none)) = some (r1, r2) := by rw [if_neg (show ¬ (false = true) by decide)] at H; exact H
             clear H
             have H := H1
             clear H1
             by_cases c28 : 0 ≤ x15_2
             ·rw [if_pos c28] at H
              have c28b0 : decide (0 ≤ x15_2) = true := decide_eq_true c28
              clear c28
              by_cases c29 : x15_2 < (l1.length : Int)
              ·rw [if_pos c29] at H
               have c29b0 : decide (x15_2 < (l1.length : Int)) = true := decide_eq_true c29
               clear c29
               by_cases c30 : (x11_2.length : Int) < t275
               ·rw [if_pos c30] at H
                have c30b0 : decide ((x11_2.length : Int) < t275) = true := decide_eq_true c30
                clear c30
                by_cases c31 : x15_2 < (t287.length : Int)
                ·rw [if_pos c31] at H
                 have c31b0 : decide (x15_2 < (t287.length : Int)) = true := decide_eq_true c31
                 clear c31
                 by_cases c32 : x11_2.length < 5864062014805
                 ·rw [if_pos c32] at H
                  have LMc32 := Aside0.mk c32
                  clear c32
                  obtain ⟨y297, hy297⟩ : ∃ y_ : List (List Int), y_ = (x11_2 ++ [rd_L9 t287 x15_2]) := ⟨_, rfl⟩
                  replace H : (if x12_2.length < 8796093022208 then (spec_Decode.l0 kj21 l1 l2 t275 t276 y297 (x12_2 ++ [rdOf ByteArray.empty l1 x15_2]) ((rdOf ByteArray.empty l1 x15_2).size : Int) t287 (wrap64 (x15_2 + 1))) else (none)) = some (r1, r2) := by first | (rw [hy297]; with_reducible exact H) | (have H2_ := (Option.bind_some _ _).symm.trans H; rw [hy297]; with_reducible exact H2_) | (have H2_ := (Option.bind_some _ _).symm.trans H; with_reducible exact H2_) | with_reducible exact H | (rw [hy297]; exact H) | exact H
                  have Ny297 := Aside0.mk hy297
                  clear hy297
                  by_cases c33 : x12_2.length < 8796093022208
                  ·rw [if_pos c33] at H
                   have LMc33 := Aside0.mk c33
                   clear c33
                   obtain ⟨y301, hy301⟩ : ∃ y_ : List ByteArray, y_ = (x12_2 ++ [rdOf ByteArray.empty l1 x15_2]) := ⟨_, rfl⟩
                   replace H : (spec_Decode.l0 kj21 l1 l2 t275 t276 y297 y301 ((rdOf ByteArray.empty l1 x15_2).size : Int) t287 (wrap64 (x15_2 + 1))) = some (r1, r2) := by first | (rw [hy301]; with_reducible exact H) | (have H2_ := (Option.bind_some _ _).symm.trans H; rw [hy301]; with_reducible exact H2_) | (have H2_ := (Option.bind_some _ _).symm.trans H; with_reducible exact H2_) | with_reducible exact H | (rw [hy301]; exact H) | exact H
                   have Ny301 := Aside0.mk hy301
                   clear hy301
                   have H' := Aside0.mk H
                   clear H
                   have p295 : 0 ≤ (x15_2 : Int) := DT
                   have q295 : x15_2 < (l1.length : Int) := DT
                   obtain ⟨ad295, e295, hx295_0⟩ := Kd.at_string HR1.out x15_2 p295 q295
                   cases e295
                   replace hx295_0 := (HB.out.cell (World.block_lt_of_cell? w _ hx295_0)).trans hx295_0
                   replace p295 := eq_true p295
                   replace q295 := eq_true q295
                   obtain ⟨Ao34, co34, eo34⟩ := Kd.N_slice HO_11.out
                   subst eo34
                   obtain ⟨Ao35, co35, eo35⟩ := Kd.N_slice HO_14.out
                   subst eo35
                   have p296 : 0 ≤ (x15_2 : Int) := DT
                   have q296 : x15_2 < (t287.length : Int) := DT
                   obtain ⟨ad296, A296_0, c296_0, e296, hx296_0, hl296_0, hi296_0⟩ := at_L9 (Kd.N_reads' HO_14.out).2.2 x15_2 p296 q296
                   cases e296
                   obtain ⟨ce296, hce296, hMe296, hcc296⟩ := Kd.N_get HO_14.out [] x15_2 p296 (by first | exact q296 | exact DT | (have e_ := (Kd.N_reads' HO_14.out).1; omega))
                   obtain ⟨ua296_0, uc296_0, rfl, ul296_0, ge296_0⟩ := Kd.FK_slice_open hMe296
                   have hv296_0 := hcc296 0 _ rfl
                   rw [Nat.add_zero, show ((Kd.slice 3 (Kd.int .i64))).sz = 1 from rfl, Nat.mul_one] at hv296_0
                   replace hv296_0 := Option.some.inj (hv296_0.symm.trans hx296_0)
                   injection hv296_0 with hva_ hvn_ hvc_
                   rw [hva_] at ge296_0
                   rw [hvc_] at ul296_0
                   have HL296_0 := Aside0.mk (show Kd.V (Kd.int .i64) 3 _ w.heap.size _ _ (rd_L9 t287 x15_2) from Kd.V_mk ul296_0 ge296_0)
                   clear hva_ hvn_ hvc_ ge296_0 ul296_0
                   clear hcc296 hce296
                   have HR296_0 := Aside0.mk hi296_0
                   have HC296_0 := Aside0.mk hl296_0
                   clear hi296_0 hl296_0
                   replace p296 := eq_true p296
                   replace q296 := eq_true q296
                   go_wp2_with (first | ((with_reducible refine gate_builtin (b := .append) (xs := #[.tmp 80, .tmp 85]) rfl ?_); (try (refine gate_guard (by rfl) ?_; dsimp only)); at_builtin; refine Kd.N_append (Kd.slice 3 (Kd.int .i64)) (w0 := w) w.heap.size rfl (.tmp 80) (.tmp 85) 50 52 (.slice none 0 0) 24 rfl Try.underlying50 info52 rfl (by decide) (by omega) (.slice Ao34 x11_2.length co34) x11_2 (rd_L9 t287 x15_2) [.slice A296_0 (rd_L9 t287 x15_2).length c296_0] (fun k_ => some k_ ≠ (u12 : Value).ownBlock ∧ some k_ ≠ (.slice (some ad296) t287.length co35 : Value).ownBlock) (fun k_ => ((fun k_ => some k_ ≠ (u12 : Value).ownBlock ∧ some k_ ≠ (.slice (some ad296) t287.length co35 : Value).ownBlock)) k_ ∧ some k_ ≠ (.slice Ao34 x11_2.length co34 : Value).ownBlock) rfl rfl ?aP (fun _ hk => hk) ?aF ?aO ?aB ?aS ?aL ?_; (case aP => exact (Kd.FK_slice_mk (Kd.V_reads' (Kd.V_mono (ok' := (fun k_ => ((fun k_ => some k_ ≠ (u12 : Value).ownBlock ∧ some k_ ≠ (.slice (some ad296) t287.length co35 : Value).ownBlock)) k_ ∧ some k_ ≠ (.slice Ao34 x11_2.length co34 : Value).ownBlock)) (HL296_0.out) (fun k_ hk => ⟨⟨hk.1.2, hk.2⟩, hk.1.1⟩))).2.1 (Kd.V_F (Kd.V_mono (ok' := (fun k_ => ((fun k_ => some k_ ≠ (u12 : Value).ownBlock ∧ some k_ ≠ (.slice (some ad296) t287.length co35 : Value).ownBlock)) k_ ∧ some k_ ≠ (.slice Ao34 x11_2.length co34 : Value).ownBlock)) (HL296_0.out) (fun k_ hk => ⟨⟨hk.1.2, hk.2⟩, hk.1.1⟩))))); (case aB => exact (BB HB.out)); (case aF => exact (fun k_ hk => ⟨Kd.fresh' (Kd.R_lt (RR HO_12.out)) k_ hk, Kd.fresh' (Kd.N_lt (by (with_reducible repeat (first | apply Kd.N_alloc | apply Kd.N_drewN | apply Kd.N_drew)); exact HO_14.out)) k_ hk⟩)); (case aO => exact (by (with_reducible repeat (first | apply Kd.N_alloc | apply Kd.N_drewN | apply Kd.N_drew)); exact HO_11.out)); (case aS => exact (below_size (BB HB.out))); (case aL => have := LMc32.out; omega); intro v298 w36 ho hb hg hat; rw [← Ny297.out] at ho; have n0_ := Aside0.mk (Kd.R_over' (RR HO_12.out) (Kd.N_typed (by (with_reducible repeat (first | apply Kd.N_alloc | apply Kd.N_drewN | apply Kd.N_drew)); exact HO_11.out)) (by decide) hg); have n1_ := Aside0.mk (Kd.N_afterv (ok := (fun k_ => some k_ ≠ (u12 : Value).ownBlock)) (by (with_reducible repeat (first | apply Kd.N_alloc | apply Kd.N_drewN | apply Kd.N_drew)); exact Kd.N_mono HO_14.out (fun _ hk => ⟨hk.2, hk.1⟩)) hg hat); have n2_ := Aside0.mk (Kd.V_afterv (ok := (fun k_ => some k_ ≠ (u12 : Value).ownBlock ∧ some k_ ≠ (.slice (some ad296) t287.length co35 : Value).ownBlock)) (by (with_reducible repeat (first | apply Kd.V_alloc | apply Kd.V_drewN | apply Kd.V_drew)); exact Kd.V_mono HL296_0.out (by first | exact (fun _ hk => ⟨⟨hk.1.2, hk.2⟩, hk.1.1⟩) | exact (fun _ hk => PT hk))) hg hat); have n3_ := Aside0.mk (hb); have n4_ := Aside0.mk (ho); clear HO_12; clear HO_14; clear HL296_0; clear HB; clear HO_11; have HO_12 := n0_; have HO_14 := n1_; have HL296_0 := n2_; have HB := n3_; have HO299 := n4_; clear n0_ n1_ n2_ n3_ n4_; clear ho hb hg hat; have p300 : 0 ≤ (x15_2 : Int) := DT; have q300 : x15_2 < (l1.length : Int) := DT; obtain ⟨ad300, e300, hx300_0⟩ := Kd.at_string HR1.out x15_2 p300 q300; obtain rfl : ad295 = ad300 := (by injection e300); replace hx300_0 := (HB.out.cell (World.block_lt_of_cell? w _ hx300_0)).trans hx300_0; replace p300 := eq_true p300; replace q300 := eq_true q300) | ((with_reducible refine gate_builtin (b := .append) (xs := #[.tmp 87, .tmp 92]) rfl ?_); (try (refine gate_guard (by rfl) ?_; dsimp only)); at_builtin; refine Kd.R_append Kd.string (w0 := w) w.heap.size rfl (.tmp 87) (.tmp 92) 34 9 (.string ⟨#[]⟩) 16 rfl Try.underlying34 info9 rfl (by decide) (by omega) u12 x12_2 (rdOf ByteArray.empty l1 x15_2) [.string (rdOf ByteArray.empty l1 x15_2)] (fun _ => True) (fun _ => False) rfl rfl ?aP (fun _ hk => hk.elim) ?aF ?aO ?aB ?aS ?aL ?_; (case aP => exact rfl); (case aB => exact (BB HB.out)); (case aF => exact (fun _ _ => trivial)); (case aO => exact (RR HO_12.out)); (case aS => exact (below_size (BB HB.out))); (case aL => have := LMc33.out; omega); intro v302 w37 ho hb hg hat; rw [← Ny301.out] at ho; have n0_ := Aside0.mk (Kd.N_afterv (ok := (fun k_ => some k_ ≠ (v298 : Value).ownBlock)) (by (with_reducible repeat (first | apply Kd.N_alloc | apply Kd.N_drewN | apply Kd.N_drew)); exact Kd.N_mono HO_14.out (fun _ hk => ⟨hk.2, hk.1⟩)) hg hat); have n1_ := Aside0.mk (Kd.V_afterv (ok := (fun k_ => some k_ ≠ (.slice (some ad296) t287.length co35 : Value).ownBlock ∧ some k_ ≠ (v298 : Value).ownBlock)) (by (with_reducible repeat (first | apply Kd.V_alloc | apply Kd.V_drewN | apply Kd.V_drew)); exact Kd.V_mono HL296_0.out (by first | exact (fun _ hk => ⟨⟨hk.1.2, hk.2⟩, hk.1.1⟩) | exact (fun _ hk => PT hk))) hg hat); have n2_ := Aside0.mk (Kd.N_afterv (ok := (fun k_ => some k_ ≠ (.slice (some ad296) t287.length co35 : Value).ownBlock)) (by (with_reducible repeat (first | apply Kd.N_alloc | apply Kd.N_drewN | apply Kd.N_drew)); exact Kd.N_mono HO299.out (fun _ hk => ⟨hk.2, hk.1⟩)) hg hat); have n3_ := Aside0.mk (hb); have n4_ := Aside0.mk (ho); clear HO_14; clear HL296_0; clear HO299; clear HB; clear HO_12; have HO_14 := n0_; have HL296_0 := n1_; have HO299 := n2_; have HB := n3_; have HO303 := n4_; clear n0_ n1_ n2_ n3_ n4_; clear ho hb hg hat))
                   go_roundg kj21
                   case measure => have := HJ4.out; have := HK2.out; have := HJ21.out; omega
                   case rel => exact ⟨(y297), (y301), (((rdOf ByteArray.empty l1 x15_2).size : Int)), (wrap64 (x15_2 + 1)), FR, FR, H', ⟨by have := HJ4.out; have := HK2.out; have := HJ21.out; omega⟩, ⟨by (with_reducible repeat (first | apply Kd.N_alloc | apply Kd.N_drewN | apply Kd.N_drew)); exact Kd.N_mono HO299.out (fun _ hk => ⟨hk.2, hk.1⟩)⟩, ⟨(RR HO303.out)⟩, ⟨by (with_reducible repeat (first | apply Kd.N_alloc | apply Kd.N_drewN | apply Kd.N_drew)); exact HO_14.out⟩, ⟨(BB HB.out)⟩⟩
                  ·rw [if_neg c33] at H
                   exact absurd H (by simp)
                 ·rw [if_neg c32] at H
                  exact absurd H (by simp)
                ·rw [if_neg c31] at H
                 exact absurd H (by simp)
               ·rw [if_neg c30] at H
                have c30b0 : decide ((x11_2.length : Int) < t275) = false := decide_eq_false c30
                clear c30
                have H' := Aside0.mk H
                clear H
                have p295 : 0 ≤ (x15_2 : Int) := DT
                have q295 : x15_2 < (l1.length : Int) := DT
                obtain ⟨ad295, e295, hx295_0⟩ := Kd.at_string HR1.out x15_2 p295 q295
                cases e295
                replace hx295_0 := (HB.out.cell (World.block_lt_of_cell? w _ hx295_0)).trans hx295_0
                replace p295 := eq_true p295
                replace q295 := eq_true q295
                obtain ⟨Ao38, co38, eo38⟩ := Kd.N_slice HO_11.out
                subst eo38
                go_wp2
                go_roundg kj21
                case measure => have := HJ4.out; have := HK2.out; have := HJ21.out; omega
                case rel => exact ⟨(x11_2), (x12_2), (((rdOf ByteArray.empty l1 x15_2).size : Int)), (wrap64 (x15_2 + 1)), FR, FR, H', ⟨by have := HJ4.out; have := HK2.out; have := HJ21.out; omega⟩, ⟨by (with_reducible repeat (first | apply Kd.N_alloc | apply Kd.N_drewN | apply Kd.N_drew)); exact HO_11.out⟩, ⟨(RR HO_12.out)⟩, ⟨by (with_reducible repeat (first | apply Kd.N_alloc | apply Kd.N_drewN | apply Kd.N_drew)); exact HO_14.out⟩, ⟨(BB HB.out)⟩⟩
              ·rw [if_neg c29] at H
               exact absurd H (by simp)
             ·rw [if_neg c28] at H
              exact absurd H (by simp)
         ·replace c21 := Bool.eq_false_iff.mpr c21
          subst c21
          have H1 : (spec_Decode.l0 k2 l1 l2 t275 t276 x11_2 x12_2 x13_2 t287 (wrap64 (x15_2 + 1))) = some (r1, r2) := by rw [if_neg (show ¬ (false = true) by decide)] at H; exact H
          clear H
          have H := H1
          clear H1
          have H' := Aside0.mk H
          clear H
          have p290 : 0 ≤ (x15_2 : Int) := DT
          have q290 : x15_2 < (l2.length : Int) := DT
          obtain ⟨ad290, e290, hx290_0⟩ := Kd.at_bool HR2.out x15_2 p290 q290
          (try rw [← Nbq20.out] at hx290_0)
          cases e290
          replace hx290_0 := (HB.out.cell (World.block_lt_of_cell? w _ hx290_0)).trans hx290_0
          replace p290 := eq_true p290
          replace q290 := eq_true q290
          go_wp2
          go_roundg k2
          case measure => have := HJ4.out; have := HK2.out; omega
          case rel => exact ⟨(x11_2), (x12_2), (x13_2), (wrap64 (x15_2 + 1)), FR, FR, H', ⟨by have := HJ4.out; have := HK2.out; omega⟩, ⟨by (with_reducible repeat (first | apply Kd.N_alloc | apply Kd.N_drewN | apply Kd.N_drew)); exact HO_11.out⟩, ⟨(RR HO_12.out)⟩, ⟨by (with_reducible repeat (first | apply Kd.N_alloc | apply Kd.N_drewN | apply Kd.N_drew)); exact HO_14.out⟩, ⟨(BB HB.out)⟩⟩
        ·rw [if_neg c19] at H
         exact absurd H (by simp)
       ·rw [if_neg c18] at H
        exact absurd H (by simp)
      ·rw [if_neg c17] at H
       have c17b0 : decide (x15_2 < (wrap64 (t275 + t276))) = false := decide_eq_false c17
       clear c17
       by_cases c39 : (x11_2.length : Int) < t275
       ·rw [if_pos c39] at H
        have c39b0 : decide ((x11_2.length : Int) < t275) = true := decide_eq_true c39
        clear c39
        obtain ⟨y304, hy304⟩ : ∃ y_ : List ByteArray, y_ = (([] : List ByteArray)) := ⟨_, rfl⟩
        replace H : (some (y304, false)) = some (r1, r2) := by first | (rw [hy304]; with_reducible exact H) | (have H2_ := (Option.bind_some _ _).symm.trans H; rw [hy304]; with_reducible exact H2_) | (have H2_ := (Option.bind_some _ _).symm.trans H; with_reducible exact H2_) | with_reducible exact H | (rw [hy304]; exact H) | exact H
        have Ny304 := Aside0.mk hy304
        clear hy304
        simp only [Option.some.injEq, Prod.mk.injEq] at H
        obtain ⟨rfl, rfl⟩ := H
        obtain ⟨Ao40, co40, eo40⟩ := Kd.N_slice HO_11.out
        subst eo40
        go_wp2_with (first | ((with_reducible refine gate_dst (N := 98) rfl ?_); (try (refine gate_guard (by rfl) ?_; dsimp only)); refine Kd.R_lit Kd.string _ 9 ?hg (N := 98) ?hd (xs := ([] : List ByteArray)) (inner := []) (ok := fun _ => True) (okp := fun _ => True) ?hr ?hp (fun _ hk => hk) trivial (Below.refl _ _) (Nat.le_refl _) (by simp) ?_; (case hd => rfl); (case hg => rfl); (case hr => first | (go_simp; done) | (go_simp; rfl)); (case hp => exact (Reps.none _ _)); intro v305 w41 ho42 hb hg_ hnew_; clear hg_ hnew_; (first | rw [← Ny304.out] at ho42 | (simp only [Int.reduceToNat] at ho42; rw [← Ny304.out] at ho42)); have n0_ := Aside0.mk (Kd.N_elder' (by (with_reducible repeat (first | apply Kd.N_alloc | apply Kd.N_drewN | apply Kd.N_drew)); exact HO_11.out) (Kd.R_base ho42) hb); have n1_ := Aside0.mk (Kd.R_elder' (RR HO_12.out) (Kd.R_base ho42) hb); have n2_ := Aside0.mk (Kd.N_elder' (by (with_reducible repeat (first | apply Kd.N_alloc | apply Kd.N_drewN | apply Kd.N_drew)); exact HO_14.out) (Kd.R_base ho42) hb); have n3_ := Aside0.mk (Kd.R_lower (Kd.R_new' ho42 (Kd.R_lt (RR HO_12.out))) (below_size (BB HB.out))); have n4_ := Aside0.mk (below_step (BB HB.out) hb); clear HO_11; clear HO_12; clear HO_14; clear HB; have HO_11 := n0_; have HO_12 := n1_; have HO_14 := n2_; have HO306 := n3_; have HB := n4_; clear n0_ n1_ n2_ n3_ n4_; clear hb ho42))
        go_ret2
        exact ⟨_, ER, by (with_reducible repeat (first | apply Kd.R_alloc | apply Kd.R_drewN | apply Kd.R_drew)); exact Kd.R_mono HO306.out (fun _ hk => trivial), (BB HB.out)⟩
       ·rw [if_neg c39] at H
        have c39b0 : decide ((x11_2.length : Int) < t275) = false := decide_eq_false c39
        clear c39
        replace H := Option.bind_eq_some_iff.mp H
        obtain ⟨⟨t307, t310⟩, A430, H⟩ := H
        replace H : (if t310 = true then ((spec_ApplyM.f k2 t307 x12_2).bind fun t311 => (some (t311, true))) else (some ((([] : List ByteArray)), false))) = some (r1, r2) := H
        have A43 := Aside0.mk A430
        clear A430
        by_cases c44 : t310 = true
        ·subst c44
         have H1 : ((spec_ApplyM.f k2 t307 x12_2).bind fun t311 => (some (t311, true))) = some (r1, r2) := by rw [if_pos rfl] at H; exact H
         clear H
         have H := H1
         clear H1
         replace H := Option.bind_eq_some_iff.mp H
         obtain ⟨t311, A450, H⟩ := H
         replace H : (some (t311, true)) = some (r1, r2) := H
         have A45 := Aside0.mk A450
         clear A450
         simp only [Option.some.injEq, Prod.mk.injEq] at H
         obtain ⟨rfl, rfl⟩ := H
         obtain ⟨Ao46, co46, eo46⟩ := Kd.N_slice HO_11.out
         subst eo46
         go_wp2_with (first | ((with_reducible refine gate_callee (f := 22) rfl ?_); refine GL (some 101) rfl rfl Try.func22 #[.slice Ao46 x11_2.length co46] rfl ?_; (with_reducible refine (spec_InvM.calls k2 _ _ x11_2 t307 true _ ?side1 ?side2 A43.out).mono ?_); (case side1 => exact CC (Kd.N_reads' HO_11.out).2.2); (case side2 => exact (Kd.N_reads' HO_11.out).2.1); rintro e w47 ⟨v308, rfl, ho0, hb⟩; refine ⟨_, rfl, ?_⟩; have n0_ := Aside0.mk (Kd.N_elder' (by (with_reducible repeat (first | apply Kd.N_alloc | apply Kd.N_drewN | apply Kd.N_drew)); exact HO_11.out) (by first | exact Kd.N_base ho0 | exact Kd.S_base ho0) hb); have n1_ := Aside0.mk (Kd.R_below (RR HO_12.out) hb); have n2_ := Aside0.mk (Kd.N_elder' (by (with_reducible repeat (first | apply Kd.N_alloc | apply Kd.N_drewN | apply Kd.N_drew)); exact HO_14.out) (by first | exact Kd.N_base ho0 | exact Kd.S_base ho0) hb); have n3_ := Aside0.mk (Kd.N_lower (Kd.N_mono (ok' := fun k_ => some k_ ≠ (.slice Ao46 x11_2.length co46 : Value).ownBlock ∧ some k_ ≠ (u12 : Value).ownBlock ∧ some k_ ≠ (v288 : Value).ownBlock) ho0 (fun k_ hk_ => ⟨(Kd.fresh' (Kd.N_lt (by (with_reducible repeat (first | apply Kd.N_alloc | apply Kd.N_drewN | apply Kd.N_drew)); exact HO_11.out)) k_ hk_), (Kd.fresh' (Kd.R_lt (RR HO_12.out)) k_ hk_), (Kd.fresh' (Kd.N_lt (by (with_reducible repeat (first | apply Kd.N_alloc | apply Kd.N_drewN | apply Kd.N_drew)); exact HO_14.out)) k_ hk_)⟩)) (below_size (BB HB.out))); have n4_ := Aside0.mk (below_step (BB HB.out) hb); clear HO_11; clear HO_12; clear HO_14; clear HB; have HO_11 := n0_; have HO_12 := n1_; have HO_14 := n2_; have HO309 := n3_; have HB := n4_; clear n0_ n1_ n2_ n3_ n4_; (try clear hb); (try clear ho0); obtain ⟨Ao48, co48, eo48⟩ := Kd.N_slice HO309.out; subst eo48; obtain ⟨Ao49, co49, eo49⟩ := Kd.R_slice HO_12.out; subst eo49) | ((with_reducible refine gate_callee (f := 23) rfl ?_); refine GL (some 109) rfl rfl Try.func23 #[.slice Ao48 t307.length co48, .slice Ao49 x12_2.length co49] rfl ?_; (with_reducible refine (spec_ApplyM.calls k2 _ _ t307 _ _ x12_2 t311 _ ?side1 ?side2 ?side3 ?side4 A45.out).mono ?_); (case side1 => exact CC (Kd.N_reads' HO309.out).2.2); (case side2 => exact (Kd.N_reads' HO309.out).2.1); (case side3 => exact CC (Kd.R_reads' HO_12.out).2.2); (case side4 => exact (Kd.R_reads' HO_12.out).2.1); rintro e w50 ⟨v312, rfl, ho0, hb⟩; refine ⟨_, rfl, ?_⟩; have n0_ := Aside0.mk (Kd.N_elder' (by (with_reducible repeat (first | apply Kd.N_alloc | apply Kd.N_drewN | apply Kd.N_drew)); exact HO_11.out) (Kd.R_base ho0) hb); have n1_ := Aside0.mk (Kd.R_elder' (RR HO_12.out) (Kd.R_base ho0) hb); have n2_ := Aside0.mk (Kd.N_elder' (by (with_reducible repeat (first | apply Kd.N_alloc | apply Kd.N_drewN | apply Kd.N_drew)); exact HO_14.out) (Kd.R_base ho0) hb); have n3_ := Aside0.mk (Kd.N_elder' (by (with_reducible repeat (first | apply Kd.N_alloc | apply Kd.N_drewN | apply Kd.N_drew)); exact HO309.out) (Kd.R_base ho0) hb); have n4_ := Aside0.mk (Kd.R_lower (Kd.R_new' ho0 (Kd.R_lt (RR HO_12.out))) (below_size (BB HB.out))); have n5_ := Aside0.mk (below_step (BB HB.out) hb); clear HO_11; clear HO_12; clear HO_14; clear HO309; clear HB; have HO_11 := n0_; have HO_12 := n1_; have HO_14 := n2_; have HO309 := n3_; have HO313 := n4_; have HB := n5_; clear n0_ n1_ n2_ n3_ n4_ n5_; (try clear hb); (try clear ho0)))
         go_ret2
         exact ⟨_, ER, by (with_reducible repeat (first | apply Kd.R_alloc | apply Kd.R_drewN | apply Kd.R_drew)); exact Kd.R_mono HO313.out (fun _ hk => trivial), (BB HB.out)⟩
        ·replace c44 := Bool.eq_false_iff.mpr c44
         subst c44
         have H1 : (some ((([] : List ByteArray)), false)) = some (r1, r2) := by rw [if_neg (show ¬ (false = true) by decide)] at H; exact H
         clear H
         have H := H1
         clear H1
         obtain ⟨y314, hy314⟩ : ∃ y_ : List ByteArray, y_ = (([] : List ByteArray)) := ⟨_, rfl⟩
         replace H : (some (y314, false)) = some (r1, r2) := by first | (rw [hy314]; with_reducible exact H) | (have H2_ := (Option.bind_some _ _).symm.trans H; rw [hy314]; with_reducible exact H2_) | (have H2_ := (Option.bind_some _ _).symm.trans H; with_reducible exact H2_) | with_reducible exact H | (rw [hy314]; exact H) | exact H
         have Ny314 := Aside0.mk hy314
         clear hy314
         simp only [Option.some.injEq, Prod.mk.injEq] at H
         obtain ⟨rfl, rfl⟩ := H
         obtain ⟨Ao51, co51, eo51⟩ := Kd.N_slice HO_11.out
         subst eo51
         go_wp2_with (first | ((with_reducible refine gate_callee (f := 22) rfl ?_); refine GL (some 101) rfl rfl Try.func22 #[.slice Ao51 x11_2.length co51] rfl ?_; (with_reducible refine (spec_InvM.calls k2 _ _ x11_2 t307 false _ ?side1 ?side2 A43.out).mono ?_); (case side1 => exact CC (Kd.N_reads' HO_11.out).2.2); (case side2 => exact (Kd.N_reads' HO_11.out).2.1); rintro e w52 ⟨v308, rfl, ho0, hb⟩; refine ⟨_, rfl, ?_⟩; have n0_ := Aside0.mk (Kd.N_elder' (by (with_reducible repeat (first | apply Kd.N_alloc | apply Kd.N_drewN | apply Kd.N_drew)); exact HO_11.out) (by first | exact Kd.N_base ho0 | exact Kd.S_base ho0) hb); have n1_ := Aside0.mk (Kd.R_below (RR HO_12.out) hb); have n2_ := Aside0.mk (Kd.N_elder' (by (with_reducible repeat (first | apply Kd.N_alloc | apply Kd.N_drewN | apply Kd.N_drew)); exact HO_14.out) (by first | exact Kd.N_base ho0 | exact Kd.S_base ho0) hb); have n3_ := Aside0.mk (Kd.N_lower (Kd.N_mono (ok' := fun k_ => some k_ ≠ (.slice Ao51 x11_2.length co51 : Value).ownBlock ∧ some k_ ≠ (u12 : Value).ownBlock ∧ some k_ ≠ (v288 : Value).ownBlock) ho0 (fun k_ hk_ => ⟨(Kd.fresh' (Kd.N_lt (by (with_reducible repeat (first | apply Kd.N_alloc | apply Kd.N_drewN | apply Kd.N_drew)); exact HO_11.out)) k_ hk_), (Kd.fresh' (Kd.R_lt (RR HO_12.out)) k_ hk_), (Kd.fresh' (Kd.N_lt (by (with_reducible repeat (first | apply Kd.N_alloc | apply Kd.N_drewN | apply Kd.N_drew)); exact HO_14.out)) k_ hk_)⟩)) (below_size (BB HB.out))); have n4_ := Aside0.mk (below_step (BB HB.out) hb); clear HO_11; clear HO_12; clear HO_14; clear HB; have HO_11 := n0_; have HO_12 := n1_; have HO_14 := n2_; have HO309 := n3_; have HB := n4_; clear n0_ n1_ n2_ n3_ n4_; (try clear hb); (try clear ho0)) | ((with_reducible refine gate_dst (N := 106) rfl ?_); (try (refine gate_guard (by rfl) ?_; dsimp only)); refine Kd.R_lit Kd.string _ 9 ?hg (N := 106) ?hd (xs := ([] : List ByteArray)) (inner := []) (ok := fun _ => True) (okp := fun _ => True) ?hr ?hp (fun _ hk => hk) trivial (Below.refl _ _) (Nat.le_refl _) (by simp) ?_; (case hd => rfl); (case hg => rfl); (case hr => first | (go_simp; done) | (go_simp; rfl)); (case hp => exact (Reps.none _ _)); intro v315 w53 ho54 hb hg_ hnew_; clear hg_ hnew_; (first | rw [← Ny314.out] at ho54 | (simp only [Int.reduceToNat] at ho54; rw [← Ny314.out] at ho54)); have n0_ := Aside0.mk (Kd.N_elder' (by (with_reducible repeat (first | apply Kd.N_alloc | apply Kd.N_drewN | apply Kd.N_drew)); exact HO_11.out) (Kd.R_base ho54) hb); have n1_ := Aside0.mk (Kd.R_elder' (RR HO_12.out) (Kd.R_base ho54) hb); have n2_ := Aside0.mk (Kd.N_elder' (by (with_reducible repeat (first | apply Kd.N_alloc | apply Kd.N_drewN | apply Kd.N_drew)); exact HO_14.out) (Kd.R_base ho54) hb); have n3_ := Aside0.mk (Kd.N_elder' (by (with_reducible repeat (first | apply Kd.N_alloc | apply Kd.N_drewN | apply Kd.N_drew)); exact HO309.out) (Kd.R_base ho54) hb); have n4_ := Aside0.mk (Kd.R_lower (Kd.R_new' ho54 (Kd.R_lt (RR HO_12.out))) (below_size (BB HB.out))); have n5_ := Aside0.mk (below_step (BB HB.out) hb); clear HO_11; clear HO_12; clear HO_14; clear HO309; clear HB; have HO_11 := n0_; have HO_12 := n1_; have HO_14 := n2_; have HO309 := n3_; have HO316 := n4_; have HB := n5_; clear n0_ n1_ n2_ n3_ n4_ n5_; clear hb ho54))
         go_ret2
         exact ⟨_, ER, by (with_reducible repeat (first | apply Kd.R_alloc | apply Kd.R_drewN | apply Kd.R_drew)); exact Kd.R_mono HO316.out (fun _ hk => trivial), (BB HB.out)⟩

end Go.Proofs.Ytahimindlnkmoaa.Pr

namespace Go.Proofs.Ytahimindlnkmoaa.Pr
open Go.RowKit Go.Proofs.YtahimindlnkmoaaW.PrintWords Go.Proofs.YtahimindlnkmoaaW.PrintLast Go.Proofs.YtahimindlnkmoaaW.PrintMore
attribute [local go_sem] max2_int min2_int max_two min_two max_three min_three max_four min_four
set_option linter.unusedVariables false
set_option linter.unusedSimpArgs false
def spec_GroupSize.f (a0 : Int) : Option (Int) := (spec_SchemaOf.f a0).bind fun bt317 => (some (wrap64 ((wrap64 (bt317.1 * 4)) * 2)))
set_option maxHeartbeats 8000000 in
set_option maxRecDepth 100000 in
theorem spec_GroupSize.calls (a0 : Int) (r : Int) (w : World) (h : spec_GroupSize.f a0 = some r) :
  Calls Try.prog 25 #[.int .i64 a0] w fun e w' => e = .returned (.int .i64 r) ∧ Drawn0 w w' := by
 have H : ((spec_SchemaOf.f a0).bind fun bt317 => (some (wrap64 ((wrap64 (bt317.1 * 4)) * 2)))) = some r := h
 clear h
 replace H := Option.bind_eq_some_iff.mp H
 obtain ⟨⟨t317, t318, t319⟩, A20, H⟩ := H
 replace H : (some (wrap64 ((wrap64 (t317 * 4)) * 2))) = some r := H
 have A2 := Aside0.mk A20
 clear A20
 obtain rfl := Option.some.inj H
 go_enter Try.func25, Try.ntmps25
 go_wp2_with (first | ((with_reducible refine gate_callee (f := 19) rfl ?_); refine GL (some 8) rfl rfl Try.func19 #[.int .i64 a0] rfl ?_; (with_reducible refine (spec_SchemaOf.calls a0 t317 t318 t319 _ A2.out).mono ?_); rintro e w' ⟨rfl, ⟨nd, rfl⟩⟩; refine ⟨_, rfl, ?_⟩))
 go_ret
 exact ⟨FR, by repeat (first | exact Drawn0.refl _ | apply Drawn0.step)⟩

end Go.Proofs.Ytahimindlnkmoaa.Pr

namespace Go.Proofs.Ytahimindlnkmoaa.Pr
open Go.RowKit Go.Proofs.YtahimindlnkmoaaW.PrintWords Go.Proofs.YtahimindlnkmoaaW.PrintLast Go.Proofs.YtahimindlnkmoaaW.PrintMore
attribute [local go_sem] max2_int min2_int max_two min_two max_three min_three max_four min_four
set_option linter.unusedVariables false
set_option linter.unusedSimpArgs false
def spec_PlaceOf.f (a0 : Int) (a1 : Int) : Option (Int × Int × Int) := (spec_SchemaOf.f a0).bind fun bt320 => (if bt320.2.2 = true then ((spec_l01In.f a1 0 100000).bind fun t323 => (if t323 = true then ((spec_GroupSize.f a0).bind fun t324 => (if t324 = 0 then (none) else (if bt320.1 = 0 then (none) else (some (wrap64 (Int.tdiv a1 t324), Int.tmod (wrap64 (Int.tdiv (Int.tmod a1 t324) 4)) bt320.1, wrap64 ((wrap64 ((wrap64 (Int.tdiv (wrap64 (Int.tdiv (Int.tmod a1 t324) 4)) bt320.1)) * 4)) + (Int.tmod (Int.tmod a1 t324) 4))))))) else (some (0, 0, 0)))) else (some (0, 0, 0)))
set_option maxHeartbeats 8000000 in
set_option maxRecDepth 100000 in
theorem spec_PlaceOf.calls (a0 : Int) (a1 : Int) (r1 : Int) (r2 : Int) (r3 : Int) (w : World) (h : spec_PlaceOf.f a0 a1 = some (r1, r2, r3)) :
  Calls Try.prog 26 #[.int .i64 a0, .int .i64 a1] w fun e w' => e = .returned (.tuple #[.int .i64 r1, .int .i64 r2, .int .i64 r3]) ∧ Drawn0 w w' := by
 have H : ((spec_SchemaOf.f a0).bind fun bt320 => (if bt320.2.2 = true then ((spec_l01In.f a1 0 100000).bind fun t323 => (if t323 = true then ((spec_GroupSize.f a0).bind fun t324 => (if t324 = 0 then (none) else (if bt320.1 = 0 then (none) else (some (wrap64 (Int.tdiv a1 t324), Int.tmod (wrap64 (Int.tdiv (Int.tmod a1 t324) 4)) bt320.1, wrap64 ((wrap64 ((wrap64 (Int.tdiv (wrap64 (Int.tdiv (Int.tmod a1 t324) 4)) bt320.1)) * 4)) + (Int.tmod (Int.tmod a1 t324) 4))))))) else (some (0, 0, 0)))) else (some (0, 0, 0)))) = some (r1, r2, r3) := h
 clear h
 replace H := Option.bind_eq_some_iff.mp H
 obtain ⟨⟨t320, t321, t322⟩, A30, H⟩ := H
 replace H : (if t322 = true then ((spec_l01In.f a1 0 100000).bind fun t323 => (if t323 = true then ((spec_GroupSize.f a0).bind fun t324 => (if t324 = 0 then (none) else (if t320 = 0 then (none) else (some (wrap64 (Int.tdiv a1 t324), Int.tmod (wrap64 (Int.tdiv (Int.tmod a1 t324) 4)) t320, wrap64 ((wrap64 ((wrap64 (Int.tdiv (wrap64 (Int.tdiv (Int.tmod a1 t324) 4)) t320)) * 4)) + (Int.tmod (Int.tmod a1 t324) 4))))))) else (some (0, 0, 0)))) else (some (0, 0, 0))) = some (r1, r2, r3) := H
 have A3 := Aside0.mk A30
 clear A30
 by_cases c4 : t322 = true
 ·subst c4
  have H1 : ((spec_l01In.f a1 0 100000).bind fun t323 => (if t323 = true then ((spec_GroupSize.f a0).bind fun t324 => (if t324 = 0 then (none) else (if t320 = 0 then (none) else (some (wrap64 (Int.tdiv a1 t324), Int.tmod (wrap64 (Int.tdiv (Int.tmod a1 t324) 4)) t320, wrap64 ((wrap64 ((wrap64 (Int.tdiv (wrap64 (Int.tdiv (Int.tmod a1 t324) 4)) t320)) * 4)) + (Int.tmod (Int.tmod a1 t324) 4))))))) else (some (0, 0, 0)))) = some (r1, r2, r3) := by rw [if_pos rfl] at H; exact H
  clear H
  have H := H1
  clear H1
  replace H := Option.bind_eq_some_iff.mp H
  obtain ⟨t323, A50, H⟩ := H
  replace H : (if t323 = true then ((spec_GroupSize.f a0).bind fun t324 => (if t324 = 0 then (none) else (if t320 = 0 then (none) else (some (wrap64 (Int.tdiv a1 t324), Int.tmod (wrap64 (Int.tdiv (Int.tmod a1 t324) 4)) t320, wrap64 ((wrap64 ((wrap64 (Int.tdiv (wrap64 (Int.tdiv (Int.tmod a1 t324) 4)) t320)) * 4)) + (Int.tmod (Int.tmod a1 t324) 4))))))) else (some (0, 0, 0))) = some (r1, r2, r3) := H
  have A5 := Aside0.mk A50
  clear A50
  by_cases c6 : t323 = true
  ·subst c6
   have H1 : ((spec_GroupSize.f a0).bind fun t324 => (if t324 = 0 then (none) else (if t320 = 0 then (none) else (some (wrap64 (Int.tdiv a1 t324), Int.tmod (wrap64 (Int.tdiv (Int.tmod a1 t324) 4)) t320, wrap64 ((wrap64 ((wrap64 (Int.tdiv (wrap64 (Int.tdiv (Int.tmod a1 t324) 4)) t320)) * 4)) + (Int.tmod (Int.tmod a1 t324) 4))))))) = some (r1, r2, r3) := by rw [if_pos rfl] at H; exact H
   clear H
   have H := H1
   clear H1
   replace H := Option.bind_eq_some_iff.mp H
   obtain ⟨t324, A70, H⟩ := H
   replace H : (if t324 = 0 then (none) else (if t320 = 0 then (none) else (some (wrap64 (Int.tdiv a1 t324), Int.tmod (wrap64 (Int.tdiv (Int.tmod a1 t324) 4)) t320, wrap64 ((wrap64 ((wrap64 (Int.tdiv (wrap64 (Int.tdiv (Int.tmod a1 t324) 4)) t320)) * 4)) + (Int.tmod (Int.tmod a1 t324) 4)))))) = some (r1, r2, r3) := H
   have A7 := Aside0.mk A70
   clear A70
   by_cases c8 : t324 = 0
   ·rw [if_pos c8] at H
    exact absurd H (by simp)
   ·rw [if_neg c8] at H
    have c8b0 : (t324 == 0) = false := beq_eq_false_iff_ne.mpr c8
    have c8b1 : (t324 != 0) = true := bne_iff_ne.mpr c8
    by_cases c9 : t320 = 0
    ·rw [if_pos c9] at H
     exact absurd H (by simp)
    ·rw [if_neg c9] at H
     have c9b0 : (t320 == 0) = false := beq_eq_false_iff_ne.mpr c9
     have c9b1 : (t320 != 0) = true := bne_iff_ne.mpr c9
     simp only [Option.some.injEq, Prod.mk.injEq] at H
     obtain ⟨rfl, rfl, rfl⟩ := H
     go_enter Try.func26, Try.ntmps26
     go_wp2_with (first | (go_at_call 19; (with_reducible refine (spec_SchemaOf.calls a0 t320 t321 true _ A3.out).mono ?_); rintro e w' ⟨rfl, ⟨nd, rfl⟩⟩; (try first | exact ⟨rfl, _, World.drewN_drewN _ _ _⟩ | exact ⟨rfl, _, Eq.trans (World.drewN_drewN _ _ _) (congrArg (World.drewN _) (Nat.add_assoc _ _ _))⟩)) | (go_at_call 24; (with_reducible refine (spec_l01In.calls a1 0 100000 true _ A5.out).mono ?_); rintro e w' ⟨rfl, ⟨nd, rfl⟩⟩; (try first | exact ⟨rfl, _, World.drewN_drewN _ _ _⟩ | exact ⟨rfl, _, Eq.trans (World.drewN_drewN _ _ _) (congrArg (World.drewN _) (Nat.add_assoc _ _ _))⟩)) | (go_at_call 25; (with_reducible refine (spec_GroupSize.calls a0 t324 _ A7.out).mono ?_); rintro e w' ⟨rfl, ⟨nd, rfl⟩⟩; (try first | exact ⟨rfl, _, World.drewN_drewN _ _ _⟩ | exact ⟨rfl, _, Eq.trans (World.drewN_drewN _ _ _) (congrArg (World.drewN _) (Nat.add_assoc _ _ _))⟩)))
     repeat (go_quiet (first | (go_at_call 19; (with_reducible refine (spec_SchemaOf.calls a0 t320 t321 true _ A3.out).mono ?_); rintro e w' ⟨rfl, ⟨nd, rfl⟩⟩; (try first | exact ⟨rfl, _, World.drewN_drewN _ _ _⟩ | exact ⟨rfl, _, Eq.trans (World.drewN_drewN _ _ _) (congrArg (World.drewN _) (Nat.add_assoc _ _ _))⟩)) | (go_at_call 24; (with_reducible refine (spec_l01In.calls a1 0 100000 true _ A5.out).mono ?_); rintro e w' ⟨rfl, ⟨nd, rfl⟩⟩; (try first | exact ⟨rfl, _, World.drewN_drewN _ _ _⟩ | exact ⟨rfl, _, Eq.trans (World.drewN_drewN _ _ _) (congrArg (World.drewN _) (Nat.add_assoc _ _ _))⟩)) | (go_at_call 25; (with_reducible refine (spec_GroupSize.calls a0 t324 _ A7.out).mono ?_); rintro e w' ⟨rfl, ⟨nd, rfl⟩⟩; (try first | exact ⟨rfl, _, World.drewN_drewN _ _ _⟩ | exact ⟨rfl, _, Eq.trans (World.drewN_drewN _ _ _) (congrArg (World.drewN _) (Nat.add_assoc _ _ _))⟩))); try go_wp2_with (first | (go_at_call 19; (with_reducible refine (spec_SchemaOf.calls a0 t320 t321 true _ A3.out).mono ?_); rintro e w' ⟨rfl, ⟨nd, rfl⟩⟩; (try first | exact ⟨rfl, _, World.drewN_drewN _ _ _⟩ | exact ⟨rfl, _, Eq.trans (World.drewN_drewN _ _ _) (congrArg (World.drewN _) (Nat.add_assoc _ _ _))⟩)) | (go_at_call 24; (with_reducible refine (spec_l01In.calls a1 0 100000 true _ A5.out).mono ?_); rintro e w' ⟨rfl, ⟨nd, rfl⟩⟩; (try first | exact ⟨rfl, _, World.drewN_drewN _ _ _⟩ | exact ⟨rfl, _, Eq.trans (World.drewN_drewN _ _ _) (congrArg (World.drewN _) (Nat.add_assoc _ _ _))⟩)) | (go_at_call 25; (with_reducible refine (spec_GroupSize.calls a0 t324 _ A7.out).mono ?_); rintro e w' ⟨rfl, ⟨nd, rfl⟩⟩; (try first | exact ⟨rfl, _, World.drewN_drewN _ _ _⟩ | exact ⟨rfl, _, Eq.trans (World.drewN_drewN _ _ _) (congrArg (World.drewN _) (Nat.add_assoc _ _ _))⟩))))
     go_ret3
     exact ⟨FR, by repeat (first | exact Drawn0.refl _ | apply Drawn0.step)⟩
  ·replace c6 := Bool.eq_false_iff.mpr c6
   subst c6
   have H1 : (some (0, 0, 0)) = some (r1, r2, r3) := by rw [if_neg (show ¬ (false = true) by decide)] at H; exact H
   clear H
   have H := H1
   clear H1
   simp only [Option.some.injEq, Prod.mk.injEq] at H
   obtain ⟨rfl, rfl, rfl⟩ := H
   go_enter Try.func26, Try.ntmps26
   go_wp2_with (first | (go_at_call 19; (with_reducible refine (spec_SchemaOf.calls a0 t320 t321 true _ A3.out).mono ?_); rintro e w' ⟨rfl, ⟨nd, rfl⟩⟩; (try first | exact ⟨rfl, _, World.drewN_drewN _ _ _⟩ | exact ⟨rfl, _, Eq.trans (World.drewN_drewN _ _ _) (congrArg (World.drewN _) (Nat.add_assoc _ _ _))⟩)) | (go_at_call 24; (with_reducible refine (spec_l01In.calls a1 0 100000 false _ A5.out).mono ?_); rintro e w' ⟨rfl, ⟨nd, rfl⟩⟩; (try first | exact ⟨rfl, _, World.drewN_drewN _ _ _⟩ | exact ⟨rfl, _, Eq.trans (World.drewN_drewN _ _ _) (congrArg (World.drewN _) (Nat.add_assoc _ _ _))⟩)))
   repeat (go_quiet (first | (go_at_call 19; (with_reducible refine (spec_SchemaOf.calls a0 t320 t321 true _ A3.out).mono ?_); rintro e w' ⟨rfl, ⟨nd, rfl⟩⟩; (try first | exact ⟨rfl, _, World.drewN_drewN _ _ _⟩ | exact ⟨rfl, _, Eq.trans (World.drewN_drewN _ _ _) (congrArg (World.drewN _) (Nat.add_assoc _ _ _))⟩)) | (go_at_call 24; (with_reducible refine (spec_l01In.calls a1 0 100000 false _ A5.out).mono ?_); rintro e w' ⟨rfl, ⟨nd, rfl⟩⟩; (try first | exact ⟨rfl, _, World.drewN_drewN _ _ _⟩ | exact ⟨rfl, _, Eq.trans (World.drewN_drewN _ _ _) (congrArg (World.drewN _) (Nat.add_assoc _ _ _))⟩))); try go_wp2_with (first | (go_at_call 19; (with_reducible refine (spec_SchemaOf.calls a0 t320 t321 true _ A3.out).mono ?_); rintro e w' ⟨rfl, ⟨nd, rfl⟩⟩; (try first | exact ⟨rfl, _, World.drewN_drewN _ _ _⟩ | exact ⟨rfl, _, Eq.trans (World.drewN_drewN _ _ _) (congrArg (World.drewN _) (Nat.add_assoc _ _ _))⟩)) | (go_at_call 24; (with_reducible refine (spec_l01In.calls a1 0 100000 false _ A5.out).mono ?_); rintro e w' ⟨rfl, ⟨nd, rfl⟩⟩; (try first | exact ⟨rfl, _, World.drewN_drewN _ _ _⟩ | exact ⟨rfl, _, Eq.trans (World.drewN_drewN _ _ _) (congrArg (World.drewN _) (Nat.add_assoc _ _ _))⟩))))
   go_ret3
   exact ⟨FR, by repeat (first | exact Drawn0.refl _ | apply Drawn0.step)⟩
 ·replace c4 := Bool.eq_false_iff.mpr c4
  subst c4
  have H1 : (some (0, 0, 0)) = some (r1, r2, r3) := by rw [if_neg (show ¬ (false = true) by decide)] at H; exact H
  clear H
  have H := H1
  clear H1
  simp only [Option.some.injEq, Prod.mk.injEq] at H
  obtain ⟨rfl, rfl, rfl⟩ := H
  go_enter Try.func26, Try.ntmps26
  go_wp2_with (first | (go_at_call 19; (with_reducible refine (spec_SchemaOf.calls a0 t320 t321 false _ A3.out).mono ?_); rintro e w' ⟨rfl, ⟨nd, rfl⟩⟩; (try first | exact ⟨rfl, _, World.drewN_drewN _ _ _⟩ | exact ⟨rfl, _, Eq.trans (World.drewN_drewN _ _ _) (congrArg (World.drewN _) (Nat.add_assoc _ _ _))⟩)))
  repeat (go_quiet (first | (go_at_call 19; (with_reducible refine (spec_SchemaOf.calls a0 t320 t321 false _ A3.out).mono ?_); rintro e w' ⟨rfl, ⟨nd, rfl⟩⟩; (try first | exact ⟨rfl, _, World.drewN_drewN _ _ _⟩ | exact ⟨rfl, _, Eq.trans (World.drewN_drewN _ _ _) (congrArg (World.drewN _) (Nat.add_assoc _ _ _))⟩))); try go_wp2_with (first | (go_at_call 19; (with_reducible refine (spec_SchemaOf.calls a0 t320 t321 false _ A3.out).mono ?_); rintro e w' ⟨rfl, ⟨nd, rfl⟩⟩; (try first | exact ⟨rfl, _, World.drewN_drewN _ _ _⟩ | exact ⟨rfl, _, Eq.trans (World.drewN_drewN _ _ _) (congrArg (World.drewN _) (Nat.add_assoc _ _ _))⟩))))
  go_ret3
  exact ⟨FR, by repeat (first | exact Drawn0.refl _ | apply Drawn0.step)⟩

end Go.Proofs.Ytahimindlnkmoaa.Pr

namespace Go.Proofs.Ytahimindlnkmoaa.Pr
open Go.RowKit Go.Proofs.YtahimindlnkmoaaW.PrintWords Go.Proofs.YtahimindlnkmoaaW.PrintLast Go.Proofs.YtahimindlnkmoaaW.PrintMore
attribute [local go_sem] max2_int min2_int max_two min_two max_three min_three max_four min_four
set_option linter.unusedVariables false
set_option linter.unusedSimpArgs false
mutual
def spec_JoinUnits.j0 : Nat → Int → List ByteArray → Int → Bool → Option (ByteArray × Bool)
 | 0, _, _, _, _ => none
 | k + 1, x0, x1, x2, x37 => if x37 = true then (some ((⟨#[]⟩ : ByteArray), false)) else (spec_JoinUnits.l0 k x0 x1 x2 (([] : List Int)) 0)
def spec_JoinUnits.l0 : Nat → Int → List ByteArray → Int → List Int → Int → Option (ByteArray × Bool)
 | 0, _, _, _, _, _ => none
 | k + 1, x0, x1, x2, x11, x12 => if x12 < x2 then ((spec_PlaceOf.f x0 x12).bind fun bt333 => (if 0 ≤ bt333.2.1 then (if bt333.2.1 < (x1.length : Int) then (if bt333.2.2 < ((rdOf ByteArray.empty x1 bt333.2.1).size : Int) then (if 0 ≤ bt333.2.2 then (if x11.length < 140737488355328 then (spec_JoinUnits.l0 k x0 x1 x2 (x11 ++ [bt (rdOf ByteArray.empty x1 bt333.2.1) bt333.2.2]) (wrap64 (x12 + 1))) else (none)) else (none)) else (if x11.length < 140737488355328 then (spec_JoinUnits.l0 k x0 x1 x2 (x11 ++ [0]) (wrap64 (x12 + 1))) else (none))) else (none)) else (none))) else (some (strOfNums x11, true))
end
def spec_JoinUnits.f (k : Nat) (a0 : Int) (l1 : List ByteArray) (a2 : Int) : Option (ByteArray × Bool) := (spec_SchemaOf.f a0).bind fun bt325 => (if bt325.2.2 = true then (if (l1.length : Int) = bt325.1 then ((spec_GroupSize.f a0).bind fun t328 => ((spec_l01In.f a2 0 t328).bind fun t329 => (spec_JoinUnits.j0 k a0 l1 a2 (!t329)))) else (spec_JoinUnits.j0 k a0 l1 a2 true)) else (spec_JoinUnits.j0 k a0 l1 a2 true))
set_option maxHeartbeats 8000000 in
set_option maxRecDepth 100000 in
theorem spec_JoinUnits.calls (k : Nat) (a0 : Int) (A1 : Option Addr) (c1 : Nat) (l1 : List ByteArray) (a2 : Int) (r1 : ByteArray) (r2 : Bool) (w : World) (hr1 : Kd.C Kd.string w A1 l1.length l1) (hc1 : l1.length ≤ c1) (h : spec_JoinUnits.f k a0 l1 a2 = some (r1, r2)) :
  Calls Try.prog 12 #[.int .i64 a0, .slice A1 l1.length c1, .int .i64 a2] w fun e w' => e = .returned (.tuple #[.string r1, .bool r2]) ∧ Below w.heap.size w w' := by
 have HR1 := Aside0.mk hr1
 have HC1 := Aside0.mk hc1
 clear hr1 hc1
 have HB := Aside0.mk (Below.refl w.heap.size w)
 have H : ((spec_SchemaOf.f a0).bind fun bt325 => (if bt325.2.2 = true then (if (l1.length : Int) = bt325.1 then ((spec_GroupSize.f a0).bind fun t328 => ((spec_l01In.f a2 0 t328).bind fun t329 => (spec_JoinUnits.j0 k a0 l1 a2 (!t329)))) else (spec_JoinUnits.j0 k a0 l1 a2 true)) else (spec_JoinUnits.j0 k a0 l1 a2 true))) = some (r1, r2) := h
 clear h
 replace H := Option.bind_eq_some_iff.mp H
 obtain ⟨⟨t325, t326, t327⟩, A40, H⟩ := H
 replace H : (if t327 = true then (if (l1.length : Int) = t325 then ((spec_GroupSize.f a0).bind fun t328 => ((spec_l01In.f a2 0 t328).bind fun t329 => (spec_JoinUnits.j0 k a0 l1 a2 (!t329)))) else (spec_JoinUnits.j0 k a0 l1 a2 true)) else (spec_JoinUnits.j0 k a0 l1 a2 true)) = some (r1, r2) := H
 have A4 := Aside0.mk A40
 clear A40
 have HC5 := Aside0.mk H
 clear H
 go_enter Try.func12, Try.ntmps12
 go_upto_region 2 with (first | ((with_reducible refine gate_callee (f := 19) rfl ?_); refine GL (some 19) rfl rfl Try.func19 #[.int .i64 a0] rfl ?_; (with_reducible refine (spec_SchemaOf.calls a0 t325 t326 t327 _ A4.out).mono ?_); rintro e w' ⟨rfl, ⟨nd, rfl⟩⟩; refine ⟨_, rfl, ?_⟩))
 (try simp only [Act.put, List.setIfInBounds_toArray, List.set_cons_zero, List.set_cons_succ])
 go_cut [37] (fun v37 wc => ∃ (kq : Nat) (x37_4 : Bool), v37 = .bool x37_4 ∧ Aside0 (spec_JoinUnits.j0 kq a0 l1 a2 x37_4 = some (r1, r2)) ∧ Aside0 (kq ≤ k) ∧ Aside0 (Below w.heap.size w wc))
 case first =>
  have H := HC5.out
  clear HC5
  by_cases c6 : t327 = true
  ·subst c6
   have H1 : (if (l1.length : Int) = t325 then ((spec_GroupSize.f a0).bind fun t328 => ((spec_l01In.f a2 0 t328).bind fun t329 => (spec_JoinUnits.j0 k a0 l1 a2 (!t329)))) else (spec_JoinUnits.j0 k a0 l1 a2 true)) = some (r1, r2) := by rw [if_pos rfl] at H; exact H
   clear H
   have H := H1
   clear H1
   by_cases c7 : (l1.length : Int) = t325
   ·rw [if_pos c7] at H
    have c7b0 : ((l1.length : Int) == t325) = true := beq_iff_eq.mpr c7
    have c7b1 : ((l1.length : Int) != t325) = false := bne_eq_false_iff_eq.mpr c7
    clear c7
    (first | rw [c7b0] | (simp only [i64_w, i32_w]; rw [c7b0]) | skip)
    replace H := Option.bind_eq_some_iff.mp H
    obtain ⟨t328, A80, H⟩ := H
    replace H : ((spec_l01In.f a2 0 t328).bind fun t329 => (spec_JoinUnits.j0 k a0 l1 a2 (!t329))) = some (r1, r2) := H
    have A8 := Aside0.mk A80
    clear A80
    replace H := Option.bind_eq_some_iff.mp H
    obtain ⟨t329, A90, H⟩ := H
    replace H : (spec_JoinUnits.j0 k a0 l1 a2 (!t329)) = some (r1, r2) := H
    have A9 := Aside0.mk A90
    clear A90
    have H' := Aside0.mk H
    clear H
    go_wp2_with (first | (go_at_call 25; (with_reducible refine (spec_GroupSize.calls a0 t328 _ A8.out).mono ?_); rintro e w' ⟨rfl, ⟨nd, rfl⟩⟩) | (go_at_call 24; (with_reducible refine (spec_l01In.calls a2 0 t328 t329 _ A9.out).mono ?_); rintro e w' ⟨rfl, ⟨nd, rfl⟩⟩))
    go_meet
    case rel => exact ⟨_, (!t329), FR, H', ⟨by first | omega | exact Nat.le_refl _⟩, ⟨(BB HB.out)⟩⟩
   ·rw [if_neg c7] at H
    have c7b0 : ((l1.length : Int) == t325) = false := beq_eq_false_iff_ne.mpr c7
    have c7b1 : ((l1.length : Int) != t325) = true := bne_iff_ne.mpr c7
    (first | rw [c7b0] | (simp only [i64_w, i32_w]; rw [c7b0]) | skip)
    have H' := Aside0.mk H
    clear H
    go_wp2
    go_meet
    case rel => exact ⟨_, (true), FR, H', ⟨by first | omega | exact Nat.le_refl _⟩, ⟨(BB HB.out)⟩⟩
  ·replace c6 := Bool.eq_false_iff.mpr c6
   subst c6
   have H1 : (spec_JoinUnits.j0 k a0 l1 a2 true) = some (r1, r2) := by rw [if_neg (show ¬ (false = true) by decide)] at H; exact H
   clear H
   have H := H1
   clear H1
   have H' := Aside0.mk H
   clear H
   go_wp2
   go_meet
   case rel => exact ⟨_, (true), FR, H', ⟨by first | omega | exact Nat.le_refl _⟩, ⟨(BB HB.out)⟩⟩
 case rest =>
  clear HC5
  try clear c1
  try clear p2
  try clear c6
  try clear c7
  try clear c7b0
  try clear c7b1
  obtain ⟨kq, x37_4, rfl, HA, HJ4, HB⟩ := hcut
  cases kq with
  | zero => exact absurd HA.out (by simp [spec_JoinUnits.j0])
  | succ kj4 =>
   have H := HA.out
   clear HA
   simp only [spec_JoinUnits.j0] at H
   by_cases c10 : x37_4 = true
   ·subst c10
    have H1 : (some ((⟨#[]⟩ : ByteArray), false)) = some (r1, r2) := by rw [if_pos rfl] at H; exact H
    clear H
    have H := H1
    clear H1
    simp only [Option.some.injEq, Prod.mk.injEq] at H
    obtain ⟨rfl, rfl⟩ := H
    go_wp2
    go_ret2
    exact ⟨ER, (BB HB.out)⟩
   ·replace c10 := Bool.eq_false_iff.mpr c10
    subst c10
    have H1 : (spec_JoinUnits.l0 kj4 a0 l1 a2 (([] : List Int)) 0) = some (r1, r2) := by rw [if_neg (show ¬ (false = true) by decide)] at H; exact H
    clear H
    have H := H1
    clear H1
    obtain ⟨y330, hy330⟩ : ∃ y_ : List Int, y_ = (([] : List Int)) := ⟨_, rfl⟩
    replace H : (spec_JoinUnits.l0 kj4 a0 l1 a2 y330 0) = some (r1, r2) := by first | (rw [hy330]; with_reducible exact H) | (have H2_ := (Option.bind_some _ _).symm.trans H; rw [hy330]; with_reducible exact H2_) | (have H2_ := (Option.bind_some _ _).symm.trans H; with_reducible exact H2_) | with_reducible exact H | (rw [hy330]; exact H) | exact H
    have Ny330 := Aside0.mk hy330
    clear hy330
    have H' := Aside0.mk H
    clear H
    go_wp2_with (first | ((with_reducible refine gate_dst (N := 38) rfl ?_); (try (refine gate_guard (by rfl) ?_; dsimp only)); refine Kd.R_lit (Kd.int .u8) _ 5 ?hg (N := 38) ?hd (xs := ([] : List Int)) (inner := []) (ok := fun _ => True) (okp := fun _ => True) ?hr ?hp (fun _ hk => hk) trivial (Below.refl _ _) (Nat.le_refl _) (by simp) ?_; (case hd => rfl); (case hg => rfl); (case hr => first | (go_simp; done) | (go_simp; rfl)); (case hp => exact (Reps.none _ _)); intro v331 w11 ho12 hb hg_ hnew_; clear hg_ hnew_; (first | rw [← Ny330.out] at ho12 | (simp only [Int.reduceToNat] at ho12; rw [← Ny330.out] at ho12)); have HO332 := Aside0.mk (Kd.R_lower ho12 (below_size (BB HB.out))); replace HB := Aside0.mk (below_step (BB HB.out) hb); clear hb ho12))
    go_loopg [11, 12] kj4 (fun kq v11 v12 w' => ∃ (x11_2 : List Int) (x12_2 : Int), v12 = .int .i64 x12_2 ∧ Aside0 (spec_JoinUnits.l0 kq a0 l1 a2 x11_2 x12_2 = some (r1, r2)) ∧ Aside0 (kq ≤ kj4) ∧ Aside0 (Kd.R (Kd.int .u8) 5 w' w.heap.size (fun _ => True) v11 x11_2) ∧ Aside0 (Below w.heap.size w w'))
    case atStart => exact ⟨(y330), (0), FR, H', ⟨Nat.le_refl _⟩, ⟨(RR HO332.out)⟩, ⟨(BB HB.out)⟩⟩
    case round =>
     clear H'
     try clear c1
     try clear p2
     try clear c6
     try clear c7
     try clear c7b0
     try clear c7b1
     try clear c10
     try clear c12
     try clear p2
     obtain ⟨x11_2, x12_2, rfl, HA, HK2, HO_11, HB⟩ := hrel
     cases gk with
     | zero => exact absurd HA.out (by simp [spec_JoinUnits.l0])
     | succ k2 =>
      have H := HA.out
      clear HA
      simp only [spec_JoinUnits.l0] at H
      by_cases c13 : x12_2 < a2
      ·rw [if_pos c13] at H
       have c13b0 : decide (x12_2 < a2) = true := decide_eq_true c13
       clear c13
       replace H := Option.bind_eq_some_iff.mp H
       obtain ⟨⟨t333, t334, t335⟩, A140, H⟩ := H
       replace H : (if 0 ≤ t334 then (if t334 < (l1.length : Int) then (if t335 < ((rdOf ByteArray.empty l1 t334).size : Int) then (if 0 ≤ t335 then (if x11_2.length < 140737488355328 then (spec_JoinUnits.l0 k2 a0 l1 a2 (x11_2 ++ [bt (rdOf ByteArray.empty l1 t334) t335]) (wrap64 (x12_2 + 1))) else (none)) else (none)) else (if x11_2.length < 140737488355328 then (spec_JoinUnits.l0 k2 a0 l1 a2 (x11_2 ++ [0]) (wrap64 (x12_2 + 1))) else (none))) else (none)) else (none)) = some (r1, r2) := H
       have A14 := Aside0.mk A140
       clear A140
       by_cases c15 : 0 ≤ t334
       ·rw [if_pos c15] at H
        have c15b0 : decide (0 ≤ t334) = true := decide_eq_true c15
        clear c15
        by_cases c16 : t334 < (l1.length : Int)
        ·rw [if_pos c16] at H
         have c16b0 : decide (t334 < (l1.length : Int)) = true := decide_eq_true c16
         clear c16
         by_cases c17 : t335 < ((rdOf ByteArray.empty l1 t334).size : Int)
         ·rw [if_pos c17] at H
          have c17b0 : decide (t335 < ((rdOf ByteArray.empty l1 t334).size : Int)) = true := decide_eq_true c17
          clear c17
          by_cases c18 : 0 ≤ t335
          ·rw [if_pos c18] at H
           have c18b0 : decide (0 ≤ t335) = true := decide_eq_true c18
           clear c18
           by_cases c20 : x11_2.length < 140737488355328
           ·rw [if_pos c20] at H
            have LMc20 := Aside0.mk c20
            clear c20
            obtain ⟨y338, hy338⟩ : ∃ y_ : List Int, y_ = (x11_2 ++ [bt (rdOf ByteArray.empty l1 t334) t335]) := ⟨_, rfl⟩
            replace H : (spec_JoinUnits.l0 k2 a0 l1 a2 y338 (wrap64 (x12_2 + 1))) = some (r1, r2) := by first | (rw [hy338]; with_reducible exact H) | (have H2_ := (Option.bind_some _ _).symm.trans H; rw [hy338]; with_reducible exact H2_) | (have H2_ := (Option.bind_some _ _).symm.trans H; with_reducible exact H2_) | with_reducible exact H | (rw [hy338]; exact H) | exact H
            have Ny338 := Aside0.mk hy338
            clear hy338
            have H' := Aside0.mk H
            clear H
            go_wp2_with (first | ((with_reducible refine gate_callee (f := 26) rfl ?_); refine GL (some 47) rfl rfl Try.func26 #[.int .i64 a0, .int .i64 x12_2] rfl ?_; (with_reducible refine (spec_PlaceOf.calls a0 x12_2 t333 t334 t335 _ A14.out).mono ?_); rintro e w' ⟨rfl, ⟨nd, rfl⟩⟩; refine ⟨_, rfl, ?_⟩; have p336 : 0 ≤ (t334 : Int) := DT; have q336 : t334 < (l1.length : Int) := DT; obtain ⟨ad336, e336, hx336_0⟩ := Kd.at_string HR1.out t334 p336 q336; cases e336; replace hx336_0 := (HB.out.cell (World.block_lt_of_cell? w _ hx336_0)).trans hx336_0; replace p336 := eq_true p336; replace q336 := eq_true q336; have p337 : 0 ≤ (t334 : Int) := DT; have q337 : t334 < (l1.length : Int) := DT; obtain ⟨ad337, e337, hx337_0⟩ := Kd.at_string HR1.out t334 p337 q337; obtain rfl : ad336 = ad337 := (by injection e337); replace hx337_0 := (HB.out.cell (World.block_lt_of_cell? w _ hx337_0)).trans hx337_0; replace p337 := eq_true p337; replace q337 := eq_true q337; have p19 : 0 ≤ (t335 : Int) := DT; have q19 : t335 < ((rdOf ByteArray.empty l1 t334).size : Int) := DT; have hx19 := bt_at (rdOf ByteArray.empty l1 t334) t335; replace p19 := eq_true p19; replace q19 := eq_true q19) | ((with_reducible refine gate_builtin (b := .append) (xs := #[.tmp 64, .tmp 66]) rfl ?_); (try (refine gate_guard (by rfl) ?_; dsimp only)); at_builtin; refine Kd.R_append (Kd.int .u8) (w0 := w) w.heap.size rfl (.tmp 64) (.tmp 66) 58 5 (.int .u8 0) 1 rfl Try.underlying58 info5 rfl (by decide) (by omega) u11 x11_2 (bt (rdOf ByteArray.empty l1 t334) t335) [.int .u8 (bt (rdOf ByteArray.empty l1 t334) t335)] (fun _ => True) (fun _ => False) rfl rfl ?aP (fun _ hk => hk.elim) ?aF ?aO ?aB ?aS ?aL ?_; (case aP => exact rfl); (case aB => exact (BB HB.out)); (case aF => exact (fun _ _ => trivial)); (case aO => exact (RR HO_11.out)); (case aS => exact (below_size (BB HB.out))); (case aL => have := LMc20.out; omega); intro v339 w21 ho hb hg hat; rw [← Ny338.out] at ho; have HO340 := Aside0.mk (ho); replace HB := Aside0.mk (hb); clear HO_11; clear ho hb hg hat))
            go_roundg k2
            case measure => have := HJ4.out; have := HK2.out; omega
            case rel => exact ⟨(y338), (wrap64 (x12_2 + 1)), FR, H', ⟨by have := HJ4.out; have := HK2.out; omega⟩, ⟨(RR HO340.out)⟩, ⟨(BB HB.out)⟩⟩
           ·rw [if_neg c20] at H
            exact absurd H (by simp)
          ·rw [if_neg c18] at H
           exact absurd H (by simp)
         ·rw [if_neg c17] at H
          have c17b0 : decide (t335 < ((rdOf ByteArray.empty l1 t334).size : Int)) = false := decide_eq_false c17
          clear c17
          by_cases c22 : x11_2.length < 140737488355328
          ·rw [if_pos c22] at H
           have LMc22 := Aside0.mk c22
           clear c22
           obtain ⟨y341, hy341⟩ : ∃ y_ : List Int, y_ = (x11_2 ++ [0]) := ⟨_, rfl⟩
           replace H : (spec_JoinUnits.l0 k2 a0 l1 a2 y341 (wrap64 (x12_2 + 1))) = some (r1, r2) := by first | (rw [hy341]; with_reducible exact H) | (have H2_ := (Option.bind_some _ _).symm.trans H; rw [hy341]; with_reducible exact H2_) | (have H2_ := (Option.bind_some _ _).symm.trans H; with_reducible exact H2_) | with_reducible exact H | (rw [hy341]; exact H) | exact H
           have Ny341 := Aside0.mk hy341
           clear hy341
           have H' := Aside0.mk H
           clear H
           go_wp2_with (first | ((with_reducible refine gate_callee (f := 26) rfl ?_); refine GL (some 47) rfl rfl Try.func26 #[.int .i64 a0, .int .i64 x12_2] rfl ?_; (with_reducible refine (spec_PlaceOf.calls a0 x12_2 t333 t334 t335 _ A14.out).mono ?_); rintro e w' ⟨rfl, ⟨nd, rfl⟩⟩; refine ⟨_, rfl, ?_⟩; have p336 : 0 ≤ (t334 : Int) := DT; have q336 : t334 < (l1.length : Int) := DT; obtain ⟨ad336, e336, hx336_0⟩ := Kd.at_string HR1.out t334 p336 q336; cases e336; replace hx336_0 := (HB.out.cell (World.block_lt_of_cell? w _ hx336_0)).trans hx336_0; replace p336 := eq_true p336; replace q336 := eq_true q336) | ((with_reducible refine gate_builtin (b := .append) (xs := #[.tmp 64, .tmp 66]) rfl ?_); (try (refine gate_guard (by rfl) ?_; dsimp only)); at_builtin; refine Kd.R_append (Kd.int .u8) (w0 := w) w.heap.size rfl (.tmp 64) (.tmp 66) 58 5 (.int .u8 0) 1 rfl Try.underlying58 info5 rfl (by decide) (by omega) u11 x11_2 0 [.int .u8 0] (fun _ => True) (fun _ => False) rfl rfl ?aP (fun _ hk => hk.elim) ?aF ?aO ?aB ?aS ?aL ?_; (case aP => exact rfl); (case aB => exact (BB HB.out)); (case aF => exact (fun _ _ => trivial)); (case aO => exact (RR HO_11.out)); (case aS => exact (below_size (BB HB.out))); (case aL => have := LMc22.out; omega); intro v342 w23 ho hb hg hat; rw [← Ny341.out] at ho; have HO343 := Aside0.mk (ho); replace HB := Aside0.mk (hb); clear HO_11; clear ho hb hg hat))
           go_roundg k2
           case measure => have := HJ4.out; have := HK2.out; omega
           case rel => exact ⟨(y341), (wrap64 (x12_2 + 1)), FR, H', ⟨by have := HJ4.out; have := HK2.out; omega⟩, ⟨(RR HO343.out)⟩, ⟨(BB HB.out)⟩⟩
          ·rw [if_neg c22] at H
           exact absurd H (by simp)
        ·rw [if_neg c16] at H
         exact absurd H (by simp)
       ·rw [if_neg c15] at H
        exact absurd H (by simp)
      ·rw [if_neg c13] at H
       have c13b0 : decide (x12_2 < a2) = false := decide_eq_false c13
       clear c13
       simp only [Option.some.injEq, Prod.mk.injEq] at H
       obtain ⟨rfl, rfl⟩ := H
       have hcv24 := own_string (P := Try.prog) Try.underlying58 Try.underlying5 Try.underlying9 (Kd.own_of_R HO_11.out)
       go_wp2
       go_ret2
       exact ⟨ER, (BB HB.out)⟩

end Go.Proofs.Ytahimindlnkmoaa.Pr

namespace Go.Proofs.Ytahimindlnkmoaa.Pr
open Go.RowKit Go.Proofs.YtahimindlnkmoaaW.PrintWords Go.Proofs.YtahimindlnkmoaaW.PrintLast Go.Proofs.YtahimindlnkmoaaW.PrintMore
attribute [local go_sem] max2_int min2_int max_two min_two max_three min_three max_four min_four
set_option linter.unusedVariables false
set_option linter.unusedSimpArgs false
def spec_ReadGroup.f (k : Nat) (l0 : List (S43)) (a1 : Int) (a2 : Int) (a3 : Int) : Option (ByteArray × Bool) := (spec_UnitsOf.f k l0 a1 a2).bind fun bt344 => ((spec_Decode.f k a1 bt344.1 bt344.2).bind fun bt350 => (if bt350.2 = true then ((spec_JoinUnits.f k a1 bt350.1 a3).bind fun bt354 => (some (bt354.1, bt354.2))) else (some ((⟨#[]⟩ : ByteArray), false))))
set_option maxHeartbeats 8000000 in
set_option maxRecDepth 100000 in
theorem spec_ReadGroup.calls (k : Nat) (A0 : Option Addr) (c0 : Nat) (l0 : List (S43)) (a1 : Int) (a2 : Int) (a3 : Int) (r1 : ByteArray) (r2 : Bool) (w : World) (hr0 : Kd.C k43 w A0 l0.length l0) (hc0 : l0.length ≤ c0) (h : spec_ReadGroup.f k l0 a1 a2 a3 = some (r1, r2)) :
  Calls Try.prog 5 #[.slice A0 l0.length c0, .int .i64 a1, .int .i64 a2, .int .i64 a3] w fun e w' => e = .returned (.tuple #[.string r1, .bool r2]) ∧ Below w.heap.size w w' := by
 have HR0 := Aside0.mk hr0
 have HC0 := Aside0.mk hc0
 clear hr0 hc0
 have HB := Aside0.mk (Below.refl w.heap.size w)
 have H : ((spec_UnitsOf.f k l0 a1 a2).bind fun bt344 => ((spec_Decode.f k a1 bt344.1 bt344.2).bind fun bt350 => (if bt350.2 = true then ((spec_JoinUnits.f k a1 bt350.1 a3).bind fun bt354 => (some (bt354.1, bt354.2))) else (some ((⟨#[]⟩ : ByteArray), false))))) = some (r1, r2) := h
 clear h
 replace H := Option.bind_eq_some_iff.mp H
 obtain ⟨⟨t344, t345⟩, A50, H⟩ := H
 replace H : ((spec_Decode.f k a1 t344 t345).bind fun bt350 => (if bt350.2 = true then ((spec_JoinUnits.f k a1 bt350.1 a3).bind fun bt354 => (some (bt354.1, bt354.2))) else (some ((⟨#[]⟩ : ByteArray), false)))) = some (r1, r2) := H
 have A5 := Aside0.mk A50
 clear A50
 replace H := Option.bind_eq_some_iff.mp H
 obtain ⟨⟨t350, t351⟩, A60, H⟩ := H
 replace H : (if t351 = true then ((spec_JoinUnits.f k a1 t350 a3).bind fun bt354 => (some (bt354.1, bt354.2))) else (some ((⟨#[]⟩ : ByteArray), false))) = some (r1, r2) := H
 have A6 := Aside0.mk A60
 clear A60
 by_cases c7 : t351 = true
 ·subst c7
  have H1 : ((spec_JoinUnits.f k a1 t350 a3).bind fun bt354 => (some (bt354.1, bt354.2))) = some (r1, r2) := by rw [if_pos rfl] at H; exact H
  clear H
  have H := H1
  clear H1
  replace H := Option.bind_eq_some_iff.mp H
  obtain ⟨⟨t354, t355⟩, A80, H⟩ := H
  replace H : (some (t354, t355)) = some (r1, r2) := H
  have A8 := Aside0.mk A80
  clear A80
  simp only [Option.some.injEq, Prod.mk.injEq] at H
  obtain ⟨rfl, rfl⟩ := H
  go_enter Try.func5, Try.ntmps5
  go_wp2_with (first | ((with_reducible refine gate_callee (f := 10) rfl ?_); refine GL (some 18) rfl rfl Try.func10 #[.slice A0 l0.length c0, .int .i64 a1, .int .i64 a2] rfl ?_; (with_reducible refine (spec_UnitsOf.calls k _ _ l0 a1 a2 t344 t345 _ ?side1 ?side2 A5.out).mono ?_); (case side1 => exact CC HR0.out); (case side2 => exact HC0.out); rintro e w9 ⟨v346, v348, rfl, ho0, ho1, hb⟩; refine ⟨_, rfl, ?_⟩; have HO347 := Aside0.mk (Kd.R_lower ho0 (below_size (BB HB.out))); have HO349 := Aside0.mk (Kd.R_lower ho1 (below_size (BB HB.out))); replace HB := Aside0.mk (below_step (BB HB.out) hb); (try clear hb); (try clear ho0); (try clear ho1); obtain ⟨Ao10, co10, eo10⟩ := Kd.R_slice HO347.out; subst eo10; obtain ⟨Ao11, co11, eo11⟩ := Kd.R_slice HO349.out; subst eo11) | ((with_reducible refine gate_callee (f := 11) rfl ?_); refine GL (some 25) rfl rfl Try.func11 #[.int .i64 a1, .slice Ao10 t344.length co10, .slice Ao11 t345.length co11] rfl ?_; (with_reducible refine (spec_Decode.calls k a1 _ _ t344 _ _ t345 t350 true _ ?side1 ?side2 ?side3 ?side4 A6.out).mono ?_); (case side1 => exact CC (Kd.R_reads' HO347.out).2.2); (case side2 => exact (Kd.R_reads' HO347.out).2.1); (case side3 => exact CC (Kd.R_reads' HO349.out).2.2); (case side4 => exact (Kd.R_reads' HO349.out).2.1); rintro e w12 ⟨v352, rfl, ho0, hb⟩; refine ⟨_, rfl, ?_⟩; have HO353 := Aside0.mk (Kd.R_lower (Kd.R_new' ho0 (Kd.R_lt (RR HO347.out))) (below_size (BB HB.out))); replace HO347 := Aside0.mk (Kd.R_elder' (RR HO347.out) (Kd.R_base ho0) hb); replace HO349 := Aside0.mk (Kd.R_below (RR HO349.out) hb); replace HB := Aside0.mk (below_step (BB HB.out) hb); (try clear hb); (try clear ho0); obtain ⟨Ao13, co13, eo13⟩ := Kd.R_slice HO353.out; subst eo13) | ((with_reducible refine gate_callee (f := 12) rfl ?_); refine GL (some 33) rfl rfl Try.func12 #[.int .i64 a1, .slice Ao13 t350.length co13, .int .i64 a3] rfl ?_; (with_reducible refine (spec_JoinUnits.calls k a1 _ _ t350 a3 t354 t355 _ ?side1 ?side2 A8.out).mono ?_); (case side1 => exact CC (Kd.R_reads' HO353.out).2.2); (case side2 => exact (Kd.R_reads' HO353.out).2.1); rintro e w14 ⟨rfl, hb⟩; refine ⟨_, rfl, ?_⟩; replace HO347 := Aside0.mk (Kd.R_below (RR HO347.out) hb); replace HO349 := Aside0.mk (Kd.R_below (RR HO349.out) hb); replace HO353 := Aside0.mk (Kd.R_below (RR HO353.out) hb); replace HB := Aside0.mk (below_step (BB HB.out) hb); (try clear hb)))
  go_ret2
  exact ⟨ER, (BB HB.out)⟩
 ·replace c7 := Bool.eq_false_iff.mpr c7
  subst c7
  have H1 : (some ((⟨#[]⟩ : ByteArray), false)) = some (r1, r2) := by rw [if_neg (show ¬ (false = true) by decide)] at H; exact H
  clear H
  have H := H1
  clear H1
  simp only [Option.some.injEq, Prod.mk.injEq] at H
  obtain ⟨rfl, rfl⟩ := H
  go_enter Try.func5, Try.ntmps5
  go_wp2_with (first | ((with_reducible refine gate_callee (f := 10) rfl ?_); refine GL (some 18) rfl rfl Try.func10 #[.slice A0 l0.length c0, .int .i64 a1, .int .i64 a2] rfl ?_; (with_reducible refine (spec_UnitsOf.calls k _ _ l0 a1 a2 t344 t345 _ ?side1 ?side2 A5.out).mono ?_); (case side1 => exact CC HR0.out); (case side2 => exact HC0.out); rintro e w15 ⟨v346, v348, rfl, ho0, ho1, hb⟩; refine ⟨_, rfl, ?_⟩; have HO347 := Aside0.mk (Kd.R_lower ho0 (below_size (BB HB.out))); have HO349 := Aside0.mk (Kd.R_lower ho1 (below_size (BB HB.out))); replace HB := Aside0.mk (below_step (BB HB.out) hb); (try clear hb); (try clear ho0); (try clear ho1); obtain ⟨Ao16, co16, eo16⟩ := Kd.R_slice HO347.out; subst eo16; obtain ⟨Ao17, co17, eo17⟩ := Kd.R_slice HO349.out; subst eo17) | ((with_reducible refine gate_callee (f := 11) rfl ?_); refine GL (some 25) rfl rfl Try.func11 #[.int .i64 a1, .slice Ao16 t344.length co16, .slice Ao17 t345.length co17] rfl ?_; (with_reducible refine (spec_Decode.calls k a1 _ _ t344 _ _ t345 t350 false _ ?side1 ?side2 ?side3 ?side4 A6.out).mono ?_); (case side1 => exact CC (Kd.R_reads' HO347.out).2.2); (case side2 => exact (Kd.R_reads' HO347.out).2.1); (case side3 => exact CC (Kd.R_reads' HO349.out).2.2); (case side4 => exact (Kd.R_reads' HO349.out).2.1); rintro e w18 ⟨v352, rfl, ho0, hb⟩; refine ⟨_, rfl, ?_⟩; have HO353 := Aside0.mk (Kd.R_lower (Kd.R_new' ho0 (Kd.R_lt (RR HO347.out))) (below_size (BB HB.out))); replace HO347 := Aside0.mk (Kd.R_elder' (RR HO347.out) (Kd.R_base ho0) hb); replace HO349 := Aside0.mk (Kd.R_below (RR HO349.out) hb); replace HB := Aside0.mk (below_step (BB HB.out) hb); (try clear hb); (try clear ho0)))
  go_ret2
  exact ⟨ER, (BB HB.out)⟩

end Go.Proofs.Ytahimindlnkmoaa.Pr

namespace Go.Proofs.Ytahimindlnkmoaa.Pr
open Go.RowKit Go.Proofs.YtahimindlnkmoaaW.PrintWords Go.Proofs.YtahimindlnkmoaaW.PrintLast Go.Proofs.YtahimindlnkmoaaW.PrintMore
attribute [local go_sem] max2_int min2_int max_two min_two max_three min_three max_four min_four
set_option linter.unusedVariables false
set_option linter.unusedSimpArgs false
def impl_SchemaOf.f (a0 : Int) : Option (Int × Int × Bool) := if a0 = 1 then (some (2, 1, true)) else (if a0 = 2 then (some (3, 2, true)) else (if a0 = 3 then (some (4, 2, true)) else (some (0, 0, false))))
set_option maxHeartbeats 8000000 in
set_option maxRecDepth 100000 in
theorem impl_SchemaOf.calls (a0 : Int) (r1 : Int) (r2 : Int) (r3 : Bool) (w : World) (h : impl_SchemaOf.f a0 = some (r1, r2, r3)) :
  Calls Try.prog 28 #[.int .i64 a0] w fun e w' => e = .returned (.tuple #[.int .i64 r1, .int .i64 r2, .bool r3]) ∧ Drawn0 w w' := by
 have H : (if a0 = 1 then (some (2, 1, true)) else (if a0 = 2 then (some (3, 2, true)) else (if a0 = 3 then (some (4, 2, true)) else (some (0, 0, false))))) = some (r1, r2, r3) := h
 clear h
 by_cases c2 : a0 = 1
 ·rw [if_pos c2] at H
  have c2b0 : (a0 == 1) = true := beq_iff_eq.mpr c2
  have c2b1 : (a0 != 1) = false := bne_eq_false_iff_eq.mpr c2
  clear c2
  simp only [Option.some.injEq, Prod.mk.injEq] at H
  obtain ⟨rfl, rfl, rfl⟩ := H
  go_enter Try.func28, Try.ntmps28
  go_wp2
  go_ret3
  exact ⟨FR, by repeat (first | exact Drawn0.refl _ | apply Drawn0.step)⟩
 ·rw [if_neg c2] at H
  have c2b0 : (a0 == 1) = false := beq_eq_false_iff_ne.mpr c2
  have c2b1 : (a0 != 1) = true := bne_iff_ne.mpr c2
  by_cases c3 : a0 = 2
  ·rw [if_pos c3] at H
   have c3b0 : (a0 == 2) = true := beq_iff_eq.mpr c3
   have c3b1 : (a0 != 2) = false := bne_eq_false_iff_eq.mpr c3
   clear c3
   simp only [Option.some.injEq, Prod.mk.injEq] at H
   obtain ⟨rfl, rfl, rfl⟩ := H
   go_enter Try.func28, Try.ntmps28
   go_wp2
   go_ret3
   exact ⟨FR, by repeat (first | exact Drawn0.refl _ | apply Drawn0.step)⟩
  ·rw [if_neg c3] at H
   have c3b0 : (a0 == 2) = false := beq_eq_false_iff_ne.mpr c3
   have c3b1 : (a0 != 2) = true := bne_iff_ne.mpr c3
   by_cases c4 : a0 = 3
   ·rw [if_pos c4] at H
    have c4b0 : (a0 == 3) = true := beq_iff_eq.mpr c4
    have c4b1 : (a0 != 3) = false := bne_eq_false_iff_eq.mpr c4
    clear c4
    simp only [Option.some.injEq, Prod.mk.injEq] at H
    obtain ⟨rfl, rfl, rfl⟩ := H
    go_enter Try.func28, Try.ntmps28
    go_wp2
    go_ret3
    exact ⟨FR, by repeat (first | exact Drawn0.refl _ | apply Drawn0.step)⟩
   ·rw [if_neg c4] at H
    have c4b0 : (a0 == 3) = false := beq_eq_false_iff_ne.mpr c4
    have c4b1 : (a0 != 3) = true := bne_iff_ne.mpr c4
    simp only [Option.some.injEq, Prod.mk.injEq] at H
    obtain ⟨rfl, rfl, rfl⟩ := H
    go_enter Try.func28, Try.ntmps28
    go_wp2
    go_ret3
    exact ⟨FR, by repeat (first | exact Drawn0.refl _ | apply Drawn0.step)⟩

end Go.Proofs.Ytahimindlnkmoaa.Pr

namespace Go.Proofs.Ytahimindlnkmoaa.Pr
open Go.RowKit Go.Proofs.YtahimindlnkmoaaW.PrintWords Go.Proofs.YtahimindlnkmoaaW.PrintLast Go.Proofs.YtahimindlnkmoaaW.PrintMore
set_option linter.unusedVariables false
set_option linter.unusedSimpArgs false
def idxF {α : Type} (p : α → Bool) : List α → Nat → Int
  | [], _ => -1
  | x :: s, j => if p x = true then (j : Int) else idxF p s (j + 1)
theorem idxF_drop_hit {α : Type} (p : α → Bool) (xs : List α) (d : α) (j : Nat) (h : j < xs.length) (hp : p (xs.getD j d) = true) : idxF p (xs.drop j) j = (j : Int) := by
  rw [List.drop_eq_getElem_cons h, idxF, if_pos]
  simpa [List.getD, List.getElem?_eq_getElem h] using hp
theorem idxF_drop_miss {α : Type} (p : α → Bool) (xs : List α) (d : α) (j : Nat) (h : j < xs.length) (hp : p (xs.getD j d) = false) : idxF p (xs.drop j) j = idxF p (xs.drop (j + 1)) (j + 1) := by
  rw [List.drop_eq_getElem_cons h, idxF, if_neg]
  simpa [List.getD, List.getElem?_eq_getElem h] using hp
end Go.Proofs.Ytahimindlnkmoaa.Pr

namespace Go.Proofs.Ytahimindlnkmoaa.Pr
open Go.RowKit Go.Proofs.YtahimindlnkmoaaW.PrintWords Go.Proofs.YtahimindlnkmoaaW.PrintLast Go.Proofs.YtahimindlnkmoaaW.PrintMore
set_option linter.unusedVariables false
set_option linter.unusedSimpArgs false
set_option maxHeartbeats 2000000 in
set_option maxRecDepth 100000 in
theorem ixUnit (g : Nat) (lb : Array Value) (eg : ∀ args w, (callFunc g args).run Try.prog w = .ok (.enter g args) w) (p : S67 → Bool) (A : Option Addr) (c : Nat) (xs : List S67) (w : World)
    (hp : ∀ (W : World) (x : S67), x ∈ xs → Below w.heap.size w W → Calls Try.prog g (#[.agg #[.int .i64 x.f0, .int .i64 x.f1, .string x.f2, .int .i64 x.f3]] ++ lb) W fun e w' => e = .returned (.bool (p x)) ∧ Below w.heap.size w w')
    (hr : Kd.C k67 w A xs.length xs) :
    Calls Try.prog 63 #[.slice A xs.length c, .func (.func g) #[] lb] w fun e w' => e = .returned (.int .i64 (idxF p xs 0)) ∧ Below w.heap.size w w' := by
  have hu67 := Try.underlying67
  have HR := Aside0.mk hr
  have HL := Aside0.mk hr.2.1
  have HP := Aside0.mk hp
  have HG := Aside0.mk (show idxF p (xs.drop 0) 0 = idxF p xs 0 from rfl)
  clear hr hp
  generalize hre : idxF p xs 0 = res at HG
  clear hre
  go_enter Try.func63, Try.ntmps63
  go_wp2
  go_loopg [5, 8] xs.length (fun gg _ s8 wr => ∃ kk : Nat, kk ≤ xs.length ∧ xs.length - kk ≤ gg ∧ s8 = .int .i64 kk ∧ Aside0 (Below w.heap.size w wr) ∧ Aside0 (idxF p (xs.drop kk) kk = res))
  case atStart => exact ⟨0, Nat.zero_le _, by omega, rfl, ⟨Below.refl _ w⟩, HG⟩
  case round =>
    obtain ⟨kk, hkk, hg, rfl, BW, A1⟩ := hrel
    have hlen := HL.out
    by_cases hlt : kk < xs.length
    · have hltz : (kk : Int) < (xs.length : Int) := by omega
      obtain ⟨ad, e1, hx0, hx1, hx2, hx3⟩ := at_T67 HR.out (kk : Int) (by omega) hltz
      have hmem : rd_T67 xs (kk : Int) ∈ xs := by
        have e : rd_T67 xs (kk : Int) = xs[kk] := by unfold rd_T67; simp [List.getD, List.getElem?_eq_getElem hlt]
        rw [e]
        exact List.getElem_mem hlt
      have hcall := HP.out wr (rd_T67 xs (kk : Int)) hmem BW.out
      clear hmem
      have hy : rd_T67 xs (kk : Int) = xs.getD kk z67 := rfl
      have hmiss := Aside0.mk (idxF_drop_miss p xs z67 kk hlt)
      have hhit := Aside0.mk (idxF_drop_hit p xs z67 kk hlt)
      replace hx0 := (BW.out.cell (World.block_lt_of_cell? w _ hx0)).trans hx0
      replace hx1 := (BW.out.cell (World.block_lt_of_cell? w _ hx1)).trans hx1
      replace hx2 := (BW.out.cell (World.block_lt_of_cell? w _ hx2)).trans hx2
      replace hx3 := (BW.out.cell (World.block_lt_of_cell? w _ hx3)).trans hx3
      simp only [Int.toNat_natCast] at hx0 hx1 hx2 hx3
      rw [← hy] at hmiss hhit
      clear hy
      generalize rd_T67 xs (kk : Int) = y at hx0 hx1 hx2 hx3 hcall hmiss hhit
      subst e1
      cases hq : p y with
      | true =>
        rw [hq] at hcall
        have A2 := Aside0.mk (((hhit.out hq).symm.trans A1.out).symm)
        clear hq hmiss hhit A1
        go_wp2_with (go_at_fn g; refine hcall.mono ?_; rintro e w' ⟨rfl, hb'⟩)
        go_ret
        exact ⟨by rw [A2.out]; try rfl, hb'⟩
      | false =>
        rw [hq] at hcall
        have A2 := Aside0.mk ((hmiss.out hq).symm.trans A1.out)
        clear hq hmiss hhit A1
        go_wp2_with (go_at_fn g; refine hcall.mono ?_; rintro e w' ⟨rfl, hb'⟩)
        go_roundg (xs.length - (kk + 1))
        case measure => omega
        case rel => exact ⟨kk + 1, by omega, by omega, by go_num, ⟨hb'⟩, A2⟩
    · have hltz : ¬ (kk : Int) < (xs.length : Int) := by omega
      have hd1 : decide ((kk : Int) < (xs.length : Int)) = false := decide_eq_false hltz
      have hd2 : decide (kk < xs.length) = false := decide_eq_false hlt
      have A2 := Aside0.mk (show res = -1 by rw [← A1.out, List.drop_eq_nil_of_le (by omega)]; rfl)
      clear A1
      go_wp2
      go_ret
      exact ⟨by rw [A2.out]; try rfl, BW.out⟩
end Go.Proofs.Ytahimindlnkmoaa.Pr

namespace Go.Proofs.Ytahimindlnkmoaa.Pr
open Go.RowKit Go.Proofs.YtahimindlnkmoaaW.PrintWords Go.Proofs.YtahimindlnkmoaaW.PrintLast Go.Proofs.YtahimindlnkmoaaW.PrintMore
set_option linter.unusedVariables false
set_option linter.unusedSimpArgs false
def isAt (a1 a2 : Int) (u : S67) : Bool := if u.f0 = a1 then decide (u.f1 = a2) else false
theorem isAt_t {a1 a2 : Int} {u : S67} (h : u.f0 = a1) : isAt a1 a2 u = (u.f1 == a2) := by
  unfold isAt
  rw [if_pos h]
  by_cases c : u.f1 = a2 <;> simp [c]
theorem isAt_f {a1 a2 : Int} {u : S67} (h : ¬ u.f0 = a1) : isAt a1 a2 u = false := by
  unfold isAt
  rw [if_neg h]
set_option maxHeartbeats 2000000 in
set_option maxRecDepth 100000 in
theorem cl_unitAt (x : S67) (a1 a2 : Int) (B1 B2 : Nat) (w : World) (h1 : w.cell? ⟨B1, 0, none⟩ = some (.int .i64 a1)) (h2 : w.cell? ⟨B2, 0, none⟩ = some (.int .i64 a2)) :
    Calls Try.prog 64 #[.agg #[.int .i64 x.f0, .int .i64 x.f1, .string x.f2, .int .i64 x.f3], .pointer (some ⟨B1, 0, none⟩), .pointer (some ⟨B2, 0, none⟩)] w fun e w' => e = .returned (.bool (isAt a1 a2 x)) ∧ Below w.heap.size w w' := by
  have l1 := World.block_lt_of_cell? w _ h1
  have l2 := World.block_lt_of_cell? w _ h2
  simp only at l1 l2
  by_cases c : x.f0 = a1
  · rw [isAt_t c]
    have hd : (x.f0 == a1) = true := beq_iff_eq.mpr c
    clear c
    generalize hq : (x.f1 == a2) = q
    go_enter Try.func64, Try.ntmps64
    go_wp2
    go_ret
    exact ⟨rfl, (Below.refl _ _).alloc (Nat.le_refl _) _⟩
  · rw [isAt_f c]
    have hd : (x.f0 == a1) = false := beq_eq_false_iff_ne.mpr c
    clear c
    go_enter Try.func64, Try.ntmps64
    go_wp2
    go_ret
    exact ⟨rfl, (Below.refl _ _).alloc (Nat.le_refl _) _⟩
def impl_unitAt.f (a0_0 : Int) (a0_1 : Bool) (l0_2 : List (S67)) (a1 : Int) (a2 : Int) : Option Int := some (idxF (isAt a1 a2) l0_2 0)
set_option maxHeartbeats 2000000 in
set_option maxRecDepth 100000 in
theorem impl_unitAt.calls (a0_0 : Int) (a0_1 : Bool) (A0_2 : Option Addr) (c0_2 : Nat) (l0_2 : List (S67)) (a1 : Int) (a2 : Int) (r : Int) (w : World) (hr0_2 : Kd.C k67 w A0_2 l0_2.length l0_2) (hc0_2 : l0_2.length ≤ c0_2) (h : impl_unitAt.f a0_0 a0_1 l0_2 a1 a2 = some r) :
    Calls Try.prog 48 #[.agg #[.int .i64 a0_0, .bool a0_1, .slice A0_2 l0_2.length c0_2], .int .i64 a1, .int .i64 a2] w fun e w' => e = .returned (.int .i64 r) ∧ Below w.heap.size w w' := by
  obtain rfl := Option.some.inj h
  clear h
  have hu := Try.underlying43
  have HR := Aside0.mk hr0_2
  clear hr0_2
  go_enter Try.func48, Try.ntmps48
  go_wp2_with fail
  refine (ixUnit 64 _ (enters_of Try.func64 (by kernel_rfl) rfl) (isAt a1 a2) A0_2 c0_2 l0_2 _ ?hp ?hr).mono ?_
  case hp =>
    intro W x hm hb
    exact (cl_unitAt x a1 a2 _ _ W ((hb.cell (p := ⟨_, 0, none⟩) (by simp)).trans (by go_simp)) ((hb.cell (p := ⟨_, 0, none⟩) (by simp)).trans (by go_simp))).mono fun e w' ⟨he, hb2⟩ => ⟨he, hb.trans (hb2.mono hb.size)⟩
  case hr => exact Kd.C_alloc (Kd.C_alloc (Kd.C_alloc HR.out _) _) _
  rintro e w' ⟨rfl, hb⟩
  go_wp2
  go_ret
  exact ⟨rfl, ((((Below.refl _ _).alloc (Nat.le_refl _) _).alloc (by simp) _).alloc (by simp; omega) _).trans (hb.mono (by simp; omega))⟩
end Go.Proofs.Ytahimindlnkmoaa.Pr

namespace Go.Proofs.Ytahimindlnkmoaa.Pr
open Go.RowKit Go.Proofs.YtahimindlnkmoaaW.PrintWords Go.Proofs.YtahimindlnkmoaaW.PrintLast Go.Proofs.YtahimindlnkmoaaW.PrintMore
attribute [local go_sem] max2_int min2_int max_two min_two max_three min_three max_four min_four
set_option linter.unusedVariables false
set_option linter.unusedSimpArgs false
mutual
def impl_SumMore.l0 : Nat → Int → ByteArray → Int → Option (Int)
 | 0, _, _, _ => none
 | k + 1, x0, x1, x5 => if x5 < (x1.size : Int) then (if 0 ≤ x5 then (impl_SumMore.l1 k (Go.bits .xor .u32 x0 ((bt x1 x5) % 4294967296)) x1 x5 0) else (none)) else (some x0)
def impl_SumMore.l1 : Nat → Int → ByteArray → Int → Int → Option (Int)
 | 0, _, _, _, _ => none
 | k + 1, x0, x1, x5, x6 => if x6 < 8 then (if (Int.tmod x0 2) = 1 then (impl_SumMore.l1 k (Go.bits .xor .u32 ((Int.tdiv x0 2) % 4294967296) 3558460437) x1 x5 (wrap64 (x6 + 1))) else (impl_SumMore.l1 k ((Int.tdiv x0 2) % 4294967296) x1 x5 (wrap64 (x6 + 1)))) else (impl_SumMore.l0 k x0 x1 (wrap64 (x5 + 1)))
end
def impl_SumMore.f (k : Nat) (a0 : Int) (a1 : ByteArray) : Option (Int) := impl_SumMore.l0 k a0 a1 0
set_option maxHeartbeats 8000000 in
set_option maxRecDepth 100000 in
theorem impl_SumMore.calls (k : Nat) (a0 : Int) (a1 : ByteArray) (r : Int) (w : World) (h : impl_SumMore.f k a0 a1 = some r) :
  Calls Try.prog 70 #[.int .u32 a0, .string a1] w fun e w' => e = .returned (.int .u32 r) ∧ Drawn0 w w' := by
 have H : (impl_SumMore.l0 k a0 a1 0) = some r := h
 clear h
 have H' := Aside0.mk H
 clear H
 go_enter Try.func70, Try.ntmps70
 go_wp2
 go_loopg [0, 5] k (fun kq v0 v5 w' => ∃ (x0_1 : Int) (x5_1 : Int), v0 = .int .u32 x0_1 ∧ v5 = .int .i64 x5_1 ∧ Aside0 (impl_SumMore.l0 kq x0_1 a1 x5_1 = some r) ∧ Aside0 (kq ≤ k) ∧ Drawn0 w w')
 case atStart => exact ⟨(a0), (0), FR, FR, H', ⟨Nat.le_refl _⟩, by repeat (first | exact Drawn0.refl _ | apply Drawn0.step)⟩
 case round =>
  clear H'
  try clear p2
  obtain ⟨x0_1, x5_1, rfl, rfl, HA, HK1, ⟨m1, rfl⟩⟩ := hrel
  cases gk with
  | zero => exact absurd HA.out (by simp [impl_SumMore.l0])
  | succ k1 =>
   have H := HA.out
   clear HA
   simp only [impl_SumMore.l0] at H
   by_cases c3 : x5_1 < (a1.size : Int)
   ·rw [if_pos c3] at H
    have c3b0 : decide (x5_1 < (a1.size : Int)) = true := decide_eq_true c3
    clear c3
    by_cases c4 : 0 ≤ x5_1
    ·rw [if_pos c4] at H
     have c4b0 : decide (0 ≤ x5_1) = true := decide_eq_true c4
     clear c4
     have H' := Aside0.mk H
     clear H
     have p5 : 0 ≤ (x5_1 : Int) := DT
     have q5 : x5_1 < (a1.size : Int) := DT
     have hx5 := bt_at a1 x5_1
     replace p5 := eq_true p5
     replace q5 := eq_true q5
     go_wp2
     go_loopg [0, 6] k1 (fun kq v0 v6 w' => ∃ (x0_2 : Int) (x6_2 : Int), v0 = .int .u32 x0_2 ∧ v6 = .int .i64 x6_2 ∧ Aside0 (impl_SumMore.l1 kq x0_2 a1 x5_1 x6_2 = some r) ∧ Aside0 (kq ≤ k1) ∧ Drawn0 w w')
     case atStart => exact ⟨(Go.bits .xor .u32 x0_1 ((bt a1 x5_1) % 4294967296)), (0), FR, FR, H', ⟨Nat.le_refl _⟩, by repeat (first | exact Drawn0.refl _ | apply Drawn0.step)⟩
     case round =>
      clear H'
      try clear p2
      try clear c3
      try clear c3b0
      try clear c4
      try clear c4b0
      try clear p5
      try clear q5
      try clear hx5
      try clear p2
      try clear p5
      try clear q5
      obtain ⟨x0_2, x6_2, rfl, rfl, HA, HK2, ⟨m2, rfl⟩⟩ := hrel
      cases gk with
      | zero => exact absurd HA.out (by simp [impl_SumMore.l1])
      | succ k2 =>
       have H := HA.out
       clear HA
       simp only [impl_SumMore.l1] at H
       by_cases c6 : x6_2 < 8
       ·rw [if_pos c6] at H
        have c6b0 : decide (x6_2 < 8) = true := decide_eq_true c6
        clear c6
        by_cases c7 : (Int.tmod x0_2 2) = 1
        ·rw [if_pos c7] at H
         have c7b0 : ((Int.tmod x0_2 2) == 1) = true := beq_iff_eq.mpr c7
         have c7b1 : ((Int.tmod x0_2 2) != 1) = false := bne_eq_false_iff_eq.mpr c7
         clear c7
         have H' := Aside0.mk H
         clear H
         go_wp2
         go_roundg k2
         case measure => have := HK1.out; have := HK2.out; omega
         case rel => exact ⟨(Go.bits .xor .u32 ((Int.tdiv x0_2 2) % 4294967296) 3558460437), (wrap64 (x6_2 + 1)), FR, FR, H', ⟨by have := HK1.out; have := HK2.out; omega⟩, by repeat (first | exact Drawn0.refl _ | apply Drawn0.step)⟩
        ·rw [if_neg c7] at H
         have c7b0 : ((Int.tmod x0_2 2) == 1) = false := beq_eq_false_iff_ne.mpr c7
         have c7b1 : ((Int.tmod x0_2 2) != 1) = true := bne_iff_ne.mpr c7
         have H' := Aside0.mk H
         clear H
         go_wp2
         go_roundg k2
         case measure => have := HK1.out; have := HK2.out; omega
         case rel => exact ⟨((Int.tdiv x0_2 2) % 4294967296), (wrap64 (x6_2 + 1)), FR, FR, H', ⟨by have := HK1.out; have := HK2.out; omega⟩, by repeat (first | exact Drawn0.refl _ | apply Drawn0.step)⟩
       ·rw [if_neg c6] at H
        have c6b0 : decide (x6_2 < 8) = false := decide_eq_false c6
        clear c6
        have H' := Aside0.mk H
        clear H
        go_wp2
        go_roundg k2
        case measure => have := HK1.out; have := HK2.out; omega
        case rel => exact ⟨(x0_2), (wrap64 (x5_1 + 1)), FR, FR, H', ⟨by have := HK1.out; have := HK2.out; omega⟩, by repeat (first | exact Drawn0.refl _ | apply Drawn0.step)⟩
    ·rw [if_neg c4] at H
     exact absurd H (by simp)
   ·rw [if_neg c3] at H
    have c3b0 : decide (x5_1 < (a1.size : Int)) = false := decide_eq_false c3
    clear c3
    obtain rfl := Option.some.inj H
    go_wp2
    go_ret
    exact ⟨FR, by repeat (first | exact Drawn0.refl _ | apply Drawn0.step)⟩

end Go.Proofs.Ytahimindlnkmoaa.Pr

namespace Go.Proofs.Ytahimindlnkmoaa.Pr
open Go.RowKit Go.Proofs.YtahimindlnkmoaaW.PrintWords Go.Proofs.YtahimindlnkmoaaW.PrintLast Go.Proofs.YtahimindlnkmoaaW.PrintMore
attribute [local go_sem] max2_int min2_int max_two min_two max_three min_three max_four min_four
set_option linter.unusedVariables false
set_option linter.unusedSimpArgs false
def impl_SumOf.f (k : Nat) (a0 : ByteArray) : Option (Int) := (impl_SumMore.f k 4294967295 a0).bind fun t384 => (some t384)
set_option maxHeartbeats 8000000 in
set_option maxRecDepth 100000 in
theorem impl_SumOf.calls (k : Nat) (a0 : ByteArray) (r : Int) (w : World) (h : impl_SumOf.f k a0 = some r) :
  Calls Try.prog 65 #[.string a0] w fun e w' => e = .returned (.int .u32 r) ∧ Drawn0 w w' := by
 have H : ((impl_SumMore.f k 4294967295 a0).bind fun t384 => (some t384)) = some r := h
 clear h
 replace H := Option.bind_eq_some_iff.mp H
 obtain ⟨t384, A20, H⟩ := H
 replace H : (some t384) = some r := H
 have A2 := Aside0.mk A20
 clear A20
 obtain rfl := Option.some.inj H
 go_enter Try.func65, Try.ntmps65
 go_wp2_with (first | ((with_reducible refine gate_callee (f := 70) rfl ?_); refine GL (some 4) rfl rfl Try.func70 #[.int .u32 4294967295, .string a0] rfl ?_; (with_reducible refine (impl_SumMore.calls k 4294967295 a0 t384 _ A2.out).mono ?_); rintro e w' ⟨rfl, ⟨nd, rfl⟩⟩; refine ⟨_, rfl, ?_⟩))
 go_ret
 exact ⟨FR, by repeat (first | exact Drawn0.refl _ | apply Drawn0.step)⟩

end Go.Proofs.Ytahimindlnkmoaa.Pr

namespace Go.Proofs.Ytahimindlnkmoaa.Pr
open Go.RowKit Go.Proofs.YtahimindlnkmoaaW.PrintWords Go.Proofs.YtahimindlnkmoaaW.PrintLast Go.Proofs.YtahimindlnkmoaaW.PrintMore
attribute [local go_sem] max2_int min2_int max_two min_two max_three min_three max_four min_four
set_option linter.unusedVariables false
set_option linter.unusedSimpArgs false
def impl_SumText.f (k : Nat) (a0 : ByteArray) : Option (Int) := (impl_SumOf.f k a0).bind fun t385 => (some (wrap64 (t385)))
set_option maxHeartbeats 8000000 in
set_option maxRecDepth 100000 in
theorem impl_SumText.calls (k : Nat) (a0 : ByteArray) (r : Int) (w : World) (h : impl_SumText.f k a0 = some r) :
  Calls Try.prog 49 #[.string a0] w fun e w' => e = .returned (.int .i64 r) ∧ Drawn0 w w' := by
 have H : ((impl_SumOf.f k a0).bind fun t385 => (some (wrap64 (t385)))) = some r := h
 clear h
 replace H := Option.bind_eq_some_iff.mp H
 obtain ⟨t385, A20, H⟩ := H
 replace H : (some (wrap64 (t385))) = some r := H
 have A2 := Aside0.mk A20
 clear A20
 obtain rfl := Option.some.inj H
 go_enter Try.func49, Try.ntmps49
 go_wp2_with (first | ((with_reducible refine gate_callee (f := 65) rfl ?_); refine GL (some 4) rfl rfl Try.func65 #[.string a0] rfl ?_; (with_reducible refine (impl_SumOf.calls k a0 t385 _ A2.out).mono ?_); rintro e w' ⟨rfl, ⟨nd, rfl⟩⟩; refine ⟨_, rfl, ?_⟩))
 go_ret
 exact ⟨FR, by repeat (first | exact Drawn0.refl _ | apply Drawn0.step)⟩

end Go.Proofs.Ytahimindlnkmoaa.Pr

namespace Go.Proofs.Ytahimindlnkmoaa.Pr
open Go.RowKit Go.Proofs.YtahimindlnkmoaaW.PrintWords Go.Proofs.YtahimindlnkmoaaW.PrintLast Go.Proofs.YtahimindlnkmoaaW.PrintMore
attribute [local go_sem] max2_int min2_int max_two min_two max_three min_three max_four min_four
set_option linter.unusedVariables false
set_option linter.unusedSimpArgs false
def impl_GetUnit.f (k : Nat) (a0_0 : Int) (a0_1 : Bool) (l0_2 : List (S67)) (a1 : Int) (a2 : Int) : Option (ByteArray × Bool) := (impl_unitAt.f a0_0 a0_1 l0_2 a1 a2).bind fun t387 => (if a0_1 = true then (if t387 < 0 then (some ((⟨#[]⟩ : ByteArray), false)) else (if 0 ≤ t387 then (if t387 < (l0_2.length : Int) then ((impl_SumText.f k ((rd_T67 l0_2 t387).f2)).bind fun t390 => (if ((rd_T67 l0_2 t387).f3) = t390 then (some ((rd_T67 l0_2 t387).f2, true)) else (some ((⟨#[]⟩ : ByteArray), false)))) else (none)) else (none))) else (some ((⟨#[]⟩ : ByteArray), false)))
set_option maxHeartbeats 8000000 in
set_option maxRecDepth 100000 in
theorem impl_GetUnit.calls (k : Nat) (a0_0 : Int) (a0_1 : Bool) (A0_2 : Option Addr) (c0_2 : Nat) (l0_2 : List (S67)) (a1 : Int) (a2 : Int) (r1 : ByteArray) (r2 : Bool) (w : World) (hr0_2 : Kd.C k67 w A0_2 l0_2.length l0_2) (hc0_2 : l0_2.length ≤ c0_2) (h : impl_GetUnit.f k a0_0 a0_1 l0_2 a1 a2 = some (r1, r2)) :
  Calls Try.prog 29 #[.agg #[.int .i64 a0_0, .bool a0_1, .slice A0_2 l0_2.length c0_2], .int .i64 a1, .int .i64 a2] w fun e w' => e = .returned (.tuple #[.string r1, .bool r2]) ∧ Below w.heap.size w w' := by
 have hu43 := Try.underlying43
 have HR0_2 := Aside0.mk hr0_2
 have HC0_2 := Aside0.mk hc0_2
 clear hr0_2 hc0_2
 have HB := Aside0.mk (Below.refl w.heap.size w)
 have H : ((impl_unitAt.f a0_0 a0_1 l0_2 a1 a2).bind fun t387 => (if a0_1 = true then (if t387 < 0 then (some ((⟨#[]⟩ : ByteArray), false)) else (if 0 ≤ t387 then (if t387 < (l0_2.length : Int) then ((impl_SumText.f k ((rd_T67 l0_2 t387).f2)).bind fun t390 => (if ((rd_T67 l0_2 t387).f3) = t390 then (some ((rd_T67 l0_2 t387).f2, true)) else (some ((⟨#[]⟩ : ByteArray), false)))) else (none)) else (none))) else (some ((⟨#[]⟩ : ByteArray), false)))) = some (r1, r2) := h
 clear h
 replace H := Option.bind_eq_some_iff.mp H
 obtain ⟨t387, A40, H⟩ := H
 replace H : (if a0_1 = true then (if t387 < 0 then (some ((⟨#[]⟩ : ByteArray), false)) else (if 0 ≤ t387 then (if t387 < (l0_2.length : Int) then ((impl_SumText.f k ((rd_T67 l0_2 t387).f2)).bind fun t390 => (if ((rd_T67 l0_2 t387).f3) = t390 then (some ((rd_T67 l0_2 t387).f2, true)) else (some ((⟨#[]⟩ : ByteArray), false)))) else (none)) else (none))) else (some ((⟨#[]⟩ : ByteArray), false))) = some (r1, r2) := H
 have A4 := Aside0.mk A40
 clear A40
 by_cases c5 : a0_1 = true
 ·subst c5
  have H1 : (if t387 < 0 then (some ((⟨#[]⟩ : ByteArray), false)) else (if 0 ≤ t387 then (if t387 < (l0_2.length : Int) then ((impl_SumText.f k ((rd_T67 l0_2 t387).f2)).bind fun t390 => (if ((rd_T67 l0_2 t387).f3) = t390 then (some ((rd_T67 l0_2 t387).f2, true)) else (some ((⟨#[]⟩ : ByteArray), false)))) else (none)) else (none))) = some (r1, r2) := by rw [if_pos rfl] at H; exact H
  clear H
  have H := H1
  clear H1
  by_cases c6 : t387 < 0
  ·rw [if_pos c6] at H
   have c6b0 : decide (t387 < 0) = true := decide_eq_true c6
   clear c6
   simp only [Option.some.injEq, Prod.mk.injEq] at H
   obtain ⟨rfl, rfl⟩ := H
   go_enter Try.func29, Try.ntmps29
   go_wp2_with (first | ((with_reducible refine gate_dst (N := 3) rfl ?_); refine BX 3 #[.int .i64 a0_0, .bool true, .slice A0_2 l0_2.length c0_2] 43 ?_; intro gb386 hg w7 hbox hb; have BK386 := Aside0.mk (hbox); have GW386 : Aside0 (w.heap.size ≤ gb386) := WG hg (BB HB.out); have GE386 := GW386; replace HB := Aside0.mk (below_step (BB HB.out) hb); clear hb hbox hg; have hcz8 := blk_cell BK386.out; have hfz8 := blk_frozen BK386.out) | (go_at_call 48; (with_reducible refine (impl_unitAt.calls a0_0 true _ _ l0_2 a1 a2 t387 _ ?side1 ?side2 A4.out).mono ?_); (case side1 => exact CC (Kd.C_below HR0_2.out HB.out)); (case side2 => exact HC0_2.out); rintro e w9 ⟨rfl, hb⟩; replace BK386 := Aside0.mk (KB BK386.out hb); replace HB := Aside0.mk (below_step (BB1 HB.out GE386.out) hb); (try clear hb); (try clear hb2); (try clear hk); (try clear hi); have hcz10 := blk_cell BK386.out; have hfz10 := blk_frozen BK386.out))
   repeat (go_quiet (first | ((with_reducible refine gate_dst (N := 3) rfl ?_); refine BX 3 #[.int .i64 a0_0, .bool true, .slice A0_2 l0_2.length c0_2] 43 ?_; intro gb386 hg w7 hbox hb; have BK386 := Aside0.mk (hbox); have GW386 : Aside0 (w.heap.size ≤ gb386) := WG hg (BB HB.out); have GE386 := GW386; replace HB := Aside0.mk (below_step (BB HB.out) hb); clear hb hbox hg; have hcz8 := blk_cell BK386.out; have hfz8 := blk_frozen BK386.out) | (go_at_call 48; (with_reducible refine (impl_unitAt.calls a0_0 true _ _ l0_2 a1 a2 t387 _ ?side1 ?side2 A4.out).mono ?_); (case side1 => exact CC (Kd.C_below HR0_2.out HB.out)); (case side2 => exact HC0_2.out); rintro e w9 ⟨rfl, hb⟩; replace BK386 := Aside0.mk (KB BK386.out hb); replace HB := Aside0.mk (below_step (BB1 HB.out GE386.out) hb); (try clear hb); (try clear hb2); (try clear hk); (try clear hi); have hcz10 := blk_cell BK386.out; have hfz10 := blk_frozen BK386.out)); try go_wp2_with (first | ((with_reducible refine gate_dst (N := 3) rfl ?_); refine BX 3 #[.int .i64 a0_0, .bool true, .slice A0_2 l0_2.length c0_2] 43 ?_; intro gb386 hg w7 hbox hb; have BK386 := Aside0.mk (hbox); have GW386 : Aside0 (w.heap.size ≤ gb386) := WG hg (BB HB.out); have GE386 := GW386; replace HB := Aside0.mk (below_step (BB HB.out) hb); clear hb hbox hg; have hcz8 := blk_cell BK386.out; have hfz8 := blk_frozen BK386.out) | (go_at_call 48; (with_reducible refine (impl_unitAt.calls a0_0 true _ _ l0_2 a1 a2 t387 _ ?side1 ?side2 A4.out).mono ?_); (case side1 => exact CC (Kd.C_below HR0_2.out HB.out)); (case side2 => exact HC0_2.out); rintro e w9 ⟨rfl, hb⟩; replace BK386 := Aside0.mk (KB BK386.out hb); replace HB := Aside0.mk (below_step (BB1 HB.out GE386.out) hb); (try clear hb); (try clear hb2); (try clear hk); (try clear hi); have hcz10 := blk_cell BK386.out; have hfz10 := blk_frozen BK386.out)))
   go_ret2
   exact ⟨ER, (BB1 HB.out GE386.out)⟩
  ·rw [if_neg c6] at H
   have c6b0 : decide (t387 < 0) = false := decide_eq_false c6
   clear c6
   by_cases c11 : 0 ≤ t387
   ·rw [if_pos c11] at H
    have c11b0 : decide (0 ≤ t387) = true := decide_eq_true c11
    clear c11
    by_cases c12 : t387 < (l0_2.length : Int)
    ·rw [if_pos c12] at H
     have c12b0 : decide (t387 < (l0_2.length : Int)) = true := decide_eq_true c12
     clear c12
     replace H := Option.bind_eq_some_iff.mp H
     obtain ⟨t390, A130, H⟩ := H
     replace H : (if ((rd_T67 l0_2 t387).f3) = t390 then (some ((rd_T67 l0_2 t387).f2, true)) else (some ((⟨#[]⟩ : ByteArray), false))) = some (r1, r2) := H
     have A13 := Aside0.mk A130
     clear A130
     by_cases c14 : ((rd_T67 l0_2 t387).f3) = t390
     ·rw [if_pos c14] at H
      have c14b0 : (((rd_T67 l0_2 t387).f3) == t390) = true := beq_iff_eq.mpr c14
      have c14b1 : (((rd_T67 l0_2 t387).f3) != t390) = false := bne_eq_false_iff_eq.mpr c14
      clear c14
      simp only [Option.some.injEq, Prod.mk.injEq] at H
      obtain ⟨rfl, rfl⟩ := H
      go_enter Try.func29, Try.ntmps29
      go_wp2_with (first | ((with_reducible refine gate_dst (N := 3) rfl ?_); refine BX 3 #[.int .i64 a0_0, .bool true, .slice A0_2 l0_2.length c0_2] 43 ?_; intro gb386 hg w15 hbox hb; have BK386 := Aside0.mk (hbox); have GW386 : Aside0 (w.heap.size ≤ gb386) := WG hg (BB HB.out); have GE386 := GW386; replace HB := Aside0.mk (below_step (BB HB.out) hb); clear hb hbox hg; have hcz16 := blk_cell BK386.out; have hfz16 := blk_frozen BK386.out) | (go_at_call 48; (with_reducible refine (impl_unitAt.calls a0_0 true _ _ l0_2 a1 a2 t387 _ ?side1 ?side2 A4.out).mono ?_); (case side1 => exact CC (Kd.C_below HR0_2.out HB.out)); (case side2 => exact HC0_2.out); rintro e w17 ⟨rfl, hb⟩; replace BK386 := Aside0.mk (KB BK386.out hb); replace HB := Aside0.mk (below_step (BB1 HB.out GE386.out) hb); (try clear hb); (try clear hb2); (try clear hk); (try clear hi); have hcz18 := blk_cell BK386.out; have hfz18 := blk_frozen BK386.out; have p388 : 0 ≤ (t387 : Int) := DT; have q388 : t387 < (l0_2.length : Int) := DT; obtain ⟨ad388, e388, hx388_0, hx388_1, hx388_2, hx388_3⟩ := at_T67 HR0_2.out t387 p388 q388; cases e388; replace hx388_0 := (HB.out.cell (World.block_lt_of_cell? w _ hx388_0)).trans hx388_0; replace hx388_1 := (HB.out.cell (World.block_lt_of_cell? w _ hx388_1)).trans hx388_1; replace hx388_2 := (HB.out.cell (World.block_lt_of_cell? w _ hx388_2)).trans hx388_2; replace hx388_3 := (HB.out.cell (World.block_lt_of_cell? w _ hx388_3)).trans hx388_3; replace p388 := eq_true p388; replace q388 := eq_true q388; have p389 : 0 ≤ (t387 : Int) := DT; have q389 : t387 < (l0_2.length : Int) := DT; obtain ⟨ad389, e389, hx389_0, hx389_1, hx389_2, hx389_3⟩ := at_T67 HR0_2.out t387 p389 q389; obtain rfl : ad388 = ad389 := (by injection e389); replace hx389_0 := (HB.out.cell (World.block_lt_of_cell? w _ hx389_0)).trans hx389_0; replace hx389_1 := (HB.out.cell (World.block_lt_of_cell? w _ hx389_1)).trans hx389_1; replace hx389_2 := (HB.out.cell (World.block_lt_of_cell? w _ hx389_2)).trans hx389_2; replace hx389_3 := (HB.out.cell (World.block_lt_of_cell? w _ hx389_3)).trans hx389_3; replace p389 := eq_true p389; replace q389 := eq_true q389) | (go_at_call 49; (with_reducible refine (impl_SumText.calls k ((rd_T67 l0_2 t387).f2) t390 _ A13.out).mono ?_); rintro e w' ⟨rfl, ⟨nd, rfl⟩⟩; (try first | exact ⟨rfl, _, World.drewN_drewN _ _ _⟩ | exact ⟨rfl, _, Eq.trans (World.drewN_drewN _ _ _) (congrArg (World.drewN _) (Nat.add_assoc _ _ _))⟩); have p391 : 0 ≤ (t387 : Int) := DT; have q391 : t387 < (l0_2.length : Int) := DT; obtain ⟨ad391, e391, hx391_0, hx391_1, hx391_2, hx391_3⟩ := at_T67 HR0_2.out t387 p391 q391; obtain rfl : ad388 = ad391 := (by injection e391); replace hx391_0 := (HB.out.cell (World.block_lt_of_cell? w _ hx391_0)).trans hx391_0; replace hx391_1 := (HB.out.cell (World.block_lt_of_cell? w _ hx391_1)).trans hx391_1; replace hx391_2 := (HB.out.cell (World.block_lt_of_cell? w _ hx391_2)).trans hx391_2; replace hx391_3 := (HB.out.cell (World.block_lt_of_cell? w _ hx391_3)).trans hx391_3; replace p391 := eq_true p391; replace q391 := eq_true q391))
      repeat (go_quiet (first | ((with_reducible refine gate_dst (N := 3) rfl ?_); refine BX 3 #[.int .i64 a0_0, .bool true, .slice A0_2 l0_2.length c0_2] 43 ?_; intro gb386 hg w15 hbox hb; have BK386 := Aside0.mk (hbox); have GW386 : Aside0 (w.heap.size ≤ gb386) := WG hg (BB HB.out); have GE386 := GW386; replace HB := Aside0.mk (below_step (BB HB.out) hb); clear hb hbox hg; have hcz16 := blk_cell BK386.out; have hfz16 := blk_frozen BK386.out) | (go_at_call 48; (with_reducible refine (impl_unitAt.calls a0_0 true _ _ l0_2 a1 a2 t387 _ ?side1 ?side2 A4.out).mono ?_); (case side1 => exact CC (Kd.C_below HR0_2.out HB.out)); (case side2 => exact HC0_2.out); rintro e w17 ⟨rfl, hb⟩; replace BK386 := Aside0.mk (KB BK386.out hb); replace HB := Aside0.mk (below_step (BB1 HB.out GE386.out) hb); (try clear hb); (try clear hb2); (try clear hk); (try clear hi); have hcz18 := blk_cell BK386.out; have hfz18 := blk_frozen BK386.out; have p388 : 0 ≤ (t387 : Int) := DT; have q388 : t387 < (l0_2.length : Int) := DT; obtain ⟨ad388, e388, hx388_0, hx388_1, hx388_2, hx388_3⟩ := at_T67 HR0_2.out t387 p388 q388; cases e388; replace hx388_0 := (HB.out.cell (World.block_lt_of_cell? w _ hx388_0)).trans hx388_0; replace hx388_1 := (HB.out.cell (World.block_lt_of_cell? w _ hx388_1)).trans hx388_1; replace hx388_2 := (HB.out.cell (World.block_lt_of_cell? w _ hx388_2)).trans hx388_2; replace hx388_3 := (HB.out.cell (World.block_lt_of_cell? w _ hx388_3)).trans hx388_3; replace p388 := eq_true p388; replace q388 := eq_true q388; have p389 : 0 ≤ (t387 : Int) := DT; have q389 : t387 < (l0_2.length : Int) := DT; obtain ⟨ad389, e389, hx389_0, hx389_1, hx389_2, hx389_3⟩ := at_T67 HR0_2.out t387 p389 q389; obtain rfl : ad388 = ad389 := (by injection e389); replace hx389_0 := (HB.out.cell (World.block_lt_of_cell? w _ hx389_0)).trans hx389_0; replace hx389_1 := (HB.out.cell (World.block_lt_of_cell? w _ hx389_1)).trans hx389_1; replace hx389_2 := (HB.out.cell (World.block_lt_of_cell? w _ hx389_2)).trans hx389_2; replace hx389_3 := (HB.out.cell (World.block_lt_of_cell? w _ hx389_3)).trans hx389_3; replace p389 := eq_true p389; replace q389 := eq_true q389) | (go_at_call 49; (with_reducible refine (impl_SumText.calls k ((rd_T67 l0_2 t387).f2) t390 _ A13.out).mono ?_); rintro e w' ⟨rfl, ⟨nd, rfl⟩⟩; (try first | exact ⟨rfl, _, World.drewN_drewN _ _ _⟩ | exact ⟨rfl, _, Eq.trans (World.drewN_drewN _ _ _) (congrArg (World.drewN _) (Nat.add_assoc _ _ _))⟩); have p391 : 0 ≤ (t387 : Int) := DT; have q391 : t387 < (l0_2.length : Int) := DT; obtain ⟨ad391, e391, hx391_0, hx391_1, hx391_2, hx391_3⟩ := at_T67 HR0_2.out t387 p391 q391; obtain rfl : ad388 = ad391 := (by injection e391); replace hx391_0 := (HB.out.cell (World.block_lt_of_cell? w _ hx391_0)).trans hx391_0; replace hx391_1 := (HB.out.cell (World.block_lt_of_cell? w _ hx391_1)).trans hx391_1; replace hx391_2 := (HB.out.cell (World.block_lt_of_cell? w _ hx391_2)).trans hx391_2; replace hx391_3 := (HB.out.cell (World.block_lt_of_cell? w _ hx391_3)).trans hx391_3; replace p391 := eq_true p391; replace q391 := eq_true q391)); try go_wp2_with (first | ((with_reducible refine gate_dst (N := 3) rfl ?_); refine BX 3 #[.int .i64 a0_0, .bool true, .slice A0_2 l0_2.length c0_2] 43 ?_; intro gb386 hg w15 hbox hb; have BK386 := Aside0.mk (hbox); have GW386 : Aside0 (w.heap.size ≤ gb386) := WG hg (BB HB.out); have GE386 := GW386; replace HB := Aside0.mk (below_step (BB HB.out) hb); clear hb hbox hg; have hcz16 := blk_cell BK386.out; have hfz16 := blk_frozen BK386.out) | (go_at_call 48; (with_reducible refine (impl_unitAt.calls a0_0 true _ _ l0_2 a1 a2 t387 _ ?side1 ?side2 A4.out).mono ?_); (case side1 => exact CC (Kd.C_below HR0_2.out HB.out)); (case side2 => exact HC0_2.out); rintro e w17 ⟨rfl, hb⟩; replace BK386 := Aside0.mk (KB BK386.out hb); replace HB := Aside0.mk (below_step (BB1 HB.out GE386.out) hb); (try clear hb); (try clear hb2); (try clear hk); (try clear hi); have hcz18 := blk_cell BK386.out; have hfz18 := blk_frozen BK386.out; have p388 : 0 ≤ (t387 : Int) := DT; have q388 : t387 < (l0_2.length : Int) := DT; obtain ⟨ad388, e388, hx388_0, hx388_1, hx388_2, hx388_3⟩ := at_T67 HR0_2.out t387 p388 q388; cases e388; replace hx388_0 := (HB.out.cell (World.block_lt_of_cell? w _ hx388_0)).trans hx388_0; replace hx388_1 := (HB.out.cell (World.block_lt_of_cell? w _ hx388_1)).trans hx388_1; replace hx388_2 := (HB.out.cell (World.block_lt_of_cell? w _ hx388_2)).trans hx388_2; replace hx388_3 := (HB.out.cell (World.block_lt_of_cell? w _ hx388_3)).trans hx388_3; replace p388 := eq_true p388; replace q388 := eq_true q388; have p389 : 0 ≤ (t387 : Int) := DT; have q389 : t387 < (l0_2.length : Int) := DT; obtain ⟨ad389, e389, hx389_0, hx389_1, hx389_2, hx389_3⟩ := at_T67 HR0_2.out t387 p389 q389; obtain rfl : ad388 = ad389 := (by injection e389); replace hx389_0 := (HB.out.cell (World.block_lt_of_cell? w _ hx389_0)).trans hx389_0; replace hx389_1 := (HB.out.cell (World.block_lt_of_cell? w _ hx389_1)).trans hx389_1; replace hx389_2 := (HB.out.cell (World.block_lt_of_cell? w _ hx389_2)).trans hx389_2; replace hx389_3 := (HB.out.cell (World.block_lt_of_cell? w _ hx389_3)).trans hx389_3; replace p389 := eq_true p389; replace q389 := eq_true q389) | (go_at_call 49; (with_reducible refine (impl_SumText.calls k ((rd_T67 l0_2 t387).f2) t390 _ A13.out).mono ?_); rintro e w' ⟨rfl, ⟨nd, rfl⟩⟩; (try first | exact ⟨rfl, _, World.drewN_drewN _ _ _⟩ | exact ⟨rfl, _, Eq.trans (World.drewN_drewN _ _ _) (congrArg (World.drewN _) (Nat.add_assoc _ _ _))⟩); have p391 : 0 ≤ (t387 : Int) := DT; have q391 : t387 < (l0_2.length : Int) := DT; obtain ⟨ad391, e391, hx391_0, hx391_1, hx391_2, hx391_3⟩ := at_T67 HR0_2.out t387 p391 q391; obtain rfl : ad388 = ad391 := (by injection e391); replace hx391_0 := (HB.out.cell (World.block_lt_of_cell? w _ hx391_0)).trans hx391_0; replace hx391_1 := (HB.out.cell (World.block_lt_of_cell? w _ hx391_1)).trans hx391_1; replace hx391_2 := (HB.out.cell (World.block_lt_of_cell? w _ hx391_2)).trans hx391_2; replace hx391_3 := (HB.out.cell (World.block_lt_of_cell? w _ hx391_3)).trans hx391_3; replace p391 := eq_true p391; replace q391 := eq_true q391)))
      go_ret2
      exact ⟨ER, (BB1 HB.out GE386.out)⟩
     ·rw [if_neg c14] at H
      have c14b0 : (((rd_T67 l0_2 t387).f3) == t390) = false := beq_eq_false_iff_ne.mpr c14
      have c14b1 : (((rd_T67 l0_2 t387).f3) != t390) = true := bne_iff_ne.mpr c14
      simp only [Option.some.injEq, Prod.mk.injEq] at H
      obtain ⟨rfl, rfl⟩ := H
      go_enter Try.func29, Try.ntmps29
      go_wp2_with (first | ((with_reducible refine gate_dst (N := 3) rfl ?_); refine BX 3 #[.int .i64 a0_0, .bool true, .slice A0_2 l0_2.length c0_2] 43 ?_; intro gb386 hg w19 hbox hb; have BK386 := Aside0.mk (hbox); have GW386 : Aside0 (w.heap.size ≤ gb386) := WG hg (BB HB.out); have GE386 := GW386; replace HB := Aside0.mk (below_step (BB HB.out) hb); clear hb hbox hg; have hcz20 := blk_cell BK386.out; have hfz20 := blk_frozen BK386.out) | (go_at_call 48; (with_reducible refine (impl_unitAt.calls a0_0 true _ _ l0_2 a1 a2 t387 _ ?side1 ?side2 A4.out).mono ?_); (case side1 => exact CC (Kd.C_below HR0_2.out HB.out)); (case side2 => exact HC0_2.out); rintro e w21 ⟨rfl, hb⟩; replace BK386 := Aside0.mk (KB BK386.out hb); replace HB := Aside0.mk (below_step (BB1 HB.out GE386.out) hb); (try clear hb); (try clear hb2); (try clear hk); (try clear hi); have hcz22 := blk_cell BK386.out; have hfz22 := blk_frozen BK386.out; have p388 : 0 ≤ (t387 : Int) := DT; have q388 : t387 < (l0_2.length : Int) := DT; obtain ⟨ad388, e388, hx388_0, hx388_1, hx388_2, hx388_3⟩ := at_T67 HR0_2.out t387 p388 q388; cases e388; replace hx388_0 := (HB.out.cell (World.block_lt_of_cell? w _ hx388_0)).trans hx388_0; replace hx388_1 := (HB.out.cell (World.block_lt_of_cell? w _ hx388_1)).trans hx388_1; replace hx388_2 := (HB.out.cell (World.block_lt_of_cell? w _ hx388_2)).trans hx388_2; replace hx388_3 := (HB.out.cell (World.block_lt_of_cell? w _ hx388_3)).trans hx388_3; replace p388 := eq_true p388; replace q388 := eq_true q388; have p389 : 0 ≤ (t387 : Int) := DT; have q389 : t387 < (l0_2.length : Int) := DT; obtain ⟨ad389, e389, hx389_0, hx389_1, hx389_2, hx389_3⟩ := at_T67 HR0_2.out t387 p389 q389; obtain rfl : ad388 = ad389 := (by injection e389); replace hx389_0 := (HB.out.cell (World.block_lt_of_cell? w _ hx389_0)).trans hx389_0; replace hx389_1 := (HB.out.cell (World.block_lt_of_cell? w _ hx389_1)).trans hx389_1; replace hx389_2 := (HB.out.cell (World.block_lt_of_cell? w _ hx389_2)).trans hx389_2; replace hx389_3 := (HB.out.cell (World.block_lt_of_cell? w _ hx389_3)).trans hx389_3; replace p389 := eq_true p389; replace q389 := eq_true q389) | (go_at_call 49; (with_reducible refine (impl_SumText.calls k ((rd_T67 l0_2 t387).f2) t390 _ A13.out).mono ?_); rintro e w' ⟨rfl, ⟨nd, rfl⟩⟩; (try first | exact ⟨rfl, _, World.drewN_drewN _ _ _⟩ | exact ⟨rfl, _, Eq.trans (World.drewN_drewN _ _ _) (congrArg (World.drewN _) (Nat.add_assoc _ _ _))⟩)))
      repeat (go_quiet (first | ((with_reducible refine gate_dst (N := 3) rfl ?_); refine BX 3 #[.int .i64 a0_0, .bool true, .slice A0_2 l0_2.length c0_2] 43 ?_; intro gb386 hg w19 hbox hb; have BK386 := Aside0.mk (hbox); have GW386 : Aside0 (w.heap.size ≤ gb386) := WG hg (BB HB.out); have GE386 := GW386; replace HB := Aside0.mk (below_step (BB HB.out) hb); clear hb hbox hg; have hcz20 := blk_cell BK386.out; have hfz20 := blk_frozen BK386.out) | (go_at_call 48; (with_reducible refine (impl_unitAt.calls a0_0 true _ _ l0_2 a1 a2 t387 _ ?side1 ?side2 A4.out).mono ?_); (case side1 => exact CC (Kd.C_below HR0_2.out HB.out)); (case side2 => exact HC0_2.out); rintro e w21 ⟨rfl, hb⟩; replace BK386 := Aside0.mk (KB BK386.out hb); replace HB := Aside0.mk (below_step (BB1 HB.out GE386.out) hb); (try clear hb); (try clear hb2); (try clear hk); (try clear hi); have hcz22 := blk_cell BK386.out; have hfz22 := blk_frozen BK386.out; have p388 : 0 ≤ (t387 : Int) := DT; have q388 : t387 < (l0_2.length : Int) := DT; obtain ⟨ad388, e388, hx388_0, hx388_1, hx388_2, hx388_3⟩ := at_T67 HR0_2.out t387 p388 q388; cases e388; replace hx388_0 := (HB.out.cell (World.block_lt_of_cell? w _ hx388_0)).trans hx388_0; replace hx388_1 := (HB.out.cell (World.block_lt_of_cell? w _ hx388_1)).trans hx388_1; replace hx388_2 := (HB.out.cell (World.block_lt_of_cell? w _ hx388_2)).trans hx388_2; replace hx388_3 := (HB.out.cell (World.block_lt_of_cell? w _ hx388_3)).trans hx388_3; replace p388 := eq_true p388; replace q388 := eq_true q388; have p389 : 0 ≤ (t387 : Int) := DT; have q389 : t387 < (l0_2.length : Int) := DT; obtain ⟨ad389, e389, hx389_0, hx389_1, hx389_2, hx389_3⟩ := at_T67 HR0_2.out t387 p389 q389; obtain rfl : ad388 = ad389 := (by injection e389); replace hx389_0 := (HB.out.cell (World.block_lt_of_cell? w _ hx389_0)).trans hx389_0; replace hx389_1 := (HB.out.cell (World.block_lt_of_cell? w _ hx389_1)).trans hx389_1; replace hx389_2 := (HB.out.cell (World.block_lt_of_cell? w _ hx389_2)).trans hx389_2; replace hx389_3 := (HB.out.cell (World.block_lt_of_cell? w _ hx389_3)).trans hx389_3; replace p389 := eq_true p389; replace q389 := eq_true q389) | (go_at_call 49; (with_reducible refine (impl_SumText.calls k ((rd_T67 l0_2 t387).f2) t390 _ A13.out).mono ?_); rintro e w' ⟨rfl, ⟨nd, rfl⟩⟩; (try first | exact ⟨rfl, _, World.drewN_drewN _ _ _⟩ | exact ⟨rfl, _, Eq.trans (World.drewN_drewN _ _ _) (congrArg (World.drewN _) (Nat.add_assoc _ _ _))⟩))); try go_wp2_with (first | ((with_reducible refine gate_dst (N := 3) rfl ?_); refine BX 3 #[.int .i64 a0_0, .bool true, .slice A0_2 l0_2.length c0_2] 43 ?_; intro gb386 hg w19 hbox hb; have BK386 := Aside0.mk (hbox); have GW386 : Aside0 (w.heap.size ≤ gb386) := WG hg (BB HB.out); have GE386 := GW386; replace HB := Aside0.mk (below_step (BB HB.out) hb); clear hb hbox hg; have hcz20 := blk_cell BK386.out; have hfz20 := blk_frozen BK386.out) | (go_at_call 48; (with_reducible refine (impl_unitAt.calls a0_0 true _ _ l0_2 a1 a2 t387 _ ?side1 ?side2 A4.out).mono ?_); (case side1 => exact CC (Kd.C_below HR0_2.out HB.out)); (case side2 => exact HC0_2.out); rintro e w21 ⟨rfl, hb⟩; replace BK386 := Aside0.mk (KB BK386.out hb); replace HB := Aside0.mk (below_step (BB1 HB.out GE386.out) hb); (try clear hb); (try clear hb2); (try clear hk); (try clear hi); have hcz22 := blk_cell BK386.out; have hfz22 := blk_frozen BK386.out; have p388 : 0 ≤ (t387 : Int) := DT; have q388 : t387 < (l0_2.length : Int) := DT; obtain ⟨ad388, e388, hx388_0, hx388_1, hx388_2, hx388_3⟩ := at_T67 HR0_2.out t387 p388 q388; cases e388; replace hx388_0 := (HB.out.cell (World.block_lt_of_cell? w _ hx388_0)).trans hx388_0; replace hx388_1 := (HB.out.cell (World.block_lt_of_cell? w _ hx388_1)).trans hx388_1; replace hx388_2 := (HB.out.cell (World.block_lt_of_cell? w _ hx388_2)).trans hx388_2; replace hx388_3 := (HB.out.cell (World.block_lt_of_cell? w _ hx388_3)).trans hx388_3; replace p388 := eq_true p388; replace q388 := eq_true q388; have p389 : 0 ≤ (t387 : Int) := DT; have q389 : t387 < (l0_2.length : Int) := DT; obtain ⟨ad389, e389, hx389_0, hx389_1, hx389_2, hx389_3⟩ := at_T67 HR0_2.out t387 p389 q389; obtain rfl : ad388 = ad389 := (by injection e389); replace hx389_0 := (HB.out.cell (World.block_lt_of_cell? w _ hx389_0)).trans hx389_0; replace hx389_1 := (HB.out.cell (World.block_lt_of_cell? w _ hx389_1)).trans hx389_1; replace hx389_2 := (HB.out.cell (World.block_lt_of_cell? w _ hx389_2)).trans hx389_2; replace hx389_3 := (HB.out.cell (World.block_lt_of_cell? w _ hx389_3)).trans hx389_3; replace p389 := eq_true p389; replace q389 := eq_true q389) | (go_at_call 49; (with_reducible refine (impl_SumText.calls k ((rd_T67 l0_2 t387).f2) t390 _ A13.out).mono ?_); rintro e w' ⟨rfl, ⟨nd, rfl⟩⟩; (try first | exact ⟨rfl, _, World.drewN_drewN _ _ _⟩ | exact ⟨rfl, _, Eq.trans (World.drewN_drewN _ _ _) (congrArg (World.drewN _) (Nat.add_assoc _ _ _))⟩))))
      go_ret2
      exact ⟨ER, (BB1 HB.out GE386.out)⟩
    ·rw [if_neg c12] at H
     exact absurd H (by simp)
   ·rw [if_neg c11] at H
    exact absurd H (by simp)
 ·replace c5 := Bool.eq_false_iff.mpr c5
  subst c5
  have H1 : (some ((⟨#[]⟩ : ByteArray), false)) = some (r1, r2) := by rw [if_neg (show ¬ (false = true) by decide)] at H; exact H
  clear H
  have H := H1
  clear H1
  simp only [Option.some.injEq, Prod.mk.injEq] at H
  obtain ⟨rfl, rfl⟩ := H
  go_enter Try.func29, Try.ntmps29
  go_wp2_with (first | ((with_reducible refine gate_dst (N := 3) rfl ?_); refine BX 3 #[.int .i64 a0_0, .bool false, .slice A0_2 l0_2.length c0_2] 43 ?_; intro gb386 hg w23 hbox hb; have BK386 := Aside0.mk (hbox); have GW386 : Aside0 (w.heap.size ≤ gb386) := WG hg (BB HB.out); have GE386 := GW386; replace HB := Aside0.mk (below_step (BB HB.out) hb); clear hb hbox hg; have hcz24 := blk_cell BK386.out; have hfz24 := blk_frozen BK386.out) | (go_at_call 48; (with_reducible refine (impl_unitAt.calls a0_0 false _ _ l0_2 a1 a2 t387 _ ?side1 ?side2 A4.out).mono ?_); (case side1 => exact CC (Kd.C_below HR0_2.out HB.out)); (case side2 => exact HC0_2.out); rintro e w25 ⟨rfl, hb⟩; replace BK386 := Aside0.mk (KB BK386.out hb); replace HB := Aside0.mk (below_step (BB1 HB.out GE386.out) hb); (try clear hb); (try clear hb2); (try clear hk); (try clear hi); have hcz26 := blk_cell BK386.out; have hfz26 := blk_frozen BK386.out))
  repeat (go_quiet (first | ((with_reducible refine gate_dst (N := 3) rfl ?_); refine BX 3 #[.int .i64 a0_0, .bool false, .slice A0_2 l0_2.length c0_2] 43 ?_; intro gb386 hg w23 hbox hb; have BK386 := Aside0.mk (hbox); have GW386 : Aside0 (w.heap.size ≤ gb386) := WG hg (BB HB.out); have GE386 := GW386; replace HB := Aside0.mk (below_step (BB HB.out) hb); clear hb hbox hg; have hcz24 := blk_cell BK386.out; have hfz24 := blk_frozen BK386.out) | (go_at_call 48; (with_reducible refine (impl_unitAt.calls a0_0 false _ _ l0_2 a1 a2 t387 _ ?side1 ?side2 A4.out).mono ?_); (case side1 => exact CC (Kd.C_below HR0_2.out HB.out)); (case side2 => exact HC0_2.out); rintro e w25 ⟨rfl, hb⟩; replace BK386 := Aside0.mk (KB BK386.out hb); replace HB := Aside0.mk (below_step (BB1 HB.out GE386.out) hb); (try clear hb); (try clear hb2); (try clear hk); (try clear hi); have hcz26 := blk_cell BK386.out; have hfz26 := blk_frozen BK386.out)); try go_wp2_with (first | ((with_reducible refine gate_dst (N := 3) rfl ?_); refine BX 3 #[.int .i64 a0_0, .bool false, .slice A0_2 l0_2.length c0_2] 43 ?_; intro gb386 hg w23 hbox hb; have BK386 := Aside0.mk (hbox); have GW386 : Aside0 (w.heap.size ≤ gb386) := WG hg (BB HB.out); have GE386 := GW386; replace HB := Aside0.mk (below_step (BB HB.out) hb); clear hb hbox hg; have hcz24 := blk_cell BK386.out; have hfz24 := blk_frozen BK386.out) | (go_at_call 48; (with_reducible refine (impl_unitAt.calls a0_0 false _ _ l0_2 a1 a2 t387 _ ?side1 ?side2 A4.out).mono ?_); (case side1 => exact CC (Kd.C_below HR0_2.out HB.out)); (case side2 => exact HC0_2.out); rintro e w25 ⟨rfl, hb⟩; replace BK386 := Aside0.mk (KB BK386.out hb); replace HB := Aside0.mk (below_step (BB1 HB.out GE386.out) hb); (try clear hb); (try clear hb2); (try clear hk); (try clear hi); have hcz26 := blk_cell BK386.out; have hfz26 := blk_frozen BK386.out)))
  go_ret2
  exact ⟨ER, (BB1 HB.out GE386.out)⟩

end Go.Proofs.Ytahimindlnkmoaa.Pr

namespace Go.Proofs.Ytahimindlnkmoaa.Pr
open Go.RowKit Go.Proofs.YtahimindlnkmoaaW.PrintWords Go.Proofs.YtahimindlnkmoaaW.PrintLast Go.Proofs.YtahimindlnkmoaaW.PrintMore
attribute [local go_sem] max2_int min2_int max_two min_two max_three min_three max_four min_four
set_option linter.unusedVariables false
set_option linter.unusedSimpArgs false
mutual
def impl_UnitsOf.l0 : Nat → List (S43) → Int → Int → Int → List ByteArray → List Bool → Int → Option (List ByteArray × List Bool)
 | 0, _, _, _, _, _, _, _ => none
 | k + 1, x0, x2, x8, x9, x11, x12, x13 => if x13 < (wrap64 (x8 + x9)) then (impl_UnitsOf.l1 k x0 x2 x8 x9 x11 x12 x13 (⟨#[]⟩ : ByteArray) false x0 (x0.length : Int) 0) else (some (x11, x12))
def impl_UnitsOf.l1 : Nat → List (S43) → Int → Int → Int → List ByteArray → List Bool → Int → ByteArray → Bool → List (S43) → Int → Int → Option (List ByteArray × List Bool)
 | 0, _, _, _, _, _, _, _, _, _, _, _, _ => none
 | k + 1, x0, x2, x8, x9, x11, x12, x13, x14, x15, x31, x32, x33 => if x33 < x32 then (if 0 ≤ x33 then (if x33 < (x31.length : Int) then ((impl_GetUnit.f k ((rd_T43 x31 x33).f0) ((rd_T43 x31 x33).f1) ((rd_T43 x31 x33).f2) x2 x13).bind fun bt397 => (if bt397.2 = true then (if x11.length < 8796093022208 then (if x12.length < 140737488355328 then (impl_UnitsOf.l0 k x0 x2 x8 x9 (x11 ++ [bt397.1]) (x12 ++ [bt397.2]) (wrap64 (x13 + 1))) else (none)) else (none)) else (impl_UnitsOf.l1 k x0 x2 x8 x9 x11 x12 x13 bt397.1 bt397.2 x31 x32 (wrap64 (x33 + 1))))) else (none)) else (none)) else (if x11.length < 8796093022208 then (if x12.length < 140737488355328 then (impl_UnitsOf.l0 k x0 x2 x8 x9 (x11 ++ [x14]) (x12 ++ [x15]) (wrap64 (x13 + 1))) else (none)) else (none))
end
def impl_UnitsOf.f (k : Nat) (l0 : List (S43)) (a1 : Int) (a2 : Int) : Option (List ByteArray × List Bool) := (impl_SchemaOf.f a1).bind fun bt392 => (impl_UnitsOf.l0 k l0 a2 bt392.1 bt392.2.1 ([] : List ByteArray) ([] : List Bool) 0)
set_option maxHeartbeats 8000000 in
set_option maxRecDepth 100000 in
theorem impl_UnitsOf.calls (k : Nat) (A0 : Option Addr) (c0 : Nat) (l0 : List (S43)) (a1 : Int) (a2 : Int) (r1 : List ByteArray) (r2 : List Bool) (w : World) (hr0 : Kd.C k43 w A0 l0.length l0) (hc0 : l0.length ≤ c0) (h : impl_UnitsOf.f k l0 a1 a2 = some (r1, r2)) :
  Calls Try.prog 14 #[.slice A0 l0.length c0, .int .i64 a1, .int .i64 a2] w fun e w' => ∃ v0_ v1_ : Value, e = .returned (.tuple #[v0_, v1_]) ∧ Kd.R Kd.string 9 w' w.heap.size (fun _ => True) v0_ r1 ∧ Kd.R Kd.bool 4 w' w.heap.size (fun _ => True) v1_ r2 ∧ Below w.heap.size w w' := by
 have hu43 := Try.underlying43
 have HR0 := Aside0.mk hr0
 have HC0 := Aside0.mk hc0
 clear hr0 hc0
 have HB := Aside0.mk (Below.refl w.heap.size w)
 have H : ((impl_SchemaOf.f a1).bind fun bt392 => (impl_UnitsOf.l0 k l0 a2 bt392.1 bt392.2.1 ([] : List ByteArray) ([] : List Bool) 0)) = some (r1, r2) := h
 clear h
 replace H := Option.bind_eq_some_iff.mp H
 obtain ⟨⟨t392, t393, t394⟩, A40, H⟩ := H
 replace H : (impl_UnitsOf.l0 k l0 a2 t392 t393 ([] : List ByteArray) ([] : List Bool) 0) = some (r1, r2) := H
 have A4 := Aside0.mk A40
 clear A40
 have H' := Aside0.mk H
 clear H
 go_enter Try.func14, Try.ntmps14
 go_wp2_with (first | ((with_reducible refine gate_callee (f := 28) rfl ?_); refine GL (some 20) rfl rfl Try.func28 #[.int .i64 a1] rfl ?_; (with_reducible refine (impl_SchemaOf.calls a1 t392 t393 t394 _ A4.out).mono ?_); rintro e w' ⟨rfl, ⟨nd, rfl⟩⟩; refine ⟨_, rfl, ?_⟩))
 go_loopg [11, 12, 13] k (fun kq v11 v12 v13 w' => ∃ (x11_1 : List ByteArray) (x12_1 : List Bool) (x13_1 : Int), v13 = .int .i64 x13_1 ∧ Aside0 (impl_UnitsOf.l0 kq l0 a2 t392 t393 x11_1 x12_1 x13_1 = some (r1, r2)) ∧ Aside0 (kq ≤ k) ∧ Aside0 (Kd.R Kd.string 9 w' w.heap.size (fun _ => True) v11 x11_1) ∧ Aside0 (Kd.R Kd.bool 4 w' w.heap.size (fun _ => True) v12 x12_1) ∧ Aside0 (Below w.heap.size w w'))
 case atStart => exact ⟨(([] : List ByteArray)), (([] : List Bool)), (0), FR, H', ⟨Nat.le_refl _⟩, ⟨by first | exact Kd.R_nil _ _ _ _ _ | exact Kd.N_nil _ _ _ _ _ | exact Kd.V_nil _ _ _ _ _ | exact Kd.Q_nil _ _ _ _ _ | exact Kd.S_nil _ _ _ _ _⟩, ⟨by first | exact Kd.R_nil _ _ _ _ _ | exact Kd.N_nil _ _ _ _ _ | exact Kd.V_nil _ _ _ _ _ | exact Kd.Q_nil _ _ _ _ _ | exact Kd.S_nil _ _ _ _ _⟩, ⟨(BB HB.out)⟩⟩
 case round =>
  clear H'
  try clear c1
  try clear c2
  try clear p2
  obtain ⟨x11_1, x12_1, x13_1, rfl, HA, HK1, HO_11, HO_12, HB⟩ := hrel
  cases gk with
  | zero => exact absurd HA.out (by simp [impl_UnitsOf.l0])
  | succ k1 =>
   have H := HA.out
   clear HA
   simp only [impl_UnitsOf.l0] at H
   by_cases c5 : x13_1 < (wrap64 (t392 + t393))
   ·rw [if_pos c5] at H
    have c5b0 : decide (x13_1 < (wrap64 (t392 + t393))) = true := decide_eq_true c5
    clear c5
    have H' := Aside0.mk H
    clear H
    go_wp2
    go_loopg [14, 15, 33] k1 (fun kq v14 v15 v33 w' => ∃ (x14_2 : ByteArray) (x15_2 : Bool) (x33_2 : Int), v14 = .string x14_2 ∧ v15 = .bool x15_2 ∧ v33 = .int .i64 x33_2 ∧ Aside0 (impl_UnitsOf.l1 kq l0 a2 t392 t393 x11_1 x12_1 x13_1 x14_2 x15_2 l0 (l0.length : Int) x33_2 = some (r1, r2)) ∧ Aside0 (kq ≤ k1) ∧ Aside0 (Kd.R Kd.string 9 w' w.heap.size (fun _ => True) u11 x11_1) ∧ Aside0 (Kd.R Kd.bool 4 w' w.heap.size (fun _ => True) u12 x12_1) ∧ Aside0 (Below w.heap.size w w'))
    case atStart => exact ⟨((⟨#[]⟩ : ByteArray)), (false), (0), FR, FR, FR, H', ⟨Nat.le_refl _⟩, ⟨(RR HO_11.out)⟩, ⟨(RR HO_12.out)⟩, ⟨(BB HB.out)⟩⟩
    case round =>
     clear H'
     try clear c1
     try clear c2
     try clear p2
     try clear c5
     try clear c5b0
     try clear p2
     obtain ⟨x14_2, x15_2, x33_2, rfl, rfl, rfl, HA, HK2, HO_11, HO_12, HB⟩ := hrel
     cases gk with
     | zero => exact absurd HA.out (by simp [impl_UnitsOf.l1])
     | succ k2 =>
      have H := HA.out
      clear HA
      simp only [impl_UnitsOf.l1] at H
      by_cases c6 : x33_2 < (l0.length : Int)
      ·rw [if_pos c6] at H
       have c6b0 : decide (x33_2 < (l0.length : Int)) = true := decide_eq_true c6
       clear c6
       by_cases c7 : 0 ≤ x33_2
       ·rw [if_pos c7] at H
        have c7b0 : decide (0 ≤ x33_2) = true := decide_eq_true c7
        clear c7
        by_cases c8 : x33_2 < (l0.length : Int)
        ·rw [if_pos c8] at H
         have c8b0 : decide (x33_2 < (l0.length : Int)) = true := decide_eq_true c8
         clear c8
         replace H := Option.bind_eq_some_iff.mp H
         obtain ⟨⟨t397, t398⟩, A90, H⟩ := H
         replace H : (if t398 = true then (if x11_1.length < 8796093022208 then (if x12_1.length < 140737488355328 then (impl_UnitsOf.l0 k2 l0 a2 t392 t393 (x11_1 ++ [t397]) (x12_1 ++ [t398]) (wrap64 (x13_1 + 1))) else (none)) else (none)) else (impl_UnitsOf.l1 k2 l0 a2 t392 t393 x11_1 x12_1 x13_1 t397 t398 l0 (l0.length : Int) (wrap64 (x33_2 + 1)))) = some (r1, r2) := H
         have A9 := Aside0.mk A90
         clear A90
         by_cases c10 : t398 = true
         ·subst c10
          have H1 : (if x11_1.length < 8796093022208 then (if x12_1.length < 140737488355328 then (impl_UnitsOf.l0 k2 l0 a2 t392 t393 (x11_1 ++ [t397]) (x12_1 ++ [true]) (wrap64 (x13_1 + 1))) else (none)) else (none)) = some (r1, r2) := by rw [if_pos rfl] at H; exact H
          clear H
          have H := H1
          clear H1
          by_cases c11 : x11_1.length < 8796093022208
          ·rw [if_pos c11] at H
           have LMc11 := Aside0.mk c11
           clear c11
           obtain ⟨y399, hy399⟩ : ∃ y_ : List ByteArray, y_ = (x11_1 ++ [t397]) := ⟨_, rfl⟩
           replace H : (if x12_1.length < 140737488355328 then (impl_UnitsOf.l0 k2 l0 a2 t392 t393 y399 (x12_1 ++ [true]) (wrap64 (x13_1 + 1))) else (none)) = some (r1, r2) := by first | (rw [hy399]; with_reducible exact H) | (have H2_ := (Option.bind_some _ _).symm.trans H; rw [hy399]; with_reducible exact H2_) | (have H2_ := (Option.bind_some _ _).symm.trans H; with_reducible exact H2_) | with_reducible exact H | (rw [hy399]; exact H) | exact H
           have Ny399 := Aside0.mk hy399
           clear hy399
           by_cases c12 : x12_1.length < 140737488355328
           ·rw [if_pos c12] at H
            have LMc12 := Aside0.mk c12
            clear c12
            obtain ⟨y402, hy402⟩ : ∃ y_ : List Bool, y_ = (x12_1 ++ [true]) := ⟨_, rfl⟩
            replace H : (impl_UnitsOf.l0 k2 l0 a2 t392 t393 y399 y402 (wrap64 (x13_1 + 1))) = some (r1, r2) := by first | (rw [hy402]; with_reducible exact H) | (have H2_ := (Option.bind_some _ _).symm.trans H; rw [hy402]; with_reducible exact H2_) | (have H2_ := (Option.bind_some _ _).symm.trans H; with_reducible exact H2_) | with_reducible exact H | (rw [hy402]; exact H) | exact H
            have Ny402 := Aside0.mk hy402
            clear hy402
            have H' := Aside0.mk H
            clear H
            have p395 : 0 ≤ (x33_2 : Int) := DT
            have q395 : x33_2 < (l0.length : Int) := DT
            obtain ⟨ad395, A395_2, c395_2, e395, hx395_0, hx395_1, hx395_2, hl395_2, hi395_2⟩ := at_T43 HR0.out x33_2 p395 q395
            cases e395
            replace hx395_0 := (HB.out.cell (World.block_lt_of_cell? w _ hx395_0)).trans hx395_0
            replace hx395_1 := (HB.out.cell (World.block_lt_of_cell? w _ hx395_1)).trans hx395_1
            replace hx395_2 := (HB.out.cell (World.block_lt_of_cell? w _ hx395_2)).trans hx395_2
            have HR395_2 := Aside0.mk hi395_2
            have HC395_2 := Aside0.mk hl395_2
            clear hi395_2 hl395_2
            replace p395 := eq_true p395
            replace q395 := eq_true q395
            go_wp2_with (first | ((with_reducible refine gate_dst (N := 17) rfl ?_); refine BX 17 #[.int .i64 0, .bool false, .slice none 0 0] 43 ?_; intro gb396 hg w13 hbox hb; have BK396 := Aside0.mk (hbox); have GW396 : Aside0 (w.heap.size ≤ gb396) := WG hg (BB HB.out); have GE396 := GW396; replace HO_11 := Aside0.mk (Kd.R_below (RR HO_11.out) hb); replace HO_12 := Aside0.mk (Kd.R_below (RR HO_12.out) hb); replace HB := Aside0.mk (below_step (BB HB.out) hb); clear hb hbox hg; have hcz14 := blk_cell BK396.out; have hfz14 := blk_frozen BK396.out) | ((with_reducible refine gate_callee (f := 29) rfl ?_); refine GL (some 41) rfl rfl Try.func29 #[.agg #[.int .i64 ((rd_T43 l0 x33_2).f0), .bool ((rd_T43 l0 x33_2).f1), .slice A395_2 ((rd_T43 l0 x33_2).f2).length c395_2], .int .i64 a2, .int .i64 x13_1] rfl ?_; (with_reducible refine (impl_GetUnit.calls k2 ((rd_T43 l0 x33_2).f0) ((rd_T43 l0 x33_2).f1) _ _ ((rd_T43 l0 x33_2).f2) a2 x13_1 t397 true _ ?side1 ?side2 A9.out).mono ?_); (case side1 => exact Kd.C_below HR395_2.out (BB1 HB.out GE396.out)); (case side2 => exact HC395_2.out); rintro e w15 ⟨rfl, hb⟩; refine ⟨_, rfl, ?_⟩; have n0_ := Aside0.mk (Kd.R_below (by (with_reducible repeat (first | apply Kd.R_alloc | apply Kd.R_drewN | apply Kd.R_drew)); exact (Kd.R_mono (Kd.R_far (p := ⟨gb396, 2, none⟩) (Kd.R_far (p := ⟨gb396, 1, none⟩) (Kd.R_far (p := ⟨gb396, 0, none⟩) (Kd.R_types HO_11.out BK396.out (by decide)) (fun _ hk => hk.2) (.int .i64 ((rd_T43 l0 x33_2).f0))) (fun _ hk => hk.2) (.bool ((rd_T43 l0 x33_2).f1))) (fun _ hk => hk.2) (.slice A395_2 ((rd_T43 l0 x33_2).f2).length c395_2)) (fun _ h_ => h_.1))) hb); have n1_ := Aside0.mk (Kd.R_below (by (with_reducible repeat (first | apply Kd.R_alloc | apply Kd.R_drewN | apply Kd.R_drew)); exact (Kd.R_mono (Kd.R_far (p := ⟨gb396, 2, none⟩) (Kd.R_far (p := ⟨gb396, 1, none⟩) (Kd.R_far (p := ⟨gb396, 0, none⟩) (Kd.R_types HO_12.out BK396.out (by decide)) (fun _ hk => hk.2) (.int .i64 ((rd_T43 l0 x33_2).f0))) (fun _ hk => hk.2) (.bool ((rd_T43 l0 x33_2).f1))) (fun _ hk => hk.2) (.slice A395_2 ((rd_T43 l0 x33_2).f2).length c395_2)) (fun _ h_ => h_.1))) hb); have n2_ := Aside0.mk (blk_below (g := gb396) (o := .cells #[.int .i64 ((rd_T43 l0 x33_2).f0), .bool ((rd_T43 l0 x33_2).f1), .slice A395_2 ((rd_T43 l0 x33_2).f2).length c395_2] 43 (0, 0)) (by (with_reducible repeat (first | refine blk_drewN ?_ _ | refine blk_drew ?_ | refine blk_alloc ?_ _)); refine blk_put (cs := #[.int .i64 ((rd_T43 l0 x33_2).f0), .bool ((rd_T43 l0 x33_2).f1), .slice none 0 0]) ?_ 2 _ rfl; (with_reducible repeat (first | refine blk_drewN ?_ _ | refine blk_drew ?_ | refine blk_alloc ?_ _)); refine blk_put (cs := #[.int .i64 ((rd_T43 l0 x33_2).f0), .bool false, .slice none 0 0]) ?_ 1 _ rfl; (with_reducible repeat (first | refine blk_drewN ?_ _ | refine blk_drew ?_ | refine blk_alloc ?_ _)); refine blk_put (cs := #[.int .i64 0, .bool false, .slice none 0 0]) ?_ 0 _ rfl; (with_reducible repeat (first | refine blk_drewN ?_ _ | refine blk_drew ?_ | refine blk_alloc ?_ _)); exact BK396.out) hb); have n3_ := Aside0.mk (below_step (BB1 HB.out GE396.out) hb); clear HO_11; clear HO_12; clear BK396; clear HB; have HO_11 := n0_; have HO_12 := n1_; have BK396 := n2_; have HB := n3_; clear n0_ n1_ n2_ n3_; (try clear hb)) | ((with_reducible refine gate_builtin (b := .append) (xs := #[.tmp 46, .tmp 48]) rfl ?_); at_builtin; refine Kd.R_append Kd.string (w0 := w) w.heap.size rfl (.tmp 46) (.tmp 48) 34 9 (.string ⟨#[]⟩) 16 rfl Try.underlying34 info9 rfl (by decide) (by omega) u11 x11_1 t397 [.string t397] (fun _ => True) (fun _ => False) rfl rfl ?aP (fun _ hk => hk.elim) ?aF ?aO ?aB ?aS ?aL ?_; (case aP => exact rfl); (case aB => exact (BB1 HB.out GE396.out)); (case aF => exact (fun _ _ => trivial)); (case aO => exact (RR HO_11.out)); (case aS => exact (below_size (BB1 HB.out GE396.out))); (case aL => have := LMc11.out; omega); intro v400 w16 ho hb hg hat; rw [← Ny399.out] at ho; have n0_ := Aside0.mk (Kd.R_over' (RR HO_12.out) (Kd.R_typed (RR HO_11.out)) (by decide) hg); have n1_ := Aside0.mk (blk_grown (g := gb396) (o := .cells #[.int .i64 ((rd_T43 l0 x33_2).f0), .bool ((rd_T43 l0 x33_2).f1), .slice A395_2 ((rd_T43 l0 x33_2).f2).length c395_2] 43 (0, 0)) (by (with_reducible repeat (first | refine blk_drewN ?_ _ | refine blk_drew ?_ | refine blk_alloc ?_ _)); exact BK396.out) hg (Kd.R_ne HO_11.out BK396.out (by decide))); have n2_ := Aside0.mk (hb); have n3_ := Aside0.mk (ho); clear HO_12; clear BK396; clear HB; clear HO_11; have HO_12 := n0_; have BK396 := n1_; have HB := n2_; have HO401 := n3_; clear n0_ n1_ n2_ n3_; clear ho hb hg hat) | ((with_reducible refine gate_builtin (b := .append) (xs := #[.tmp 50, .tmp 52]) rfl ?_); at_builtin; refine Kd.R_append Kd.bool (w0 := w) w.heap.size rfl (.tmp 50) (.tmp 52) 35 4 (.bool false) 1 rfl Try.underlying35 info4 rfl (by decide) (by omega) u12 x12_1 true [.bool true] (fun _ => True) (fun _ => False) rfl rfl ?aP (fun _ hk => hk.elim) ?aF ?aO ?aB ?aS ?aL ?_; (case aP => exact rfl); (case aB => exact (BB1 HB.out GE396.out)); (case aF => exact (fun _ _ => trivial)); (case aO => exact (RR HO_12.out)); (case aS => exact (below_size (BB1 HB.out GE396.out))); (case aL => have := LMc12.out; omega); intro v403 w17 ho hb hg hat; rw [← Ny402.out] at ho; have n0_ := Aside0.mk (blk_grown (g := gb396) (o := .cells #[.int .i64 ((rd_T43 l0 x33_2).f0), .bool ((rd_T43 l0 x33_2).f1), .slice A395_2 ((rd_T43 l0 x33_2).f2).length c395_2] 43 (0, 0)) (by (with_reducible repeat (first | refine blk_drewN ?_ _ | refine blk_drew ?_ | refine blk_alloc ?_ _)); exact BK396.out) hg (Kd.R_ne HO_12.out BK396.out (by decide))); have n1_ := Aside0.mk (Kd.R_over' (RR HO401.out) (Kd.R_typed (RR HO_12.out)) (by decide) hg); have n2_ := Aside0.mk (hb); have n3_ := Aside0.mk (ho); clear BK396; clear HO401; clear HB; clear HO_12; have BK396 := n0_; have HO401 := n1_; have HB := n2_; have HO404 := n3_; clear n0_ n1_ n2_ n3_; clear ho hb hg hat))
            go_roundg k2
            case measure => have := HK1.out; have := HK2.out; omega
            case rel => exact ⟨(y399), (y402), (wrap64 (x13_1 + 1)), FR, H', ⟨by have := HK1.out; have := HK2.out; omega⟩, ⟨(RR HO401.out)⟩, ⟨(RR HO404.out)⟩, ⟨(BB1 HB.out GE396.out)⟩⟩
           ·rw [if_neg c12] at H
            exact absurd H (by simp)
          ·rw [if_neg c11] at H
           exact absurd H (by simp)
         ·replace c10 := Bool.eq_false_iff.mpr c10
          subst c10
          have H1 : (impl_UnitsOf.l1 k2 l0 a2 t392 t393 x11_1 x12_1 x13_1 t397 false l0 (l0.length : Int) (wrap64 (x33_2 + 1))) = some (r1, r2) := by rw [if_neg (show ¬ (false = true) by decide)] at H; exact H
          clear H
          have H := H1
          clear H1
          have H' := Aside0.mk H
          clear H
          have p395 : 0 ≤ (x33_2 : Int) := DT
          have q395 : x33_2 < (l0.length : Int) := DT
          obtain ⟨ad395, A395_2, c395_2, e395, hx395_0, hx395_1, hx395_2, hl395_2, hi395_2⟩ := at_T43 HR0.out x33_2 p395 q395
          cases e395
          replace hx395_0 := (HB.out.cell (World.block_lt_of_cell? w _ hx395_0)).trans hx395_0
          replace hx395_1 := (HB.out.cell (World.block_lt_of_cell? w _ hx395_1)).trans hx395_1
          replace hx395_2 := (HB.out.cell (World.block_lt_of_cell? w _ hx395_2)).trans hx395_2
          have HR395_2 := Aside0.mk hi395_2
          have HC395_2 := Aside0.mk hl395_2
          clear hi395_2 hl395_2
          replace p395 := eq_true p395
          replace q395 := eq_true q395
          go_wp2_with (first | ((with_reducible refine gate_dst (N := 17) rfl ?_); refine BX 17 #[.int .i64 0, .bool false, .slice none 0 0] 43 ?_; intro gb396 hg w18 hbox hb; have BK396 := Aside0.mk (hbox); have GW396 : Aside0 (w.heap.size ≤ gb396) := WG hg (BB HB.out); have GE396 := GW396; replace HO_11 := Aside0.mk (Kd.R_below (RR HO_11.out) hb); replace HO_12 := Aside0.mk (Kd.R_below (RR HO_12.out) hb); replace HB := Aside0.mk (below_step (BB HB.out) hb); clear hb hbox hg; have hcz19 := blk_cell BK396.out; have hfz19 := blk_frozen BK396.out) | ((with_reducible refine gate_callee (f := 29) rfl ?_); refine GL (some 41) rfl rfl Try.func29 #[.agg #[.int .i64 ((rd_T43 l0 x33_2).f0), .bool ((rd_T43 l0 x33_2).f1), .slice A395_2 ((rd_T43 l0 x33_2).f2).length c395_2], .int .i64 a2, .int .i64 x13_1] rfl ?_; (with_reducible refine (impl_GetUnit.calls k2 ((rd_T43 l0 x33_2).f0) ((rd_T43 l0 x33_2).f1) _ _ ((rd_T43 l0 x33_2).f2) a2 x13_1 t397 false _ ?side1 ?side2 A9.out).mono ?_); (case side1 => exact Kd.C_below HR395_2.out (BB1 HB.out GE396.out)); (case side2 => exact HC395_2.out); rintro e w20 ⟨rfl, hb⟩; refine ⟨_, rfl, ?_⟩; have n0_ := Aside0.mk (Kd.R_below (by (with_reducible repeat (first | apply Kd.R_alloc | apply Kd.R_drewN | apply Kd.R_drew)); exact (Kd.R_mono (Kd.R_far (p := ⟨gb396, 2, none⟩) (Kd.R_far (p := ⟨gb396, 1, none⟩) (Kd.R_far (p := ⟨gb396, 0, none⟩) (Kd.R_types HO_11.out BK396.out (by decide)) (fun _ hk => hk.2) (.int .i64 ((rd_T43 l0 x33_2).f0))) (fun _ hk => hk.2) (.bool ((rd_T43 l0 x33_2).f1))) (fun _ hk => hk.2) (.slice A395_2 ((rd_T43 l0 x33_2).f2).length c395_2)) (fun _ h_ => h_.1))) hb); have n1_ := Aside0.mk (Kd.R_below (by (with_reducible repeat (first | apply Kd.R_alloc | apply Kd.R_drewN | apply Kd.R_drew)); exact (Kd.R_mono (Kd.R_far (p := ⟨gb396, 2, none⟩) (Kd.R_far (p := ⟨gb396, 1, none⟩) (Kd.R_far (p := ⟨gb396, 0, none⟩) (Kd.R_types HO_12.out BK396.out (by decide)) (fun _ hk => hk.2) (.int .i64 ((rd_T43 l0 x33_2).f0))) (fun _ hk => hk.2) (.bool ((rd_T43 l0 x33_2).f1))) (fun _ hk => hk.2) (.slice A395_2 ((rd_T43 l0 x33_2).f2).length c395_2)) (fun _ h_ => h_.1))) hb); have n2_ := Aside0.mk (blk_below (g := gb396) (o := .cells #[.int .i64 ((rd_T43 l0 x33_2).f0), .bool ((rd_T43 l0 x33_2).f1), .slice A395_2 ((rd_T43 l0 x33_2).f2).length c395_2] 43 (0, 0)) (by (with_reducible repeat (first | refine blk_drewN ?_ _ | refine blk_drew ?_ | refine blk_alloc ?_ _)); refine blk_put (cs := #[.int .i64 ((rd_T43 l0 x33_2).f0), .bool ((rd_T43 l0 x33_2).f1), .slice none 0 0]) ?_ 2 _ rfl; (with_reducible repeat (first | refine blk_drewN ?_ _ | refine blk_drew ?_ | refine blk_alloc ?_ _)); refine blk_put (cs := #[.int .i64 ((rd_T43 l0 x33_2).f0), .bool false, .slice none 0 0]) ?_ 1 _ rfl; (with_reducible repeat (first | refine blk_drewN ?_ _ | refine blk_drew ?_ | refine blk_alloc ?_ _)); refine blk_put (cs := #[.int .i64 0, .bool false, .slice none 0 0]) ?_ 0 _ rfl; (with_reducible repeat (first | refine blk_drewN ?_ _ | refine blk_drew ?_ | refine blk_alloc ?_ _)); exact BK396.out) hb); have n3_ := Aside0.mk (below_step (BB1 HB.out GE396.out) hb); clear HO_11; clear HO_12; clear BK396; clear HB; have HO_11 := n0_; have HO_12 := n1_; have BK396 := n2_; have HB := n3_; clear n0_ n1_ n2_ n3_; (try clear hb)))
          go_roundg k2
          case measure => have := HK1.out; have := HK2.out; omega
          case rel => exact ⟨(t397), (false), (wrap64 (x33_2 + 1)), FR, FR, FR, H', ⟨by have := HK1.out; have := HK2.out; omega⟩, ⟨(RR HO_11.out)⟩, ⟨(RR HO_12.out)⟩, ⟨(BB1 HB.out GE396.out)⟩⟩
        ·rw [if_neg c8] at H
         exact absurd H (by simp)
       ·rw [if_neg c7] at H
        exact absurd H (by simp)
      ·rw [if_neg c6] at H
       have c6b0 : decide (x33_2 < (l0.length : Int)) = false := decide_eq_false c6
       clear c6
       by_cases c21 : x11_1.length < 8796093022208
       ·rw [if_pos c21] at H
        have LMc21 := Aside0.mk c21
        clear c21
        obtain ⟨y405, hy405⟩ : ∃ y_ : List ByteArray, y_ = (x11_1 ++ [x14_2]) := ⟨_, rfl⟩
        replace H : (if x12_1.length < 140737488355328 then (impl_UnitsOf.l0 k2 l0 a2 t392 t393 y405 (x12_1 ++ [x15_2]) (wrap64 (x13_1 + 1))) else (none)) = some (r1, r2) := by first | (rw [hy405]; with_reducible exact H) | (have H2_ := (Option.bind_some _ _).symm.trans H; rw [hy405]; with_reducible exact H2_) | (have H2_ := (Option.bind_some _ _).symm.trans H; with_reducible exact H2_) | with_reducible exact H | (rw [hy405]; exact H) | exact H
        have Ny405 := Aside0.mk hy405
        clear hy405
        by_cases c22 : x12_1.length < 140737488355328
        ·rw [if_pos c22] at H
         have LMc22 := Aside0.mk c22
         clear c22
         obtain ⟨y408, hy408⟩ : ∃ y_ : List Bool, y_ = (x12_1 ++ [x15_2]) := ⟨_, rfl⟩
         replace H : (impl_UnitsOf.l0 k2 l0 a2 t392 t393 y405 y408 (wrap64 (x13_1 + 1))) = some (r1, r2) := by first | (rw [hy408]; with_reducible exact H) | (have H2_ := (Option.bind_some _ _).symm.trans H; rw [hy408]; with_reducible exact H2_) | (have H2_ := (Option.bind_some _ _).symm.trans H; with_reducible exact H2_) | with_reducible exact H | (rw [hy408]; exact H) | exact H
         have Ny408 := Aside0.mk hy408
         clear hy408
         have H' := Aside0.mk H
         clear H
         go_wp2_with (first | ((with_reducible refine gate_builtin (b := .append) (xs := #[.tmp 46, .tmp 48]) rfl ?_); at_builtin; refine Kd.R_append Kd.string (w0 := w) w.heap.size rfl (.tmp 46) (.tmp 48) 34 9 (.string ⟨#[]⟩) 16 rfl Try.underlying34 info9 rfl (by decide) (by omega) u11 x11_1 x14_2 [.string x14_2] (fun _ => True) (fun _ => False) rfl rfl ?aP (fun _ hk => hk.elim) ?aF ?aO ?aB ?aS ?aL ?_; (case aP => exact rfl); (case aB => exact (BB HB.out)); (case aF => exact (fun _ _ => trivial)); (case aO => exact (RR HO_11.out)); (case aS => exact (below_size (BB HB.out))); (case aL => have := LMc21.out; omega); intro v406 w23 ho hb hg hat; rw [← Ny405.out] at ho; have HO407 := Aside0.mk (ho); replace HO_12 := Aside0.mk (Kd.R_over' (RR HO_12.out) (Kd.R_typed (RR HO_11.out)) (by decide) hg); replace HB := Aside0.mk (hb); clear HO_11; clear ho hb hg hat) | ((with_reducible refine gate_builtin (b := .append) (xs := #[.tmp 50, .tmp 52]) rfl ?_); at_builtin; refine Kd.R_append Kd.bool (w0 := w) w.heap.size rfl (.tmp 50) (.tmp 52) 35 4 (.bool false) 1 rfl Try.underlying35 info4 rfl (by decide) (by omega) u12 x12_1 x15_2 [.bool x15_2] (fun _ => True) (fun _ => False) rfl rfl ?aP (fun _ hk => hk.elim) ?aF ?aO ?aB ?aS ?aL ?_; (case aP => exact rfl); (case aB => exact (BB HB.out)); (case aF => exact (fun _ _ => trivial)); (case aO => exact (RR HO_12.out)); (case aS => exact (below_size (BB HB.out))); (case aL => have := LMc22.out; omega); intro v409 w24 ho hb hg hat; rw [← Ny408.out] at ho; have HO410 := Aside0.mk (ho); replace HO407 := Aside0.mk (Kd.R_over' (RR HO407.out) (Kd.R_typed (RR HO_12.out)) (by decide) hg); replace HB := Aside0.mk (hb); clear HO_12; clear ho hb hg hat))
         go_roundg k2
         case measure => have := HK1.out; have := HK2.out; omega
         case rel => exact ⟨(y405), (y408), (wrap64 (x13_1 + 1)), FR, H', ⟨by have := HK1.out; have := HK2.out; omega⟩, ⟨(RR HO407.out)⟩, ⟨(RR HO410.out)⟩, ⟨(BB HB.out)⟩⟩
        ·rw [if_neg c22] at H
         exact absurd H (by simp)
       ·rw [if_neg c21] at H
        exact absurd H (by simp)
   ·rw [if_neg c5] at H
    have c5b0 : decide (x13_1 < (wrap64 (t392 + t393))) = false := decide_eq_false c5
    clear c5
    simp only [Option.some.injEq, Prod.mk.injEq] at H
    obtain ⟨rfl, rfl⟩ := H
    go_wp2
    go_ret2
    exact ⟨_, _, ER, by (with_reducible repeat (first | apply Kd.R_alloc | apply Kd.R_drewN | apply Kd.R_drew)); exact HO_11.out, by (with_reducible repeat (first | apply Kd.R_alloc | apply Kd.R_drewN | apply Kd.R_drew)); exact HO_12.out, (BB HB.out)⟩

end Go.Proofs.Ytahimindlnkmoaa.Pr

namespace Go.Proofs.Ytahimindlnkmoaa.Pr
open Go.RowKit Go.Proofs.YtahimindlnkmoaaW.PrintWords Go.Proofs.YtahimindlnkmoaaW.PrintLast Go.Proofs.YtahimindlnkmoaaW.PrintMore
attribute [local go_sem] max2_int min2_int max_two min_two max_three min_three max_four min_four
set_option linter.unusedVariables false
set_option linter.unusedSimpArgs false
def impl_MulG.l0 : Nat → Int → Int → Int → Option (Int)
 | 0, _, _, _ => none
 | k + 1, x0, x1, x5 => if x1 > 0 then (if (Go.bits .and .i64 x1 1) = 1 then (if (wrap64 (x0 * 2)) > 255 then (impl_MulG.l0 k (Go.bits .xor .i64 (wrap64 (x0 * 2)) 285) (x1 / 2) (Go.bits .xor .i64 x5 x0)) else (impl_MulG.l0 k (wrap64 (x0 * 2)) (x1 / 2) (Go.bits .xor .i64 x5 x0))) else (if (wrap64 (x0 * 2)) > 255 then (impl_MulG.l0 k (Go.bits .xor .i64 (wrap64 (x0 * 2)) 285) (x1 / 2) x5) else (impl_MulG.l0 k (wrap64 (x0 * 2)) (x1 / 2) x5))) else (some x5)
def impl_MulG.f (k : Nat) (a0 : Int) (a1 : Int) : Option (Int) := impl_MulG.l0 k (Go.bits .and .i64 a0 255) (Go.bits .and .i64 a1 255) 0
theorem impl_MulG.mono_l : ∀ k, (∀ y0 y1 y2, LeO (impl_MulG.l0 k y0 y1 y2) (impl_MulG.l0 (k + 1) y0 y1 y2))
 | 0 => fun _ _ _ r h => by simp [impl_MulG.l0] at h
 | k + 1 => by
  have ih0 := impl_MulG.mono_l k
  ·intro y0 y1 y2
   unfold impl_MulG.l0
   repeat' first
   | (with_reducible exact ih0 _ _ _)
   | (with_reducible exact LeO.refl _)
   | (with_reducible exact LeO.none _)
   | (with_reducible refine LeO.ite ?_ ?_)
   | (with_reducible refine LeO.bind ?_ (fun _ => ?_))
   | exact ih0 _ _ _
   | exact LeO.none _
   | refine LeO.ite ?_ ?_
   | refine LeO.bind ?_ (fun _ => ?_)
theorem impl_MulG.mono : ∀ a0 a1 k, LeO (impl_MulG.f k a0 a1) (impl_MulG.f (k + 1) a0 a1) := by
 intro a0 a1 k
 have ih0 := impl_MulG.mono_l k
 unfold impl_MulG.f
 repeat' first
   | (with_reducible exact ih0 _ _ _)
   | (with_reducible exact LeO.refl _)
   | (with_reducible exact LeO.none _)
   | (with_reducible refine LeO.ite ?_ ?_)
   | (with_reducible refine LeO.bind ?_ (fun _ => ?_))
   | exact ih0 _ _ _
   | exact LeO.none _
   | refine LeO.ite ?_ ?_
   | refine LeO.bind ?_ (fun _ => ?_)
set_option maxHeartbeats 8000000 in
set_option maxRecDepth 100000 in
theorem impl_MulG.calls (k : Nat) (a0 : Int) (a1 : Int) (r : Int) (w : World) (h : impl_MulG.f k a0 a1 = some r) :
  Calls Try.prog 66 #[.int .i64 a0, .int .i64 a1] w fun e w' => e = .returned (.int .i64 r) ∧ Drawn0 w w' := by
 have H : (impl_MulG.l0 k (Go.bits .and .i64 a0 255) (Go.bits .and .i64 a1 255) 0) = some r := h
 clear h
 have H' := Aside0.mk H
 clear H
 go_enter Try.func66, Try.ntmps66
 go_wp2
 go_loopg [0, 1, 5] k (fun kq v0 v1 v5 w' => ∃ (x0_1 : Int) (x1_1 : Int) (x5_1 : Int), v0 = .int .i64 x0_1 ∧ v1 = .int .i64 x1_1 ∧ v5 = .int .i64 x5_1 ∧ Aside0 (impl_MulG.l0 kq x0_1 x1_1 x5_1 = some r) ∧ Aside0 (kq ≤ k) ∧ Drawn0 w w')
 case atStart => exact ⟨(Go.bits .and .i64 a0 255), (Go.bits .and .i64 a1 255), (0), FR, FR, FR, H', ⟨Nat.le_refl _⟩, by repeat (first | exact Drawn0.refl _ | apply Drawn0.step)⟩
 case round =>
  clear H'
  try clear p2
  obtain ⟨x0_1, x1_1, x5_1, rfl, rfl, rfl, HA, HK1, ⟨m1, rfl⟩⟩ := hrel
  cases gk with
  | zero => exact absurd HA.out (by simp [impl_MulG.l0])
  | succ k1 =>
   have H := HA.out
   clear HA
   simp only [impl_MulG.l0] at H
   by_cases c3 : x1_1 > 0
   ·rw [if_pos c3] at H
    have c3b0 : decide (0 < x1_1) = true := decide_eq_true c3
    clear c3
    by_cases c4 : (Go.bits .and .i64 x1_1 1) = 1
    ·rw [if_pos c4] at H
     have c4b0 : ((Go.bits .and .i64 x1_1 1) == 1) = true := beq_iff_eq.mpr c4
     have c4b1 : ((Go.bits .and .i64 x1_1 1) != 1) = false := bne_eq_false_iff_eq.mpr c4
     clear c4
     by_cases c5 : (wrap64 (x0_1 * 2)) > 255
     ·rw [if_pos c5] at H
      have c5b0 : decide (255 < (wrap64 (x0_1 * 2))) = true := decide_eq_true c5
      clear c5
      have H' := Aside0.mk H
      clear H
      go_wp2
      go_roundg k1
      case measure => have := HK1.out; omega
      case rel => exact ⟨(Go.bits .xor .i64 (wrap64 (x0_1 * 2)) 285), (x1_1 / 2), (Go.bits .xor .i64 x5_1 x0_1), FR, FR, FR, H', ⟨by have := HK1.out; omega⟩, by repeat (first | exact Drawn0.refl _ | apply Drawn0.step)⟩
     ·rw [if_neg c5] at H
      have c5b0 : decide (255 < (wrap64 (x0_1 * 2))) = false := decide_eq_false c5
      clear c5
      have H' := Aside0.mk H
      clear H
      go_wp2
      go_roundg k1
      case measure => have := HK1.out; omega
      case rel => exact ⟨(wrap64 (x0_1 * 2)), (x1_1 / 2), (Go.bits .xor .i64 x5_1 x0_1), FR, FR, FR, H', ⟨by have := HK1.out; omega⟩, by repeat (first | exact Drawn0.refl _ | apply Drawn0.step)⟩
    ·rw [if_neg c4] at H
     have c4b0 : ((Go.bits .and .i64 x1_1 1) == 1) = false := beq_eq_false_iff_ne.mpr c4
     have c4b1 : ((Go.bits .and .i64 x1_1 1) != 1) = true := bne_iff_ne.mpr c4
     by_cases c6 : (wrap64 (x0_1 * 2)) > 255
     ·rw [if_pos c6] at H
      have c6b0 : decide (255 < (wrap64 (x0_1 * 2))) = true := decide_eq_true c6
      clear c6
      have H' := Aside0.mk H
      clear H
      go_wp2
      go_roundg k1
      case measure => have := HK1.out; omega
      case rel => exact ⟨(Go.bits .xor .i64 (wrap64 (x0_1 * 2)) 285), (x1_1 / 2), (x5_1), FR, FR, FR, H', ⟨by have := HK1.out; omega⟩, by repeat (first | exact Drawn0.refl _ | apply Drawn0.step)⟩
     ·rw [if_neg c6] at H
      have c6b0 : decide (255 < (wrap64 (x0_1 * 2))) = false := decide_eq_false c6
      clear c6
      have H' := Aside0.mk H
      clear H
      go_wp2
      go_roundg k1
      case measure => have := HK1.out; omega
      case rel => exact ⟨(wrap64 (x0_1 * 2)), (x1_1 / 2), (x5_1), FR, FR, FR, H', ⟨by have := HK1.out; omega⟩, by repeat (first | exact Drawn0.refl _ | apply Drawn0.step)⟩
   ·rw [if_neg c3] at H
    have c3b0 : decide (0 < x1_1) = false := decide_eq_false c3
    clear c3
    obtain rfl := Option.some.inj H
    go_wp2
    go_ret
    exact ⟨FR, by repeat (first | exact Drawn0.refl _ | apply Drawn0.step)⟩

end Go.Proofs.Ytahimindlnkmoaa.Pr

namespace Go.Proofs.Ytahimindlnkmoaa.Pr
open Go.RowKit Go.Proofs.YtahimindlnkmoaaW.PrintWords Go.Proofs.YtahimindlnkmoaaW.PrintLast Go.Proofs.YtahimindlnkmoaaW.PrintMore
set_option linter.unusedVariables false
set_option linter.unusedSimpArgs false
def impl_scale.f (k : Nat) (l0 : List Int) (a1 : Int) : Option (List Int) := if l0.length ≤ 1048576 ∧ ∀ x ∈ l0, (impl_MulG.f k x a1).isSome = true then some (l0.map fun x => (impl_MulG.f k x a1).getD 0) else none
set_option maxHeartbeats 8000000 in
set_option maxRecDepth 100000 in
theorem impl_scale.calls (k : Nat) (P0_ : Nat → Prop) (u9000_ : Value) (l0 : List Int) (a1 : Int) (r : List Int) (w0 w : World) (hB : Below w0.heap.size w0 w) (ho0 : Kd.R (Kd.int .i64) 3 w w0.heap.size P0_ u9000_ l0) (h : impl_scale.f k l0 a1 = some r) :
    Calls Try.prog 54 #[u9000_, .int .i64 a1] w fun e w' => e = .returned (.tuple #[]) ∧ Kd.R (Kd.int .i64) 3 w' w0.heap.size (fun k_ => (P0_ k_ ∨ w.heap.size ≤ k_)) u9000_ r ∧ Below w0.heap.size w0 w' ∧ Kept w w' (fun k_ => P0_ k_) := by
  unfold impl_scale.f at h
  by_cases hz : l0.length ≤ 1048576 ∧ ∀ x ∈ l0, (impl_MulG.f k x a1).isSome = true
  case neg => rw [if_neg hz] at h; cases h
  rw [if_pos hz] at h
  obtain ⟨hz1, hsome⟩ := hz
  have HS := Aside0.mk hsome
  have HR := Aside0.mk (Option.some.inj h)
  clear h hsome
  obtain ⟨A0, c0, rfl⟩ := Kd.R_slice ho0
  have hcap := (Kd.R_reads' ho0).2.1
  have HO0 := Aside0.mk ho0
  have HB0 := Aside0.mk hB
  clear ho0 hB
  go_enter Try.func54, Try.ntmps54
  go_wp2
  go_loopg [8] l0.length (fun gg s8 wr => ∃ (i : Nat) (ys : List Int), s8 = .int .i64 i ∧ i ≤ l0.length ∧ l0.length - i ≤ gg ∧ Aside0 (ys = (l0.take i).map (fun x => (impl_MulG.f k x a1).getD 0) ++ l0.drop i) ∧ Aside0 (Kd.R (Kd.int .i64) 3 wr w0.heap.size P0_ (.slice A0 l0.length c0) ys) ∧ Aside0 (Below w0.heap.size w0 wr) ∧ Aside0 (Kept w wr (fun k_ => P0_ k_)))
  case atStart => exact ⟨0, l0, rfl, Nat.zero_le _, Nat.sub_le _ _, ⟨by simp⟩, HO0, HB0, ⟨Kept.refl _ _⟩⟩
  case round =>
    clear HO0 HB0
    obtain ⟨i, ys, rfl, hin, hgg, HY, HO, HB, HK⟩ := hrel
    by_cases hlt : i < l0.length
    · have hltz : (i : Int) < (l0.length : Int) := by omega
      have HL : Aside0 (ys.length = l0.length) := ⟨((Kd.R_reads' HO.out).1).symm⟩
      obtain ⟨g, cp, ev, hbg, hgl, -⟩ := Kd.R_form HO.out (by rw [HL.out]; omega)
      injection ev with ea el ec
      subst ea
      subst ec
      clear el
      have HPg : Aside0 (P0_ g) := ⟨HO.out.1 g rfl⟩
      obtain ⟨hc, hf⟩ := Kd.R_celln 0 HO.out (i : Int) (Int.natCast_nonneg _) hltz
      rw [Int.toNat_natCast] at hc hf
      obtain ⟨x, hx⟩ : ∃ x, x = l0[i] := ⟨_, rfl⟩
      have hxe : rdOf 0 ys (i : Int) = x := by
        show ys.getD i 0 = x
        rw [HY.out, hx, List.getD_eq_getElem?_getD, List.getElem?_append_right (by simp; omega)]
        simp [Nat.min_eq_left (Nat.le_of_lt hlt), List.getElem?_eq_getElem hlt]
      rw [hxe] at hc
      replace hc : wr.cell? ⟨g, i, none⟩ = some (.int .i64 x) := hc
      obtain ⟨y, hy⟩ := Option.isSome_iff_exists.1 (HS.out x (by rw [hx]; exact List.getElem_mem hlt))
      have HPUT := fun v => Kd.R_putg HO.out (i : Int) v
      rw [Int.toNat_natCast] at HPUT
      have HYS : Aside0 (ys.set i y = (l0.take (i + 1)).map (fun x => (impl_MulG.f k x a1).getD 0) ++ l0.drop (i + 1)) := ⟨by
        rw [HY.out, List.take_succ_eq_append_getElem hlt, List.map_append, List.drop_eq_getElem_cons hlt, List.set_append_right _ _ (by simp; omega)]
        rw [← hx]
        simp [Nat.min_eq_left (Nat.le_of_lt hlt), hy]⟩
      have HP := Aside0.mk (HPUT y)
      have HYc := Aside0.mk hy
      clear hx hxe hy HPUT
      have HP2 : ∀ nd, Aside0 (Kd.R (Kd.int .i64) 3 ((wr.drewN nd).setCell ⟨g, i, none⟩ (.int .i64 y)) w0.heap.size P0_ (.slice (some ⟨g, 0, none⟩) l0.length c0) (ys.set i y) ∧ Below w0.heap.size w0 ((wr.drewN nd).setCell ⟨g, i, none⟩ (.int .i64 y)) ∧ Kept w ((wr.drewN nd).setCell ⟨g, i, none⟩ (.int .i64 y)) (fun k_ => P0_ k_)) := fun nd => by
        have h1 := (Kd.R_putg (Kd.R_drewN HO.out nd) (i : Int) y)
        rw [Int.toNat_natCast] at h1
        exact ⟨h1.1, Below.setCell (pw_below_drewN HB.out nd) (p := ⟨g, i, none⟩) hbg _, Kept.of_grown h1.2 (HK.out.drewN nd) (fun k_ e_ => .inl (by injection e_ with e_; rw [← e_]; exact HPg.out))⟩
      have HP3 := Aside0.mk HP2
      clear HP HP2 HO HB HK HY
      go_wp2_with fail
      refine (impl_MulG.calls k x a1 y _ HYc.out).mono ?_
      rintro e w3 ⟨rfl, ⟨nd, rfl⟩⟩
      have hc3 : (wr.drewN nd).cell? ⟨g, i, none⟩ = some (.int .i64 x) := hc
      have hf3 : (wr.drewN nd).frozen? ⟨g, i, none⟩ = false := hf
      have HP4 := HP3.out nd
      clear HP3 hc hf
      generalize wr.drewN nd = w4 at hc3 hf3 HP4 ⊢
      go_wp2
      go_roundg (l0.length - (i + 1))
      case measure => omega
      case rel => exact ⟨i + 1, _, by go_num, hlt, Nat.le_refl _, HYS, ⟨HP4.out.1⟩, ⟨HP4.out.2.1⟩, ⟨HP4.out.2.2⟩⟩
    · have hltz : ¬ (i : Int) < (l0.length : Int) := by omega
      obtain rfl : i = l0.length := by omega
      have HF : Aside0 (ys = r) := ⟨by rw [HY.out, ← HR.out]; simp⟩
      go_wp2
      go_end0
      exact ⟨rfl, Kd.R_mono (HF.out ▸ HO.out) (fun _ hk => .inl hk), HB.out, HK.out⟩
end Go.Proofs.Ytahimindlnkmoaa.Pr

namespace Go.Proofs.Ytahimindlnkmoaa.Pr
open Go.RowKit Go.Proofs.YtahimindlnkmoaaW.PrintWords Go.Proofs.YtahimindlnkmoaaW.PrintLast Go.Proofs.YtahimindlnkmoaaW.PrintMore
set_option linter.unusedVariables false
set_option linter.unusedSimpArgs false
structure Mat (W : World) (B g cap : Nat) (ds : List (Nat × Nat)) (xs : List (List Int)) : Prop where
  len : ds.length = xs.length
  outer : ∀ (i : Nat) (d : Nat × Nat) (x : List Int), ds[i]? = some d → xs[i]? = some x → W.cell? ⟨g, i, none⟩ = some (.slice (some ⟨d.1, 0, none⟩) x.length d.2) ∧ W.frozen? ⟨g, i, none⟩ = false
  row : ∀ (i : Nat) (d : Nat × Nat) (x : List Int), ds[i]? = some d → xs[i]? = some x → Kd.R (Kd.int .i64) 3 W B (fun k => k = d.1) (.slice (some ⟨d.1, 0, none⟩) x.length d.2) x
  nodup : ∀ (i j : Nat) (d e : Nat × Nat), ds[i]? = some d → ds[j]? = some e → d.1 = e.1 → i = j
  apart : ∀ d ∈ ds, d.1 ≠ g
  lowg : B ≤ g
  low : ∀ d ∈ ds, B ≤ d.1
  ltg : g < W.heap.size
  lt : ∀ d ∈ ds, d.1 < W.heap.size
def Mat.blk (g : Nat) (ds : List (Nat × Nat)) (k : Nat) : Prop := k = g ∨ ∃ d ∈ ds, d.1 = k
theorem int_reok {W : World} {B : Nat} {ok ok' : Nat → Prop} {v : Value} {x : List Int} (h : Kd.R (Kd.int .i64) 3 W B ok v x) (h' : ∀ k, v.ownBlock = some k → ok' k) : Kd.R (Kd.int .i64) 3 W B ok' v x := by
  obtain ⟨_, inner, ho, hr⟩ := h
  exact ⟨h', inner, ho, hr⟩
theorem cell_same {w W : World} {k : Nat} (h : W.heap[k]? = w.heap[k]?) (o : Nat) : W.cell? ⟨k, o, none⟩ = w.cell? ⟨k, o, none⟩ ∧ W.frozen? ⟨k, o, none⟩ = w.frozen? ⟨k, o, none⟩ := by
  simp only [World.cell?, World.frozen?, h, and_self]
theorem Mat.step {W W' : World} {B g cap : Nat} {ds : List (Nat × Nat)} {xs : List (List Int)} (h : Mat W B g cap ds xs) (hs : W.heap.size ≤ W'.heap.size) (hk : ∀ k, Mat.blk g ds k → W'.heap[k]? = W.heap[k]?) : Mat W' B g cap ds xs where
  len := h.len
  outer := fun i d x hd hx => by
    have e := cell_same (hk g (.inl rfl)) i
    rw [e.1, e.2]
    exact h.outer i d x hd hx
  row := fun i d x hd hx => Kd.R_step (h.row i d x hd hx) (fun k ho _ => hk k (.inr ⟨d, List.mem_of_getElem? hd, ho.symm⟩))
  nodup := h.nodup
  apart := h.apart
  lowg := h.lowg
  low := h.low
  ltg := Nat.lt_of_lt_of_le h.ltg hs
  lt := fun d hd => Nat.lt_of_lt_of_le (h.lt d hd) hs
theorem Mat.drewN {W : World} {B g cap : Nat} {ds : List (Nat × Nat)} {xs : List (List Int)} (h : Mat W B g cap ds xs) (n : Nat) : Mat (W.drewN n) B g cap ds xs := h.step (Nat.le_refl _) (fun _ _ => rfl)
theorem Mat.drew {W : World} {B g cap : Nat} {ds : List (Nat × Nat)} {xs : List (List Int)} (h : Mat W B g cap ds xs) : Mat W.drew B g cap ds xs := h.step (Nat.le_refl _) (fun _ _ => rfl)
theorem Mat.below {W W' : World} {B g cap : Nat} {ds : List (Nat × Nat)} {xs : List (List Int)} (h : Mat W B g cap ds xs) (hb : Below W.heap.size W W') : Mat W' B g cap ds xs := h.step hb.size (fun k hk => hb.block k (by
  rcases hk with rfl | ⟨d, hd, rfl⟩
  · exact h.ltg
  · exact h.lt d hd))
theorem Mat.put {W W' : World} {B g cap : Nat} {ds : List (Nat × Nat)} {xs : List (List Int)} (h : Mat W B g cap ds xs) (i : Nat) (d : Nat × Nat) (x x' : List Int) (hd : ds[i]? = some d) (hx : xs[i]? = some x) (hl : x'.length = x.length)
    (hk : Kept W W' (fun k => k = d.1)) {ok : Nat → Prop} (hR : Kd.R (Kd.int .i64) 3 W' B ok (.slice (some ⟨d.1, 0, none⟩) x.length d.2) x') : Mat W' B g cap ds (xs.set i x') := by
  have hne : ∀ (j : Nat) (e : Nat × Nat), ds[j]? = some e → j ≠ i → e.1 ≠ d.1 := fun j e he hji hed => hji (h.nodup j i e d he hd hed)
  have hil : i < xs.length := (List.getElem?_eq_some_iff.1 hx).1
  have hg : W'.heap[g]? = W.heap[g]? := hk.2 g h.ltg (fun e => h.apart d (List.mem_of_getElem? hd) e.symm)
  have hrest : ∀ (j : Nat) (e : Nat × Nat) (y : List Int), ds[j]? = some e → (xs.set i x')[j]? = some y → (j = i ∧ e = d ∧ y = x') ∨ (j ≠ i ∧ xs[j]? = some y) := fun j e y he hy => by
    by_cases hj : j = i
    · subst hj
      rw [List.getElem?_set_self hil] at hy
      exact .inl ⟨rfl, by rw [hd] at he; exact (Option.some.inj he).symm, (Option.some.inj hy).symm⟩
    · rw [List.getElem?_set_ne (Ne.symm hj)] at hy
      exact .inr ⟨hj, hy⟩
  refine ⟨by rw [List.length_set]; exact h.len, fun j e y he hy => ?_, fun j e y he hy => ?_, h.nodup, h.apart, h.lowg, h.low, Nat.lt_of_lt_of_le h.ltg hk.1, fun d hd => Nat.lt_of_lt_of_le (h.lt d hd) hk.1⟩
  · have e1 := cell_same hg j
    rw [e1.1, e1.2]
    rcases hrest j e y he hy with ⟨rfl, rfl, rfl⟩ | ⟨_, hy2⟩
    · rw [hl]
      exact h.outer j e x he hx
    · exact h.outer j e y he hy2
  · rcases hrest j e y he hy with ⟨rfl, rfl, rfl⟩ | ⟨hj, hy2⟩
    · rw [hl]
      exact int_reok hR (fun k hk => by simp [Value.ownBlock] at hk; exact hk.symm)
    · exact Kd.R_step (h.row j e y he hy2) (fun k ho hlt => hk.2 k hlt (fun e2 => hne j e he hj (ho.symm.trans e2)))
theorem Mat.swap {W : World} {B g cap : Nat} {ds : List (Nat × Nat)} {xs : List (List Int)} (h : Mat W B g cap ds xs) (i j : Nat) (d e : Nat × Nat) (x y : List Int) (hd : ds[i]? = some d) (hx : xs[i]? = some x) (he : ds[j]? = some e) (hy : xs[j]? = some y) :
    Mat ((W.setCell ⟨g, i, none⟩ (.slice (some ⟨e.1, 0, none⟩) y.length e.2)).setCell ⟨g, j, none⟩ (.slice (some ⟨d.1, 0, none⟩) x.length d.2)) B g cap ((ds.set i e).set j d) ((xs.set i y).set j x) := by
  have hid : i < ds.length := (List.getElem?_eq_some_iff.1 hd).1
  have hjd : j < ds.length := (List.getElem?_eq_some_iff.1 he).1
  have hl := h.len
  -- what lies at m behind the exchange, and where it lay
  have hat : ∀ (m : Nat) (q : Nat × Nat) (z : List Int), ((ds.set i e).set j d)[m]? = some q → ((xs.set i y).set j x)[m]? = some z → (m = j ∧ q = d ∧ z = x) ∨ (m ≠ j ∧ m = i ∧ q = e ∧ z = y) ∨ (m ≠ j ∧ m ≠ i ∧ ds[m]? = some q ∧ xs[m]? = some z) := fun m q z hq hz => by
    by_cases hmj : m = j
    · subst hmj
      rw [List.getElem?_set_self (by rw [List.length_set]; omega)] at hq hz
      exact .inl ⟨rfl, (Option.some.inj hq).symm, (Option.some.inj hz).symm⟩
    · rw [List.getElem?_set_ne (Ne.symm hmj)] at hq hz
      by_cases hmi : m = i
      · subst hmi
        rw [List.getElem?_set_self (by omega)] at hq hz
        exact .inr (.inl ⟨hmj, rfl, (Option.some.inj hq).symm, (Option.some.inj hz).symm⟩)
      · rw [List.getElem?_set_ne (Ne.symm hmi)] at hq hz
        exact .inr (.inr ⟨hmj, hmi, hq, hz⟩)
  have hsrc : ∀ (m : Nat) (q : Nat × Nat), ((ds.set i e).set j d)[m]? = some q → (m = j ∧ q = d) ∨ (m ≠ j ∧ m = i ∧ q = e) ∨ (m ≠ j ∧ m ≠ i ∧ ds[m]? = some q) := fun m q hq => by
    by_cases hmj : m = j
    · subst hmj
      rw [List.getElem?_set_self (by rw [List.length_set]; omega)] at hq
      exact .inl ⟨rfl, (Option.some.inj hq).symm⟩
    · rw [List.getElem?_set_ne (Ne.symm hmj)] at hq
      by_cases hmi : m = i
      · subst hmi
        rw [List.getElem?_set_self (by omega)] at hq
        exact .inr (.inl ⟨hmj, rfl, (Option.some.inj hq).symm⟩)
      · rw [List.getElem?_set_ne (Ne.symm hmi)] at hq
        exact .inr (.inr ⟨hmj, hmi, hq⟩)
  have hmem : ∀ q : Nat × Nat, q ∈ (ds.set i e).set j d → q ∈ ds := fun q hq => by
    obtain ⟨m, hm⟩ := List.mem_iff_getElem?.1 hq
    rcases hsrc m q hm with ⟨_, rfl⟩ | ⟨_, _, rfl⟩ | ⟨_, _, h3⟩
    · exact List.mem_of_getElem? hd
    · exact List.mem_of_getElem? he
    · exact List.mem_of_getElem? h3
  have hfar : ∀ k : Nat, k ≠ g → ((W.setCell ⟨g, i, none⟩ (.slice (some ⟨e.1, 0, none⟩) y.length e.2)).setCell ⟨g, j, none⟩ (.slice (some ⟨d.1, 0, none⟩) x.length d.2)).heap[k]? = W.heap[k]? := fun k hk =>
    (Below.heap_setCell _ _ _ k hk).trans (Below.heap_setCell _ _ _ k hk)
  have hrow : ∀ (m : Nat) (q : Nat × Nat) (z : List Int), ds[m]? = some q → xs[m]? = some z → Kd.R (Kd.int .i64) 3 ((W.setCell ⟨g, i, none⟩ (.slice (some ⟨e.1, 0, none⟩) y.length e.2)).setCell ⟨g, j, none⟩ (.slice (some ⟨d.1, 0, none⟩) x.length d.2)) B (fun k => k = q.1) (.slice (some ⟨q.1, 0, none⟩) z.length q.2) z := fun m q z hq hz =>
    Kd.R_step (h.row m q z hq hz) (fun k ho _ => hfar k (by rw [ho]; exact h.apart q (List.mem_of_getElem? hq)))
  refine ⟨by simp [hl], fun m q z hq hz => ⟨?_, ?_⟩, fun m q z hq hz => ?_, fun m n q s hq hs hqs => ?_, fun q hq => h.apart q (hmem q hq), h.lowg, fun q hq => h.low q (hmem q hq), by simpa using h.ltg, fun q hq => by simpa using h.lt q (hmem q hq)⟩
  · rcases hat m q z hq hz with ⟨rfl, rfl, rfl⟩ | ⟨h1, rfl, rfl, rfl⟩ | ⟨h1, h2, h3, h4⟩
    · refine World.cell?_setCell_same' _ _ _ ?_
      by_cases hij : i = m
      · subst hij
        rw [World.cell?_setCell_same' _ _ _ (by rw [(h.outer i q z hd hx).1]; rfl)]
        rfl
      · rw [World.cell?_setCell_other _ _ _ _ (by intro e2; simp only [Addr.mk.injEq] at e2; omega), (h.outer m e y he hy).1]
        rfl
    · rw [World.cell?_setCell_other _ _ _ _ (by intro e2; simp only [Addr.mk.injEq] at e2; omega)]
      exact World.cell?_setCell_same' _ _ _ (by rw [(h.outer m d x hd hx).1]; rfl)
    · rw [World.cell?_setCell_other _ _ _ _ (by intro e2; simp only [Addr.mk.injEq] at e2; omega), World.cell?_setCell_other _ _ _ _ (by intro e2; simp only [Addr.mk.injEq] at e2; omega)]
      exact (h.outer m q z h3 h4).1
  · rw [World.frozen?_setCell, World.frozen?_setCell]
    rcases hat m q z hq hz with ⟨rfl, rfl, rfl⟩ | ⟨h1, rfl, rfl, rfl⟩ | ⟨h1, h2, h3, h4⟩
    · exact (h.outer m e y he hy).2
    · exact (h.outer m d x hd hx).2
    · exact (h.outer m q z h3 h4).2
  · rcases hat m q z hq hz with ⟨rfl, rfl, rfl⟩ | ⟨h1, rfl, rfl, rfl⟩ | ⟨h1, h2, h3, h4⟩
    · exact hrow i q z hd hx
    · exact hrow j q z he hy
    · exact hrow m q z h3 h4
  · rcases hsrc m q hq with ⟨rfl, rfl⟩ | ⟨a1, rfl, rfl⟩ | ⟨a1, a2, a3⟩ <;> rcases hsrc n s hs with ⟨rfl, rfl⟩ | ⟨b1, rfl, rfl⟩ | ⟨b1, b2, b3⟩
    · rfl
    · exact (h.nodup _ _ _ _ hd he hqs).symm ▸ rfl
    · exact absurd (h.nodup _ _ _ _ hd b3 hqs).symm b2
    · exact (h.nodup _ _ _ _ he hd hqs) ▸ rfl
    · rfl
    · exact absurd (h.nodup _ _ _ _ he b3 hqs).symm b1
    · exact absurd (h.nodup _ _ _ _ a3 hd hqs) a2
    · exact absurd (h.nodup _ _ _ _ a3 he hqs) a1
    · exact h.nodup _ _ _ _ a3 b3 hqs
theorem choose_list (P : Nat → Nat × Nat → Prop) : ∀ n : Nat, (∀ i, i < n → ∃ d, P i d) → ∃ ds : List (Nat × Nat), ds.length = n ∧ ∀ (i : Nat) (d : Nat × Nat), ds[i]? = some d → P i d
  | 0, _ => ⟨[], rfl, fun i d h => by simp at h⟩
  | n + 1, h => by
    obtain ⟨ds, hl, hp⟩ := choose_list P n (fun i hi => h i (by omega))
    obtain ⟨d, hd⟩ := h n (by omega)
    refine ⟨ds ++ [d], by simp [hl], fun i e he => ?_⟩
    by_cases hi : i < n
    · rw [List.getElem?_append_left (by omega)] at he
      exact hp i e he
    · rw [List.getElem?_append_right (by omega)] at he
      have hi2 : i = n := by
        have := (List.getElem?_eq_some_iff.1 he).1
        simp at this
        omega
      subst hi2
      rw [hl, Nat.sub_self] at he
      simp at he
      exact he ▸ hd
theorem mat_of_S {W : World} {B : Nat} {ok : Nat → Prop} {v : Value} {xs : List (List Int)} (h : Kd.S (Kd.slice 3 (Kd.int .i64)) 52 W B ok v xs) (hne : ∀ x ∈ xs, 0 < x.length) (hp : 0 < xs.length) :
    ∃ g cap ds, v = .slice (some ⟨g, 0, none⟩) xs.length cap ∧ xs.length ≤ cap ∧ Mat W B g cap ds xs ∧ ∀ k, Mat.blk g ds k → ok k := by
  obtain ⟨f, h0, inner, ho, hr⟩ := h
  rw [List.length_zipIdx] at ho
  rcases ho.2 with ⟨rfl, hn⟩ | ⟨g, cap, cur, rfl, hb, hg, hn, hm, hs, ht⟩
  · omega
  have hz : (Kd.tag f (Kd.slice 3 (Kd.int .i64))).sz = 1 := rfl
  have hrow : ∀ i, i < xs.length → ∃ d : Nat × Nat, ∃ x, xs[i]? = some x ∧ inner[i]? = some (.slice (some ⟨d.1, 0, none⟩) x.length d.2) ∧ Kd.R (Kd.int .i64) 3 W B (fun k => k = d.1) (.slice (some ⟨d.1, 0, none⟩) x.length d.2) x ∧ B ≤ d.1 ∧ d.1 < W.heap.size ∧ ok d.1 ∧ d.1 ≠ g ∧ f d.1 = i := fun i hi => by
    obtain ⟨x, hx⟩ : ∃ x, xs[i]? = some x := ⟨xs[i], List.getElem?_eq_getElem hi⟩
    have hM := hr.2 i (x, i) (by rw [List.getElem?_zipIdx, hx]; simp)
    rw [hz, Nat.mul_one] at hM
    obtain ⟨u, hu, hR⟩ := hM
    obtain ⟨b, c, rfl, hbB, hbl, -⟩ := Kd.R_form hR (hne x (List.mem_of_getElem? hx))
    have hok := hR.1 b rfl
    refine ⟨(b, c), x, hx, ?_, int_reok hR (fun k hk => by simp [Value.ownBlock] at hk; exact hk.symm), hbB, hbl, hok.1.1, fun e => hok.1.2 (by rw [show b = g from e]; rfl), hok.2⟩
    have := congrArg (fun l => l[0]?) hu
    simpa using this
  obtain ⟨ds, hl, hd⟩ := choose_list _ xs.length hrow
  refine ⟨g, cap, ds, rfl, hn, ⟨hl, fun i d x h1 h2 => ?_, fun i d x h1 h2 => ?_, fun i j d e h1 h2 h3 => ?_, fun d hm' => ?_, hb, fun d hm' => ?_, (Array.getElem?_eq_some_iff.1 hg).1, fun d hm' => ?_⟩, fun k hk => ?_⟩
  · obtain ⟨x', e1, e2, _⟩ := hd i d h1
    rw [h2] at e1
    obtain rfl := Option.some.inj e1
    have hi : i < xs.length := (List.getElem?_eq_some_iff.1 h2).1
    rw [hz, Nat.mul_one] at ht
    have h4 : (cur.toList.take xs.length)[i]? = some (.slice (some ⟨d.1, 0, none⟩) x.length d.2) := by rw [ht]; exact e2
    rw [List.getElem?_take_of_lt hi] at h4
    exact ⟨by simpa [World.cell?, hg] using h4, by simp [World.frozen?, hg]⟩
  · obtain ⟨x', e1, e2, e3, _⟩ := hd i d h1
    rw [h2] at e1
    obtain rfl := Option.some.inj e1
    exact e3
  · obtain ⟨_, _, _, _, _, _, _, _, a⟩ := hd i d h1
    obtain ⟨_, _, _, _, _, _, _, _, b⟩ := hd j e h2
    rw [← a, ← b, h3]
  · obtain ⟨m, hm2⟩ := List.mem_iff_getElem?.1 hm'
    obtain ⟨_, _, _, _, _, _, _, a, _⟩ := hd m d hm2
    exact a
  · obtain ⟨m, hm2⟩ := List.mem_iff_getElem?.1 hm'
    obtain ⟨_, _, _, _, a, _⟩ := hd m d hm2
    exact a
  · obtain ⟨m, hm2⟩ := List.mem_iff_getElem?.1 hm'
    obtain ⟨_, _, _, _, _, a, _⟩ := hd m d hm2
    exact a
  · rcases hk with rfl | ⟨d, hm', rfl⟩
    · exact h0 k rfl
    · obtain ⟨m, hm2⟩ := List.mem_iff_getElem?.1 hm'
      obtain ⟨_, _, _, _, _, _, a, _⟩ := hd m d hm2
      exact a
theorem Mat.reads {W : World} {B g cap : Nat} {ds : List (Nat × Nat)} {xs : List (List Int)} (h : Mat W B g cap ds xs) (hl : xs.length ≤ 9223372036854775807) : Kd.C (Kd.slice 3 (Kd.int .i64)) W (some ⟨g, 0, none⟩) xs.length xs := by
  refine ⟨rfl, hl, fun _ => ⟨_, rfl, fun j x hx => ?_⟩⟩
  have hj : j < ds.length := by rw [h.len]; exact (List.getElem?_eq_some_iff.1 hx).1
  have hd : ds[j]? = some ds[j] := List.getElem?_eq_getElem hj
  have h1 := h.outer j _ x hd hx
  have h2 := Kd.R_reads' (h.row j _ x hd hx)
  refine ⟨[.slice (some ⟨ds[j].1, 0, none⟩) x.length ds[j].2], rfl, ⟨_, _, rfl, h2.2.1, h2.2.2⟩, fun i u hu => ?_⟩
  cases i with
  | zero =>
    obtain rfl : _ = u := by simpa using hu
    rw [Addr.add_lit]
    show W.cell? ⟨g, 0 + (j * 1 + 0), none⟩ = _
    rw [show 0 + (j * 1 + 0) = j by omega]
    exact h1.1
  | succ i => simp at hu
end Go.Proofs.Ytahimindlnkmoaa.Pr

namespace Go.Proofs.Ytahimindlnkmoaa.Pr
open Go.RowKit Go.Proofs.YtahimindlnkmoaaW.PrintWords Go.Proofs.YtahimindlnkmoaaW.PrintLast Go.Proofs.YtahimindlnkmoaaW.PrintMore
attribute [local go_sem] max2_int min2_int max_two min_two max_three min_three max_four min_four
set_option linter.unusedVariables false
set_option linter.unusedSimpArgs false
def impl_within.f (a0 : Int) (a1 : Int) (a2 : Int) : Option (Bool) := if a0 ≥ a1 then (some (decide (a0 ≤ a2))) else (some false)
set_option maxHeartbeats 8000000 in
set_option maxRecDepth 100000 in
theorem impl_within.calls (a0 : Int) (a1 : Int) (a2 : Int) (r : Bool) (w : World) (h : impl_within.f a0 a1 a2 = some r) :
  Calls Try.prog 33 #[.int .i64 a0, .int .i64 a1, .int .i64 a2] w fun e w' => e = .returned (.bool r) ∧ Drawn0 w w' := by
 have H : (if a0 ≥ a1 then (some (decide (a0 ≤ a2))) else (some false)) = some r := h
 clear h
 by_cases c4 : a0 ≥ a1
 ·rw [if_pos c4] at H
  have c4b0 : decide (a1 ≤ a0) = true := decide_eq_true c4
  clear c4
  obtain rfl := Option.some.inj H
  go_enter Try.func33, Try.ntmps33
  go_wp2
  go_ret
  exact ⟨FR, by repeat (first | exact Drawn0.refl _ | apply Drawn0.step)⟩
 ·rw [if_neg c4] at H
  have c4b0 : decide (a1 ≤ a0) = false := decide_eq_false c4
  clear c4
  obtain rfl := Option.some.inj H
  go_enter Try.func33, Try.ntmps33
  go_wp2
  go_ret
  exact ⟨FR, by repeat (first | exact Drawn0.refl _ | apply Drawn0.step)⟩

end Go.Proofs.Ytahimindlnkmoaa.Pr

namespace Go.Proofs.Ytahimindlnkmoaa.Pr
open Go.RowKit Go.Proofs.YtahimindlnkmoaaW.PrintWords Go.Proofs.YtahimindlnkmoaaW.PrintLast Go.Proofs.YtahimindlnkmoaaW.PrintMore
set_option linter.unusedVariables false
set_option linter.unusedSimpArgs false
def idxI (p : Int → Bool) : List Int → Nat → Int
  | [], _ => -1
  | x :: s, j => if p x = true then (j : Int) else idxI p s (j + 1)
theorem idxI_hit (p : Int → Bool) (xs : List Int) (j : Nat) (h : j < xs.length) (hp : p xs[j] = true) : idxI p (xs.drop j) j = (j : Int) := by
  rw [List.drop_eq_getElem_cons h, idxI, if_pos hp]
theorem idxI_miss (p : Int → Bool) (xs : List Int) (j : Nat) (h : j < xs.length) (hp : p xs[j] = false) : idxI p (xs.drop j) j = idxI p (xs.drop (j + 1)) (j + 1) := by
  rw [List.drop_eq_getElem_cons h, idxI, if_neg (by rw [hp]; decide)]
theorem idxI_any (p : Int → Bool) : ∀ (xs : List Int) (j : Nat), decide (0 ≤ idxI p xs j) = xs.any p
  | [], j => by simp [idxI]
  | x :: s, j => by
    by_cases c : p x = true
    · simp [idxI, c]
    · have := idxI_any p s (j + 1)
      simp only [idxI, if_neg c, List.any_cons]
      rw [this]
      simp [c]
theorem drawn_step {w w1 w2 : World} (h : Drawn0 w w1) (k : Drawn0 w1 w2) : Drawn0 w w2 := by
  obtain ⟨n, rfl⟩ := k.out
  exact h.step n
def offI (n : Int) : Bool := !(decide (0 ≤ n) && decide (n ≤ 255))
theorem within_eq (n lo hi : Int) : impl_within.f n lo hi = some (decide (lo ≤ n) && decide (n ≤ hi)) := by
  unfold impl_within.f
  by_cases h : lo ≤ n <;> by_cases h2 : n ≤ hi <;> simp [h, h2]
set_option maxHeartbeats 4000000 in
set_option maxRecDepth 100000 in
theorem cl_off (n : Int) (w : World) : Calls Try.prog 68 #[.int .i64 n] w fun e w' => e = .returned (.bool (offI n)) ∧ Drawn0 w w' := by
  have hc := impl_within.calls n 0 255 _ w (within_eq n 0 255)
  obtain ⟨b, hb⟩ : ∃ b, b = (decide (0 ≤ n) && decide (n ≤ 255)) := ⟨_, rfl⟩
  have HO : Aside0 (offI n = !b) := ⟨by rw [hb]; rfl⟩
  rw [← hb] at hc
  clear hb
  go_enter Try.func68, Try.ntmps68
  go_wp2_with fail
  refine hc.mono ?_
  clear hc
  rintro e w' ⟨rfl, hd⟩
  go_wp2
  go_ret
  exact ⟨by rw [HO.out]; rfl, hd⟩
set_option maxHeartbeats 4000000 in
set_option maxRecDepth 100000 in
theorem idx_int (A0 : Option Addr) (c0 : Nat) (xs : List Int) (w : World) (hr0 : Kd.C (Kd.int .i64) w A0 xs.length xs) (hc0 : xs.length ≤ c0) :
    Calls Try.prog 71 #[.slice A0 xs.length c0, .func (.func 68) #[] #[]] w fun e w' => e = .returned (.int .i64 (idxI offI xs 0)) ∧ Drawn0 w w' := by
  have HR := Aside0.mk hr0
  have hl : xs.length ≤ 9223372036854775807 := hr0.2.1
  clear hr0
  have HI0 : Aside0 (idxI offI (xs.drop 0) 0 = idxI offI xs 0) := ⟨rfl⟩
  go_enter Try.func71, Try.ntmps71
  go_wp2
  go_loopg [8] xs.length (fun gg si wr => ∃ i : Nat, si = .int .i64 i ∧ i ≤ xs.length ∧ xs.length - i ≤ gg ∧ Aside0 (idxI offI (xs.drop i) i = idxI offI xs 0) ∧ Aside0 (Drawn0 w wr))
  case atStart => exact ⟨0, rfl, Nat.zero_le _, Nat.sub_le _ _, HI0, ⟨Drawn0.refl _⟩⟩
  case round =>
    clear HI0
    obtain ⟨i, rfl, hin, hgg, HI, HD⟩ := hrel
    by_cases hlt : i < xs.length
    · have hltz : (i : Int) < (xs.length : Int) := by omega
      obtain ⟨ad, e1, hx⟩ := Kd.at_int HR.out (i : Int) (Int.natCast_nonneg _) hltz
      subst e1
      rw [Int.toNat_natCast] at hx
      obtain ⟨x, hxe⟩ : ∃ x, x = xs[i] := ⟨_, rfl⟩
      rw [show rd xs (i : Int) = x by rw [hxe]; show xs.getD i 0 = _; rw [List.getD_eq_getElem?_getD, List.getElem?_eq_getElem hlt]; rfl] at hx
      replace hx := (HD.out.below.cell (World.block_lt_of_cell? _ _ hx)).trans hx
      cases hp : offI x with
      | true =>
        have HF : Aside0 (idxI offI xs 0 = (i : Int)) := ⟨by rw [← HI.out]; exact idxI_hit offI xs i hlt (by rw [← hxe]; exact hp)⟩
        have hc := cl_off x wr
        rw [hp] at hc
        clear hxe hp HI
        go_wp2_with fail
        refine hc.mono ?_
        rintro e w' ⟨rfl, hd⟩
        have HD2 := Aside0.mk (drawn_step HD.out hd)
        clear hc hx HD hd
        go_wp2
        go_ret
        exact ⟨by rw [HF.out]; rfl, HD2.out⟩
      | false =>
        have HI2 : Aside0 (idxI offI (xs.drop (i + 1)) (i + 1) = idxI offI xs 0) := ⟨by rw [← HI.out]; exact (idxI_miss offI xs i hlt (by rw [← hxe]; exact hp)).symm⟩
        have hc := cl_off x wr
        rw [hp] at hc
        clear hxe hp HI
        go_wp2_with fail
        refine hc.mono ?_
        rintro e w' ⟨rfl, hd⟩
        have HD2 := Aside0.mk (drawn_step HD.out hd)
        clear hc hx HD hd
        go_wp2
        go_roundg (xs.length - (i + 1))
        case measure => omega
        case rel => exact ⟨i + 1, by go_num, hlt, Nat.le_refl _, HI2, HD2⟩
    · have hltz : ¬ (i : Int) < (xs.length : Int) := by omega
      obtain rfl : i = xs.length := by omega
      have HF : Aside0 (idxI offI xs 0 = -1) := ⟨by rw [← HI.out, List.drop_length]; rfl⟩
      go_wp2
      go_ret
      exact ⟨by rw [HF.out]; rfl, HD.out⟩
set_option maxHeartbeats 4000000 in
set_option maxRecDepth 100000 in
theorem has_int (A0 : Option Addr) (c0 : Nat) (xs : List Int) (w : World) (hr0 : Kd.C (Kd.int .i64) w A0 xs.length xs) (hc0 : xs.length ≤ c0) :
    Calls Try.prog 67 #[.slice A0 xs.length c0, .func (.func 68) #[] #[]] w fun e w' => e = .returned (.bool (xs.any offI)) ∧ Drawn0 w w' := by
  have hc := idx_int A0 c0 xs w hr0 hc0
  have HA := Aside0.mk (idxI_any offI xs 0)
  generalize idxI offI xs 0 = j at hc HA
  generalize xs.any offI = b at HA
  clear hr0
  cases b with
  | true =>
    have hj : decide (j ≥ 0) = true := HA.out
    go_enter Try.func67, Try.ntmps67
    go_wp2_with fail
    refine hc.mono ?_
    rintro e w' ⟨rfl, hd⟩
    clear hc
    go_wp2
    go_ret
    exact ⟨rfl, hd⟩
  | false =>
    have hj : decide (j ≥ 0) = false := HA.out
    go_enter Try.func67, Try.ntmps67
    go_wp2_with fail
    refine hc.mono ?_
    rintro e w' ⟨rfl, hd⟩
    clear hc
    go_wp2
    go_ret
    exact ⟨rfl, hd⟩
theorem at_rows {w : World} {A : Option Addr} {n : Nat} {xs : List (List Int)} (h : Kd.C (Kd.slice 3 (Kd.int .i64)) w A n xs) (i : Nat) (h1 : i < n) : ∃ ad A0 c0, A = some ad ∧ w.cell? (ad.add i) = some (.slice A0 (xs.getD i []).length c0) ∧ (xs.getD i []).length ≤ c0 ∧ (Kd.int .i64).C w A0 (xs.getD i []).length (xs.getD i []) := by
  obtain ⟨ad, c, e, _, hK, hc0⟩ := Kd.C_get h ([] : List Int) (i : Int) (Int.natCast_nonneg _) (by omega)
  rw [Int.toNat_natCast] at hc0 hK
  have hc : ∀ j u, c[j]? = some u → w.cell? (ad.add (i * 1 + j)) = some u := hc0
  obtain ⟨A0, c0, rfl, l0, g0⟩ := hK
  exact ⟨ad, A0, c0, e, by have hq := hc 0 _ rfl; rwa [Nat.mul_one, Nat.add_zero] at hq, l0, g0⟩
def inI (n : Nat) : Bool := decide ((1 : Int) ≤ (n : Int)) && decide ((n : Int) ≤ 8)
def rowOk (m : Nat) (row : List Int) : Bool := (row.length == m) && !(row.any offI)
def mOk (l : List (List Int)) : Bool := inI l.length && inI (l.getD 0 []).length && l.all (rowOk (l.getD 0 []).length)
def impl_MatrixOk.f (l0 : List (List Int)) : Option Bool := some (mOk l0)
set_option maxHeartbeats 8000000 in
set_option maxRecDepth 100000 in
theorem impl_MatrixOk.calls (A0 : Option Addr) (c0 : Nat) (l0 : List (List Int)) (r : Bool) (w : World) (hr0 : Kd.C (Kd.slice 3 (Kd.int .i64)) w A0 l0.length l0) (hc0 : l0.length ≤ c0) (h : impl_MatrixOk.f l0 = some r) :
    Calls Try.prog 52 #[.slice A0 l0.length c0] w fun e w' => e = .returned (.bool r) ∧ Below w.heap.size w w' := by
  have HE := Aside0.mk (Option.some.inj h)
  have HR := Aside0.mk hr0
  have hl : l0.length ≤ 9223372036854775807 := hr0.2.1
  clear h hr0
  have hw1 := impl_within.calls (l0.length : Int) 1 8 _ w (within_eq _ 1 8)
  obtain ⟨b1, hb1⟩ : ∃ b, b = (decide ((1 : Int) ≤ (l0.length : Int)) && decide ((l0.length : Int) ≤ 8)) := ⟨_, rfl⟩
  rw [← hb1] at hw1
  have HB1 : Aside0 (inI l0.length = b1) := ⟨hb1.symm⟩
  clear hb1
  cases b1 with
  | false =>
    have hr : mOk l0 = false := by unfold mOk; rw [HB1.out]; rfl
    have HF : Aside0 (r = false) := ⟨by rw [← HE.out, hr]⟩
    clear hr
    go_enter Try.func52, Try.ntmps52
    go_wp2_with fail
    refine hw1.mono ?_
    rintro e w1 ⟨rfl, hd⟩
    have HD := Aside0.mk hd
    clear hw1 hd
    go_wp2
    go_ret
    exact ⟨by rw [HF.out]; rfl, HD.out.below⟩
  | true =>
    have hpos : 0 < l0.length := by
      have := HB1.out
      unfold inI at this
      simp at this
      omega
    obtain ⟨ad, A1, c1, e1, hx, hlc, -⟩ := at_rows HR.out 0 hpos
    subst e1
    rw [show ad.add 0 = ad by unfold Addr.add; split <;> simp_all] at hx
    obtain ⟨m, hm⟩ : ∃ m, m = (l0.getD 0 []).length := ⟨_, rfl⟩
    rw [← hm] at hx hlc
    have HM := Aside0.mk hm
    clear hm
    have HX := Aside0.mk hx
    have hw2 := fun w => impl_within.calls (m : Int) 1 8 _ w (within_eq _ 1 8)
    obtain ⟨b2, hb2⟩ : ∃ b, b = (decide ((1 : Int) ≤ (m : Int)) && decide ((m : Int) ≤ 8)) := ⟨_, rfl⟩
    rw [← hb2] at hw2
    have HB2 : Aside0 (inI m = b2) := ⟨hb2.symm⟩
    clear hb2
    go_enter Try.func52, Try.ntmps52
    go_wp2_with fail
    refine hw1.mono ?_
    rintro e w1 ⟨rfl, hd⟩
    have HD := Aside0.mk hd
    clear hw1 hd
    replace hx := (HD.out.below.cell (World.block_lt_of_cell? _ _ hx)).trans hx
    cases b2 with
    | false =>
      have HF : Aside0 (r = false) := ⟨by rw [← HE.out]; unfold mOk; rw [← HM.out, HB2.out]; simp⟩
      go_wp2_with fail
      refine (hw2 _).mono ?_
      rintro e w2 ⟨rfl, hd⟩
      have HD2 := Aside0.mk (drawn_step HD.out hd)
      clear hw2 hd HD hx
      go_wp2
      go_ret
      exact ⟨by rw [HF.out]; rfl, HD2.out.below⟩
    | true =>
      go_wp2_with fail
      refine (hw2 _).mono ?_
      rintro e w2 ⟨rfl, hd⟩
      have HD2 := Aside0.mk (drawn_step HD.out hd)
      clear hw2 hd HD hx
      have HI0 : Aside0 (l0.all (rowOk m) = (l0.drop 0).all (rowOk m)) := ⟨rfl⟩
      go_wp2
      go_loopg [19] l0.length (fun gg si wr => ∃ i : Nat, si = .int .i64 i ∧ i ≤ l0.length ∧ l0.length - i ≤ gg ∧ Aside0 (l0.all (rowOk m) = (l0.drop i).all (rowOk m)) ∧ Aside0 (Drawn0 w wr))
      case atStart => exact ⟨0, rfl, Nat.zero_le _, Nat.sub_le _ _, HI0, HD2⟩
      case round =>
        clear HI0 HD2
        obtain ⟨i, rfl, hin, hgg, HI, HD⟩ := hrel
        have hx0 := (HD.out.below.cell (World.block_lt_of_cell? _ _ HX.out)).trans HX.out
        by_cases hlt : i < l0.length
        · have hltz : (i : Int) < (l0.length : Int) := by omega
          obtain ⟨ad', A2, c2, e2, hy, hlc2, hC2⟩ := at_rows HR.out i hlt
          obtain rfl : ad = ad' := by injection e2
          clear e2
          have HCi := Aside0.mk (Kd.C_below hC2 HD.out.below)
          replace hy := (HD.out.below.cell (World.block_lt_of_cell? _ _ hy)).trans hy
          obtain ⟨row, hrow⟩ : ∃ q, q = l0.getD i [] := ⟨_, rfl⟩
          rw [← hrow] at hy hlc2 HCi
          have HS : Aside0 ((l0.drop i).all (rowOk m) = (rowOk m row && (l0.drop (i + 1)).all (rowOk m))) := ⟨by
            rw [List.drop_eq_getElem_cons hlt, List.all_cons, hrow, List.getD_eq_getElem?_getD, List.getElem?_eq_getElem hlt]; rfl⟩
          clear hrow hC2
          by_cases hne : row.length = m
          · have hnb : ((row.length : Int) != (m : Int)) = false := by simp [hne]
            have hc := has_int A2 c2 row wr HCi.out hlc2
            rw [hne] at hc
            obtain ⟨b, hb⟩ : ∃ b, b = row.any offI := ⟨_, rfl⟩
            rw [← hb] at hc
            have HK : Aside0 (rowOk m row = !b) := ⟨by unfold rowOk; rw [hne, hb]; simp⟩
            clear hb
            cases b with
            | true =>
              have HF : Aside0 (r = false) := ⟨by rw [← HE.out]; unfold mOk; rw [← HM.out, HI.out, HS.out, HK.out]; simp⟩
              go_wp2_with fail
              refine hc.mono ?_
              rintro e w3 ⟨rfl, hd⟩
              have HD3 := Aside0.mk (drawn_step HD.out hd)
              clear hc hd hx0 hy
              go_wp2
              go_ret
              exact ⟨by rw [HF.out]; rfl, HD3.out.below⟩
            | false =>
              have HI2 : Aside0 (l0.all (rowOk m) = (l0.drop (i + 1)).all (rowOk m)) := ⟨by rw [HI.out, HS.out, HK.out]; simp⟩
              go_wp2_with fail
              refine hc.mono ?_
              rintro e w3 ⟨rfl, hd⟩
              have HD3 := Aside0.mk (drawn_step HD.out hd)
              clear hc hd hx0 hy
              go_wp2
              go_roundg (l0.length - (i + 1))
              case measure => omega
              case rel => exact ⟨i + 1, by go_num, hlt, Nat.le_refl _, HI2, HD3⟩
          · have hnb : ((row.length : Int) != (m : Int)) = true := by simp; omega
            have HF : Aside0 (r = false) := ⟨by rw [← HE.out]; unfold mOk; rw [← HM.out, HI.out, HS.out]; unfold rowOk; simp [hne]⟩
            go_wp2
            go_ret
            exact ⟨by rw [HF.out]; rfl, HD.out.below⟩
        · have hltz : ¬ (i : Int) < (l0.length : Int) := by omega
          obtain rfl : i = l0.length := by omega
          have HF : Aside0 (r = true) := ⟨by rw [← HE.out]; unfold mOk; rw [← HM.out, HI.out, HB1.out, HB2.out, List.drop_length]; rfl⟩
          go_wp2
          go_ret
          exact ⟨by rw [HF.out]; rfl, HD.out.below⟩
end Go.Proofs.Ytahimindlnkmoaa.Pr

namespace Go.Proofs.Ytahimindlnkmoaa.Pr
open Go.RowKit Go.Proofs.YtahimindlnkmoaaW.PrintWords Go.Proofs.YtahimindlnkmoaaW.PrintLast Go.Proofs.YtahimindlnkmoaaW.PrintMore
set_option linter.unusedVariables false
set_option linter.unusedSimpArgs false
def slices_Clone_int_int.f (l0 : List Int) : Option (List Int) := if l0.length ≤ 1048576 then some l0 else none
set_option maxHeartbeats 8000000 in
set_option maxRecDepth 100000 in
theorem slices_Clone_int_int.calls (A0 : Option Addr) (c0 : Nat) (l0 : List Int) (r : List Int) (w : World) (hr0 : Kd.C (Kd.int .i64) w A0 l0.length l0) (hc0 : l0.length ≤ c0) (h : slices_Clone_int_int.f l0 = some r) :
    Calls Try.prog 53 #[.slice A0 l0.length c0] w fun e w' => ∃ v0_ : Value, e = .returned v0_ ∧ Kd.R (Kd.int .i64) 3 w' w.heap.size (fun _ => True) v0_ r ∧ Below w.heap.size w w' := by
  unfold slices_Clone_int_int.f at h
  by_cases hl : l0.length ≤ 1048576
  case neg => rw [if_neg hl] at h; cases h
  rw [if_pos hl] at h
  have e := Option.some.inj h
  subst e
  clear h
  have u52 := Try.underlying52
  cases A0 with
  | none =>
    have hz : l0 = [] := by
      rcases Nat.eq_zero_or_pos l0.length with h | h
      · exact List.eq_nil_of_length_eq_zero h
      · obtain ⟨ad, e, _⟩ := hr0.2.2 h
        cases e
    subst hz
    clear hr0
    have heq := run_eql_slice_nil (P := Try.prog) w 52 3 none 0 c0 Try.underlying52
    rw [show (none : Option Addr).isNone = true from rfl] at heq
    go_enter Try.func53, Try.ntmps53
    go_wp2
    go_ret
    exact ⟨_, rfl, Kd.R_nil _ _ _ _ _, Below.refl _ _⟩
  | some ad =>
    have HR := Aside0.mk hr0
    clear hr0
    have heq := run_eql_slice_nil (P := Try.prog) w 52 3 (some ad) l0.length c0 Try.underlying52
    rw [show (some ad).isNone = false from rfl] at heq
    go_enter Try.func53, Try.ntmps53
    go_wp2_with (first
      | ((with_reducible refine gate_dst (N := 5) rfl ?_); refine Kd.R_lit (Kd.int .i64) _ 3 ?hg (N := 5) ?hd (xs := ([] : List Int)) (inner := []) (ok := fun _ => True) (okp := fun _ => True) ?hr ?hp (fun _ hk => hk) trivial (Below.refl _ _) (Nat.le_refl _) (by simp) ?_; (case hd => rfl); (case hg => rfl); (case hr => first | (go_simp; done) | (go_simp; rfl)); (case hp => exact (Reps.none _ _)); intro v1 w1 ho1 hb1 hg_ hnew_; clear hg_ hnew_; have HO1 := Aside0.mk ho1; have HB1 := Aside0.mk hb1; clear ho1 hb1)
      | ((with_reducible refine gate_builtin (b := .append) (xs := #[.tmp 5, .tmp 6]) rfl ?_); at_builtin; refine Kd.R_append_rows (Kd.int .i64) (w0 := w) w.heap.size rfl (.tmp 5) (.tmp 6) 52 3 (.int .i64 0) 8 rfl Try.underlying52 info3 rfl (by decide) (by omega) v1 [] l0 _ _ _ (fun _ => True) (fun _ => False) rfl rfl ?aO ?aR (fun _ _ h => h) (fun _ h => h.elim) ?aF ?aB ?aS ?aL ?_; (case aR => exact Kd.C_below HR.out HB1.out); (case aB => exact HB1.out); (case aF => exact (fun _ _ => trivial)); (case aO => exact HO1.out); (case aS => exact HB1.out.size); (case aL => simp; omega); intro v2 w2 ho2 hb2 hg hat; have HO2 := Aside0.mk ho2; have HB2 := Aside0.mk hb2; clear ho2 hb2 hg hat))
    go_ret
    exact ⟨_, rfl, HO2.out, HB2.out⟩
end Go.Proofs.Ytahimindlnkmoaa.Pr

namespace Go.Proofs.Ytahimindlnkmoaa.Pr
open Go.RowKit Go.Proofs.YtahimindlnkmoaaW.PrintWords Go.Proofs.YtahimindlnkmoaaW.PrintLast Go.Proofs.YtahimindlnkmoaaW.PrintMore
attribute [local go_sem] max2_int min2_int max_two min_two max_three min_three max_four min_four
set_option linter.unusedVariables false
set_option linter.unusedSimpArgs false
def impl_addTimes.l0 : Nat → List Int → Int → List Int → Int → Int → Option (List Int)
 | 0, _, _, _, _, _ => none
 | k + 1, x0, x2, x8, x9, x10 => if x10 < x9 then (if 0 ≤ x10 then (if x10 < (x8.length : Int) then (if x10 < (x0.length : Int) then ((impl_MulG.f k (rd x8 x10) x2).bind fun t436 => (impl_addTimes.l0 k (x0.set (x10 : Int).toNat (Go.bits .xor .i64 (rd x0 x10) t436)) x2 x8 x9 (wrap64 (x10 + 1)))) else (none)) else (none)) else (none)) else (some x0)
def impl_addTimes.f (k : Nat) (l0 : List Int) (l1 : List Int) (a2 : Int) : Option (List Int) := impl_addTimes.l0 k l0 a2 l1 (l1.length : Int) 0
theorem impl_addTimes.mono_l : ∀ k, (∀ y0 y1 y2 y3 y4, LeO (impl_addTimes.l0 k y0 y1 y2 y3 y4) (impl_addTimes.l0 (k + 1) y0 y1 y2 y3 y4))
 | 0 => fun _ _ _ _ _ r h => by simp [impl_addTimes.l0] at h
 | k + 1 => by
  have ih0 := impl_addTimes.mono_l k
  ·intro y0 y1 y2 y3 y4
   unfold impl_addTimes.l0
   repeat' first
   | (with_reducible exact ih0 _ _ _ _ _)
   | (with_reducible exact impl_MulG.mono _ _ _)
   | (with_reducible exact LeO.refl _)
   | (with_reducible exact LeO.none _)
   | (with_reducible refine LeO.ite ?_ ?_)
   | (with_reducible refine LeO.bind ?_ (fun _ => ?_))
   | exact ih0 _ _ _ _ _
   | exact impl_MulG.mono _ _ _
   | exact LeO.none _
   | refine LeO.ite ?_ ?_
   | refine LeO.bind ?_ (fun _ => ?_)
theorem impl_addTimes.mono : ∀ a0 a1 a2 k, LeO (impl_addTimes.f k a0 a1 a2) (impl_addTimes.f (k + 1) a0 a1 a2) := by
 intro a0 a1 a2 k
 have ih0 := impl_addTimes.mono_l k
 unfold impl_addTimes.f
 repeat' first
   | (with_reducible exact ih0 _ _ _ _ _)
   | (with_reducible exact impl_MulG.mono _ _ _)
   | (with_reducible exact LeO.refl _)
   | (with_reducible exact LeO.none _)
   | (with_reducible refine LeO.ite ?_ ?_)
   | (with_reducible refine LeO.bind ?_ (fun _ => ?_))
   | exact ih0 _ _ _ _ _
   | exact impl_MulG.mono _ _ _
   | exact LeO.none _
   | refine LeO.ite ?_ ?_
   | refine LeO.bind ?_ (fun _ => ?_)
def impl_addTimes.T3 : Bool × List (List Nat × List Nat) := (true, [([], []), ([], []), ([0, 1], [0, 1]), ([2], [2]), ([], []), ([], []), ([4, 5], [4, 5]), ([3, 6], [3, 6]), ([0, 1, 0, 1, 2, 3, 4, 5, 6, 7], [0, 1]), ([8, 7, 6, 0, 1, 2, 3, 4, 5, 6, 7], [7, 8])])
def impl_addTimes.B3 : List Nat := [0, 0, 3, 7, 0, 0, 48, 127, 255, 511]
theorem impl_addTimes.tab3 : rtab .any (opsOf Try.f55 3) = impl_addTimes.T3 := by kernel_rfl
theorem impl_addTimes.bits3 : waitsOk impl_addTimes.T3.2 impl_addTimes.B3 = true := by kernel_rfl
set_option maxHeartbeats 8000000 in
set_option maxRecDepth 100000 in
theorem impl_addTimes.calls (k : Nat) (P0_ : Nat → Prop) (u9000_ : Value) (l0 : List Int) (A1 : Option Addr) (c1 : Nat) (l1 : List Int) (a2 : Int) (r : List Int) (w0 w : World) (hB : Below w0.heap.size w0 w) (ho0 : Kd.R (Kd.int .i64) 3 w w0.heap.size P0_ u9000_ l0) (hr1 : ∀ W_, Kept w W_ (fun k_ => P0_ k_) → Kd.C (Kd.int .i64) W_ A1 l1.length l1) (hc1 : l1.length ≤ c1) (h : impl_addTimes.f k l0 l1 a2 = some r) :
  Calls Try.prog 55 #[u9000_, .slice A1 l1.length c1, .int .i64 a2] w fun e w' => e = .returned (.tuple #[]) ∧ Kd.R (Kd.int .i64) 3 w' w0.heap.size (fun k_ => (P0_ k_ ∨ w.heap.size ≤ k_)) u9000_ r ∧ Below w0.heap.size w0 w' ∧ Kept w w' (fun k_ => P0_ k_) := by
 have HO0 := Aside0.mk (show Kd.R (Kd.int .i64) 3 w w0.heap.size (fun k_ => (P0_ k_ ∨ w.heap.size ≤ k_)) u9000_ l0 from Kd.R_mono ho0 (fun k_ hk => (.inl hk)))
 have HR1 := Aside0.mk hr1
 have HC1 := Aside0.mk hc1
 clear hr1 hc1
 have HK := Aside0.mk (Kept.refl w (fun k_ => P0_ k_))
 have HW0 := Aside0.mk hB.size
 have HB := Aside0.mk hB
 clear hB
 have H : (impl_addTimes.l0 k l0 a2 l1 (l1.length : Int) 0) = some r := h
 clear h
 have H' := Aside0.mk H
 clear H
 go_enter Try.func55, Try.ntmps55
 go_wp2
 go_loopg [10] k (fun kq v10 w' => ∃ (x0_1 : List Int) (x10_1 : Int), v10 = .int .i64 x10_1 ∧ Aside0 (impl_addTimes.l0 kq x0_1 a2 l1 (l1.length : Int) x10_1 = some r) ∧ Aside0 (kq ≤ k) ∧ Aside0 (Kd.R (Kd.int .i64) 3 w' w0.heap.size (fun k_ => (P0_ k_ ∨ w.heap.size ≤ k_)) u9000_ x0_1) ∧ Aside0 (Kept w w' (fun k_ => P0_ k_)) ∧ Aside0 (Below w0.heap.size w0 w'))
 case atStart => exact ⟨(l0), (0), FR, H', ⟨Nat.le_refl _⟩, ⟨(RR HO0.out)⟩, ⟨by repeat (first | (with_reducible first | exact HK.out | apply Kept.alloc | apply Kept.drewN | apply Kept.drew) | exact HK.out)⟩, ⟨(BB HB.out)⟩⟩
 case round =>
  clear H'
  try clear c1
  try clear p2
  obtain ⟨x0_1, x10_1, rfl, HA, HK1, HO_0, HK, HB⟩ := hrel
  cases gk with
  | zero => exact absurd HA.out (by simp [impl_addTimes.l0])
  | succ k1 =>
   have H := HA.out
   clear HA
   simp only [impl_addTimes.l0] at H
   by_cases c4 : x10_1 < (l1.length : Int)
   ·rw [if_pos c4] at H
    have c4b0 : decide (x10_1 < (l1.length : Int)) = true := decide_eq_true c4
    clear c4
    by_cases c5 : 0 ≤ x10_1
    ·rw [if_pos c5] at H
     have c5b0 : decide (0 ≤ x10_1) = true := decide_eq_true c5
     clear c5
     by_cases c6 : x10_1 < (l1.length : Int)
     ·rw [if_pos c6] at H
      have c6b0 : decide (x10_1 < (l1.length : Int)) = true := decide_eq_true c6
      clear c6
      by_cases c7 : x10_1 < (x0_1.length : Int)
      ·rw [if_pos c7] at H
       have c7b0 : decide (x10_1 < (x0_1.length : Int)) = true := decide_eq_true c7
       clear c7
       replace H := Option.bind_eq_some_iff.mp H
       obtain ⟨t436, A80, H⟩ := H
       replace H : (impl_addTimes.l0 k1 (x0_1.set (x10_1 : Int).toNat (Go.bits .xor .i64 (rd x0_1 x10_1) t436)) a2 l1 (l1.length : Int) (wrap64 (x10_1 + 1))) = some r := H
       have A8 := Aside0.mk A80
       clear A80
       obtain ⟨y437, hy437⟩ : ∃ y_ : List Int, y_ = (x0_1.set (x10_1 : Int).toNat (Go.bits .xor .i64 (rd x0_1 x10_1) t436)) := ⟨_, rfl⟩
       replace H : (impl_addTimes.l0 k1 y437 a2 l1 (l1.length : Int) (wrap64 (x10_1 + 1))) = some r := by first | (rw [hy437]; with_reducible exact H) | (have H2_ := (Option.bind_some _ _).symm.trans H; rw [hy437]; with_reducible exact H2_) | (have H2_ := (Option.bind_some _ _).symm.trans H; with_reducible exact H2_) | with_reducible exact H | (rw [hy437]; exact H) | exact H
       have Ny437 := Aside0.mk hy437
       clear hy437
       have H' := Aside0.mk H
       clear H
       have p434 : 0 ≤ (x10_1 : Int) := DT
       have q434 : x10_1 < (l1.length : Int) := DT
       obtain ⟨ad434, e434, hx434_0⟩ := Kd.at_int (Kd.C_kept_now HR1.out HK.out) x10_1 p434 q434
       cases e434
       replace p434 := eq_true p434
       replace q434 := eq_true q434
       try go_wp2
       have n0_ := Aside0.mk (Kd.R_drew HO_0.out)
       have n1_ := Aside0.mk (Kept.drew HK.out)
       have n2_ := Aside0.mk (below_drew1 HB.out)
       clear HO_0
       clear HK
       clear HB
       have HO_0 := n0_
       have HK := n1_
       have HB := n2_
       clear n0_ n1_ n2_
       obtain ⟨Ao11, co11, eo11⟩ := Kd.R_slice HO_0.out
       (first | subst eo11 | (injection eo11 with f1_ f2_ f3_; have f4_ := f1_.symm; have f5_ := f3_.symm; clear f1_ f2_ f3_; subst f4_; subst f5_))
       have p435 : 0 ≤ (x10_1 : Int) := DT
       have q435 : x10_1 < (x0_1.length : Int) := DT
       obtain ⟨ad435, e435, hx435_0⟩ := Kd.at_int (Kd.R_reads' HO_0.out).2.2 x10_1 p435 q435
       cases e435
       replace p435 := eq_true p435
       replace q435 := eq_true q435
       refine start_ (n := 10) (S := fun w' => w'.cell? (ad435.add (x10_1).toNat) = some (.int .i64 (rd x0_1 x10_1))) (ds := [9]) #[false, false, false, false, false, false, false, false, false, false] (by kernel_rfl) rfl rfl (hx435_0) (fun hHeld => ?_); refine with_tabW impl_addTimes.tab3 impl_addTimes.bits3 (fun HT_ HW_ => ?_)
       generalize wr.drew = w10 at HO_0 HK HB hx435_0 hHeld ⊢
       refine pure_ (i := 0) (N := some 15) (v := ?_) (a' := ?_) #[true, false, false, false, false, false, false, false, false, false] rfl rfl (any_of HT_.out (by kernel_rfl)) (fun _ _ _ h => h) (Or.inl ⟨by rfl, ?_⟩) ?_ ?_
       rotate_left
       ·intro w'
        go_simp
        with_reducible rfl
       rotate_left
       ·simp only [Act.put, List.setIfInBounds_toArray, List.set_cons_zero, List.set_cons_succ, i64_w, i32_w]
        rfl
       refine pure_ (i := 1) (N := some 16) (v := ?_) (a' := ?_) #[true, true, false, false, false, false, false, false, false, false] rfl rfl (any_of HT_.out (by kernel_rfl)) (fun _ _ _ h => h) (Or.inl ⟨by rfl, ?_⟩) ?_ ?_
       rotate_left
       ·intro w'
        go_simp
        with_reducible rfl
       rotate_left
       ·simp only [Act.put, List.setIfInBounds_toArray, List.set_cons_zero, List.set_cons_succ, i64_w, i32_w]
        rfl
       refine pure_ (i := 2) (N := some 17) (v := ?_) (a' := ?_) #[true, true, true, false, false, false, false, false, false, false] rfl rfl (any_of HT_.out (by kernel_rfl)) (fun _ _ _ h => h) (Or.inl ⟨by rfl, ?_⟩) ?_ ?_
       rotate_left
       ·intro w'
        go_simp
        with_reducible rfl
       rotate_left
       ·simp only [Act.put, List.setIfInBounds_toArray, List.set_cons_zero, List.set_cons_succ, i64_w, i32_w]
        rfl
       refine pure_ (i := 4) (N := some 19) (v := ?_) (a' := ?_) #[true, true, true, false, true, false, false, false, false, false] rfl rfl (any_of HT_.out (by kernel_rfl)) (fun _ _ _ h => h) (Or.inl ⟨by rfl, ?_⟩) ?_ ?_
       rotate_left
       ·intro w'
        go_simp
        with_reducible rfl
       rotate_left
       ·simp only [Act.put, List.setIfInBounds_toArray, List.set_cons_zero, List.set_cons_succ, i64_w, i32_w]
        rfl
       refine pure_ (i := 5) (N := some 20) (v := ?_) (a' := ?_) #[true, true, true, false, true, true, false, false, false, false] rfl rfl (any_of HT_.out (by kernel_rfl)) (fun _ _ _ h => h) (Or.inl ⟨by rfl, ?_⟩) ?_ ?_
       rotate_left
       ·intro w'
        go_simp
        with_reducible rfl
       rotate_left
       ·simp only [Act.put, List.setIfInBounds_toArray, List.set_cons_zero, List.set_cons_succ, i64_w, i32_w]
        rfl
       refine take_ (i := 3) (N := some 18) (v := ?_) (a' := ?_) #[true, true, true, true, true, true, false, false, false, false] rfl rfl (take_ofW HT_.out HW_.out (by kernel_rfl)) (fun _ _ _ h => h) (Or.inl ⟨by rfl, ?_⟩) hHeld ?_ ?_
       rotate_left
       ·intro w' s0
        go_simp
        with_reducible rfl
       rotate_left
       ·simp only [Act.put, List.setIfInBounds_toArray, List.set_cons_zero, List.set_cons_succ, i64_w, i32_w]
        rfl
       refine one_ (i := 6) (N := some 21) #[true, true, true, true, true, true, true, false, false, false] rfl rfl (one_of HT_.out (by kernel_rfl)) (by decide) (fun K hK => ?_)
       refine goes_ Try.func66 (by kernel_rfl) rfl #[.int .i64 (rd l1 x10_1), .int .i64 a2] (by rfl) rfl rfl (by (try simp only [List.map_toArray, List.map_cons, List.map_nil]); first | done | rfl | (simp only [List.length_drop, List.length_take]; rfl)) ?_
       with_reducible refine (impl_MulG.calls k1 (rd l1 x10_1) a2 t436 _ A8.out).mono ?_
       rintro e w' ⟨rfl, ⟨nd, rfl⟩⟩
       refine ⟨_, rfl, ?_⟩
       have p9 : 0 ≤ (x10_1 : Int) := DT
       have q9 : (x10_1 : Int) < ((x0_1.length : Int) : Int) := DT
       obtain ⟨go9, co9, eo9, gb9, gl9, cl9, HG9⟩ := Kd.R_form HO_0.out (by omega)
       (first | cases eo9 | (injection eo9 with ea_ en_ ec_; (first | subst ea_ | (injection ea_ with ea_; subst ea_)); subst ec_; clear en_))
       have GB9 := Aside0.mk gb9
       have GG9 := Aside0.mk HG9
       clear gb9 gl9 HG9
       have HMgo9 := Aside0.mk (show (P0_ go9 ∨ w.heap.size ≤ go9) from (HO_0.out.1 _ rfl))
       (first | simp only [add_plain] at hx435_0 | skip)
       obtain ⟨hx9_0, hf9_0⟩ := Kd.R_celln 0 HO_0.out (x10_1 : Int) p9 q9
       replace p9 := eq_true p9
       replace q9 := eq_true q9
       have HP12 := Kd.R_putn HO_0.out (x10_1 : Int) (Go.bits .xor .i64 (rd x0_1 x10_1) t436)
       rw [← Ny437.out] at HP12
       have HQ12 := Aside0.mk HP12
       clear HP12
       refine hK.out _ _ (hHeld) (fun hHeld => ?_)
       clear hK K
       refine norm_ (a' := ?_) ?_ ?_
       rotate_left
       ·show Act.put _ (some 21) _ = _
        simp only [Act.put, List.setIfInBounds_toArray, List.set_cons_zero, List.set_cons_succ, i64_w, i32_w]
        rfl
       refine pure_ (i := 7) (N := some 22) (v := ?_) (a' := ?_) #[true, true, true, true, true, true, true, true, false, false] rfl rfl (any_of HT_.out (by kernel_rfl)) (fun _ _ _ h => h) (Or.inl ⟨by rfl, ?_⟩) ?_ ?_
       rotate_left
       ·intro w'
        go_simp
        with_reducible rfl
       rotate_left
       ·simp only [Act.put, List.setIfInBounds_toArray, List.set_cons_zero, List.set_cons_succ, i64_w, i32_w]
        rfl
       refine pure_ (i := 8) (N := some 23) (v := ?_) (a' := ?_) #[true, true, true, true, true, true, true, true, true, false] rfl rfl (any_of HT_.out (by kernel_rfl)) (fun _ _ _ h => h) (Or.inl ⟨by rfl, ?_⟩) ?_ ?_
       rotate_left
       ·intro w'
        go_simp
        with_reducible rfl
       rotate_left
       ·simp only [Act.put, List.setIfInBounds_toArray, List.set_cons_zero, List.set_cons_succ, i64_w, i32_w]
        rfl
       refine last_ (i := 9) (N := none) #[true, true, true, true, true, true, true, true, true, true] rfl rfl (one_of HT_.out (by kernel_rfl)) (by decide) (fun K hK => ?_)
       refine skip_ (w1 := ?_) (by rfl) rfl ?_ ?_
       rotate_left
       ·go_simp
        rfl
       refine hK.out _ _ ?_
       clear hK K
       refine done_ (done_of HT_.out (by kernel_rfl)) ?_
       try go_wp2
       go_roundg k1
       case measure => have := HK1.out; omega
       case rel => exact ⟨(y437), (wrap64 (x10_1 + 1)), FR, H', ⟨by have := HK1.out; omega⟩, ⟨(RR HQ12.out)⟩, ⟨by repeat (first | (with_reducible first | exact HK.out | apply Kept.alloc | apply Kept.drewN | apply Kept.drew | refine Kept.setCell ?_ HMgo9.out _) | exact HK.out)⟩, ⟨(BB1 HB.out GB9.out)⟩⟩
      ·rw [if_neg c7] at H
       exact absurd H (by simp)
     ·rw [if_neg c6] at H
      exact absurd H (by simp)
    ·rw [if_neg c5] at H
     exact absurd H (by simp)
   ·rw [if_neg c4] at H
    have c4b0 : decide (x10_1 < (l1.length : Int)) = false := decide_eq_false c4
    clear c4
    obtain rfl := Option.some.inj H
    go_wp2
    first | go_end0 | ((try simp only [Exit.inBlock, Exit.then]); refine bodyPost_ret (results_none rfl _ _ _) rfl ?_)
    exact ⟨ER, by (with_reducible repeat (first | apply Kd.R_alloc | apply Kd.R_drewN | apply Kd.R_drew)); exact HO_0.out, (BB HB.out), by repeat (first | (with_reducible first | exact HK.out | apply Kept.alloc | apply Kept.drewN | apply Kept.drew) | exact HK.out)⟩

end Go.Proofs.Ytahimindlnkmoaa.Pr

namespace Go.Proofs.Ytahimindlnkmoaa.Pr
open Go.RowKit Go.Proofs.YtahimindlnkmoaaW.PrintWords Go.Proofs.YtahimindlnkmoaaW.PrintLast Go.Proofs.YtahimindlnkmoaaW.PrintMore
attribute [local go_sem] max2_int min2_int max_two min_two max_three min_three max_four min_four
set_option linter.unusedVariables false
set_option linter.unusedSimpArgs false
def impl_InvG.l0 : Nat → Int → Int → Option (Int)
 | 0, _, _ => none
 | k + 1, x0, x3 => if x3 < 256 then ((impl_MulG.f k x0 x3).bind fun t419 => (if t419 = 1 then (some x3) else (impl_InvG.l0 k x0 (wrap64 (x3 + 1))))) else (some 0)
def impl_InvG.f (k : Nat) (a0 : Int) : Option (Int) := impl_InvG.l0 k a0 1
theorem impl_InvG.mono_l : ∀ k, (∀ y0 y1, LeO (impl_InvG.l0 k y0 y1) (impl_InvG.l0 (k + 1) y0 y1))
 | 0 => fun _ _ r h => by simp [impl_InvG.l0] at h
 | k + 1 => by
  have ih0 := impl_InvG.mono_l k
  ·intro y0 y1
   unfold impl_InvG.l0
   repeat' first
   | (with_reducible exact ih0 _ _)
   | (with_reducible exact impl_MulG.mono _ _ _)
   | (with_reducible exact LeO.refl _)
   | (with_reducible exact LeO.none _)
   | (with_reducible refine LeO.ite ?_ ?_)
   | (with_reducible refine LeO.bind ?_ (fun _ => ?_))
   | exact ih0 _ _
   | exact impl_MulG.mono _ _ _
   | exact LeO.none _
   | refine LeO.ite ?_ ?_
   | refine LeO.bind ?_ (fun _ => ?_)
theorem impl_InvG.mono : ∀ a0 k, LeO (impl_InvG.f k a0) (impl_InvG.f (k + 1) a0) := by
 intro a0 k
 have ih0 := impl_InvG.mono_l k
 unfold impl_InvG.f
 repeat' first
   | (with_reducible exact ih0 _ _)
   | (with_reducible exact impl_MulG.mono _ _ _)
   | (with_reducible exact LeO.refl _)
   | (with_reducible exact LeO.none _)
   | (with_reducible refine LeO.ite ?_ ?_)
   | (with_reducible refine LeO.bind ?_ (fun _ => ?_))
   | exact ih0 _ _
   | exact impl_MulG.mono _ _ _
   | exact LeO.none _
   | refine LeO.ite ?_ ?_
   | refine LeO.bind ?_ (fun _ => ?_)
set_option maxHeartbeats 8000000 in
set_option maxRecDepth 100000 in
theorem impl_InvG.calls (k : Nat) (a0 : Int) (r : Int) (w : World) (h : impl_InvG.f k a0 = some r) :
  Calls Try.prog 51 #[.int .i64 a0] w fun e w' => e = .returned (.int .i64 r) ∧ Drawn0 w w' := by
 have H : (impl_InvG.l0 k a0 1) = some r := h
 clear h
 have H' := Aside0.mk H
 clear H
 go_enter Try.func51, Try.ntmps51
 go_wp2
 go_loopg [3] k (fun kq v3 w' => ∃ (x3_1 : Int), v3 = .int .i64 x3_1 ∧ Aside0 (impl_InvG.l0 kq a0 x3_1 = some r) ∧ Aside0 (kq ≤ k) ∧ Drawn0 w w')
 case atStart => exact ⟨(1), FR, H', ⟨Nat.le_refl _⟩, by repeat (first | exact Drawn0.refl _ | apply Drawn0.step)⟩
 case round =>
  clear H'
  obtain ⟨x3_1, rfl, HA, HK1, ⟨m1, rfl⟩⟩ := hrel
  cases gk with
  | zero => exact absurd HA.out (by simp [impl_InvG.l0])
  | succ k1 =>
   have H := HA.out
   clear HA
   simp only [impl_InvG.l0] at H
   by_cases c2 : x3_1 < 256
   ·rw [if_pos c2] at H
    have c2b0 : decide (x3_1 < 256) = true := decide_eq_true c2
    clear c2
    replace H := Option.bind_eq_some_iff.mp H
    obtain ⟨t419, A30, H⟩ := H
    replace H : (if t419 = 1 then (some x3_1) else (impl_InvG.l0 k1 a0 (wrap64 (x3_1 + 1)))) = some r := H
    have A3 := Aside0.mk A30
    clear A30
    by_cases c4 : t419 = 1
    ·rw [if_pos c4] at H
     have c4b0 : (t419 == 1) = true := beq_iff_eq.mpr c4
     have c4b1 : (t419 != 1) = false := bne_eq_false_iff_eq.mpr c4
     clear c4
     obtain rfl := Option.some.inj H
     go_wp2_with (first | ((with_reducible refine gate_callee (f := 66) rfl ?_); refine GL (some 10) rfl rfl Try.func66 #[.int .i64 a0, .int .i64 x3_1] rfl ?_; (with_reducible refine (impl_MulG.calls k1 a0 x3_1 t419 _ A3.out).mono ?_); rintro e w' ⟨rfl, ⟨nd, rfl⟩⟩; refine ⟨_, rfl, ?_⟩))
     go_ret
     exact ⟨FR, by repeat (first | exact Drawn0.refl _ | apply Drawn0.step)⟩
    ·rw [if_neg c4] at H
     have c4b0 : (t419 == 1) = false := beq_eq_false_iff_ne.mpr c4
     have c4b1 : (t419 != 1) = true := bne_iff_ne.mpr c4
     have H' := Aside0.mk H
     clear H
     go_wp2_with (first | ((with_reducible refine gate_callee (f := 66) rfl ?_); refine GL (some 10) rfl rfl Try.func66 #[.int .i64 a0, .int .i64 x3_1] rfl ?_; (with_reducible refine (impl_MulG.calls k1 a0 x3_1 t419 _ A3.out).mono ?_); rintro e w' ⟨rfl, ⟨nd, rfl⟩⟩; refine ⟨_, rfl, ?_⟩))
     go_roundg k1
     case measure => have := HK1.out; omega
     case rel => exact ⟨(wrap64 (x3_1 + 1)), FR, H', ⟨by have := HK1.out; omega⟩, by repeat (first | exact Drawn0.refl _ | apply Drawn0.step)⟩
   ·rw [if_neg c2] at H
    have c2b0 : decide (x3_1 < 256) = false := decide_eq_false c2
    clear c2
    obtain rfl := Option.some.inj H
    go_wp2
    go_ret
    exact ⟨FR, by repeat (first | exact Drawn0.refl _ | apply Drawn0.step)⟩

end Go.Proofs.Ytahimindlnkmoaa.Pr

namespace Go.Proofs.Ytahimindlnkmoaa.Pr
open Go.RowKit Go.Proofs.YtahimindlnkmoaaW.PrintWords Go.Proofs.YtahimindlnkmoaaW.PrintLast Go.Proofs.YtahimindlnkmoaaW.PrintMore
attribute [local go_sem] max2_int min2_int max_two min_two max_three min_three max_four min_four
set_option linter.unusedVariables false
set_option linter.unusedSimpArgs false
def impl_OneM.l0 : Nat → Int → List (List Int) → Int → Option ((List (List Int)))
 | 0, _, _, _ => none
 | k + 1, x0, x3, x4 => if x4 < x0 then (if 0 ≤ x0 then (if (x0 : Int).toNat ≤ 35184372088832 then ((some (List.replicate (x0 : Int).toNat 0 : List Int)).bind fun y412 => (if 0 ≤ x4 then (if x4 < (y412.length : Int) then (if x3.length < 5864062014805 then (impl_OneM.l0 k x0 (x3 ++ [(y412.set (x4 : Int).toNat 1)]) (wrap64 (x4 + 1))) else (none)) else (none)) else (none))) else (none)) else (none)) else (some x3)
def impl_OneM.f (k : Nat) (a0 : Int) : Option ((List (List Int))) := (impl_within.f a0 1 8).bind fun t411 => (if t411 = true then (impl_OneM.l0 k a0 ([] : List (List Int)) 0) else (some ([] : List (List Int))))
theorem impl_OneM.mono_l : ∀ k, (∀ y0 y1 y2, LeO (impl_OneM.l0 k y0 y1 y2) (impl_OneM.l0 (k + 1) y0 y1 y2))
 | 0 => fun _ _ _ r h => by simp [impl_OneM.l0] at h
 | k + 1 => by
  have ih0 := impl_OneM.mono_l k
  ·intro y0 y1 y2
   unfold impl_OneM.l0
   repeat' first
   | (with_reducible exact ih0 _ _ _)
   | (with_reducible exact LeO.refl _)
   | (with_reducible exact LeO.none _)
   | (with_reducible refine LeO.ite ?_ ?_)
   | (with_reducible refine LeO.bind ?_ (fun _ => ?_))
   | exact ih0 _ _ _
   | exact LeO.none _
   | refine LeO.ite ?_ ?_
   | refine LeO.bind ?_ (fun _ => ?_)
theorem impl_OneM.mono : ∀ a0 k, LeO (impl_OneM.f k a0) (impl_OneM.f (k + 1) a0) := by
 intro a0 k
 have ih0 := impl_OneM.mono_l k
 unfold impl_OneM.f
 repeat' first
   | (with_reducible exact ih0 _ _ _)
   | (with_reducible exact LeO.refl _)
   | (with_reducible exact LeO.none _)
   | (with_reducible refine LeO.ite ?_ ?_)
   | (with_reducible refine LeO.bind ?_ (fun _ => ?_))
   | exact ih0 _ _ _
   | exact LeO.none _
   | refine LeO.ite ?_ ?_
   | refine LeO.bind ?_ (fun _ => ?_)
set_option maxHeartbeats 8000000 in
set_option maxRecDepth 100000 in
theorem impl_OneM.calls (k : Nat) (a0 : Int) (r : List (List Int)) (w : World) (h : impl_OneM.f k a0 = some r) :
  Calls Try.prog 50 #[.int .i64 a0] w fun e w' => ∃ v0_ : Value, e = .returned (v0_) ∧ Kd.S (Kd.slice 3 (Kd.int .i64)) 52 w' w.heap.size (fun _ => True) v0_ r ∧ Below w.heap.size w w' := by
 have HB := Aside0.mk (Below.refl w.heap.size w)
 have H : ((impl_within.f a0 1 8).bind fun t411 => (if t411 = true then (impl_OneM.l0 k a0 ([] : List (List Int)) 0) else (some ([] : List (List Int))))) = some r := h
 clear h
 replace H := Option.bind_eq_some_iff.mp H
 obtain ⟨t411, A20, H⟩ := H
 replace H : (if t411 = true then (impl_OneM.l0 k a0 ([] : List (List Int)) 0) else (some ([] : List (List Int)))) = some r := H
 have A2 := Aside0.mk A20
 clear A20
 by_cases c3 : t411 = true
 ·subst c3
  have H1 : (impl_OneM.l0 k a0 ([] : List (List Int)) 0) = some r := by rw [if_pos rfl] at H; exact H
  clear H
  have H := H1
  clear H1
  have H' := Aside0.mk H
  clear H
  go_enter Try.func50, Try.ntmps50
  go_wp2_with (first | ((with_reducible refine gate_callee (f := 33) rfl ?_); refine GL (some 7) rfl rfl Try.func33 #[.int .i64 a0, .int .i64 1, .int .i64 8] rfl ?_; (with_reducible refine (impl_within.calls a0 1 8 true _ A2.out).mono ?_); rintro e w' ⟨rfl, ⟨nd, rfl⟩⟩; refine ⟨_, rfl, ?_⟩))
  go_loopg [3, 4] k (fun kq v3 v4 w' => ∃ (x3_1 : List (List Int)) (x4_1 : Int), v4 = .int .i64 x4_1 ∧ Aside0 (impl_OneM.l0 kq a0 x3_1 x4_1 = some r) ∧ Aside0 (kq ≤ k) ∧ Aside0 (Kd.S (Kd.slice 3 (Kd.int .i64)) 52 w' w.heap.size (fun _ => True) v3 x3_1) ∧ Aside0 (Below w.heap.size w w'))
  case atStart => exact ⟨(([] : List (List Int))), (0), FR, H', ⟨Nat.le_refl _⟩, ⟨by first | exact Kd.S_nil _ _ _ _ _ | exact Kd.N_nil _ _ _ _ _ | exact Kd.V_nil _ _ _ _ _ | exact Kd.Q_nil _ _ _ _ _ | exact Kd.R_nil _ _ _ _ _⟩, ⟨(BB HB.out)⟩⟩
  case round =>
   clear H'
   try clear p2
   try clear c3
   obtain ⟨x3_1, x4_1, rfl, HA, HK1, HO_3, HB⟩ := hrel
   cases gk with
   | zero => exact absurd HA.out (by simp [impl_OneM.l0])
   | succ k1 =>
    have H := HA.out
    clear HA
    simp only [impl_OneM.l0] at H
    by_cases c4 : x4_1 < a0
    ·rw [if_pos c4] at H
     have c4b0 : decide (x4_1 < a0) = true := decide_eq_true c4
     clear c4
     by_cases c5 : 0 ≤ a0
     ·rw [if_pos c5] at H
      have c5b0 := eq_true c5
      have c5b1 : decide (0 ≤ a0) = true := decide_eq_true c5
      clear c5
      by_cases c6 : (a0 : Int).toNat ≤ 35184372088832
      ·rw [if_pos c6] at H
       have c6b0 := eq_true c6
       have c6b1 : decide ((a0 : Int).toNat ≤ 35184372088832) = true := decide_eq_true c6
       clear c6
       obtain ⟨y412, hy412⟩ : ∃ y_ : List Int, y_ = (List.replicate (a0 : Int).toNat 0) := ⟨_, rfl⟩
       replace H : (if 0 ≤ x4_1 then (if x4_1 < (y412.length : Int) then (if x3_1.length < 5864062014805 then (impl_OneM.l0 k1 a0 (x3_1 ++ [(y412.set (x4_1 : Int).toNat 1)]) (wrap64 (x4_1 + 1))) else (none)) else (none)) else (none)) = some r := by first | (rw [hy412]; with_reducible exact H) | (have H2_ := (Option.bind_some _ _).symm.trans H; rw [hy412]; with_reducible exact H2_) | (have H2_ := (Option.bind_some _ _).symm.trans H; with_reducible exact H2_) | with_reducible exact H | (rw [hy412]; exact H) | exact H
       have Ny412 := Aside0.mk hy412
       clear hy412
       by_cases c7 : 0 ≤ x4_1
       ·rw [if_pos c7] at H
        have c7b0 : decide (0 ≤ x4_1) = true := decide_eq_true c7
        clear c7
        by_cases c8 : x4_1 < (y412.length : Int)
        ·rw [if_pos c8] at H
         have c8b0 : decide (x4_1 < (y412.length : Int)) = true := decide_eq_true c8
         clear c8
         obtain ⟨y415, hy415⟩ : ∃ y_ : List Int, y_ = (y412.set (x4_1 : Int).toNat 1) := ⟨_, rfl⟩
         replace H : (if x3_1.length < 5864062014805 then (impl_OneM.l0 k1 a0 (x3_1 ++ [y415]) (wrap64 (x4_1 + 1))) else (none)) = some r := by first | (rw [hy415]; with_reducible exact H) | (have H2_ := (Option.bind_some _ _).symm.trans H; rw [hy415]; with_reducible exact H2_) | (have H2_ := (Option.bind_some _ _).symm.trans H; with_reducible exact H2_) | with_reducible exact H | (rw [hy415]; exact H) | exact H
         have Ny415 := Aside0.mk hy415
         clear hy415
         by_cases c10 : x3_1.length < 5864062014805
         ·rw [if_pos c10] at H
          have LMc10 := Aside0.mk c10
          clear c10
          obtain ⟨y416, hy416⟩ : ∃ y_ : List (List Int), y_ = (x3_1 ++ [y415]) := ⟨_, rfl⟩
          replace H : (impl_OneM.l0 k1 a0 y416 (wrap64 (x4_1 + 1))) = some r := by first | (rw [hy416]; with_reducible exact H) | (have H2_ := (Option.bind_some _ _).symm.trans H; rw [hy416]; with_reducible exact H2_) | (have H2_ := (Option.bind_some _ _).symm.trans H; with_reducible exact H2_) | with_reducible exact H | (rw [hy416]; exact H) | exact H
          have Ny416 := Aside0.mk hy416
          clear hy416
          have H' := Aside0.mk H
          clear H
          go_wp2_with (first | ((with_reducible refine gate_dst (N := 15) rfl ?_); refine Kd.R_make (Kd.int .i64) _ 3 rfl (N := 15) rfl 52 _ _ rfl a0 rfl rfl Try.underlying52 (.int .i64 0) 8 info3 rfl (by decide) (by omega) 0 (ok := fun _ => True) (okp := fun _ => True) rfl (fun _ hk => hk) trivial DT (Nat.le_trans (Nat.mul_le_mul_right _ (DT : a0.toNat ≤ 35184372088832)) (by omega)) (Below.refl _ _) (Nat.le_refl _) ?_; intro v413 w11 ho12 hb hg_ hnew_; clear hg_ hnew_; (first | rw [← Ny412.out] at ho12 | (simp only [Int.reduceToNat] at ho12; rw [← Ny412.out] at ho12)); have HO414 := Aside0.mk (Kd.R_lower ho12 (below_size (BB HB.out))); replace HO_3 := Aside0.mk (Kd.S_elder' (SS HO_3.out) (Kd.R_base ho12) hb); replace HB := Aside0.mk (below_step (BB HB.out) hb); clear hb ho12; have p9 : 0 ≤ (x4_1 : Int) := DT; have q9 : (x4_1 : Int) < ((y412.length : Int) : Int) := DT; obtain ⟨go9, co9, eo9, gb9, gl9, cl9, HG9⟩ := Kd.R_form HO414.out (by omega); (first | cases eo9 | (injection eo9 with ea_ en_ ec_; (first | subst ea_ | (injection ea_ with ea_; subst ea_)); subst ec_; clear en_)); have GB9 := Aside0.mk gb9; have GG9 := Aside0.mk HG9; clear gb9 gl9 HG9; obtain ⟨hx9_0, hf9_0⟩ := Kd.R_celln 0 HO414.out (x4_1 : Int) p9 q9; replace p9 := eq_true p9; replace q9 := eq_true q9; obtain ⟨hy13_, hz13_⟩ := Kd.R_celln 0 HO414.out (x4_1 : Int) DT DT; have HP13 := Kd.R_putg HO414.out (x4_1 : Int) 1) | ((with_reducible refine gate_store (t := 3) (p := 18) rfl ?_); refine store_event (t := 3) (p := 18) (v := ?vo_w14) (w1 := (w11.setCell ⟨go9, (x4_1 : Int).toNat, none⟩ (.int .i64 1))) ?hg ?ho ?hn ?hr ?_; (case ho => rfl); (case hg => rfl); (case hn => rfl); (case hr => first | (go_simp; done) | (go_simp; rfl)); intro w14 hw; have hg : w11.grownBy w14 (some go9) := (by rw [hw]; exact HP13.2); have hp_ : Kd.R (Kd.int .i64) 3 w14 w.heap.size (fun _ => True) (.slice (some ⟨go9, 0, none⟩) y412.length co9) y415 := (by rw [hw, Ny415.out]; exact HP13.1); clear HP13; have n0_ := Aside0.mk (Kd.S_after (v := (.slice (some ⟨go9, 0, none⟩) y412.length co9)) (v1 := (.slice (some ⟨go9, 0, none⟩) y412.length co9)) (ok := (fun _ => True)) (SS HO_3.out) hg (.inl rfl)); have n1_ := Aside0.mk (hp_); have n2_ := Aside0.mk ((by rw [hw]; exact below_set (HB.out) GB9.out : Below w.heap.size w w14)); clear HO_3; clear HO414; clear HB; have HO_3 := n0_; have HO414 := n1_; have HB := n2_; clear n0_ n1_ n2_; clear hg hw hp_) | ((with_reducible refine gate_builtin (b := .append) (xs := #[.tmp 19, .tmp 21]) rfl ?_); at_builtin; refine Kd.S_append (Kd.slice 3 (Kd.int .i64)) (w0 := w) w.heap.size rfl (.tmp 19) (.tmp 21) 50 52 (.slice none 0 0) 24 rfl Try.underlying50 info52 rfl (by decide) (by omega) u3 x3_1 y415 [.slice (some ⟨go9, 0, none⟩) y412.length co9] (fun _ => True) (fun k_ => some k_ = (.slice (some ⟨go9, 0, none⟩) y412.length co9 : Value).ownBlock) rfl rfl ?aP (fun k_ hk_ => ((Kd.R_mono (ok' := fun k_ => ((fun _ => True)) k_ ∧ some k_ ≠ (u3 : Value).ownBlock) (Kd.R_apart' (HO414.out) (Kd.S_typed HO_3.out) (by decide)) (fun k_ hk => ⟨trivial, hk.2⟩))).1 k_ hk_.symm) ?aF ?aO ?aB ?aS ?aL ?_; (case aP => exact Kd.M_row (Kd.R_mono (Kd.R_tight rfl (Kd.R_mono (ok' := fun k_ => ((fun _ => True)) k_ ∧ some k_ ≠ (u3 : Value).ownBlock) (Kd.R_apart' (HO414.out) (Kd.S_typed HO_3.out) (by decide)) (fun k_ hk => ⟨trivial, hk.2⟩))) (fun _ h_ => h_))); (case aB => exact (BB HB.out)); (case aF => exact (fun _ _ => trivial)); (case aO => exact (by (with_reducible repeat (first | apply Kd.S_alloc | apply Kd.S_drewN | apply Kd.S_drew)); exact Kd.S_mono HO_3.out (fun k_ hk => ⟨trivial, fun e_ => hk.2 e_⟩))); (case aS => exact (below_size (BB HB.out))); (case aL => have := LMc10.out; omega); intro v417 w15 ho hb hg hat; rw [← Ny416.out] at ho; have HO418 := Aside0.mk (ho); replace HB := Aside0.mk (hb); clear HO_3; clear HO414; clear ho hb hg hat))
          go_roundg k1
          case measure => have := HK1.out; omega
          case rel => exact ⟨(y416), (wrap64 (x4_1 + 1)), FR, H', ⟨by have := HK1.out; omega⟩, ⟨(SS HO418.out)⟩, ⟨(BB HB.out)⟩⟩
         ·rw [if_neg c10] at H
          exact absurd H (by simp)
        ·rw [if_neg c8] at H
         exact absurd H (by simp)
       ·rw [if_neg c7] at H
        exact absurd H (by simp)
      ·rw [if_neg c6] at H
       exact absurd H (by simp)
     ·rw [if_neg c5] at H
      exact absurd H (by simp)
    ·rw [if_neg c4] at H
     have c4b0 : decide (x4_1 < a0) = false := decide_eq_false c4
     clear c4
     obtain rfl := Option.some.inj H
     go_wp2
     go_ret
     exact ⟨_, ER, by (with_reducible repeat (first | apply Kd.S_alloc | apply Kd.S_drewN | apply Kd.S_drew)); exact HO_3.out, (BB HB.out)⟩
 ·replace c3 := Bool.eq_false_iff.mpr c3
  subst c3
  have H1 : (some ([] : List (List Int))) = some r := by rw [if_neg (show ¬ (false = true) by decide)] at H; exact H
  clear H
  have H := H1
  clear H1
  obtain rfl := Option.some.inj H
  go_enter Try.func50, Try.ntmps50
  go_wp2_with (first | ((with_reducible refine gate_callee (f := 33) rfl ?_); refine GL (some 7) rfl rfl Try.func33 #[.int .i64 a0, .int .i64 1, .int .i64 8] rfl ?_; (with_reducible refine (impl_within.calls a0 1 8 false _ A2.out).mono ?_); rintro e w' ⟨rfl, ⟨nd, rfl⟩⟩; refine ⟨_, rfl, ?_⟩))
  go_ret
  exact ⟨_, ER, by first | exact Kd.S_nil _ _ _ _ _ | exact Kd.N_nil _ _ _ _ _ | exact Kd.V_nil _ _ _ _ _ | exact Kd.Q_nil _ _ _ _ _ | exact Kd.R_nil _ _ _ _ _, (BB HB.out)⟩

end Go.Proofs.Ytahimindlnkmoaa.Pr
