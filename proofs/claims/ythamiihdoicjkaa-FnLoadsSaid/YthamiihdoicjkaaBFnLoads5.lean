/- A part of the proof of the law FnLoads: its texts, one behind the other. -/
import Derived.Sort.OwnSortedInts
import Derived.Test.YthamiihdoicjkaaBFnLoads1
import Derived.Test.YthamiihdoicjkaaBFnLoads2
import Derived.Test.YthamiihdoicjkaaBFnLoads3
import Derived.Test.YthamiihdoicjkaaBFnLoads4
set_option linter.unusedVariables false
set_option linter.unusedSimpArgs false
namespace Go.Proofs.Ythamiihdoicjkaa.Pu
open Go.Sort
variable {α : Type} [Inhabited α] {lt : α → α → Bool}
omit [Inhabited α] in
theorem le_lt (hO : SWO lt) {x y z : α} (h : lt y x = false) (k : lt y z = true) : lt x z = true := by
 cases c : lt x z with
 | true => rfl
 | false =>
  have := hO.ntrans y x z h c
  rw [k] at this
  cases this
omit [Inhabited α] in
theorem lt_le (hO : SWO lt) {x y z : α} (h : lt x y = true) (k : lt z y = false) : lt x z = true := by
 cases c : lt x z with
 | true => rfl
 | false =>
  have := hO.ntrans x z y c k
  rw [h] at this
  cases this
def frontGet (a k : Nat) (d : Array α) (x : Nat) : α := if a ≤ x ∧ x < k then d[x + 1]! else if x = k then d[a]! else d[x]!
theorem front_start (a : Nat) (d : Array α) (x : Nat) : d[x]! = frontGet a a d x := by
 unfold frontGet
 rw [if_neg (by omega)]
 by_cases h : x = a
 ·rw [if_pos h, h]
 ·rw [if_neg h]
theorem front_step (a k : Nat) (d dk : Array α) (hak : a ≤ k) (hk : k + 1 < dk.size) (h : ∀ x, dk[x]! = frontGet a k d x) (x : Nat) : (swp dk k (k + 1))[x]! = frontGet a (k + 1) d x := by
 rw [swp_get dk (by omega) hk]
 unfold frontGet
 by_cases h1 : x = k + 1
 ·subst h1
  rw [if_pos rfl, if_neg (by omega), if_pos rfl, h, frontGet, if_neg (by omega), if_pos rfl]
 ·rw [if_neg h1]
  by_cases h2 : x = k
  ·subst h2
   rw [if_pos rfl, if_pos (by omega), h, frontGet, if_neg (by omega), if_neg (by omega)]
  ·rw [if_neg h2, h, frontGet]
   by_cases h3 : a ≤ x ∧ x < k
   ·rw [if_pos h3, if_pos (by omega)]
   ·rw [if_neg h3, if_neg (by omega), if_neg (by omega), if_neg (by omega)]
theorem front_sorted (hO : SWO lt) (a b i : Nat) (d dk : Array α) (hi : a + 1 ≤ i) (hib : i ≤ b) (hs : SortedIn lt (a + 1) b d) (h1 : ∀ q, a + 1 ≤ q → q < i → lt d[q]! d[a]! = true) (h2 : ∀ q, i ≤ q → q < b → lt d[q]! d[a]! = false) (hg : ∀ x, dk[x]! = frontGet a (i - 1) d x) : SortedIn lt a b dk := by
 intro p q hap hpq hqb
 rw [hg, hg]
 unfold frontGet
 by_cases c1 : a ≤ q ∧ q < i - 1
 ·rw [if_pos c1, if_pos (by omega)]
  exact hs _ _ (by omega) (by omega) (by omega)
 ·rw [if_neg c1]
  by_cases c2 : q = i - 1
  ·rw [if_pos c2, if_pos (by omega)]
   exact hO.asymmA (h1 _ (by omega) (by omega))
  ·rw [if_neg c2]
   by_cases c3 : a ≤ p ∧ p < i - 1
   ·rw [if_pos c3]
    exact hs _ _ (by omega) (by omega) hqb
   ·rw [if_neg c3]
    by_cases c4 : p = i - 1
    ·rw [if_pos c4]
     exact h2 _ (by omega) hqb
    ·rw [if_neg c4]
     exact hs _ _ (by omega) hpq hqb
def backGet (m k : Nat) (d : Array α) (x : Nat) : α := if k < x ∧ x ≤ m then d[x - 1]! else if x = k then d[m]! else d[x]!
theorem back_start (m : Nat) (d : Array α) (x : Nat) : d[x]! = backGet m m d x := by
 unfold backGet
 rw [if_neg (by omega)]
 by_cases h : x = m
 ·rw [if_pos h, h]
 ·rw [if_neg h]
theorem back_step (m k : Nat) (d dk : Array α) (hk0 : 0 < k) (hkm : k ≤ m) (hk : m < dk.size) (h : ∀ x, dk[x]! = backGet m k d x) (x : Nat) : (swp dk k (k - 1))[x]! = backGet m (k - 1) d x := by
 rw [swp_get dk (by omega) (by omega)]
 unfold backGet
 by_cases h1 : x = k - 1
 ·subst h1
  rw [if_pos rfl, if_neg (by omega), if_pos rfl, h, backGet, if_neg (by omega), if_pos rfl]
 ·rw [if_neg h1]
  by_cases h2 : x = k
  ·subst h2
   rw [if_pos rfl, if_pos (by omega), h, backGet, if_neg (by omega), if_neg (by omega)]
  ·rw [if_neg h2, h, backGet]
   by_cases h3 : k < x ∧ x ≤ m
   ·rw [if_pos h3, if_pos (by omega)]
   ·rw [if_neg h3, if_neg (by omega), if_neg (by omega), if_neg (by omega)]
theorem back_sorted (hO : SWO lt) (a m i : Nat) (d dk : Array α) (hi : a ≤ i) (him : i ≤ m) (hs : SortedIn lt a m d) (h1 : ∀ q, a ≤ q → q < i → lt d[m]! d[q]! = false) (h2 : ∀ q, i ≤ q → q < m → lt d[m]! d[q]! = true) (hg : ∀ x, dk[x]! = backGet m i d x) : SortedIn lt a (m + 1) dk := by
 intro p q hap hpq hqb
 rw [hg, hg]
 unfold backGet
 by_cases c1 : i < q ∧ q ≤ m
 ·rw [if_pos c1]
  by_cases c2 : i < p ∧ p ≤ m
  ·rw [if_pos c2]
   exact hs _ _ (by omega) (by omega) (by omega)
  ·rw [if_neg c2]
   by_cases c3 : p = i
   ·rw [if_pos c3]
    exact hO.asymmA (h2 _ (by omega) (by omega))
   ·rw [if_neg c3]
    by_cases c4 : p = q - 1
    ·exact absurd c4 (by omega)
    ·exact hs _ _ hap (by omega) (by omega)
 ·rw [if_neg c1, if_neg (show ¬ (i < p ∧ p ≤ m) by omega), if_neg (show ¬ p = i by omega)]
  by_cases c3 : q = i
  ·rw [if_pos c3]
   exact h1 _ hap (by omega)
  ·rw [if_neg c3]
   exact hs _ _ hap hpq (by omega)
structure Cut (lt : α → α → Bool) (a m b mid lo hi st en : Nat) (d : Array α) : Prop where
 ham : a < m
 hmb : m < b
 hmid : mid = (a + b) / 2
 hlh : (mid < m ∧ lo = mid + m - b ∧ hi = mid) ∨ (m ≤ mid ∧ lo = a ∧ hi = m)
 h1 : lo ≤ st
 h2 : st ≤ hi
 hen : en = mid + m - st
 low : ∀ c, lo ≤ c → c < st → lt d[mid + m - 1 - c]! d[c]! = false
 high : ∀ c, st ≤ c → c < hi → lt d[mid + m - 1 - c]! d[c]! = true
theorem Cut.mono (hO : SWO lt) {a m b mid lo hi : Nat} {d : Array α} (ham : a < m) (hmb : m < b) (hmid : mid = (a + b) / 2) (hlh : (mid < m ∧ lo = mid + m - b ∧ hi = mid) ∨ (m ≤ mid ∧ lo = a ∧ hi = m))
  (s1 : SortedIn lt a m d) (s2 : SortedIn lt m b d) (c c' : Nat) (h1 : lo ≤ c) (h2 : c ≤ c') (h3 : c' < hi) (h : lt d[mid + m - 1 - c]! d[c]! = true) : lt d[mid + m - 1 - c']! d[c']! = true := by
 rcases Nat.lt_or_eq_of_le h2 with h2 | rfl
 ·have e1 : lt d[mid + m - 1 - c]! d[mid + m - 1 - c']! = false := s2 _ _ (by omega) (by omega) (by omega)
  have e2 : lt d[c']! d[c]! = false := s1 _ _ (by omega) h2 (by omega)
  exact lt_le hO (le_lt hO e1 h) e2
 ·exact h
theorem Cut.bounds {a m b mid lo hi st en : Nat} {d : Array α} (C : Cut lt a m b mid lo hi st en d) : a ≤ st ∧ st ≤ m ∧ st ≤ mid ∧ m ≤ en ∧ en ≤ b ∧ mid ≤ en ∧ en - m = mid - st := by
 have := C.hlh
 have := C.h1
 have := C.h2
 have := C.hen
 have := C.hmid
 have := C.ham
 have := C.hmb
 omega
theorem Cut.cross (hO : SWO lt) {a m b mid lo hi st en : Nat} {d d1 : Array α} (C : Cut lt a m b mid lo hi st en d) (s1 : SortedIn lt a m d) (s2 : SortedIn lt m b d) (hg : ∀ k, d1[k]! = rotGet m (m - st) (en - m) d k) :
  SortedIn lt a st d1 ∧ SortedIn lt st mid d1 ∧ SortedIn lt mid en d1 ∧ SortedIn lt en b d1 ∧ ∀ x y, a ≤ x → x < mid → mid ≤ y → y < b → lt d1[y]! d1[x]! = false := by
 obtain ⟨b1, b2, b3, b4, b5, b6, b7⟩ := C.bounds
 have hlh := C.hlh
 have g1 : ∀ x, x < st → d1[x]! = d[x]! := fun x hx => by rw [hg, rotGet, if_neg (by omega), if_neg (by omega)]
 have g2 : ∀ x, st ≤ x → x < mid → d1[x]! = d[x + (m - st)]! := fun x h1 h2 => by rw [hg, rotGet, if_pos (by omega)]
 have g3 : ∀ x, mid ≤ x → x < en → d1[x]! = d[x - (en - m)]! := fun x h1 h2 => by rw [hg, rotGet, if_neg (by omega), if_pos (by omega)]
 have g4 : ∀ x, en ≤ x → d1[x]! = d[x]! := fun x hx => by rw [hg, rotGet, if_neg (by omega), if_neg (by omega)]
 refine ⟨fun p q h1 h2 h3 => ?_, fun p q h1 h2 h3 => ?_, fun p q h1 h2 h3 => ?_, fun p q h1 h2 h3 => ?_, fun x y h1 h2 h3 h4 => ?_⟩
 ·rw [g1 q h3, g1 p (by omega)]
  exact s1 _ _ h1 h2 (by omega)
 ·rw [g2 q (by omega) h3, g2 p h1 (by omega)]
  exact s2 _ _ (by omega) (by omega) (by omega)
 ·rw [g3 q (by omega) h3, g3 p h1 (by omega)]
  exact s1 _ _ (by omega) (by omega) (by omega)
 ·rw [g4 q (by omega), g4 p h1]
  exact s2 _ _ (by omega) h2 h3
 ·by_cases hx : x < st
  ·rw [g1 x hx]
   by_cases hy : y < en
   ·rw [g3 y h3 hy]
    exact s1 _ _ h1 (by omega) (by omega)
   ·rw [g4 y (by omega)]
    have hlo : lo < st := by
     have := C.h1
     have := C.hen
     rcases Nat.lt_or_eq_of_le C.h1 with h | h
     ·exact h
     ·exfalso
      omega
    have e := C.low (st - 1) (by omega) (by omega)
    rw [show mid + m - 1 - (st - 1) = en by have := C.hen; omega] at e
    have e1 : lt d[y]! d[st - 1]! = false := by
     rcases Nat.lt_or_eq_of_le (show en ≤ y by omega) with h | h
     ·exact hO.ntrans _ _ _ (s2 _ _ (by omega) h h4) e
     ·rw [← h]
      exact e
    rcases Nat.lt_or_eq_of_le (show x ≤ st - 1 by omega) with h | h
    ·exact hO.ntrans _ _ _ e1 (s1 _ _ h1 h (by omega))
    ·rw [h]
     exact e1
  ·rw [g2 x (by omega) h2]
   by_cases hy : y < en
   ·rw [g3 y h3 hy]
    have hhi : st < hi := by
     rcases Nat.lt_or_eq_of_le C.h2 with h | h
     ·exact h
     ·exfalso
      have := C.hen
      omega
    have e := hO.asymmA (C.high st (Nat.le_refl _) hhi)
    rw [show mid + m - 1 - st = en - 1 by have := C.hen; omega] at e
    have e1 : lt d[st]! d[x + (m - st)]! = false := by
     rcases Nat.lt_or_eq_of_le (show x + (m - st) ≤ en - 1 by omega) with h | h
     ·exact hO.ntrans _ _ _ e (s2 _ _ (by omega) h (by omega))
     ·rw [h]
      exact e
    rcases Nat.lt_or_eq_of_le (show st ≤ y - (en - m) by omega) with h | h
    ·exact hO.ntrans _ _ _ (s1 _ _ (by omega) h (by omega)) e1
    ·rw [← h]
     exact e1
   ·rw [g4 y (by omega)]
    exact s2 _ _ (by omega) (by omega) h4
theorem halves_sorted {a mid b : Nat} {d1 d2 d3 : Array α} (ham : a ≤ mid) (hmb : mid ≤ b) (hb : b ≤ d1.size) (hc : ∀ x y, a ≤ x → x < mid → mid ≤ y → y < b → lt d1[y]! d1[x]! = false)
  (p1 : PermIn a mid d1 d2) (t1 : SortedIn lt a mid d2) (p2 : PermIn mid b d2 d3) (t2 : SortedIn lt mid b d3) : PermIn a b d1 d3 ∧ SortedIn lt a b d3 := by
 have hs2 := p1.1
 have c1 : ∀ y, mid ≤ y → y < b → ∀ x, a ≤ x → x < mid → lt d2[y]! d2[x]! = false := by
  intro y h3 h4
  have := permIn_all d1 d2 a mid (fun v => lt d2[y]! v = false) (by omega) p1 (fun x h1 h2 => by
   show lt d2[y]! d1[x]! = false
   rw [p1.2.1 y (.inr h3)]
   exact hc x y h1 h2 h3 h4)
  exact this
 have c2 : ∀ y, mid ≤ y → y < b → ∀ x, a ≤ x → x < mid → lt d3[y]! d2[x]! = false := by
  intro y h3 h4 x h1 h2
  exact permIn_all d2 d3 mid b (fun v => lt v d2[x]! = false) (by omega) p2 (fun y h3 h4 => c1 y h3 h4 x h1 h2) y h3 h4
 refine ⟨permIn_trans _ _ _ _ _ (permIn_mono _ _ _ _ a b (Nat.le_refl _) hmb hb p1) (permIn_mono _ _ _ _ a b ham (Nat.le_refl _) (by omega) p2), fun p q h1 h2 h3 => ?_⟩
 by_cases hq : q < mid
 ·rw [p2.2.1 q (.inl hq), p2.2.1 p (.inl (by omega))]
  exact t1 _ _ h1 h2 hq
 ·by_cases hp : p < mid
  ·rw [p2.2.1 p (.inl hp)]
   exact c2 q (by omega) h3 p h1 hp
  ·exact t2 _ _ (by omega) h2 h3
end Go.Proofs.Ythamiihdoicjkaa.Pu
namespace Go.Proofs.Ythamiihdoicjkaa.Pr
open Go.RowKit Go.Proofs.YthamiihdoicjkaaW.PrintWords Go.Proofs.YthamiihdoicjkaaW.PrintLast Go.Proofs.YthamiihdoicjkaaW.PrintMore
open Go.Shelf Go.Lib Go.Sort Go.Proofs.Ythamiihdoicjkaa.Pu
set_option maxHeartbeats 16000000 in
set_option maxRecDepth 1000000 in
theorem symMa {α : Type} [Inhabited α] (enc : α → Value) (cf : α → α → Int) (hO : SWO (ltOf cf)) (g : Nat) (cb : Array Value) (blk off cap : Nat) (d0 : Array α) (w0 : World) (R : Row1 enc w0 blk off d0) (eg : ∀ args w, (callFunc g args).run Try.prog w = .ok (.enter g args) w) (hcmp : CmpLays1 Try.prog g cb enc cf blk off d0.size w0) (hsz0 : d0.size < 4611686018427387904) (a m b : Nat) (d : Array α) (w : World) (hs : d0.size = d.size) (S : SW enc w0 blk off d w) (ham : a < m) (hmb : m < b) (hb : b ≤ d.size) (s1 : SortedIn (ltOf cf) a m d) (s2 : SortedIn (ltOf cf) m b d) (c1 : m ≤ a + 1) :
  Calls Try.prog 100 #[.slice (some ⟨blk, off, none⟩) d.size cap, .int .i64 a, .int .i64 m, .int .i64 b, .func (.func g) #[] cb] w fun e w' => e = .returned (.tuple #[]) ∧ ∃ d', SW enc w0 blk off d' w' ∧ PermIn a b d d' ∧ SortedIn (ltOf cf) a b d' := by
 have mixed : Try.prog.follows .mixedOrders = true := by kernel_rfl
 have u51 := Try.underlying27
 have hcl0 := R.hO.cells
 simp only [Value.cells] at hcl0
 have hst := R.hO.store Try.prog
 have hsz : d.size < 4611686018427387904 := by omega
 have egs : ∀ args w, (callFunc 100 args).run Try.prog w = .ok (.enter 100 args) w := enters_of Try.func100 (by kernel_rfl) rfl
 have egr : ∀ args w, (callFunc 117 args).run Try.prog w = .ok (.enter 117 args) w := enters_of Try.func117 (by kernel_rfl) rfl
 have HC := AM hcmp
 have HS := AM S
 have T1 := AM s1
 have T2 := AM s2
 clear hcmp S s1 s2
 have wma : IntKind.i64.wrap ((m : Int) - (a : Int)) = (m : Int) - (a : Int) := by rw [IntKind.wrap_i64]; omega
 have wbm : IntKind.i64.wrap ((b : Int) - (m : Int)) = (b : Int) - (m : Int) := by rw [IntKind.wrap_i64]; omega
 go_enter Try.func100, Try.ntmps100
 have hez : ((m : Int) - (a : Int) == 1) = true := by simp; omega
 go_wp2
 go_loopg [10, 11, 12] (b - m) (fun gg s10 s11 _ wr => ∃ i j : Nat, s10 = .int .i64 i ∧ s11 = .int .i64 j ∧ m ≤ i ∧ i ≤ j ∧ j ≤ b ∧ j - i ≤ gg ∧ Aside0 (SW enc w0 blk off d wr) ∧ Aside0 ((∀ q, m ≤ q → q < i → ltOf cf d[q]! d[a]! = true) ∧ (∀ q, j ≤ q → q < b → ltOf cf d[q]! d[a]! = false)))
 case atStart => exact ⟨m, b, rfl, rfl, Nat.le_refl _, by omega, Nat.le_refl _, Nat.le_refl _, HS, ⟨fun q h1 h2 => absurd h2 (by omega), fun q h1 h2 => absurd h2 (by omega)⟩⟩
 case round =>
  obtain ⟨i, j, rfl, rfl, him, hij, hjb, hgg, S1, HI⟩ := hrel
  by_cases hlt : i < j
  ·have hltz : (i : Int) < (j : Int) := by omega
   obtain ⟨h, hh⟩ : ∃ h : Nat, ((i : Int) + (j : Int)) / 2 = (h : Int) := ⟨(i + j) / 2, by omega⟩
   have h1 : i ≤ h := by omega
   have h2 : h < j := by omega
   have wh1 : IntKind.i64.wrap ((h : Int) + 1) = (h : Int) + 1 := by rw [IntKind.wrap_i64]; omega
   cases hl : ltOf cf d[h]! d[a]! with
   | true =>
    have HI' : Aside0 ((∀ q, m ≤ q → q < h + 1 → ltOf cf d[q]! d[a]! = true) ∧ (∀ q, j ≤ q → q < b → ltOf cf d[q]! d[a]! = false)) := ⟨⟨fun q h3 h4 => by
     rcases Nat.lt_or_eq_of_le (show q ≤ h by omega) with h5 | rfl
     ·exact le_lt hO (T2.out q h h3 h5 (by omega)) hl
     ·exact hl, HI.out.2⟩⟩
    go_wp2_with fail
    obtain ⟨i1, hi1⟩ : ∃ q, q = h := ⟨_, rfl⟩
    obtain ⟨j1, hj1⟩ : ∃ q, q = a := ⟨_, rfl⟩
    have ea1 : ((h : Int)).toNat = i1 := by omega
    have pa1 : (0 : Int) ≤ (h : Int) := by omega
    have ba1 : (h : Int) < (d.size : Int) := by omega
    have ra1 : IntKind.i64.wrap ((h : Int)) = (h : Int) := by rw [IntKind.wrap_i64]; omega
    have ec1 : ((a : Int)).toNat = j1 := by omega
    have pc1 : (0 : Int) ≤ (a : Int) := by omega
    have bc1 : (a : Int) < (d.size : Int) := by omega
    have rc1 : IntKind.i64.wrap ((a : Int)) = (a : Int) := by rw [IntKind.wrap_i64]; omega
    obtain ⟨x1, hx1⟩ : ∃ x, x = d[h]! := ⟨_, rfl⟩
    obtain ⟨y1, hy1⟩ : ∃ x, x = d[a]! := ⟨_, rfl⟩
    have la1 := S1.out.cl R (by omega) (h) (by omega)
    have lb1 := S1.out.cl R (by omega) (a) (by omega)
    rw [← hx1, ← hi1] at la1
    rw [← hy1, ← hj1] at lb1
    have hc1 := S1.out.cmp HC.out (by omega) x1 y1
    have hv1 : cf x1 y1 < 0 := by rw [hx1, hy1]; exact of_decide_eq_true hl
    have hd1 : decide (cf x1 y1 < 0) = true := decide_eq_true hv1
    clear hx1 hy1 hi1 hj1
    go_wp2_with fail
    go_quiet_grown (first | (go_at_fn g; refine Calls.grown_of (hc1 _ _)))
    have S2 : Aside0 (SW enc w0 blk off d (grow (wr.drewN nq) osq)) := ⟨S1.out.grown nq osq⟩
    clear la1 lb1 hc1 S1
    generalize grow (wr.drewN nq) osq = w2 at S2 ⊢
    clear nq osq
    clear ea1 ec1
    go_wp2
    go_roundg (j - (h + 1))
    case measure => omega
    case rel => exact ⟨h + 1, j, by go_num, rfl, by omega, by omega, hjb, Nat.le_refl _, S2, HI'⟩
   | false =>
    have HI' : Aside0 ((∀ q, m ≤ q → q < i → ltOf cf d[q]! d[a]! = true) ∧ (∀ q, h ≤ q → q < b → ltOf cf d[q]! d[a]! = false)) := ⟨⟨HI.out.1, fun q h3 h4 => by
     rcases Nat.lt_or_eq_of_le h3 with h5 | rfl
     ·exact hO.ntrans _ _ _ (T2.out h q (by omega) h5 h4) hl
     ·exact hl⟩⟩
    go_wp2_with fail
    obtain ⟨i2, hi2⟩ : ∃ q, q = h := ⟨_, rfl⟩
    obtain ⟨j2, hj2⟩ : ∃ q, q = a := ⟨_, rfl⟩
    have ea2 : ((h : Int)).toNat = i2 := by omega
    have pa2 : (0 : Int) ≤ (h : Int) := by omega
    have ba2 : (h : Int) < (d.size : Int) := by omega
    have ra2 : IntKind.i64.wrap ((h : Int)) = (h : Int) := by rw [IntKind.wrap_i64]; omega
    have ec2 : ((a : Int)).toNat = j2 := by omega
    have pc2 : (0 : Int) ≤ (a : Int) := by omega
    have bc2 : (a : Int) < (d.size : Int) := by omega
    have rc2 : IntKind.i64.wrap ((a : Int)) = (a : Int) := by rw [IntKind.wrap_i64]; omega
    obtain ⟨x2, hx2⟩ : ∃ x, x = d[h]! := ⟨_, rfl⟩
    obtain ⟨y2, hy2⟩ : ∃ x, x = d[a]! := ⟨_, rfl⟩
    have la2 := S1.out.cl R (by omega) (h) (by omega)
    have lb2 := S1.out.cl R (by omega) (a) (by omega)
    rw [← hx2, ← hi2] at la2
    rw [← hy2, ← hj2] at lb2
    have hc2 := S1.out.cmp HC.out (by omega) x2 y2
    have hv2 : ¬ cf x2 y2 < 0 := by rw [hx2, hy2]; exact of_decide_eq_false hl
    have hd2 : decide (cf x2 y2 < 0) = false := decide_eq_false hv2
    clear hx2 hy2 hi2 hj2
    go_wp2_with fail
    go_quiet_grown (first | (go_at_fn g; refine Calls.grown_of (hc2 _ _)))
    have S2 : Aside0 (SW enc w0 blk off d (grow (wr.drewN nq) osq)) := ⟨S1.out.grown nq osq⟩
    clear la2 lb2 hc2 S1
    generalize grow (wr.drewN nq) osq = w2 at S2 ⊢
    clear nq osq
    clear ea2 ec2
    go_wp2
    go_roundg (h - i)
    case measure => omega
    case rel => exact ⟨i, h, rfl, rfl, him, h1, by omega, Nat.le_refl _, S2, HI'⟩
  ·have hltz : ¬ (i : Int) < (j : Int) := by omega
   obtain rfl : i = j := by omega
   obtain ⟨ip, hip⟩ : ∃ q, q + 1 = i := ⟨i - 1, by omega⟩
   have zip : (i : Int) = (ip : Int) + 1 := by omega
   go_wp2
   go_loopg [13] (b - a) (fun gg s13 wr2 => ∃ (k : Nat) (dk : Array α), s13 = .int .i64 k ∧ a ≤ k ∧ k ≤ ip ∧ ip - k ≤ gg ∧ dk.size = d.size ∧ Aside0 (SW enc w0 blk off dk wr2) ∧ Aside0 (PermIn a b d dk ∧ ∀ x, dk[x]! = frontGet a k d x))
   case atStart => exact ⟨a, d, rfl, Nat.le_refl _, by omega, by omega, rfl, S1, ⟨permIn_refl _ _ _, front_start a d⟩⟩
   case round =>
    clear S1
    obtain ⟨k, dk, rfl, hak, hki, hgg2, hsk, S1, HK⟩ := hrel
    by_cases hkl : k < ip
    ·have hklz : (k : Int) < (ip : Int) := by omega
     go_wp2_with fail
     obtain ⟨i3, hi3⟩ : ∃ q, q = k := ⟨_, rfl⟩
     obtain ⟨j3, hj3⟩ : ∃ q, q = k + 1 := ⟨_, rfl⟩
     have ea3 : ((k : Int)).toNat = i3 := by omega
     have pa3 : (0 : Int) ≤ (k : Int) := by omega
     have ba3 : (k : Int) < (d.size : Int) := by omega
     have ra3 : IntKind.i64.wrap ((k : Int)) = (k : Int) := by rw [IntKind.wrap_i64]; omega
     have ec3 : ((k : Int) + 1).toNat = j3 := by omega
     have pc3 : (0 : Int) ≤ (k : Int) + 1 := by omega
     have bc3 : (k : Int) + 1 < (d.size : Int) := by omega
     have rc3 : IntKind.i64.wrap ((k : Int) + 1) = (k : Int) + 1 := by rw [IntKind.wrap_i64]; omega
     obtain ⟨x3, hx3⟩ : ∃ x, x = dk[k]! := ⟨_, rfl⟩
     obtain ⟨y3, hy3⟩ : ∃ x, x = dk[k + 1]! := ⟨_, rfl⟩
     have S2 : Aside0 (SW enc w0 blk off (swp dk (k) (k + 1)) ((wr.setCell ⟨blk, off + i3, none⟩ (enc y3)).setCell ⟨blk, off + j3, none⟩ (enc x3)).drew) := ⟨by rw [hi3, hj3, hx3, hy3]; exact S1.out.swapped R (k) (k + 1) (by omega) (by omega)⟩
     have ca3 := S1.out.c1 R (by omega) (k) (by omega)
     have cb3 := S1.out.c1 R (by omega) (k + 1) (by omega)
     have fa3 := S1.out.f1 R (by omega) (k) (by omega)
     have fb3 := S1.out.f1 R (by omega) (k + 1) (by omega)
     obtain ⟨u3, cc3⟩ := S1.out.c2 R (by omega) (k) (k + 1) (by omega) (by omega) (enc y3)
     rw [← hj3, ← hi3] at cc3
     rw [← hx3, ← hi3] at ca3
     rw [← hy3, ← hj3] at cb3
     rw [← hi3] at fa3
     rw [← hj3] at fb3
     clear S1 hx3 hy3 hi3 hj3
     go_wp2_with fail
     go_big_region_o
     clear ca3 cb3 cc3 fa3 fb3
     generalize ((wr.setCell ⟨blk, off + i3, none⟩ (enc y3)).setCell ⟨blk, off + j3, none⟩ (enc x3)).drew = w2 at S2 ⊢
     clear ea3 ec3
     go_wp2
     go_roundg (ip - (k + 1))
     case measure => omega
     case rel => exact ⟨k + 1, swp dk k (k + 1), by go_num, by omega, by omega, Nat.le_refl _, by rw [size_swp]; exact hsk, S2, ⟨permIn_trans _ _ _ _ _ HK.out.1 (swp_permIn dk a b k (k + 1) hak (by omega) (by omega) (by omega) (by omega)), front_step a k d dk hak (by omega) HK.out.2⟩⟩
    ·have hklz : ¬ (k : Int) < (ip : Int) := by omega
     obtain rfl : k = ip := by omega
     go_wp2
     ((try simp only [Exit.inBlock, Exit.then]); refine bodyPost_ret (results_none rfl _ _ _) rfl ?_)
     have T2' : SortedIn (ltOf cf) (a + 1) b d := by rw [show a + 1 = m by omega]; exact T2.out
     exact ⟨rfl, dk, S1.out, HK.out.1, front_sorted hO a b i d dk (by omega) hjb T2' (fun q h3 h4 => HI.out.1 q (by omega) h4) HI.out.2 (by rw [show i - 1 = k by omega]; exact HK.out.2)⟩
set_option maxHeartbeats 16000000 in
set_option maxRecDepth 1000000 in
theorem symMb {α : Type} [Inhabited α] (enc : α → Value) (cf : α → α → Int) (hO : SWO (ltOf cf)) (g : Nat) (cb : Array Value) (blk off cap : Nat) (d0 : Array α) (w0 : World) (R : Row1 enc w0 blk off d0) (eg : ∀ args w, (callFunc g args).run Try.prog w = .ok (.enter g args) w) (hcmp : CmpLays1 Try.prog g cb enc cf blk off d0.size w0) (hsz0 : d0.size < 4611686018427387904) (a m b : Nat) (d : Array α) (w : World) (hs : d0.size = d.size) (S : SW enc w0 blk off d w) (ham : a < m) (hmb : m < b) (hb : b ≤ d.size) (s1 : SortedIn (ltOf cf) a m d) (s2 : SortedIn (ltOf cf) m b d) (c1 : ¬ m ≤ a + 1) (c2 : b ≤ m + 1) :
  Calls Try.prog 100 #[.slice (some ⟨blk, off, none⟩) d.size cap, .int .i64 a, .int .i64 m, .int .i64 b, .func (.func g) #[] cb] w fun e w' => e = .returned (.tuple #[]) ∧ ∃ d', SW enc w0 blk off d' w' ∧ PermIn a b d d' ∧ SortedIn (ltOf cf) a b d' := by
 have mixed : Try.prog.follows .mixedOrders = true := by kernel_rfl
 have u51 := Try.underlying27
 have hcl0 := R.hO.cells
 simp only [Value.cells] at hcl0
 have hst := R.hO.store Try.prog
 have hsz : d.size < 4611686018427387904 := by omega
 have egs : ∀ args w, (callFunc 100 args).run Try.prog w = .ok (.enter 100 args) w := enters_of Try.func100 (by kernel_rfl) rfl
 have egr : ∀ args w, (callFunc 117 args).run Try.prog w = .ok (.enter 117 args) w := enters_of Try.func117 (by kernel_rfl) rfl
 have HC := AM hcmp
 have HS := AM S
 have T1 := AM s1
 have T2 := AM s2
 clear hcmp S s1 s2
 have wma : IntKind.i64.wrap ((m : Int) - (a : Int)) = (m : Int) - (a : Int) := by rw [IntKind.wrap_i64]; omega
 have wbm : IntKind.i64.wrap ((b : Int) - (m : Int)) = (b : Int) - (m : Int) := by rw [IntKind.wrap_i64]; omega
 go_enter Try.func100, Try.ntmps100
 have hez : ((m : Int) - (a : Int) == 1) = false := by simp; omega
 have hez2 : ((b : Int) - (m : Int) == 1) = true := by simp; omega
 go_wp2
 go_loopg [14, 15, 16] (m - a) (fun gg s14 s15 _ wr => ∃ i j : Nat, s14 = .int .i64 i ∧ s15 = .int .i64 j ∧ a ≤ i ∧ i ≤ j ∧ j ≤ m ∧ j - i ≤ gg ∧ Aside0 (SW enc w0 blk off d wr) ∧ Aside0 ((∀ q, a ≤ q → q < i → ltOf cf d[m]! d[q]! = false) ∧ (∀ q, j ≤ q → q < m → ltOf cf d[m]! d[q]! = true)))
 case atStart => exact ⟨a, m, rfl, rfl, Nat.le_refl _, by omega, Nat.le_refl _, Nat.le_refl _, HS, ⟨fun q h1 h2 => absurd h2 (by omega), fun q h1 h2 => absurd h2 (by omega)⟩⟩
 case round =>
  obtain ⟨i, j, rfl, rfl, hia, hij, hjm, hgg, S1, HI⟩ := hrel
  by_cases hlt : i < j
  ·have hltz : (i : Int) < (j : Int) := by omega
   obtain ⟨h, hh⟩ : ∃ h : Nat, ((i : Int) + (j : Int)) / 2 = (h : Int) := ⟨(i + j) / 2, by omega⟩
   have h1 : i ≤ h := by omega
   have h2 : h < j := by omega
   have wh1 : IntKind.i64.wrap ((h : Int) + 1) = (h : Int) + 1 := by rw [IntKind.wrap_i64]; omega
   cases hl : ltOf cf d[m]! d[h]! with
   | true =>
    have HI' : Aside0 ((∀ q, a ≤ q → q < i → ltOf cf d[m]! d[q]! = false) ∧ (∀ q, h ≤ q → q < m → ltOf cf d[m]! d[q]! = true)) := ⟨⟨HI.out.1, fun q h3 h4 => by
     rcases Nat.lt_or_eq_of_le h3 with h5 | rfl
     ·exact lt_le hO hl (T1.out h q (by omega) h5 h4)
     ·exact hl⟩⟩
    go_wp2_with fail
    obtain ⟨i4, hi4⟩ : ∃ q, q = m := ⟨_, rfl⟩
    obtain ⟨j4, hj4⟩ : ∃ q, q = h := ⟨_, rfl⟩
    have ea4 : ((m : Int)).toNat = i4 := by omega
    have pa4 : (0 : Int) ≤ (m : Int) := by omega
    have ba4 : (m : Int) < (d.size : Int) := by omega
    have ra4 : IntKind.i64.wrap ((m : Int)) = (m : Int) := by rw [IntKind.wrap_i64]; omega
    have ec4 : ((h : Int)).toNat = j4 := by omega
    have pc4 : (0 : Int) ≤ (h : Int) := by omega
    have bc4 : (h : Int) < (d.size : Int) := by omega
    have rc4 : IntKind.i64.wrap ((h : Int)) = (h : Int) := by rw [IntKind.wrap_i64]; omega
    obtain ⟨x4, hx4⟩ : ∃ x, x = d[m]! := ⟨_, rfl⟩
    obtain ⟨y4, hy4⟩ : ∃ x, x = d[h]! := ⟨_, rfl⟩
    have la4 := S1.out.cl R (by omega) (m) (by omega)
    have lb4 := S1.out.cl R (by omega) (h) (by omega)
    rw [← hx4, ← hi4] at la4
    rw [← hy4, ← hj4] at lb4
    have hc4 := S1.out.cmp HC.out (by omega) x4 y4
    have hv4 : cf x4 y4 < 0 := by rw [hx4, hy4]; exact of_decide_eq_true hl
    have hd4 : decide (cf x4 y4 < 0) = true := decide_eq_true hv4
    clear hx4 hy4 hi4 hj4
    go_wp2_with fail
    go_quiet_grown (first | (go_at_fn g; refine Calls.grown_of (hc4 _ _)))
    have S2 : Aside0 (SW enc w0 blk off d (grow (wr.drewN nq) osq)) := ⟨S1.out.grown nq osq⟩
    clear la4 lb4 hc4 S1
    generalize grow (wr.drewN nq) osq = w2 at S2 ⊢
    clear nq osq
    clear ea4 ec4
    go_wp2
    go_roundg (h - i)
    case measure => omega
    case rel => exact ⟨i, h, rfl, rfl, hia, h1, by omega, Nat.le_refl _, S2, HI'⟩
   | false =>
    have HI' : Aside0 ((∀ q, a ≤ q → q < h + 1 → ltOf cf d[m]! d[q]! = false) ∧ (∀ q, j ≤ q → q < m → ltOf cf d[m]! d[q]! = true)) := ⟨⟨fun q h3 h4 => by
     rcases Nat.lt_or_eq_of_le (show q ≤ h by omega) with h5 | rfl
     ·exact hO.ntrans _ _ _ hl (T1.out q h h3 h5 (by omega))
     ·exact hl, HI.out.2⟩⟩
    go_wp2_with fail
    obtain ⟨i5, hi5⟩ : ∃ q, q = m := ⟨_, rfl⟩
    obtain ⟨j5, hj5⟩ : ∃ q, q = h := ⟨_, rfl⟩
    have ea5 : ((m : Int)).toNat = i5 := by omega
    have pa5 : (0 : Int) ≤ (m : Int) := by omega
    have ba5 : (m : Int) < (d.size : Int) := by omega
    have ra5 : IntKind.i64.wrap ((m : Int)) = (m : Int) := by rw [IntKind.wrap_i64]; omega
    have ec5 : ((h : Int)).toNat = j5 := by omega
    have pc5 : (0 : Int) ≤ (h : Int) := by omega
    have bc5 : (h : Int) < (d.size : Int) := by omega
    have rc5 : IntKind.i64.wrap ((h : Int)) = (h : Int) := by rw [IntKind.wrap_i64]; omega
    obtain ⟨x5, hx5⟩ : ∃ x, x = d[m]! := ⟨_, rfl⟩
    obtain ⟨y5, hy5⟩ : ∃ x, x = d[h]! := ⟨_, rfl⟩
    have la5 := S1.out.cl R (by omega) (m) (by omega)
    have lb5 := S1.out.cl R (by omega) (h) (by omega)
    rw [← hx5, ← hi5] at la5
    rw [← hy5, ← hj5] at lb5
    have hc5 := S1.out.cmp HC.out (by omega) x5 y5
    have hv5 : ¬ cf x5 y5 < 0 := by rw [hx5, hy5]; exact of_decide_eq_false hl
    have hd5 : decide (cf x5 y5 < 0) = false := decide_eq_false hv5
    clear hx5 hy5 hi5 hj5
    go_wp2_with fail
    go_quiet_grown (first | (go_at_fn g; refine Calls.grown_of (hc5 _ _)))
    have S2 : Aside0 (SW enc w0 blk off d (grow (wr.drewN nq) osq)) := ⟨S1.out.grown nq osq⟩
    clear la5 lb5 hc5 S1
    generalize grow (wr.drewN nq) osq = w2 at S2 ⊢
    clear nq osq
    clear ea5 ec5
    go_wp2
    go_roundg (j - (h + 1))
    case measure => omega
    case rel => exact ⟨h + 1, j, by go_num, rfl, by omega, by omega, hjm, Nat.le_refl _, S2, HI'⟩
  ·have hltz : ¬ (i : Int) < (j : Int) := by omega
   obtain rfl : i = j := by omega
   go_wp2
   go_loopg [17] (m - a) (fun gg s17 wr2 => ∃ (k : Nat) (dk : Array α), s17 = .int .i64 k ∧ i ≤ k ∧ k ≤ m ∧ k - i ≤ gg ∧ dk.size = d.size ∧ Aside0 (SW enc w0 blk off dk wr2) ∧ Aside0 (PermIn a b d dk ∧ ∀ x, dk[x]! = backGet m k d x))
   case atStart => exact ⟨m, d, rfl, hjm, Nat.le_refl _, by omega, rfl, S1, ⟨permIn_refl _ _ _, back_start m d⟩⟩
   case round =>
    clear S1
    obtain ⟨k, dk, rfl, hik, hkm, hgg2, hsk, S1, HK⟩ := hrel
    by_cases hkl : i < k
    ·obtain ⟨kp, hkp⟩ : ∃ q, q + 1 = k := ⟨k - 1, by omega⟩
     have zkp : (k : Int) = (kp : Int) + 1 := by omega
     have hklz : (i : Int) < (kp : Int) + 1 := by omega
     have hklb : decide ((kp : Int) + 1 > (i : Int)) = true := decide_eq_true (by omega)
     go_wp2_with fail
     obtain ⟨i6, hi6⟩ : ∃ q, q = k := ⟨_, rfl⟩
     obtain ⟨j6, hj6⟩ : ∃ q, q = k - 1 := ⟨_, rfl⟩
     have ea6 : ((kp : Int) + 1).toNat = i6 := by omega
     have pa6 : (0 : Int) ≤ (kp : Int) + 1 := by omega
     have ba6 : (kp : Int) + 1 < (d.size : Int) := by omega
     have ra6 : IntKind.i64.wrap ((kp : Int) + 1) = (kp : Int) + 1 := by rw [IntKind.wrap_i64]; omega
     have ec6 : ((kp : Int)).toNat = j6 := by omega
     have pc6 : (0 : Int) ≤ (kp : Int) := by omega
     have bc6 : (kp : Int) < (d.size : Int) := by omega
     have rc6 : IntKind.i64.wrap ((kp : Int)) = (kp : Int) := by rw [IntKind.wrap_i64]; omega
     obtain ⟨x6, hx6⟩ : ∃ x, x = dk[k]! := ⟨_, rfl⟩
     obtain ⟨y6, hy6⟩ : ∃ x, x = dk[k - 1]! := ⟨_, rfl⟩
     have S2 : Aside0 (SW enc w0 blk off (swp dk (k) (k - 1)) ((wr.setCell ⟨blk, off + i6, none⟩ (enc y6)).setCell ⟨blk, off + j6, none⟩ (enc x6)).drew) := ⟨by rw [hi6, hj6, hx6, hy6]; exact S1.out.swapped R (k) (k - 1) (by omega) (by omega)⟩
     have ca6 := S1.out.c1 R (by omega) (k) (by omega)
     have cb6 := S1.out.c1 R (by omega) (k - 1) (by omega)
     have fa6 := S1.out.f1 R (by omega) (k) (by omega)
     have fb6 := S1.out.f1 R (by omega) (k - 1) (by omega)
     obtain ⟨u6, cc6⟩ := S1.out.c2 R (by omega) (k) (k - 1) (by omega) (by omega) (enc y6)
     rw [← hj6, ← hi6] at cc6
     rw [← hx6, ← hi6] at ca6
     rw [← hy6, ← hj6] at cb6
     rw [← hi6] at fa6
     rw [← hj6] at fb6
     clear S1 hx6 hy6 hi6 hj6
     go_wp2_with fail
     go_big_region_o
     clear ca6 cb6 cc6 fa6 fb6
     generalize ((wr.setCell ⟨blk, off + i6, none⟩ (enc y6)).setCell ⟨blk, off + j6, none⟩ (enc x6)).drew = w2 at S2 ⊢
     clear ea6 ec6
     go_wp2
     go_roundg (k - 1 - i)
     case measure => omega
     case rel => exact ⟨k - 1, swp dk k (k - 1), by first | rfl | go_num | (congr 1; omega), by omega, by omega, Nat.le_refl _, by rw [size_swp]; exact hsk, S2, ⟨permIn_trans _ _ _ _ _ HK.out.1 (swp_permIn dk a b k (k - 1) (by omega) (by omega) (by omega) (by omega) (by omega)), back_step m k d dk (by omega) hkm (by omega) HK.out.2⟩⟩
    ·have hklz : ¬ (i : Int) < (k : Int) := by omega
     have hklb : decide ((k : Int) > (i : Int)) = false := decide_eq_false (by omega)
     obtain rfl : i = k := by omega
     go_wp2
     ((try simp only [Exit.inBlock, Exit.then]); refine bodyPost_ret (results_none rfl _ _ _) rfl ?_)
     exact ⟨rfl, dk, S1.out, HK.out.1, by rw [show b = m + 1 by omega]; exact back_sorted hO a m i d dk hia hjm T1.out HI.out.1 HI.out.2 HK.out.2⟩
set_option maxHeartbeats 16000000 in
set_option maxRecDepth 1000000 in
theorem symMc {α : Type} [Inhabited α] (enc : α → Value) (cf : α → α → Int) (hO : SWO (ltOf cf)) (g : Nat) (cb : Array Value) (blk off cap : Nat) (d0 : Array α) (w0 : World) (R : Row1 enc w0 blk off d0) (eg : ∀ args w, (callFunc g args).run Try.prog w = .ok (.enter g args) w) (hcmp : CmpLays1 Try.prog g cb enc cf blk off d0.size w0) (hsz0 : d0.size < 4611686018427387904) (a m b : Nat) (d : Array α) (w : World) (hs : d0.size = d.size) (S : SW enc w0 blk off d w) (ham : a < m) (hmb : m < b) (hb : b ≤ d.size) (s1 : SortedIn (ltOf cf) a m d) (s2 : SortedIn (ltOf cf) m b d) (c1 : ¬ m ≤ a + 1) (c2 : ¬ b ≤ m + 1) (M : Nat) (IH : Aside0 (∀ (a m b : Nat) (d : Array α) (w : World), b - a ≤ M → d0.size = d.size → SW enc w0 blk off d w → a < m → m < b → b ≤ d.size → SortedIn (ltOf cf) a m d → SortedIn (ltOf cf) m b d →
  Calls Try.prog 100 #[.slice (some ⟨blk, off, none⟩) d.size cap, .int .i64 a, .int .i64 m, .int .i64 b, .func (.func g) #[] cb] w fun e w' => e = .returned (.tuple #[]) ∧ ∃ d', SW enc w0 blk off d' w' ∧ PermIn a b d d' ∧ SortedIn (ltOf cf) a b d')) (hM : b - a ≤ M + 1) :
  Calls Try.prog 100 #[.slice (some ⟨blk, off, none⟩) d.size cap, .int .i64 a, .int .i64 m, .int .i64 b, .func (.func g) #[] cb] w fun e w' => e = .returned (.tuple #[]) ∧ ∃ d', SW enc w0 blk off d' w' ∧ PermIn a b d d' ∧ SortedIn (ltOf cf) a b d' := by
 have mixed : Try.prog.follows .mixedOrders = true := by kernel_rfl
 have u51 := Try.underlying27
 have hcl0 := R.hO.cells
 simp only [Value.cells] at hcl0
 have hst := R.hO.store Try.prog
 have hsz : d.size < 4611686018427387904 := by omega
 have egs : ∀ args w, (callFunc 100 args).run Try.prog w = .ok (.enter 100 args) w := enters_of Try.func100 (by kernel_rfl) rfl
 have egr : ∀ args w, (callFunc 117 args).run Try.prog w = .ok (.enter 117 args) w := enters_of Try.func117 (by kernel_rfl) rfl
 have HC := AM hcmp
 have HS := AM S
 have T1 := AM s1
 have T2 := AM s2
 clear hcmp S s1 s2
 have wma : IntKind.i64.wrap ((m : Int) - (a : Int)) = (m : Int) - (a : Int) := by rw [IntKind.wrap_i64]; omega
 have wbm : IntKind.i64.wrap ((b : Int) - (m : Int)) = (b : Int) - (m : Int) := by rw [IntKind.wrap_i64]; omega
 go_enter Try.func100, Try.ntmps100
 have hez : ((m : Int) - (a : Int) == 1) = false := by simp; omega
 have hez2 : ((b : Int) - (m : Int) == 1) = false := by simp; omega
 obtain ⟨mid, hmid⟩ : ∃ q : Nat, ((a : Int) + (b : Int)) / 2 = (q : Int) := ⟨(a + b) / 2, by omega⟩
 have HMID : Aside0 (mid = (a + b) / 2) := ⟨by omega⟩
 have hm1 : a < mid := by omega
 have hm2 : mid < b := by omega
 have wn : IntKind.i64.wrap ((mid : Int) + (m : Int)) = (mid : Int) + (m : Int) := by rw [IntKind.wrap_i64]; omega
 have wn1 : IntKind.i64.wrap ((mid : Int) + (m : Int) - 1) = (mid : Int) + (m : Int) - 1 := by rw [IntKind.wrap_i64]; omega
 have wn2 : IntKind.i64.wrap ((mid : Int) + (m : Int) - (b : Int)) = (mid : Int) + (m : Int) - (b : Int) := by rw [IntKind.wrap_i64]; omega
 go_upto_if 140 with fail
 go_cut [20, 21] (fun s20 s21 wc => ∃ lo hi : Nat, s20 = .int .i64 lo ∧ s21 = .int .i64 hi ∧ Aside0 ((mid < m ∧ lo = mid + m - b ∧ hi = mid) ∨ (m ≤ mid ∧ lo = a ∧ hi = m)) ∧ Aside0 (SW enc w0 blk off d wc))
 case first =>
  by_cases hgt : mid < m
  ·have hgz : decide ((m : Int) > (mid : Int)) = true := decide_eq_true (by omega)
   have hgz' : (mid : Int) < (m : Int) := by omega
   go_wp2
   go_meet
   case rel => exact ⟨mid + m - b, mid, by rw [show ((mid + m - b : Nat) : Int) = (mid : Int) + (m : Int) - (b : Int) by have := HMID.out; omega], rfl, ⟨.inl ⟨hgt, rfl, rfl⟩⟩, HS⟩
  ·have hgz : decide ((m : Int) > (mid : Int)) = false := decide_eq_false (by omega)
   have hgz' : ¬ (mid : Int) < (m : Int) := by omega
   go_wp2
   go_meet
   case rel => exact ⟨a, m, rfl, rfl, ⟨.inr ⟨by omega, rfl, rfl⟩⟩, HS⟩
 case rest =>
  clear HS
  obtain ⟨lo, hi, rfl, rfl, HLH, S0⟩ := hcut
  have hb1 : a ≤ lo := by have := HLH.out; have := HMID.out; omega
  have hb2 : lo ≤ hi := by have := HLH.out; have := HMID.out; omega
  have hb3 : hi ≤ m := by have := HLH.out; omega
  have hb4 : hi ≤ mid := by have := HLH.out; omega
  have hb5 : mid + m ≤ lo + b := by have := HLH.out; have := HMID.out; omega
  have hb6 : hi + m ≤ mid + m := by omega
  have hb7 : lo < hi := by have := HLH.out; have := HMID.out; omega
  have MONO := AM (Cut.mono hO ham hmb HMID.out HLH.out T1.out T2.out)
  go_wp2
  go_loopg [20, 21, 23] (hi - lo) (fun gg s20 s21 _ wr => ∃ i j : Nat, s20 = .int .i64 i ∧ s21 = .int .i64 j ∧ lo ≤ i ∧ i ≤ j ∧ j ≤ hi ∧ j - i ≤ gg ∧ Aside0 (SW enc w0 blk off d wr) ∧ Aside0 ((∀ c, lo ≤ c → c < i → ltOf cf d[mid + m - 1 - c]! d[c]! = false) ∧ (∀ c, j ≤ c → c < hi → ltOf cf d[mid + m - 1 - c]! d[c]! = true)))
  case atStart => exact ⟨lo, hi, rfl, rfl, Nat.le_refl _, hb2, Nat.le_refl _, Nat.le_refl _, S0, ⟨fun q h1 h2 => absurd h2 (by omega), fun q h1 h2 => absurd h2 (by omega)⟩⟩
  case round =>
   clear S0
   obtain ⟨i, j, rfl, rfl, hil, hij, hjh, hgg, S1, HI⟩ := hrel
   by_cases hlt : i < j
   ·have hltz : (i : Int) < (j : Int) := by omega
    obtain ⟨h, hh⟩ : ∃ h : Nat, ((i : Int) + (j : Int)) / 2 = (h : Int) := ⟨(i + j) / 2, by omega⟩
    have h1 : i ≤ h := by omega
    have h2 : h < j := by omega
    have wh1 : IntKind.i64.wrap ((h : Int) + 1) = (h : Int) + 1 := by rw [IntKind.wrap_i64]; omega
    obtain ⟨pc, zpc⟩ : ∃ q : Nat, (mid : Int) + (m : Int) - 1 - (h : Int) = (q : Int) := ⟨mid + m - 1 - h, by omega⟩
    have hpcb : pc < b := by omega
    have epc : Aside0 (mid + m - 1 - h = pc) := ⟨by omega⟩
    cases hl : ltOf cf d[mid + m - 1 - h]! d[h]! with
    | true =>
     have HI' : Aside0 ((∀ c, lo ≤ c → c < i → ltOf cf d[mid + m - 1 - c]! d[c]! = false) ∧ (∀ c, h ≤ c → c < hi → ltOf cf d[mid + m - 1 - c]! d[c]! = true)) := ⟨⟨HI.out.1, fun c h3 h4 => MONO.out h c (by omega) h3 h4 hl⟩⟩
     rw [epc.out] at hl
     go_wp2_with fail
     obtain ⟨i7, hi7⟩ : ∃ q, q = pc := ⟨_, rfl⟩
     obtain ⟨j7, hj7⟩ : ∃ q, q = h := ⟨_, rfl⟩
     have ea7 : ((pc : Int)).toNat = i7 := by omega
     have pa7 : (0 : Int) ≤ (pc : Int) := by omega
     have ba7 : (pc : Int) < (d.size : Int) := by omega
     have ra7 : IntKind.i64.wrap ((pc : Int)) = (pc : Int) := by rw [IntKind.wrap_i64]; omega
     have ec7 : ((h : Int)).toNat = j7 := by omega
     have pc7 : (0 : Int) ≤ (h : Int) := by omega
     have bc7 : (h : Int) < (d.size : Int) := by omega
     have rc7 : IntKind.i64.wrap ((h : Int)) = (h : Int) := by rw [IntKind.wrap_i64]; omega
     obtain ⟨x7, hx7⟩ : ∃ x, x = d[pc]! := ⟨_, rfl⟩
     obtain ⟨y7, hy7⟩ : ∃ x, x = d[h]! := ⟨_, rfl⟩
     have la7 := S1.out.cl R (by omega) (pc) (by omega)
     have lb7 := S1.out.cl R (by omega) (h) (by omega)
     rw [← hx7, ← hi7] at la7
     rw [← hy7, ← hj7] at lb7
     have hc7 := S1.out.cmp HC.out (by omega) x7 y7
     have hv7 : cf x7 y7 < 0 := by rw [hx7, hy7]; exact of_decide_eq_true hl
     have hd7 : decide (cf x7 y7 < 0) = true := decide_eq_true hv7
     clear hx7 hy7 hi7 hj7
     go_wp2_with fail
     go_quiet_grown (first | (go_at_fn g; refine Calls.grown_of (hc7 _ _)))
     have S2 : Aside0 (SW enc w0 blk off d (grow (wr.drewN nq) osq)) := ⟨S1.out.grown nq osq⟩
     clear la7 lb7 hc7 S1
     generalize grow (wr.drewN nq) osq = w2 at S2 ⊢
     clear nq osq
     clear ea7 ec7
     go_wp2
     go_roundg (h - i)
     case measure => omega
     case rel => exact ⟨i, h, rfl, rfl, hil, h1, by omega, Nat.le_refl _, S2, HI'⟩
    | false =>
     have HL : Aside0 (∀ c, lo ≤ c → c < h + 1 → ltOf cf d[mid + m - 1 - c]! d[c]! = false) := ⟨fun c h3 h4 => by
      cases e : ltOf cf d[mid + m - 1 - c]! d[c]! with
      | false => rfl
      | true =>
       have := MONO.out c h h3 (by omega) (by omega) e
       rw [hl] at this
       cases this⟩
     have HI' : Aside0 ((∀ c, lo ≤ c → c < h + 1 → ltOf cf d[mid + m - 1 - c]! d[c]! = false) ∧ (∀ c, j ≤ c → c < hi → ltOf cf d[mid + m - 1 - c]! d[c]! = true)) := ⟨⟨HL.out, HI.out.2⟩⟩
     clear HL
     rw [epc.out] at hl
     go_wp2_with fail
     obtain ⟨i8, hi8⟩ : ∃ q, q = pc := ⟨_, rfl⟩
     obtain ⟨j8, hj8⟩ : ∃ q, q = h := ⟨_, rfl⟩
     have ea8 : ((pc : Int)).toNat = i8 := by omega
     have pa8 : (0 : Int) ≤ (pc : Int) := by omega
     have ba8 : (pc : Int) < (d.size : Int) := by omega
     have ra8 : IntKind.i64.wrap ((pc : Int)) = (pc : Int) := by rw [IntKind.wrap_i64]; omega
     have ec8 : ((h : Int)).toNat = j8 := by omega
     have pc8 : (0 : Int) ≤ (h : Int) := by omega
     have bc8 : (h : Int) < (d.size : Int) := by omega
     have rc8 : IntKind.i64.wrap ((h : Int)) = (h : Int) := by rw [IntKind.wrap_i64]; omega
     obtain ⟨x8, hx8⟩ : ∃ x, x = d[pc]! := ⟨_, rfl⟩
     obtain ⟨y8, hy8⟩ : ∃ x, x = d[h]! := ⟨_, rfl⟩
     have la8 := S1.out.cl R (by omega) (pc) (by omega)
     have lb8 := S1.out.cl R (by omega) (h) (by omega)
     rw [← hx8, ← hi8] at la8
     rw [← hy8, ← hj8] at lb8
     have hc8 := S1.out.cmp HC.out (by omega) x8 y8
     have hv8 : ¬ cf x8 y8 < 0 := by rw [hx8, hy8]; exact of_decide_eq_false hl
     have hd8 : decide (cf x8 y8 < 0) = false := decide_eq_false hv8
     clear hx8 hy8 hi8 hj8
     go_wp2_with fail
     go_quiet_grown (first | (go_at_fn g; refine Calls.grown_of (hc8 _ _)))
     have S2 : Aside0 (SW enc w0 blk off d (grow (wr.drewN nq) osq)) := ⟨S1.out.grown nq osq⟩
     clear la8 lb8 hc8 S1
     generalize grow (wr.drewN nq) osq = w2 at S2 ⊢
     clear nq osq
     clear ea8 ec8
     go_wp2
     go_roundg (j - (h + 1))
     case measure => omega
     case rel => exact ⟨h + 1, j, by go_num, rfl, by omega, by omega, hjh, Nat.le_refl _, S2, HI'⟩
   ·have hltz : ¬ (i : Int) < (j : Int) := by omega
    obtain rfl : i = j := by omega
    obtain ⟨en, hen⟩ : ∃ q : Nat, (mid : Int) + (m : Int) - (i : Int) = (q : Int) := ⟨mid + m - i, by omega⟩
    have wen : IntKind.i64.wrap (en : Int) = (en : Int) := by rw [IntKind.wrap_i64]; omega
    have CUT := AM (⟨ham, hmb, HMID.out, HLH.out, hil, hjh, by omega, HI.out.1, HI.out.2⟩ : Cut (ltOf cf) a m b mid lo hi i en d)
    obtain ⟨b1, b2, b3, b4, b5, b6, b7⟩ := CUT.out.bounds
    have B7 := AM b7
    clear b7 HI
    as_aux_lemma =>
     go_upto_region 39 with fail
     go_cut [185] (fun s185 wc => s185 = .bool (decide (i < m ∧ m < en)) ∧ Aside0 (SW enc w0 blk off d wc))
     case first =>
      by_cases e1 : i < m
      ·have e1z : (i : Int) < (m : Int) := by omega
       by_cases e2 : m < en
       ·have e2z : (m : Int) < (en : Int) := by omega
        go_wp2
        go_meet
        case rel => exact ⟨by rw [decide_eq_true ⟨e1, e2⟩], S1⟩
       ·have e2z : ¬ (m : Int) < (en : Int) := by omega
        go_wp2
        go_meet
        case rel => exact ⟨by rw [decide_eq_false (fun h => e2 h.2)], S1⟩
      ·have e1z : ¬ (i : Int) < (m : Int) := by omega
       go_wp2
       go_meet
       case rel => exact ⟨by rw [decide_eq_false (fun h => e1 h.1)], S1⟩
     case rest =>
      as_aux_lemma =>
       clear S1
       obtain ⟨rfl, S1⟩ := hcut
       go_upto_if 185 with fail
       go_cut [] (fun wc => ∃ d1, Aside0 (SW enc w0 blk off d1 wc ∧ PermIn a b d d1 ∧ ∀ k, d1[k]! = rotGet m (m - i) (en - m) d k))
       case first =>
        by_cases e : i < m ∧ m < en
        ·have ez : decide (i < m ∧ m < en) = true := decide_eq_true e
         obtain ⟨e1, e2⟩ := e
         have hc := rotateR enc g cb blk off cap d0 d w0 _ R (by omega) S1.out hsz i m en e1 e2 (by omega)
         clear S1
         go_wp2_with (go_at_fn 117; refine hc.mono ?_; rintro e w1 ⟨rfl, hc1⟩; have HC1 := AM hc1; clear hc1 hc)
         go_meet
         case rel =>
          obtain ⟨d1, t1, t2, t3⟩ := HC1.out
          exact ⟨d1, ⟨t1, permIn_mono _ _ _ _ a b (by omega) (by omega) hb t2, t3⟩⟩
        ·have ez : decide (i < m ∧ m < en) = false := decide_eq_false e
         have EZ := AM e
         go_wp2
         go_meet
         case rel => exact ⟨d, ⟨S1.out, permIn_refl _ _ _, fun k => by
          have := EZ.out
          have := B7.out
          unfold rotGet
          by_cases q1 : m - (m - i) ≤ k ∧ k < m - (m - i) + (en - m)
          ·rw [if_pos q1]
           exact congrArg (fun z => d[z]!) (by omega)
          ·rw [if_neg q1]
           by_cases q2 : m - (m - i) + (en - m) ≤ k ∧ k < m + (en - m)
           ·rw [if_pos q2]
            exact congrArg (fun z => d[z]!) (by omega)
           ·rw [if_neg q2]⟩⟩
       case rest =>
        as_aux_lemma =>
         clear S1
         obtain ⟨d1, HD⟩ := hcut
         have hs1 := HD.out.2.1.1
         have X := AM (CUT.out.cross hO T1.out T2.out HD.out.2.2)
         go_upto_region 41 with fail
         go_cut [199] (fun s199 wc => s199 = .bool (decide (a < i ∧ i < mid)) ∧ Aside0 (SW enc w0 blk off d1 wc))
         case first =>
          by_cases e1 : a < i
          ·have e1z : (a : Int) < (i : Int) := by omega
           by_cases e2 : i < mid
           ·have e2z : (i : Int) < (mid : Int) := by omega
            go_wp2
            go_meet
            case rel => exact ⟨by rw [decide_eq_true ⟨e1, e2⟩], ⟨HD.out.1⟩⟩
           ·have e2z : ¬ (i : Int) < (mid : Int) := by omega
            go_wp2
            go_meet
            case rel => exact ⟨by rw [decide_eq_false (fun h => e2 h.2)], ⟨HD.out.1⟩⟩
          ·have e1z : ¬ (a : Int) < (i : Int) := by omega
           go_wp2
           go_meet
           case rel => exact ⟨by rw [decide_eq_false (fun h => e1 h.1)], ⟨HD.out.1⟩⟩
         case rest =>
          as_aux_lemma =>
           obtain ⟨rfl, S1⟩ := hcut
           go_upto_if 199 with fail
           go_cut [] (fun wc => ∃ d2, Aside0 (SW enc w0 blk off d2 wc ∧ PermIn a mid d1 d2 ∧ SortedIn (ltOf cf) a mid d2))
           case first =>
            by_cases e : a < i ∧ i < mid
            ·have ez : decide (a < i ∧ i < mid) = true := decide_eq_true e
             obtain ⟨e1, e2⟩ := e
             have hc := IH.out a i mid d1 _ (by omega) (by omega) S1.out e1 e2 (by omega) X.out.1 X.out.2.1
             rw [hs1] at hc
             clear S1
             go_wp2_with (go_at_fn 100; refine hc.mono ?_; rintro e w1 ⟨rfl, hc1⟩; have HC1 := AM hc1; clear hc1 hc)
             go_meet
             case rel =>
              obtain ⟨d2, t1, t2, t3⟩ := HC1.out
              exact ⟨d2, ⟨t1, t2, t3⟩⟩
            ·have ez : decide (a < i ∧ i < mid) = false := decide_eq_false e
             have EZ := AM e
             go_wp2
             go_meet
             case rel => exact ⟨d1, ⟨S1.out, permIn_refl _ _ _, by
              have := EZ.out
              rcases Nat.lt_or_eq_of_le b1 with q | q
              ·rw [show mid = i by omega]
               exact X.out.1
              ·rw [q]
               exact X.out.2.1⟩⟩
           case rest =>
            as_aux_lemma =>
             clear S1
             obtain ⟨d2, HE⟩ := hcut
             have hs2 := HE.out.2.1.1
             go_upto_region 43 with fail
             go_cut [213] (fun s213 wc => s213 = .bool (decide (mid < en ∧ en < b)) ∧ Aside0 (SW enc w0 blk off d2 wc))
             case first =>
              by_cases e1 : mid < en
              ·have e1z : (mid : Int) < (en : Int) := by omega
               by_cases e2 : en < b
               ·have e2z : (en : Int) < (b : Int) := by omega
                go_wp2
                go_meet
                case rel => exact ⟨by rw [decide_eq_true ⟨e1, e2⟩], ⟨HE.out.1⟩⟩
               ·have e2z : ¬ (en : Int) < (b : Int) := by omega
                go_wp2
                go_meet
                case rel => exact ⟨by rw [decide_eq_false (fun h => e2 h.2)], ⟨HE.out.1⟩⟩
              ·have e1z : ¬ (mid : Int) < (en : Int) := by omega
               go_wp2
               go_meet
               case rel => exact ⟨by rw [decide_eq_false (fun h => e1 h.1)], ⟨HE.out.1⟩⟩
             case rest =>
              as_aux_lemma =>
               obtain ⟨rfl, S1⟩ := hcut
               have hout : Aside0 (∀ x y, mid ≤ x → SortedIn (ltOf cf) x y d1 → SortedIn (ltOf cf) x y d2) := ⟨fun x y hx h p q h1 h2 h3 => by
                rw [HE.out.2.1.2.1 q (.inr (by omega)), HE.out.2.1.2.1 p (.inr (by omega))]
                exact h p q h1 h2 h3⟩
               by_cases e : mid < en ∧ en < b
               ·have ez : decide (mid < en ∧ en < b) = true := decide_eq_true e
                obtain ⟨e1, e2⟩ := e
                have hc := IH.out mid en b d2 _ (by omega) (by omega) S1.out e1 e2 (by omega) (hout.out _ _ (Nat.le_refl _) X.out.2.2.1) (hout.out _ _ (by omega) X.out.2.2.2.1)
                rw [show d2.size = d.size by omega] at hc
                clear S1
                go_wp2_with (go_at_fn 100; refine hc.mono ?_; rintro e w1 ⟨rfl, hc1⟩; have HC1 := AM hc1; clear hc1 hc)
                go_end0
                obtain ⟨d3, t1, t2, t3⟩ := HC1.out
                have H := halves_sorted (by omega) (by omega) (by omega) X.out.2.2.2.2 HE.out.2.1 HE.out.2.2 t2 t3
                exact ⟨rfl, d3, t1, permIn_trans _ _ _ _ _ HD.out.2.1 H.1, H.2⟩
               ·have ez : decide (mid < en ∧ en < b) = false := decide_eq_false e
                have EZ := AM e
                go_wp2
                go_end0
                have t3 : SortedIn (ltOf cf) mid b d2 := by
                 have := EZ.out
                 rcases Nat.lt_or_eq_of_le b6 with q | q
                 ·rw [show b = en by omega]
                  exact hout.out _ _ (Nat.le_refl _) X.out.2.2.1
                 ·rw [q]
                  exact hout.out _ _ (by omega) X.out.2.2.2.1
                have H := halves_sorted (by omega) (by omega) (by omega) X.out.2.2.2.2 HE.out.2.1 HE.out.2.2 (permIn_refl _ _ _) t3
                exact ⟨rfl, d2, S1.out, permIn_trans _ _ _ _ _ HD.out.2.1 H.1, H.2⟩
theorem symM {α : Type} [Inhabited α] (enc : α → Value) (cf : α → α → Int) (hO : SWO (ltOf cf)) (g : Nat) (cb : Array Value) (blk off cap : Nat) (d0 : Array α) (w0 : World) (R : Row1 enc w0 blk off d0) (eg : ∀ args w, (callFunc g args).run Try.prog w = .ok (.enter g args) w) (hcmp : CmpLays1 Try.prog g cb enc cf blk off d0.size w0) (hsz0 : d0.size < 4611686018427387904) (M : Nat) : ∀ (a m b : Nat) (d : Array α) (w : World), b - a ≤ M → d0.size = d.size → SW enc w0 blk off d w → a < m → m < b → b ≤ d.size → SortedIn (ltOf cf) a m d → SortedIn (ltOf cf) m b d →
  Calls Try.prog 100 #[.slice (some ⟨blk, off, none⟩) d.size cap, .int .i64 a, .int .i64 m, .int .i64 b, .func (.func g) #[] cb] w fun e w' => e = .returned (.tuple #[]) ∧ ∃ d', SW enc w0 blk off d' w' ∧ PermIn a b d d' ∧ SortedIn (ltOf cf) a b d' := by
 induction M with
 | zero => intro a m b d w hM hs S ham hmb; exact absurd hM (by omega)
 | succ M ih =>
 intro a m b d w hM hs S ham hmb hb s1 s2
 by_cases c1 : m ≤ a + 1
 ·exact symMa enc cf hO g cb blk off cap d0 w0 R eg hcmp hsz0 a m b d w hs S ham hmb hb s1 s2 c1
 ·by_cases c2 : b ≤ m + 1
  ·exact symMb enc cf hO g cb blk off cap d0 w0 R eg hcmp hsz0 a m b d w hs S ham hmb hb s1 s2 c1 c2
  ·exact symMc enc cf hO g cb blk off cap d0 w0 R eg hcmp hsz0 a m b d w hs S ham hmb hb s1 s2 c1 c2 M ⟨ih⟩ hM
end Go.Proofs.Ythamiihdoicjkaa.Pr
namespace Go.Proofs.Ythamiihdoicjkaa.Pu
open Go.Sort
variable {α : Type} [Inhabited α] {lt : α → α → Bool}
inductive Blk (lt : α → α → Bool) (bs n : Nat) (d : Array α) : Nat → Prop
 | last (a : Nat) : a ≤ n → n ≤ a + bs → SortedIn lt a n d → Blk lt bs n d a
 | step (a : Nat) : a + bs ≤ n → SortedIn lt a (a + bs) d → Blk lt bs n d (a + bs) → Blk lt bs n d a
inductive Fwd (lt : α → α → Bool) (bs : Nat) (d : Array α) : Nat → Prop
 | zero : Fwd lt bs d 0
 | step (a : Nat) : Fwd lt bs d a → SortedIn lt a (a + bs) d → Fwd lt bs d (a + bs)
theorem sortedIn_same {a b : Nat} {d d' : Array α} (h : SortedIn lt a b d) (e : ∀ q, a ≤ q → q < b → d'[q]! = d[q]!) : SortedIn lt a b d' := fun p q h1 h2 h3 => by
 rw [e q (by omega) h3, e p h1 (by omega)]
 exact h p q h1 h2 h3
theorem Fwd.same {bs a : Nat} {d d' : Array α} (h : Fwd lt bs d a) (e : ∀ q, q < a → d'[q]! = d[q]!) : Fwd lt bs d' a := by
 induction h with
 | zero => exact .zero
 | step a h s ih => exact .step a (ih fun q hq => e q (by omega)) (sortedIn_same s fun q h1 h2 => e q h2)
theorem Fwd.to {bs a b : Nat} {d : Array α} (e : b = a + bs) (h : Fwd lt bs d a) (s : SortedIn lt a b d) : Fwd lt bs d b := by
 subst e
 exact .step a h s
theorem Blk.same {bs n a : Nat} {d d' : Array α} (h : Blk lt bs n d a) (e : ∀ q, a ≤ q → d'[q]! = d[q]!) : Blk lt bs n d' a := by
 induction h with
 | last a h1 h2 s => exact .last a h1 h2 (sortedIn_same s fun q h1 h2 => e q h1)
 | step a h s t ih => exact .step a h (sortedIn_same s fun q h1 h2 => e q h1) (ih fun q hq => e q (by omega))
theorem Fwd.blk {bs n a : Nat} {d : Array α} (h : Fwd lt bs d a) (t : Blk lt bs n d a) (hn : a ≤ n) : Blk lt bs n d 0 := by
 induction h with
 | zero => exact t
 | step a h s ih => exact ih (.step a hn s t) (by omega)
theorem Blk.two {bs n a : Nat} {d : Array α} (h : Blk lt bs n d a) (hb : 0 < bs) (hn : a + 2 * bs ≤ n) : SortedIn lt a (a + bs) d ∧ SortedIn lt (a + bs) (a + 2 * bs) d ∧ Blk lt bs n d (a + 2 * bs) := by
 cases h with
 | last _ h1 h2 s => omega
 | step _ h s t =>
  refine ⟨s, ?_⟩
  cases t with
  | last _ h1 h2 s2 =>
   obtain rfl : n = a + 2 * bs := by omega
   exact ⟨s2, .last _ (Nat.le_refl _) (by omega) (fun p q h1 h2 h3 => absurd h3 (by omega))⟩
  | step _ h2 s2 t2 =>
   rw [show a + bs + bs = a + 2 * bs by omega] at s2 t2
   exact ⟨s2, t2⟩
theorem Blk.one {bs n a : Nat} {d : Array α} (h : Blk lt bs n d a) (hn : n < a + 2 * bs) (hm : a + bs < n) : SortedIn lt a (a + bs) d ∧ SortedIn lt (a + bs) n d := by
 cases h with
 | last _ h1 h2 s => omega
 | step _ h s t =>
  refine ⟨s, ?_⟩
  cases t with
  | last _ h1 h2 s2 => exact s2
  | step _ h2 s2 t2 => omega
theorem Blk.none {bs n a : Nat} {d : Array α} (h : Blk lt bs n d a) (hm : ¬ a + bs < n) : SortedIn lt a n d := by
 cases h with
 | last _ h1 h2 s => exact s
 | step _ h s t =>
  obtain rfl : n = a + bs := by omega
  exact s
end Go.Proofs.Ythamiihdoicjkaa.Pu
namespace Go.Proofs.Ythamiihdoicjkaa.Pr
open Go.RowKit Go.Proofs.YthamiihdoicjkaaW.PrintWords Go.Proofs.YthamiihdoicjkaaW.PrintLast Go.Proofs.YthamiihdoicjkaaW.PrintMore
open Go.Shelf Go.Lib Go.Sort Go.Proofs.Ythamiihdoicjkaa.Pu
set_option maxHeartbeats 16000000 in
set_option maxRecDepth 1000000 in
theorem stableW {α : Type} [Inhabited α] (enc : α → Value) (cf : α → α → Int) (hO : SWO (ltOf cf)) (g : Nat) (cb : Array Value) (blk off cap : Nat) (d0 : Array α) (w0 : World) (R : Row1 enc w0 blk off d0) (eg : ∀ args w, (callFunc g args).run Try.prog w = .ok (.enter g args) w) (hcmp : CmpLays1 Try.prog g cb enc cf blk off d0.size w0) (hsz0 : d0.size < 1152921504606846976) (d : Array α) (w : World) (hs : d0.size = d.size) (S : SW enc w0 blk off d w) :
  Calls Try.prog 72 #[.slice (some ⟨blk, off, none⟩) d.size cap, .int .i64 (d.size : Int), .func (.func g) #[] cb] w fun e w' => e = .returned (.tuple #[]) ∧ ∃ d', SW enc w0 blk off d' w' ∧ PermIn 0 d.size d d' ∧ SortedIn (ltOf cf) 0 d.size d' := by
 have egi : ∀ args w, (callFunc 99 args).run Try.prog w = .ok (.enter 99 args) w := enters_of Try.func99 (by kernel_rfl) rfl
 have egy : ∀ args w, (callFunc 100 args).run Try.prog w = .ok (.enter 100 args) w := enters_of Try.func100 (by kernel_rfl) rfl
 have HC := AM hcmp
 have S0 : Aside0 (SW enc w0 blk off d w) := ⟨S⟩
 clear hcmp S
 have hin : d.size < 1152921504606846976 := by omega
 go_enter Try.func72, Try.ntmps72
 go_wp2
 go_loopg [7, 8] d.size (fun gg s7 s8 wr => ∃ (a b : Nat) (dk : Array α), s7 = .int .i64 a ∧ s8 = .int .i64 b ∧ Aside0 (b = a + 20) ∧ a ≤ d.size ∧ d.size - a ≤ gg ∧ dk.size = d.size ∧ Aside0 (SW enc w0 blk off dk wr) ∧ Aside0 (PermIn 0 d.size d dk ∧ Fwd (ltOf cf) 20 dk a))
 case atStart => exact ⟨0, 20, d, rfl, rfl, ⟨rfl⟩, Nat.zero_le _, Nat.sub_le _ _, rfl, S0, ⟨permIn_refl _ _ _, .zero⟩⟩
 case round =>
  clear S0
  obtain ⟨a, b, dk, rfl, rfl, HAB, han, hgg, hsk, S1, HK⟩ := hrel
  have hab1 : b ≤ a + 20 := Nat.le_of_eq HAB.out
  have hab2 : a + 20 ≤ b := Nat.le_of_eq HAB.out.symm
  by_cases hlt : b ≤ d.size
  ·have hltz : (b : Int) ≤ (d.size : Int) := by omega
   have hc := insertS enc cf g cb blk off cap d0 dk w0 _ R (by omega) S1.out (by omega) eg HC.out a b (by omega) (by omega)
   rw [hsk] at hc
   clear S1
   go_wp2_with (first | (go_at_fn 99; refine hc.mono ?_; rintro e w2 ⟨rfl, hq_⟩; have S2 := AM hq_; clear hq_ hc))
   have HI := AM (insertionSort_holds (lt := ltOf cf) hO dk a b (by omega) (by omega))
   go_roundg (d.size - b)
   case measure => omega
   case rel => exact ⟨b, b + 20, _, rfl, by rw [show ((b + 20 : Nat) : Int) = (b : Int) + 20 by omega], ⟨rfl⟩, hlt, Nat.le_refl _, by rw [HI.out.1.1]; exact hsk, S2, ⟨permIn_trans _ _ _ _ _ HK.out.1 (permIn_mono _ _ _ _ 0 d.size (Nat.zero_le _) hlt (by omega) HI.out.1), .to HAB.out (HK.out.2.same fun q hq => HI.out.1.2.1 q (.inl hq)) HI.out.2⟩⟩
  ·have hltz : ¬ (b : Int) ≤ (d.size : Int) := by omega
   have hc := insertS enc cf g cb blk off cap d0 dk w0 _ R (by omega) S1.out (by omega) eg HC.out a d.size (by omega) (by omega)
   rw [hsk] at hc
   clear S1
   go_wp2_with (first | (go_at_fn 99; refine hc.mono ?_; rintro e w2 ⟨rfl, hq_⟩; have S2 := AM hq_; clear hq_ hc))
   have HI := AM (insertionSort_holds (lt := ltOf cf) hO dk a d.size (by omega) (by omega))
   have HB : Aside0 (PermIn 0 d.size d (Sort.insertionSort (ltOf cf) dk a d.size) ∧ Blk (ltOf cf) 20 d.size (Sort.insertionSort (ltOf cf) dk a d.size) 0) := ⟨permIn_trans _ _ _ _ _ HK.out.1 (permIn_mono _ _ _ _ 0 d.size (Nat.zero_le _) (Nat.le_refl _) (by omega) HI.out.1), Fwd.blk (HK.out.2.same fun q hq => HI.out.1.2.1 q (.inl hq)) (.last a han (by omega) HI.out.2) han⟩
   have hsq : (Sort.insertionSort (ltOf cf) dk a d.size).size = d.size := by rw [HI.out.1.1]; exact hsk
   clear HI HK
   generalize Sort.insertionSort (ltOf cf) dk a d.size = d1 at HB hsq S2
   clear hgg hsk han hab1 hab2 HAB hlt hltz
   go_loopg [6] d.size (fun gg s6 wr => ∃ (bs : Nat) (dk : Array α), s6 = .int .i64 bs ∧ 0 < bs ∧ bs < 2305843009213693952 ∧ d.size - bs ≤ gg ∧ dk.size = d.size ∧ Aside0 (SW enc w0 blk off dk wr) ∧ Aside0 (PermIn 0 d.size d dk ∧ Blk (ltOf cf) bs d.size dk 0))
   case atStart => exact ⟨20, d1, rfl, by omega, by omega, by omega, hsq, S2, HB⟩
   case round =>
    clear S2 HB hsq
    obtain ⟨bs, dk, rfl, hbs0, hbs1, hgg, hsk, S1, HK⟩ := hrel
    by_cases hlt : bs < d.size
    ·have hltz : (bs : Int) < (d.size : Int) := by omega
     go_wp2
     go_loopg [7, 8] d.size (fun gg s7 s8 wr2 => ∃ (a b : Nat) (dj : Array α), s7 = .int .i64 a ∧ s8 = .int .i64 b ∧ Aside0 (b = a + 2 * bs) ∧ a ≤ d.size ∧ d.size - a ≤ gg ∧ dj.size = d.size ∧ Aside0 (SW enc w0 blk off dj wr2) ∧ Aside0 (PermIn 0 d.size d dj ∧ Fwd (ltOf cf) (2 * bs) dj a ∧ Blk (ltOf cf) bs d.size dj a))
     case atStart => exact ⟨0, 2 * bs, dk, rfl, by go_num, ⟨by omega⟩, Nat.zero_le _, Nat.sub_le _ _, hsk, S1, ⟨HK.out.1, .zero, HK.out.2⟩⟩
     case round =>
      clear S1 HK hsk
      obtain ⟨a, b, dj, rfl, rfl, HAB, han, hgg2, hsj, S1, HJ⟩ := hrel
      have hab1 : b ≤ a + 2 * bs := Nat.le_of_eq HAB.out
      have hab2 : a + 2 * bs ≤ b := Nat.le_of_eq HAB.out.symm
      obtain ⟨mm, zmm⟩ : ∃ q : Nat, (a : Int) + (bs : Int) = (q : Int) := ⟨a + bs, by omega⟩
      have emm : Aside0 (mm = a + bs) := ⟨by omega⟩
      have wmm : IntKind.i64.wrap (mm : Int) = (mm : Int) := by rw [IntKind.wrap_i64]; omega
      by_cases hl2 : b ≤ d.size
      ·have hl2z : (b : Int) ≤ (d.size : Int) := by omega
       have TW := AM (HJ.out.2.2.two hbs0 (by omega))
       have hc := symM enc cf hO g cb blk off cap d0 w0 R eg HC.out (by omega) (2 * bs) a mm b dj _ (by omega) (by omega) S1.out (by omega) (by omega) (by omega) (by rw [emm.out]; exact TW.out.1) (by rw [emm.out, HAB.out]; exact TW.out.2.1)
       rw [hsj] at hc
       clear S1
       go_wp2_with (first | (go_at_fn 100; refine hc.mono ?_; rintro e w2 ⟨rfl, hq_⟩; have S2 := AM hq_; clear hq_ hc))
       obtain ⟨d2, hd2⟩ := S2.out
       have HD := AM hd2
       clear hd2 S2
       go_roundg (d.size - b)
       case measure => omega
       case rel => exact ⟨b, b + 2 * bs, d2, rfl, by go_num, ⟨rfl⟩, hl2, Nat.le_refl _, by rw [HD.out.2.1.1]; exact hsj, ⟨HD.out.1⟩, ⟨permIn_trans _ _ _ _ _ HJ.out.1 (permIn_mono _ _ _ _ 0 d.size (Nat.zero_le _) hl2 (by omega) HD.out.2.1), by
        have t1 := HD.out.2.2
        have t2 := HD.out.2.1.2.1
        have hab := HAB.out
        rw [hab] at t1 t2 ⊢
        exact ⟨.step a (HJ.out.2.1.same fun q hq => t2 q (.inl hq)) t1, TW.out.2.2.same fun q hq => t2 q (.inr hq)⟩⟩⟩
      ·have hl2z : ¬ (b : Int) ≤ (d.size : Int) := by omega
       by_cases hm : mm < d.size
       ·have hmz : (mm : Int) < (d.size : Int) := by omega
        have TW := AM (HJ.out.2.2.one (by omega) (by omega))
        have hc := symM enc cf hO g cb blk off cap d0 w0 R eg HC.out (by omega) (2 * bs) a mm d.size dj _ (by omega) (by omega) S1.out (by omega) (by omega) (by omega) (by rw [emm.out]; exact TW.out.1) (by rw [emm.out]; exact TW.out.2)
        rw [hsj] at hc
        clear S1
        go_wp2_with (first | (go_at_fn 100; refine hc.mono ?_; rintro e w2 ⟨rfl, hq_⟩; have S2 := AM hq_; clear hq_ hc))
        obtain ⟨d2, hd2⟩ := S2.out
        have HD := AM hd2
        clear hd2 S2
        go_roundg (d.size - 2 * bs)
        case measure => omega
        case rel => exact ⟨2 * bs, d2, by rw [show ((2 * bs : Nat) : Int) = (bs : Int) * 2 by omega], by omega, by omega, Nat.le_refl _, by rw [HD.out.2.1.1]; exact hsj, ⟨HD.out.1⟩, ⟨permIn_trans _ _ _ _ _ HJ.out.1 (permIn_mono _ _ _ _ 0 d.size (Nat.zero_le _) (Nat.le_refl _) (by omega) HD.out.2.1), Fwd.blk (HJ.out.2.1.same fun q hq => HD.out.2.1.2.1 q (.inl hq)) (.last a han (by omega) HD.out.2.2) han⟩⟩
       ·have hmz : ¬ (mm : Int) < (d.size : Int) := by omega
        go_wp2
        go_roundg (d.size - 2 * bs)
        case measure => omega
        case rel => exact ⟨2 * bs, dj, by rw [show ((2 * bs : Nat) : Int) = (bs : Int) * 2 by omega], by omega, by omega, Nat.le_refl _, hsj, S1, ⟨HJ.out.1, Fwd.blk HJ.out.2.1 (.last a han (by omega) (HJ.out.2.2.none (by omega))) han⟩⟩
    ·have hltz : ¬ (bs : Int) < (d.size : Int) := by omega
     go_wp2
     go_end0
     exact ⟨rfl, dk, S1.out, HK.out.1, HK.out.2.none (by omega)⟩
set_option maxHeartbeats 16000000 in
set_option maxRecDepth 1000000 in
theorem sortStableW {α : Type} [Inhabited α] (enc : α → Value) (cf : α → α → Int) (hO : SWO (ltOf cf)) (g : Nat) (cb : Array Value) (blk off cap : Nat) (d0 : Array α) (w0 : World) (R : Row1 enc w0 blk off d0) (eg : ∀ args w, (callFunc g args).run Try.prog w = .ok (.enter g args) w) (hcmp : CmpLays1 Try.prog g cb enc cf blk off d0.size w0) (hsz0 : d0.size < 1152921504606846976) (d : Array α) (w : World) (hs : d0.size = d.size) (S : SW enc w0 blk off d w) :
  Calls Try.prog 43 #[.slice (some ⟨blk, off, none⟩) d.size cap, .func (.func g) #[] cb] w fun e w' => e = .returned (.tuple #[]) ∧ ∃ d', SW enc w0 blk off d' w' ∧ PermIn 0 d.size d d' ∧ SortedIn (ltOf cf) 0 d.size d' := by
 have egs : ∀ args w, (callFunc 72 args).run Try.prog w = .ok (.enter 72 args) w := enters_of Try.func72 (by kernel_rfl) rfl
 have hc := stableW enc cf hO g cb blk off cap d0 w0 R eg hcmp hsz0 d w hs S
 clear hcmp S
 go_enter Try.func43, Try.ntmps43
 go_wp2_with (first | (go_at_fn 72; refine hc.mono ?_; rintro e w2 ⟨rfl, hq_⟩; have S2 := AM hq_; clear hq_ hc))
 go_end0
 exact ⟨rfl, S2.out⟩
set_option maxHeartbeats 16000000 in
set_option maxRecDepth 1000000 in
theorem insertNil (g : Nat) (cb : Array Value) (w : World) :
  Calls Try.prog 99 #[.slice none 0 0, .int .i64 0, .int .i64 0, .func (.func g) #[] cb] w fun e w' => e = .returned (.tuple #[]) ∧ w' = w := by
 go_enter Try.func99, Try.ntmps99
 go_wp2
 go_loopg [8] 0 (fun gg s8 wr => s8 = .int .i64 1 ∧ wr = w)
 case atStart => exact ⟨rfl, rfl⟩
 case round =>
  obtain ⟨rfl, rfl⟩ := hrel
  go_wp2
  go_end0
  exact ⟨rfl, rfl⟩
set_option maxHeartbeats 16000000 in
set_option maxRecDepth 1000000 in
theorem stableNil (g : Nat) (cb : Array Value) (w : World) :
  Calls Try.prog 72 #[.slice none 0 0, .int .i64 0, .func (.func g) #[] cb] w fun e w' => e = .returned (.tuple #[]) ∧ w' = w := by
 have egi : ∀ args w, (callFunc 99 args).run Try.prog w = .ok (.enter 99 args) w := enters_of Try.func99 (by kernel_rfl) rfl
 have egy : ∀ args w, (callFunc 100 args).run Try.prog w = .ok (.enter 100 args) w := enters_of Try.func100 (by kernel_rfl) rfl
 have hc := insertNil g cb
 go_enter Try.func72, Try.ntmps72
 go_wp2
 go_loopg [7, 8] 0 (fun gg s7 s8 wr => s7 = .int .i64 0 ∧ s8 = .int .i64 20 ∧ wr = w)
 case atStart => exact ⟨rfl, rfl, rfl⟩
 case round =>
  obtain ⟨rfl, rfl, hwr⟩ := hrel
  go_wp2_with (first | (go_at_fn 99; refine (hc _).mono ?_; rintro e w2 ⟨rfl, hw2⟩))
  go_loopg [6] 0 (fun gg s6 wr2 => s6 = .int .i64 20 ∧ wr2 = w)
  case atStart => exact ⟨rfl, by first | exact hw2 | exact hw2.trans hwr | rfl⟩
  case round =>
   obtain ⟨rfl, hw3⟩ := hrel
   go_wp2
   go_end0
   exact ⟨rfl, by first | exact hw3 | rfl⟩
set_option maxHeartbeats 16000000 in
set_option maxRecDepth 1000000 in
theorem sortStableNil (g : Nat) (cb : Array Value) (w : World) :
  Calls Try.prog 43 #[.slice none 0 0, .func (.func g) #[] cb] w fun e w' => e = .returned (.tuple #[]) ∧ w' = w := by
 have egs : ∀ args w, (callFunc 72 args).run Try.prog w = .ok (.enter 72 args) w := enters_of Try.func72 (by kernel_rfl) rfl
 have hc := stableNil g cb w
 go_enter Try.func43, Try.ntmps43
 go_wp2_with (first | (go_at_fn 72; refine hc.mono ?_; rintro e w2 ⟨rfl, rfl⟩))
 go_end0
 exact ⟨rfl, rfl⟩
end Go.Proofs.Ythamiihdoicjkaa.Pr
namespace Go.Proofs.Ythamiihdoicjkaa.Pr
open Go.RowKit Go.Proofs.YthamiihdoicjkaaW.PrintWords Go.Proofs.YthamiihdoicjkaaW.PrintLast Go.Proofs.YthamiihdoicjkaaW.PrintMore
open Go.Shelf Go.Lib Go.Sort
def upsTo (l0 : List S33) (i : Nat) : List Nat := (List.range i).filter fun k => (l0.getD k z33).f1
theorem upsTo_yes (l0 : List S33) (i : Nat) (h : (l0.getD i z33).f1 = true) : upsTo l0 (i + 1) = upsTo l0 i ++ [i] := by
 unfold upsTo
 rw [List.range_succ, List.filter_append, List.filter_cons_of_pos (by exact h)]
 rfl
theorem upsTo_no (l0 : List S33) (i : Nat) (h : (l0.getD i z33).f1 = false) : upsTo l0 (i + 1) = upsTo l0 i := by
 unfold upsTo
 rw [List.range_succ, List.filter_append, List.filter_cons_of_neg (by show ¬ _ = true; rw [h]; decide)]
 exact List.append_nil _
theorem upsTo_len (l0 : List S33) (i : Nat) : (upsTo l0 i).length ≤ i := by
 have := List.length_filter_le (fun k => (l0.getD k z33).f1) (List.range i)
 rwa [List.length_range] at this
theorem upsTo_lt (l0 : List S33) (i : Nat) : ∀ k ∈ upsTo l0 i, k < i := fun k hk => List.mem_range.1 (List.mem_filter.1 hk).1
def hostLt (x y : S33) : Bool := decide (x.f2.length < y.f2.length ∨ (x.f2.length = y.f2.length ∧ x.f0 < y.f0))
def ltK (l0 : List S33) (a b : Nat) : Bool := hostLt (l0.getD a z33) (l0.getD b z33)
structure IsRank (l0 : List S33) (us : List Nat) : Prop where
 perm : us.Perm (upsTo l0 l0.length)
 sorted : us.Pairwise fun a b => ltK l0 b a = false
def cfH (x y : S33) : Int := orI (cmpI (x.f2.length : Int) (y.f2.length : Int)) (cmpI x.f0 y.f0)
theorem cfH_lt (x y : S33) : decide (cfH x y < 0) = hostLt x y := by
 unfold cfH orI cmpI hostLt
 congr 1
 apply propext
 constructor
 ·intro h
  repeat' split at h
  all_goals omega
 ·intro h
  repeat' split
  all_goals omega
theorem hostLt_swo {α : Type} (f : α → S33) : SWO (ltOf fun x y : α => cfH (f x) (f y)) := by
 have e : ∀ x y : α, ltOf (fun x y : α => cfH (f x) (f y)) x y = hostLt (f x) (f y) := fun x y => cfH_lt _ _
 refine ⟨fun x => ?_, fun x y z h1 h2 => ?_, fun x y z h1 h2 => ?_⟩
 ·rw [e]
  exact decide_eq_false (by omega)
 ·rw [e] at h1 h2 ⊢
  have h1 := of_decide_eq_true h1
  have h2 := of_decide_eq_true h2
  exact decide_eq_true (by omega)
 ·rw [e] at h1 h2 ⊢
  have h1 := of_decide_eq_false h1
  have h2 := of_decide_eq_false h2
  exact decide_eq_false (by omega)
theorem reps_ints {w : World} {base : Nat} {ok : Nat → Prop} : ∀ (xs : List Int) (cs : List Value), Reps ((Kd.int .i64).M w base ok) 1 xs cs → cs = xs.map (Value.int .i64)
 | [], cs, h => List.eq_nil_of_length_eq_zero (by rw [h.1]; rfl)
 | x :: s, cs, h => by
  have h0 : (cs.drop (0 * 1)).take 1 = [.int .i64 x] := h.2 0 x rfl
  rw [Nat.zero_mul, List.drop_zero] at h0
  have ht : Reps ((Kd.int .i64).M w base ok) 1 s (cs.drop 1) := ⟨by rw [List.length_drop, h.1, List.length_cons]; omega, fun j p hj => by
   have := h.2 (j + 1) p (by simpa using hj)
   rw [List.drop_drop, show 1 + j * 1 = (j + 1) * 1 by omega]
   exact this⟩
  have := reps_ints s _ ht
  rw [List.map_cons, ← this]
  have e : cs = cs.take 1 ++ cs.drop 1 := (List.take_append_drop 1 cs).symm
  rw [h0] at e
  exact e
theorem ints_reps {w : World} {base : Nat} {ok : Nat → Prop} : ∀ xs : List Int, Reps ((Kd.int .i64).M w base ok) 1 xs (xs.map (Value.int .i64))
 | [] => Reps.none _ _
 | x :: s => by
  have h : Reps ((Kd.int .i64).M w base ok) 1 ([] ++ [x]) ([] ++ [.int .i64 x]) := Reps.snoc (Reps.none _ _) rfl rfl
  exact Kd.reps_append h (ints_reps s)
theorem ints_open {W : World} {base : Nat} {ok : Nat → Prop} {v : Value} {xs : List Int} (h : Kd.R (Kd.int .i64) 3 W base ok v xs) : (v = .slice none 0 0 ∧ xs = []) ∨ ∃ g cap cur, v = .slice (some ⟨g, 0, none⟩) xs.length cap ∧ base ≤ g ∧ ok g ∧ W.heap[g]? = some (.cells cur 3 (0, 0)) ∧ xs.length ≤ cap ∧ cap ≤ maxLen ∧ cur.size = cap * 1 ∧ cur.toList.take xs.length = xs.map (Value.int .i64) := by
 obtain ⟨h0, inner, ho, hr⟩ := h
 rcases ho.2 with ⟨rfl, hn⟩ | ⟨g, cap, cur, rfl, hb, hg, hn, hm, hs, ht⟩
 ·exact .inl ⟨rfl, List.eq_nil_of_length_eq_zero hn⟩
 ·exact .inr ⟨g, cap, cur, rfl, hb, h0 g rfl, hg, hn, hm, hs, by rw [← reps_ints _ _ hr, ← ht, show xs.length * (Kd.int .i64).sz = xs.length from Nat.mul_one _]⟩
theorem ints_close {W : World} {base : Nat} {ok : Nat → Prop} {v : Value} {xs : List Int} (h0 : ∀ k, v.ownBlock = some k → ok k) (h : W.ownsRow base 3 1 v xs.length (xs.map (Value.int .i64))) : Kd.R (Kd.int .i64) 3 W base ok v xs := ⟨h0, _, h, ints_reps xs⟩
theorem putRow_map {α : Type} [Inhabited α] (f : α → Int) (w : World) (blk off : Nat) (d : Array α) : putRow (fun x => Value.int .i64 (f x)) w blk off d = putRow (Value.int .i64) w blk off (d.map f) := by
 have e : putCells (fun x => Value.int .i64 (f x)) off d = putCells (Value.int .i64) off (d.map f) := by
  funext c
  unfold putCells
  congr 1
  funext k x
  rw [Array.size_map]
  by_cases h : off ≤ k ∧ k < off + d.size
  ·rw [if_pos h, if_pos h]
   have hk : k - off < d.size := by omega
   rw [getElem!_pos d _ hk, getElem!_pos (d.map f) _ (by rw [Array.size_map]; exact hk), Array.getElem_map]
  ·rw [if_neg h, if_neg h]
 unfold putRow
 rw [e]
theorem holds_map {α : Type} [Inhabited α] (f : α → Int) {w : World} {blk off : Nat} {d : Array α} (h : Holds (Value.int .i64) w blk off (d.map f)) : Holds (fun x => Value.int .i64 (f x)) w blk off d := fun j hj => by
 have := h j (by rw [Array.size_map]; exact hj)
 rw [getElem!_pos (d.map f) _ (by rw [Array.size_map]; exact hj), Array.getElem_map] at this
 rw [getElem!_pos d _ hj]
 exact this
theorem sortWorld_below {α : Type} [Inhabited α] (enc : α → Value) (W : World) (g m B : Nat) (dk : Array α) (os : Array Obj) (hB : B ≤ g) (hBs : B ≤ W.heap.size) : Below B W (sortWorld enc W g 0 m dk os) := by
 unfold sortWorld
 refine ⟨rfl, rfl, rfl, by rw [size_grow, Sort.size_putRow]; show W.heap.size ≤ W.heap.size + _; omega, fun k hk => ?_⟩
 rw [heap_grow_old _ _ (by rw [Sort.size_putRow]; exact Nat.lt_of_lt_of_le hk hBs)]
 have : g ≠ k := by omega
 simp [putRow, mapBlock, Sort.ahead, Array.getElem?_modify, this]
set_option maxHeartbeats 4000000 in
theorem sort_own (cl : ∀ (bx n ch a b : Nat) (ad : Addr) (A1 A2 : Option Addr) (c1 c2 : Nat) (x y : S33) (W : World), a < n → b < n → W.cell? ⟨bx, 0, none⟩ = some (.slice (some ad) n ch) → W.cell? (ad.add (a * 3)) = some (.int .i64 x.f0) → W.cell? ⟨(ad.add (a * 3)).block, (ad.add (a * 3)).off + 1, none⟩ = some (.bool x.f1) → W.cell? ⟨(ad.add (a * 3)).block, (ad.add (a * 3)).off + 2, none⟩ = some (.slice A1 x.f2.length c1) → W.cell? (ad.add (b * 3)) = some (.int .i64 y.f0) → W.cell? ⟨(ad.add (b * 3)).block, (ad.add (b * 3)).off + 1, none⟩ = some (.bool y.f1) → W.cell? ⟨(ad.add (b * 3)).block, (ad.add (b * 3)).off + 2, none⟩ = some (.slice A2 y.f2.length c2) → Calls Try.prog 44 #[.int .i64 a, .int .i64 b, .pointer (some ⟨bx, 0, none⟩)] W fun e w' => e = .returned (.int .i64 (cfH x y)) ∧ Gr W w')
  (l0 : List S33) (us : List Nat) (v : Value) (A0 : Option Addr) (c0 bx : Nat) (w1 W : World) (HB : Below w1.heap.size w1 W) (hbox : w1.cell? ⟨bx, 0, none⟩ = some (.slice A0 l0.length c0)) (hh : Kd.C k33 w1 A0 l0.length l0) (HO : Kd.R (Kd.int .i64) 3 W w1.heap.size (fun _ => True) v (us.map Int.ofNat)) (hnil : us = [] → v = .slice none 0 0) (hus : ∀ k ∈ us, k < l0.length) (hl : us.length < 1152921504606846976) :
  Calls Try.prog 43 #[v, .func (.func 44) #[] #[.pointer (some ⟨bx, 0, none⟩)]] W fun e w' => e = .returned (.tuple #[]) ∧ ∃ ts : List Nat, ts.Perm us ∧ (ts.Pairwise fun a b => ltK l0 b a = false) ∧ Kd.R (Kd.int .i64) 3 w' w1.heap.size (fun _ => True) v (ts.map Int.ofNat) ∧ Below w1.heap.size w1 w' := by
 by_cases hu : us = []
 ·rw [hnil hu]
  refine (sortStableNil _ _ W).mono ?_
  rintro e w' ⟨he, rfl⟩
  refine ⟨he, [], by rw [hu], .nil, Kd.R_nil _ _ _ _ _, HB⟩
 rcases ints_open HO with ⟨_, h2⟩ | ⟨g, cap, cur, rfl, hbg, _, hg, hn, hm, hs, ht⟩
 ·exact absurd (List.map_eq_nil_iff.1 h2) hu
 obtain ⟨x0, hx0⟩ : ∃ x, x ∈ us := List.exists_mem_of_ne_nil us hu
 have hgl : g < W.heap.size := (Array.getElem?_eq_some_iff.1 hg).1
 let α := { k : Nat // k < l0.length }
 haveI : Inhabited α := ⟨⟨x0, hus x0 hx0⟩⟩
 let f : α → Int := fun x => (x.1 : Int)
 let us' : List α := us.attachWith (fun k => k < l0.length) hus
 have e1 : us'.map f = us.map Int.ofNat := by
  exact List.attachWith_map_val (f := Int.ofNat) hus
 have e1' : us'.length = us.length := by simpa using congrArg List.length e1
 have hH : Holds (fun x : α => Value.int .i64 (f x)) W g 0 us'.toArray := by
  refine holds_map f ?_
  rw [List.map_toArray, e1]
  exact holds_of_blockI hg ht
 have R : Row1 (fun x : α => Value.int .i64 (f x)) W g 0 us'.toArray := ⟨fun x => rfl, hH, hgl⟩
 let cf : α → α → Int := fun x y => cfH (l0.getD x.1 z33) (l0.getD y.1 z33)
 have hC : CmpLays1 Try.prog 44 #[.pointer (some ⟨bx, 0, none⟩)] (fun x : α => Value.int .i64 (f x)) cf g 0 us'.toArray.size W := by
  intro m os dk hds x y
  have hb2 := HB.trans (sortWorld_below (fun x : α => Value.int .i64 (f x)) W g m w1.heap.size dk os hbg HB.size)
  obtain ⟨ad, A1, c1, rfl, p0, p1, p2, _, _⟩ := at_T33 hh (x.1 : Int) (Int.natCast_nonneg _) (by have := x.2; omega)
  obtain ⟨ad', A2, c2, e2, q0, q1, q2, _, _⟩ := at_T33 hh (y.1 : Int) (Int.natCast_nonneg _) (by have := y.2; omega)
  obtain rfl : ad = ad' := by injection e2
  simp only [Int.toNat_natCast] at p0 p1 p2 q0 q1 q2
  have up := fun {a : Addr} {v : Value} (h : w1.cell? a = some v) => (hb2.cell (World.block_lt_of_cell? w1 _ h)).trans h
  have := cl bx l0.length c0 x.1 y.1 ad A1 A2 c1 c2 (l0.getD x.1 z33) (l0.getD y.1 z33) (sortWorld (fun x : α => Value.int .i64 (f x)) W g 0 m dk os) x.2 y.2 (up hbox) (up p0) (up p1) (up p2) (up q0) (up q1) (up q2)
  exact this.mono fun e w' ⟨h1, h2⟩ => ⟨h1, h2.out⟩
 have eg : ∀ args w, (callFunc 44 args).run Try.prog w = .ok (.enter 44 args) w := enters_of Try.func44 (by kernel_rfl) rfl
 have hz : us'.toArray.size = us.length := by rw [List.size_toArray, e1']
 have hc := sortStableW (fun x : α => Value.int .i64 (f x)) cf (hostLt_swo fun x : α => l0.getD x.1 z33) 44 #[.pointer (some ⟨bx, 0, none⟩)] g 0 cap us'.toArray W R eg hC (by rw [hz]; exact hl) us'.toArray W rfl (SW.start hH)
 rw [hz] at hc
 rw [List.length_map]
 refine hc.mono ?_
 rintro e w' ⟨he, d', ⟨m, os, rfl⟩, hp, hso⟩
 have hdz : d'.size = us.length := by rw [hp.1, hz]
 refine ⟨he, d'.toList.map (fun x => x.1), ?_, ?_, ?_, ?_⟩
 ·have h3 := hp.2.2
  rw [show d'.extract 0 us.length = d' by rw [← hdz]; exact Array.extract_size .., show us'.toArray.extract 0 us.length = us'.toArray by rw [← hz]; exact Array.extract_size ..] at h3
  have h4 := h3.map (fun x => x.1)
  have h5 : us'.map (fun x => x.1) = us := (List.attachWith_map_val (f := id) hus).trans (List.map_id us)
  rwa [List.toList_toArray, h5] at h4
 ·rw [List.pairwise_map]
  rw [List.pairwise_iff_getElem]
  intro i j hi hj hij
  have hi' : i < d'.size := by simpa using hi
  have hj' : j < d'.size := by simpa using hj
  have := hso i j (Nat.zero_le _) hij (by omega)
  rw [getElem!_pos d' i hi', getElem!_pos d' j hj'] at this
  have e : ltOf cf d'[j] d'[i] = hostLt (l0.getD (d'[j]).1 z33) (l0.getD (d'[i]).1 z33) := cfH_lt _ _
  rw [e] at this
  simpa [ltK] using this
 ·refine ints_close (fun _ _ => trivial) ?_
  have e3 : (d'.toList.map fun x => x.1).map Int.ofNat = (d'.map f).toList := by simp [f]
  rw [e3]
  have e4 : (d'.map f).toList.length = (us.map Int.ofNat).length := by simp [hdz]
  have e5 : sortWorld (fun x : α => Value.int .i64 (f x)) W g 0 m d' os = grow (putRow (Value.int .i64) (Sort.ahead W m) g 0 (d'.map f).toList.toArray) os := by
   unfold sortWorld
   rw [putRow_map]
  rw [e5, e4, show us.length = (us.map Int.ofNat).length by simp]
  exact ownsRow_sortedI e4 hbg hg hn hm hs
 ·exact HB.trans (sortWorld_below _ W g m _ d' os hbg HB.size)
end Go.Proofs.Ythamiihdoicjkaa.Pr
namespace Go.Proofs.Ythamiihdoicjkaa.Pr
open Go.RowKit Go.Proofs.YthamiihdoicjkaaW.PrintWords Go.Proofs.YthamiihdoicjkaaW.PrintLast Go.Proofs.YthamiihdoicjkaaW.PrintMore
theorem sorted_unique {α : Type} (R : α → α → Prop) (anti : ∀ a b, R a b → R b a → a = b) : ∀ (us ts : List α), us.Perm ts → us.Pairwise R → ts.Pairwise R → us = ts
 | [], ts, h, _, _ => by rw [List.nil_perm.1 h]
 | a :: s, [], h, _, _ => absurd h.length_eq (by simp)
 | a :: s, b :: t, h, h1, h2 => by
  have ha : a ∈ b :: t := h.mem_iff.1 (List.mem_cons_self ..)
  have hb : b ∈ a :: s := h.mem_iff.2 (List.mem_cons_self ..)
  have e : a = b := by
   rcases List.mem_cons.1 ha with e | ha
   ·exact e
   ·rcases List.mem_cons.1 hb with e | hb
    ·exact e.symm
    ·exact anti a b ((List.pairwise_cons.1 h1).1 b hb) ((List.pairwise_cons.1 h2).1 a ha)
  subst e
  rw [sorted_unique R anti s t (List.perm_cons _ |>.1 h) (List.pairwise_cons.1 h1).2 (List.pairwise_cons.1 h2).2]
def keyOf (l0 : List S33) (k : Nat) : Nat × Int := ((l0.getD k z33).f2.length, (l0.getD k z33).f0)
def idOf (l0 : List S33) (k : Nat) : Int := (l0.getD k z33).f0
def keyLt (p q : Nat × Int) : Bool := decide (p.1 < q.1 ∨ (p.1 = q.1 ∧ p.2 < q.2))
theorem ltK_key (l0 : List S33) (a b : Nat) : ltK l0 a b = keyLt (keyOf l0 a) (keyOf l0 b) := rfl
theorem keyLt_false (p q : Nat × Int) : keyLt p q = false ↔ ¬ (p.1 < q.1 ∨ (p.1 = q.1 ∧ p.2 < q.2)) := by
 unfold keyLt
 exact decide_eq_false_iff_not
theorem rank_ids {l0 : List S33} {us ts : List Nat} (h1 : IsRank l0 us) (h2 : IsRank l0 ts) : us.map (idOf l0) = ts.map (idOf l0) := by
 have e : us.map (keyOf l0) = ts.map (keyOf l0) := by
  refine sorted_unique (fun p q => keyLt q p = false) (fun p q h k => ?_) _ _ ((h1.perm.trans h2.perm.symm).map _) ?_ ?_
  ·rw [keyLt_false] at h k
   exact Prod.ext (by omega) (by omega)
  ·rw [List.pairwise_map]
   exact h1.sorted
  ·rw [List.pairwise_map]
   exact h2.sorted
 have e2 := congrArg (List.map Prod.snd) e
 rw [List.map_map, List.map_map] at e2
 exact e2
def sortK (l0 : List S33) : List Nat := (upsTo l0 l0.length).mergeSort (fun a b => !ltK l0 b a)
theorem sortK_rank (l0 : List S33) : IsRank l0 (sortK l0) := by
 refine ⟨List.mergeSort_perm _ _, ?_⟩
 refine (List.pairwise_mergeSort (le := fun a b => !ltK l0 b a) (fun a b c h k => ?_) (fun a b => ?_) (upsTo l0 l0.length)).imp (fun {a b} h => by simpa using h)
 ·simp only [Bool.not_eq_true', ltK_key, keyLt_false] at h k ⊢
  omega
 ·simp only [Bool.or_eq_true, Bool.not_eq_true', ltK_key, keyLt_false]
  omega
def idsR (l0 : List S33) : List Int := (sortK l0).map (idOf l0)
theorem rank_idsR {l0 : List S33} {us : List Nat} (h : IsRank l0 us) : us.map (idOf l0) = idsR l0 := rank_ids h (sortK_rank l0)
theorem idsR_len (l0 : List S33) : (idsR l0).length = (upsTo l0 l0.length).length := by
 unfold idsR
 rw [List.length_map, (sortK_rank l0).perm.length_eq]
theorem IsRank.len {l0 : List S33} {us : List Nat} (h : IsRank l0 us) : us.length = (idsR l0).length := by rw [idsR_len, h.perm.length_eq]
theorem IsRank.lt {l0 : List S33} {us : List Nat} (h : IsRank l0 us) : ∀ k ∈ us, k < l0.length := fun k hk => upsTo_lt l0 _ k (h.perm.mem_iff.1 hk)
def placeH (l0 : List S33) (n : Int) : List Int × Bool := if n < 0 ∨ n > ((idsR l0).length : Int) then ([], false) else ((idsR l0).take n.toNat, true)
end Go.Proofs.Ythamiihdoicjkaa.Pr
namespace Go.Proofs.Ythamiihdoicjkaa.Pr
open Go.RowKit Go.Proofs.YthamiihdoicjkaaW.PrintWords Go.Proofs.YthamiihdoicjkaaW.PrintLast Go.Proofs.YthamiihdoicjkaaW.PrintMore
open Go.Shelf Go.Lib Go.Sort
set_option maxHeartbeats 8000000 in
set_option maxRecDepth 100000 in
theorem cl_rank (bx n ch a b : Nat) (ad : Addr) (A1 A2 : Option Addr) (c1 c2 : Nat) (x y : S33) (W : World) (ha : a < n) (hb : b < n) (h0 : W.cell? ⟨bx, 0, none⟩ = some (.slice (some ad) n ch)) (h1 : W.cell? (ad.add (a * 3)) = some (.int .i64 x.f0)) (h2 : W.cell? ⟨(ad.add (a * 3)).block, (ad.add (a * 3)).off + 1, none⟩ = some (.bool x.f1)) (h3 : W.cell? ⟨(ad.add (a * 3)).block, (ad.add (a * 3)).off + 2, none⟩ = some (.slice A1 x.f2.length c1)) (h4 : W.cell? (ad.add (b * 3)) = some (.int .i64 y.f0)) (h5 : W.cell? ⟨(ad.add (b * 3)).block, (ad.add (b * 3)).off + 1, none⟩ = some (.bool y.f1)) (h6 : W.cell? ⟨(ad.add (b * 3)).block, (ad.add (b * 3)).off + 2, none⟩ = some (.slice A2 y.f2.length c2)) :
  Calls Try.prog 44 #[.int .i64 a, .int .i64 b, .pointer (some ⟨bx, 0, none⟩)] W fun e w' => e = .returned (.int .i64 (orI (cmpI (x.f2.length : Int) (y.f2.length : Int)) (cmpI x.f0 y.f0))) ∧ Gr W w' := by
 have mixed : Try.prog.follows .mixedOrders = true := by kernel_rfl
 have hu33 := Try.underlying33
 have hut := Try.underlying24
 have haz : (a : Int) < (n : Int) := by omega
 have hbz : (b : Int) < (n : Int) := by omega
 have egLoadOf : ∀ args w, (callFunc 10 args).run Try.prog w = .ok (.enter 10 args) w := enters_of Try.func10 (by kernel_rfl) rfl
 have egCompare : ∀ args w, (callFunc 46 args).run Try.prog w = .ok (.enter 46 args) w := enters_of Try.func46 (by kernel_rfl) rfl
 have egOr : ∀ args w, (callFunc 45 args).run Try.prog w = .ok (.enter 45 args) w := enters_of Try.func45 (by kernel_rfl) rfl
 go_enter Try.func44, Try.ntmps44
 go_wp2_with fail
 refine start_ (n := 25) (S := fun w' => Gr W w' ∧ w'.cell? ⟨bx, 0, none⟩ = some (.slice (some ad) n ch) ∧ w'.cell? (ad.add (a * 3)) = some (.int .i64 x.f0) ∧ w'.cell? ⟨(ad.add (a * 3)).block, (ad.add (a * 3)).off + 1, none⟩ = some (.bool x.f1) ∧ w'.cell? ⟨(ad.add (a * 3)).block, (ad.add (a * 3)).off + 2, none⟩ = some (.slice A1 x.f2.length c1) ∧ w'.cell? (ad.add (b * 3)) = some (.int .i64 y.f0) ∧ w'.cell? ⟨(ad.add (b * 3)).block, (ad.add (b * 3)).off + 1, none⟩ = some (.bool y.f1) ∧ w'.cell? ⟨(ad.add (b * 3)).block, (ad.add (b * 3)).off + 2, none⟩ = some (.slice A2 y.f2.length c2)) (ds := []) (.replicate 25 false) (by kernel_rfl) rfl rfl ⟨(Gr.refl W).drew, (Gr.refl W).drew.cell h0, (Gr.refl W).drew.cell h1, (Gr.refl W).drew.cell h2, (Gr.refl W).drew.cell h3, (Gr.refl W).drew.cell h4, (Gr.refl W).drew.cell h5, (Gr.refl W).drew.cell h6⟩ (fun hHeld => ?_)
 refine PU 1 7 ?_
 refine PU 6 12 ?_
 refine PU 12 18 ?_
 refine PU 17 23 ?_
 refine TK 0 6 hHeld ?_
 refine PU 2 8 ?_
 refine TK 3 9 hHeld ?_
 refine TK 5 11 hHeld ?_
 refine PU 7 13 ?_
 refine TK 8 14 hHeld ?_
 refine TK 11 17 hHeld ?_
 refine PU 13 19 ?_
 refine PU 14 20 ?_
 refine TK 15 21 hHeld ?_
 refine TK 16 22 hHeld ?_
 refine PU 18 24 ?_
 refine PU 19 25 ?_
 refine TK 20 26 hHeld ?_
 refine one_ (i := 4) (N := some 10) #[true, true, true, true, true, true, true, true, true, false, false, true, true, true, true, true, true, true, true, true, true, false, false, false, false] rfl rfl (by kernel_rfl) (by decide) (fun K hK => ?_)
 refine call_ 10 #[.agg #[.int .i64 x.f0, .bool x.f1, .slice A1 x.f2.length c1]] (by rfl) rfl ?_ ?_
 ·go_simp
  try exact egLoadOf _ _
 refine (loadOf_x x.f0 x.f1 A1 x.f2.length c1 _).mono ?_
 rintro e w3 ⟨rfl, os', rfl⟩
 have hGR_ := hHeld.1.grow os'
 refine ⟨_, rfl, ?_⟩
 refine hK.out _ _ ⟨hGR_, hGR_.cell h0, hGR_.cell h1, hGR_.cell h2, hGR_.cell h3, hGR_.cell h4, hGR_.cell h5, hGR_.cell h6⟩ (fun hHeld => ?_)
 clear hK K
 refine NM 10 ?_
 refine one_ (i := 9) (N := some 15) #[true, true, true, true, true, true, true, true, true, true, false, true, true, true, true, true, true, true, true, true, true, false, false, false, false] rfl rfl (by kernel_rfl) (by decide) (fun K hK => ?_)
 refine call_ 10 #[.agg #[.int .i64 y.f0, .bool y.f1, .slice A2 y.f2.length c2]] (by rfl) rfl ?_ ?_
 ·go_simp
  try exact egLoadOf _ _
 refine (loadOf_x y.f0 y.f1 A2 y.f2.length c2 _).mono ?_
 rintro e w3 ⟨rfl, os', rfl⟩
 have hGR_ := hHeld.1.grow os'
 refine ⟨_, rfl, ?_⟩
 refine hK.out _ _ ⟨hGR_, hGR_.cell h0, hGR_.cell h1, hGR_.cell h2, hGR_.cell h3, hGR_.cell h4, hGR_.cell h5, hGR_.cell h6⟩ (fun hHeld => ?_)
 clear hK K
 refine NM 15 ?_
 refine one_ (i := 10) (N := some 16) #[true, true, true, true, true, true, true, true, true, true, true, true, true, true, true, true, true, true, true, true, true, false, false, false, false] rfl rfl (by kernel_rfl) (by decide) (fun K hK => ?_)
 refine call_ 46 #[.int .i64 (x.f2.length : Int), .int .i64 (y.f2.length : Int)] (by rfl) rfl ?_ ?_
 ·go_simp
  try exact egCompare _ _
 refine (compare_x _ _ _).mono ?_
 rintro e w3 ⟨rfl, hd_⟩
 have hGR_ := hHeld.1.drawn0 hd_
 refine ⟨_, rfl, ?_⟩
 refine hK.out _ _ ⟨hGR_, hGR_.cell h0, hGR_.cell h1, hGR_.cell h2, hGR_.cell h3, hGR_.cell h4, hGR_.cell h5, hGR_.cell h6⟩ (fun hHeld => ?_)
 clear hK K
 refine NM 16 ?_
 refine one_ (i := 21) (N := some 27) #[true, true, true, true, true, true, true, true, true, true, true, true, true, true, true, true, true, true, true, true, true, true, false, false, false] rfl rfl (by kernel_rfl) (by decide) (fun K hK => ?_)
 refine call_ 46 #[.int .i64 x.f0, .int .i64 y.f0] (by rfl) rfl ?_ ?_
 ·go_simp
  try exact egCompare _ _
 refine (compare_x _ _ _).mono ?_
 rintro e w9 ⟨rfl, hd_⟩
 have hGR_ := hHeld.1.drawn0 hd_
 refine ⟨_, rfl, ?_⟩
 refine hK.out _ _ ⟨hGR_, hGR_.cell h0, hGR_.cell h1, hGR_.cell h2, hGR_.cell h3, hGR_.cell h4, hGR_.cell h5, hGR_.cell h6⟩ (fun hHeld => ?_)
 clear hK K
 refine NM 27 ?_
 refine one_ (i := 22) (N := some 28) #[true, true, true, true, true, true, true, true, true, true, true, true, true, true, true, true, true, true, true, true, true, true, true, false, false] rfl rfl (by kernel_rfl) (by decide) (fun K hK => ?_)
 refine value_ (w1 := ?_) (v := ?_) (by rfl) rfl ?_ ?_
 rotate_left 2
 ·go_simp
  constructor
  ·rfl
  ·rfl
 have hGR_ := hHeld.1.alloc (.cells #[.int .i64 (cmpI (x.f2.length : Int) (y.f2.length : Int)), .int .i64 (cmpI x.f0 y.f0)] 3)
 refine hK.out _ _ ⟨hGR_, hGR_.cell h0, hGR_.cell h1, hGR_.cell h2, hGR_.cell h3, hGR_.cell h4, hGR_.cell h5, hGR_.cell h6⟩ (fun hHeld => ?_)
 clear hK K
 refine NM 28 ?_
 refine one_ (i := 23) (N := some 29) #[true, true, true, true, true, true, true, true, true, true, true, true, true, true, true, true, true, true, true, true, true, true, true, true, false] rfl rfl (by kernel_rfl) (by decide) (fun K hK => ?_)
 refine call_ 45 #[.slice (some ⟨w9.heap.size, 0, none⟩) 2 2] (by rfl) rfl ?_ ?_
 ·go_simp
  try exact egOr _ _
 refine (or_x w9.heap.size (cmpI (x.f2.length : Int) (y.f2.length : Int)) (cmpI x.f0 y.f0) _ (by simp) (by simp)).mono ?_
 rintro e w3 ⟨rfl, hd_⟩
 have hGR_ := hHeld.1.drawn0 hd_
 refine ⟨_, rfl, ?_⟩
 refine hK.out _ _ ⟨hGR_, hGR_.cell h0, hGR_.cell h1, hGR_.cell h2, hGR_.cell h3, hGR_.cell h4, hGR_.cell h5, hGR_.cell h6⟩ (fun hHeld => ?_)
 clear hK K
 refine NM 29 ?_
 refine PU 24 5 ?_
 refine done_ (by kernel_rfl) ?_
 go_wp2
 go_ret
 exact ⟨rfl, hGR_⟩
theorem cl_true (x : Value) (w : World) (hx : ∃ a b c, x = .agg #[a, b, c]) : Calls Try.prog 22 #[x] w fun e w' => e = .returned (.bool true) ∧ Below w.heap.size w w' := by
 obtain ⟨a, b, c, rfl⟩ := hx
 have hu33 := Try.underlying33
 have HB := Below.refl w.heap.size w
 go_enter Try.func22, Try.ntmps22
 go_wp2_with (first | ((with_reducible refine gate_dst (N := 1) rfl ?_); refine BX 1 #[a, b, c] 33 ?_; intro bx hg W1 hbox hb))
 go_ret
 exact ⟨rfl, hb⟩
set_option maxHeartbeats 8000000 in
set_option maxRecDepth 100000 in
theorem ranked_w (A0 : Option Addr) (c0 : Nat) (l0 : List S33) (w : World) (hr0 : Kd.C k33 w A0 l0.length l0) (hc0 : l0.length ≤ c0) (hl : l0.length < 17592186044416) :
  Calls Try.prog 21 #[.slice A0 l0.length c0, .func (.func 22) #[] #[]] w fun e w' => ∃ v us, e = .returned v ∧ IsRank l0 us ∧ Kd.R (Kd.int .i64) 3 w' w.heap.size (fun _ => True) v (us.map Int.ofNat) ∧ Below w.heap.size w w' := by
 have hu33 := Try.underlying33
 have eg1 : ∀ args w, (callFunc 22 args).run Try.prog w = .ok (.enter 22 args) w := enters_of Try.func22 (by kernel_rfl) rfl
 have eg2 : ∀ args w, (callFunc 43 args).run Try.prog w = .ok (.enter 43 args) w := enters_of Try.func43 (by kernel_rfl) rfl
 have HR0 := AM hr0
 clear hr0
 go_enter Try.func21, Try.ntmps21
 go_wp2_with (first | ((with_reducible refine gate_dst (N := 2) rfl ?_); refine BX 2 #[.slice A0 l0.length c0] 24 ?_; intro bx hg W1 hbox hb; have BK0 := AM hbox; have HB1 := AM hb; clear hb hbox hg; have hcz0 := blk_cell BK0.out 0))
 have HX1 : Aside0 (W1.cell? ⟨bx, 0, none⟩ = some (.slice A0 l0.length c0)) := ⟨(blk_cell BK0.out 0).trans rfl⟩
 have HH1 := AM (Kd.C_below HR0.out HB1.out)
 clear hcz0 BK0 HR0
 go_loopg [5, 10] l0.length (fun gg s5 s10 wr => ∃ i : Nat, s10 = .int .i64 i ∧ i ≤ l0.length ∧ l0.length - i ≤ gg ∧ Aside0 (Kd.R (Kd.int .i64) 3 wr W1.heap.size (fun _ => True) s5 ((upsTo l0 i).map Int.ofNat) ∧ (upsTo l0 i = [] → s5 = .slice none 0 0)) ∧ Aside0 (Below W1.heap.size W1 wr))
 case atStart => exact ⟨0, rfl, Nat.zero_le _, Nat.sub_le _ _, ⟨Kd.R_nil _ _ _ _ _, fun _ => rfl⟩, ⟨Below.refl _ _⟩⟩
 case round =>
  obtain ⟨i, rfl, hin, hgg, HO, HB⟩ := hrel
  by_cases hlt : i < l0.length
  ·have hltz : (i : Int) < (l0.length : Int) := by omega
   obtain ⟨ad, A2, c2, e1, hx0, hx1, hx2, hl2, hi2⟩ := at_T33 HH1.out (i : Int) (Int.natCast_nonneg _) hltz
   clear hl2 hi2
   subst e1
   simp only [Int.toNat_natCast] at hx0 hx1 hx2
   replace hx0 := (HB.out.cell (World.block_lt_of_cell? _ _ hx0)).trans hx0
   replace hx1 := (HB.out.cell (World.block_lt_of_cell? _ _ hx1)).trans hx1
   replace hx2 := (HB.out.cell (World.block_lt_of_cell? _ _ hx2)).trans hx2
   obtain ⟨y, hy⟩ : ∃ y, y = l0.getD i z33 := ⟨_, rfl⟩
   rw [show rd_T33 l0 (i : Int) = y from hy.symm] at hx0 hx1 hx2
   have HY := AM hy
   clear hy
   have UL := AM (upsTo_len l0 i)
   cases hup : y.f1 with
   | true =>
    rw [hup] at hx1
    go_wp2_with (first
     | ((with_reducible refine gate_dst (N := 7) rfl ?_); refine BX 7 #[.int .i64 0, .bool false, .slice none 0 0] 33 ?_; intro gb hg w2 hbox hb; have BK := AM hbox; have GE : Aside0 (W1.heap.size ≤ gb) := ⟨by rw [hg]; exact HB.out.size⟩; have HO2 := AM (Kd.R_below HO.out.1 hb); have HB2 := AM (HB.out.trans (hb.mono HB.out.size)); clear hb hbox hg; have hcz1 := blk_cell BK.out; have hfz1 := blk_frozen BK.out)
     | (go_at_fn 22; refine (cl_true _ _ ⟨_, _, _, rfl⟩).mono ?_; rintro e w3 ⟨rfl, hb3⟩; have HO3 := AM (Kd.R_below (Kd.R_mono (Kd.R_far (p := ⟨gb, 2, none⟩) (Kd.R_far (p := ⟨gb, 1, none⟩) (Kd.R_far (p := ⟨gb, 0, none⟩) (Kd.R_types HO2.out BK.out (by decide)) (fun _ hk => hk.2) (.int .i64 y.f0)) (fun _ hk => hk.2) (.bool true)) (fun _ hk => hk.2) (.slice A2 y.f2.length c2)) (ok' := fun _ => True) (fun _ _ => trivial)) hb3); have HB3 := AM ((((HB2.out.setCell (p := ⟨gb, 0, none⟩) GE.out (.int .i64 y.f0)).setCell (p := ⟨gb, 1, none⟩) GE.out (.bool true)).setCell (p := ⟨gb, 2, none⟩) GE.out (.slice A2 y.f2.length c2)).trans (hb3.mono (((HB2.out.setCell (p := ⟨gb, 0, none⟩) GE.out (.int .i64 y.f0)).setCell (p := ⟨gb, 1, none⟩) GE.out (.bool true)).setCell (p := ⟨gb, 2, none⟩) GE.out (.slice A2 y.f2.length c2)).size)); clear hb3 HO2 HB2 hcz1 hfz1)
     | ((with_reducible refine gate_builtin (b := .append) (xs := #[.tmp 22, .tmp 24]) rfl ?_); at_builtin; refine Kd.R_append (Kd.int .i64) (w0 := W1) W1.heap.size rfl (.tmp 22) (.tmp 24) 27 3 (.int .i64 0) 8 rfl Try.underlying27 info3 rfl (by decide) (by omega) _ ((upsTo l0 i).map Int.ofNat) (i : Int) [.int .i64 (i : Int)] (fun _ => True) (fun _ => False) rfl rfl ?aP (fun _ hk => hk.elim) ?aF ?aO ?aB ?aS ?aL ?_; (case aP => exact rfl); (case aB => exact HB3.out); (case aF => exact (fun _ _ => trivial)); (case aO => exact HO3.out); (case aS => exact HB3.out.size); (case aL => rw [List.length_map]; have := UL.out; omega); intro v4 w4 ho hb hg hat; have HO4 := AM ho; have HB4 := AM hb; clear ho hb hg hat))
    go_roundg (l0.length - (i + 1))
    case measure => omega
    case rel => exact ⟨i + 1, by go_num, hlt, Nat.le_refl _, ⟨by rw [upsTo_yes l0 i (by rw [← HY.out]; exact hup), List.map_append]; exact HO4.out, fun h => absurd h (by rw [upsTo_yes l0 i (by rw [← HY.out]; exact hup)]; simp)⟩, HB4⟩
   | false =>
    rw [hup] at hx1
    go_wp2_with (first
     | ((with_reducible refine gate_dst (N := 7) rfl ?_); refine BX 7 #[.int .i64 0, .bool false, .slice none 0 0] 33 ?_; intro gb hg w2 hbox hb; have BK := AM hbox; have GE : Aside0 (W1.heap.size ≤ gb) := ⟨by rw [hg]; exact HB.out.size⟩; have HO2 := AM (Kd.R_below HO.out.1 hb); have HB2 := AM (HB.out.trans (hb.mono HB.out.size)); clear hb hbox hg; have hcz1 := blk_cell BK.out; have hfz1 := blk_frozen BK.out))
    go_roundg (l0.length - (i + 1))
    case measure => omega
    case rel => exact ⟨i + 1, by go_num, hlt, Nat.le_refl _, ⟨by rw [upsTo_no l0 i (by rw [← HY.out]; exact hup)]; exact Kd.R_mono (Kd.R_far (p := ⟨gb, 2, none⟩) (Kd.R_far (p := ⟨gb, 1, none⟩) (Kd.R_far (p := ⟨gb, 0, none⟩) (Kd.R_types HO2.out BK.out (by decide)) (fun _ hk => hk.2) (.int .i64 y.f0)) (fun _ hk => hk.2) (.bool false)) (fun _ hk => hk.2) (.slice A2 y.f2.length c2)) (fun _ _ => trivial), fun h => HO.out.2 (by rw [upsTo_no l0 i (by rw [← HY.out]; exact hup)] at h; exact h)⟩, ⟨((HB2.out.setCell (p := ⟨gb, 0, none⟩) GE.out (.int .i64 y.f0)).setCell (p := ⟨gb, 1, none⟩) GE.out (.bool false)).setCell (p := ⟨gb, 2, none⟩) GE.out (.slice A2 y.f2.length c2)⟩⟩
  ·have hltz : ¬ (i : Int) < (l0.length : Int) := by omega
   obtain rfl : i = l0.length := by omega
   have hc := sort_own cl_rank l0 (upsTo l0 l0.length) _ A0 c0 bx W1 _ HB.out HX1.out HH1.out HO.out.1 HO.out.2 (upsTo_lt l0 l0.length) (by have := upsTo_len l0 l0.length; omega)
   go_wp2_with (first | (go_at_fn 43; refine hc.mono ?_; rintro e w4 ⟨rfl, hq⟩; have HQ := AM hq; clear hq hc))
   go_ret
   obtain ⟨ts, h1, h2, h3, h4⟩ := HQ.out
   exact ⟨_, ts, rfl, ⟨h1, h2⟩, Kd.R_lower h3 HB1.out.size, HB1.out.trans (h4.mono HB1.out.size)⟩
def impl_PlaceGroup.f (l0 : List (S33)) (a1 : Int) : Option (List Int × Bool) := if l0.length ≤ 1048576 then some (placeH l0 a1) else none
theorem placeH_no {l0 : List (S33)} {a1 : Int} (h : a1 < 0 ∨ a1 > ((idsR l0).length : Int)) : placeH l0 a1 = ([], false) := if_pos h
theorem placeH_yes {l0 : List (S33)} {n : Nat} (h : n ≤ (idsR l0).length) : placeH l0 (n : Int) = ((idsR l0).take n, true) := by
 unfold placeH
 rw [if_neg (by omega), Int.toNat_natCast]
theorem rd_us (us : List Nat) (i : Nat) (h : i < us.length) : rd (us.map Int.ofNat) (i : Int) = ((us[i] : Nat) : Int) := by
 show (us.map Int.ofNat).getD i 0 = _
 rw [List.getD_eq_getElem?_getD, List.getElem?_map, List.getElem?_eq_getElem h]
 rfl
set_option maxHeartbeats 8000000 in
set_option maxRecDepth 100000 in
theorem impl_PlaceGroup.calls (A0 : Option Addr) (c0 : Nat) (l0 : List (S33)) (a1 : Int) (r1 : List Int) (r2 : Bool) (w : World) (hr0 : Kd.C k33 w A0 l0.length l0) (hc0 : l0.length ≤ c0) (h : impl_PlaceGroup.f l0 a1 = some (r1, r2)) :
  Calls Try.prog 8 #[.slice A0 l0.length c0, .int .i64 a1] w fun e w' => ∃ v0_ : Value, e = .returned (.tuple #[v0_, .bool r2]) ∧ Kd.R (Kd.int .i64) 3 w' w.heap.size (fun _ => True) v0_ r1 ∧ Below w.heap.size w w' := by
 unfold impl_PlaceGroup.f at h
 by_cases hl : l0.length ≤ 1048576
 case neg => rw [if_neg hl] at h; cases h
 rw [if_pos hl] at h
 have HP := AM (Option.some.inj h)
 clear h
 have hu33 := Try.underlying33
 have eg1 : ∀ args w, (callFunc 21 args).run Try.prog w = .ok (.enter 21 args) w := enters_of Try.func21 (by kernel_rfl) rfl
 have hc := ranked_w A0 c0 l0 w hr0 hc0 (by omega)
 have HR0 := AM hr0
 clear hr0
 go_enter Try.func8, Try.ntmps8
 go_upto_region 2 with (first | (go_at_fn 21; refine hc.mono ?_; rintro e w2 ⟨v, us, rfl, hk, ho, hb⟩; have HK := AM hk; obtain ⟨A6, c6, rfl, hc6, hC6⟩ := Kd.R_reads ho; have HC6 := AM hC6; have HB2 := AM hb; clear hk ho hb hc hC6))
 (try rw [List.length_map] at hc6); (try rw [List.length_map] at HC6); (try rw [List.length_map])
 have HL := AM HK.out.len
 have hul : us.length ≤ 1048576 := by have := HK.out.len; have := idsR_len l0; have := upsTo_len l0 l0.length; omega
 have HH2 := AM (Kd.C_below HR0.out HB2.out)
 clear HR0
 by_cases hneg : a1 < 0
 ·have hnb : decide (a1 < 0) = true := decide_eq_true hneg
  go_wp2
  go_ret2
  rw [placeH_no (.inl hneg)] at HP
  have e1 := congrArg Prod.fst HP.out
  have e2 := congrArg Prod.snd HP.out
  subst e1
  subst e2
  exact ⟨_, rfl, Kd.R_nil _ _ _ _ _, HB2.out⟩
 ·have hnb : decide (a1 < 0) = false := decide_eq_false hneg
  by_cases hgt : a1 > (us.length : Int)
  ·have hgb : decide (a1 > (us.length : Int)) = true := decide_eq_true hgt
   go_wp2
   go_ret2
   rw [placeH_no (.inr (by rw [← HL.out]; exact hgt))] at HP
   have e1 := congrArg Prod.fst HP.out
   have e2 := congrArg Prod.snd HP.out
   subst e1
   subst e2
   exact ⟨_, rfl, Kd.R_nil _ _ _ _ _, HB2.out⟩
  ·have hgb : decide (a1 > (us.length : Int)) = false := decide_eq_false hgt
   obtain ⟨n, rfl⟩ : ∃ n : Nat, a1 = (n : Int) := ⟨a1.toNat, by omega⟩
   have hn : n ≤ us.length := by omega
   have HP2 : Aside0 (r1 = (us.take n).map (idOf l0) ∧ r2 = true) := ⟨by
    rw [placeH_yes (by rw [← HL.out]; exact hn), ← rank_idsR HK.out] at HP
    exact ⟨(congrArg Prod.fst HP.out).symm.trans (by show List.take n (us.map (idOf l0)) = _; rw [List.map_take]), (congrArg Prod.snd HP.out).symm⟩⟩
   clear HP
   go_wp2
   go_loopg [7, 8] n (fun gg s7 s8 wr => ∃ i : Nat, s8 = .int .i64 i ∧ i ≤ n ∧ n - i ≤ gg ∧ Aside0 (Kd.R (Kd.int .i64) 3 wr w2.heap.size (fun _ => True) s7 ((us.take i).map (idOf l0))) ∧ Aside0 (Below w2.heap.size w2 wr))
   case atStart => exact ⟨0, rfl, Nat.zero_le _, Nat.sub_le _ _, ⟨Kd.R_nil _ _ _ _ _⟩, ⟨Below.refl _ _⟩⟩
   case round =>
    obtain ⟨i, rfl, hin, hgg, HO, HB⟩ := hrel
    by_cases hlt : i < n
    ·have hltz : (i : Int) < (n : Int) := by omega
     have hiu : i < us.length := by omega
     have hiz : (i : Int) < (us.length : Int) := by omega
     obtain ⟨ad6, e6, hx6⟩ := Kd.at_int HC6.out (i : Int) (Int.natCast_nonneg _) hiz
     rw [rd_us us i hiu] at hx6
     obtain ⟨k, hk⟩ : ∃ k, k = us[i] := ⟨_, rfl⟩
     rw [← hk] at hx6
     have hkl : k < l0.length := HK.out.lt k (by rw [hk]; exact List.getElem_mem hiu)
     have hkz : (k : Int) < (l0.length : Int) := by omega
     obtain ⟨ad, A2, c2, e1, hx0, hx1, hx2, hl2, hi2⟩ := at_T33 HH2.out (k : Int) (Int.natCast_nonneg _) hkz
     clear hl2 hi2 hx1 hx2
     subst e1
     subst e6
     simp only [Int.toNat_natCast] at hx0 hx6
     replace hx0 := (HB.out.cell (World.block_lt_of_cell? _ _ hx0)).trans hx0
     replace hx6 := (HB.out.cell (World.block_lt_of_cell? _ _ hx6)).trans hx6
     rw [show (rd_T33 l0 (k : Int)).f0 = idOf l0 k from rfl] at hx0
     obtain ⟨y, hy⟩ : ∃ y, y = idOf l0 k := ⟨_, rfl⟩
     rw [← hy] at hx0
     have HE : Aside0 ((us.take (i + 1)).map (idOf l0) = (us.take i).map (idOf l0) ++ [y]) := ⟨by rw [List.take_succ_eq_append_getElem hiu, List.map_append, hy, hk]; rfl⟩
     clear hk hy
     have UL : Aside0 ((us.take i).length ≤ 1048576) := ⟨by rw [List.length_take]; omega⟩
     go_wp2_with (first
      | ((with_reducible refine gate_builtin (b := .append) (xs := #[.tmp 24, .tmp 33]) rfl ?_); at_builtin; refine Kd.R_append (Kd.int .i64) (w0 := w2) w2.heap.size rfl (.tmp 24) (.tmp 33) 27 3 (.int .i64 0) 8 rfl Try.underlying27 info3 rfl (by decide) (by omega) _ ((us.take i).map (idOf l0)) y [.int .i64 y] (fun _ => True) (fun _ => False) rfl rfl ?aP (fun _ hk => hk.elim) ?aF ?aO ?aB ?aS ?aL ?_; (case aP => exact rfl); (case aB => exact HB.out); (case aF => exact (fun _ _ => trivial)); (case aO => exact HO.out); (case aS => exact HB.out.size); (case aL => rw [List.length_map]; have := UL.out; omega); intro v4 w4 ho hb hg hat; have HO4 := AM ho; have HB4 := AM hb; clear ho hb hg hat))
     go_roundg (n - (i + 1))
     case measure => omega
     case rel => exact ⟨i + 1, by go_num, hlt, Nat.le_refl _, ⟨by rw [HE.out]; exact HO4.out⟩, HB4⟩
    ·have hltz : ¬ (i : Int) < (n : Int) := by omega
     obtain rfl : i = n := by omega
     go_wp2
     go_ret2
     obtain ⟨h1, h2⟩ := HP2.out
     subst h1
     subst h2
     exact ⟨_, rfl, Kd.R_lower HO.out HB2.out.size, HB2.out.trans (HB.out.mono HB2.out.size)⟩
end Go.Proofs.Ythamiihdoicjkaa.Pr
namespace Go.Proofs.Ythamiihdoicjkaa.Pv
open Go Go.RowKit Go.Proofs.YthamiihdoicjkaaW.PrintWords
structure Rb {α : Type} (d : Kd α) (k : K) (f : k.ty → α) (ok : k.ty → Prop) : Prop where
 sz : d.sz = k.width
 sh : ∀ (S : Nat → Prop) (w : World) (x : k.ty) (c : Nat → Option Value), ok x → Sh S w k x c → ∃ cs : List Value, cs.length = k.width ∧ (∀ j, j < k.width → c j = cs[j]?) ∧ d.K w (f x) cs

theorem rb_int (k : IntKind) : Rb (Kd.int k) (.int k) (fun n => n) (fun _ => True) := ⟨rfl, fun S w x c _ h => ⟨[.int k x], rfl, fun j hj => by
 have hj : j < 1 := hj
 obtain rfl : j = 0 := by omega
 exact h, rfl⟩⟩
theorem rb_bool : Rb Kd.bool .bool (fun n => n) (fun _ => True) := ⟨rfl, fun S w x c _ h => ⟨[.bool x], rfl, fun j hj => by
 have hj : j < 1 := hj
 obtain rfl : j = 0 := by omega
 exact h, rfl⟩⟩
theorem rb_str : Rb Kd.string .str (fun n => n) (fun _ => True) := ⟨rfl, fun S w x c _ h => ⟨[.string x], rfl, fun j hj => by
 have hj : j < 1 := hj
 obtain rfl : j = 0 := by omega
 exact h, rfl⟩⟩
theorem rb_pair {α β : Type} {a : Kd α} {b : Kd β} {ka kb : K} {f : ka.ty → α} {g : kb.ty → β} {p : ka.ty → Prop} {q : kb.ty → Prop} (ha : Rb a ka f p) (hb : Rb b kb g q) : Rb (Kd.pair a b) (.pair ka kb) (fun x => (f x.1, g x.2)) (fun x => p x.1 ∧ q x.2) := by
 refine ⟨by show a.sz + b.sz = ka.width + kb.width; rw [ha.sz, hb.sz], ?_⟩
 rintro S w x c ⟨h1, h2⟩ ⟨s1, s2⟩
 obtain ⟨c0, l0, e0, k0⟩ := ha.sh S w x.1 c h1 s1
 obtain ⟨c1, l1, e1, k1⟩ := hb.sh S w x.2 _ h2 s2
 refine ⟨c0 ++ c1, by rw [List.length_append, l0, l1]; rfl, fun j hj => ?_, c0, c1, rfl, k0, k1⟩
 have hj : j < ka.width + kb.width := hj
 by_cases h : j < ka.width
 ·rw [List.getElem?_append_left (by omega)]; exact e0 j h
 ·have := e1 (j - ka.width) (by omega)
  rw [show ka.width + (j - ka.width) = j by omega] at this
  rw [List.getElem?_append_right (by omega), l0]
  exact this
theorem rb_last {α : Type} {a : Kd α} {ka : K} {f : ka.ty → α} {p : ka.ty → Prop} (ha : Rb a ka f p) : Rb a (.pair ka .unit) (fun x => f x.1) (fun x => p x.1) :=
 ⟨ha.sz, fun S w x c hp h => ha.sh S w x.1 c hp h.1⟩
theorem rb_iso {α β : Type} {d : Kd α} {k : K} {f : k.ty → α} {p : k.ty → Prop} (h : Rb d k f p) (g : β → α) (u : k.ty → β) (e : ∀ x, g (u x) = f x) : Rb (Kd.iso d g) k u p := ⟨h.sz, fun S w x c hp hs => by
 obtain ⟨cs, h1, h2, h3⟩ := h.sh S w x c hp hs
 refine ⟨cs, h1, h2, ?_⟩
 show d.K w (g (u x)) cs
 rw [e]
 exact h3⟩

theorem sh_row {α : Type} {d : Kd α} {k : K} {f : k.ty → α} {p : k.ty → Prop} (h : Rb d k f p) {S : Nat → Prop} {w : World} {xs : List k.ty} {v : Value} (hl : xs.length ≤ 9223372036854775807) (hp : ∀ x ∈ xs, p x) (hs : Sh S w (.row k) xs (one v)) :
  ∃ A c, v = .slice A xs.length c ∧ xs.length ≤ c ∧ d.C w A xs.length (xs.map f) := by
 obtain ⟨A, len, cap, h1, h2, h3, h4⟩ := hs
 subst h2
 refine ⟨A, cap, Option.some.inj h1, h3, List.length_map _, hl, fun hpos => ?_⟩
 rcases h4 with rfl | ⟨b, o, rfl, _, hc⟩
 ·exact absurd hpos (by simp)
 ·refine ⟨⟨b, o, none⟩, rfl, fun j y hy => ?_⟩
  rw [List.getElem?_map] at hy
  obtain ⟨x, hx, rfl⟩ := Option.map_eq_some_iff.1 hy
  obtain ⟨hj, rfl⟩ := List.getElem?_eq_some_iff.1 hx
  obtain ⟨cs, c1, c2, c3⟩ := h.sh S w xs[j] _ (hp _ (List.getElem_mem hj)) (hc j hj)
  refine ⟨cs, c1.trans h.sz.symm, c3, fun i u hu => ?_⟩
  have hi : i < k.width := by rw [← c1]; exact (List.getElem?_eq_some_iff.1 hu).1
  have := c2 i hi
  rw [hu] at this
  have hadd : Addr.add ⟨b, o, none⟩ (j * d.sz + i) = ⟨b, o + j * k.width + i, none⟩ := by
   rw [h.sz]
   unfold Addr.add
   split
   ·rename_i hn
    have : j * k.width = 0 := by omega
    rw [show o + j * k.width + i = o by omega]
   ·rw [Nat.add_assoc]
  rw [hadd]
  exact this
theorem rb_row {α : Type} {d : Kd α} {k : K} {f : k.ty → α} {p : k.ty → Prop} (h : Rb d k f p) (e : Nat) : Rb (Kd.slice e d) (.row k) (List.map f) (fun xs : List k.ty => xs.length ≤ 9223372036854775807 ∧ ∀ x ∈ xs, p x) := ⟨rfl, fun S w x c hp hs => by
 have h0 : ∃ v, c 0 = some v := by obtain ⟨a, len, cap, h1, _⟩ := hs; exact ⟨_, h1⟩
 obtain ⟨v, hv⟩ := h0
 have hs' : Sh S w (.row k) x (one v) := leaf_one hs rfl hv
 obtain ⟨A, c', rfl, h2, h3⟩ := sh_row h hp.1 hp.2 hs'
 refine ⟨[.slice A (List.length x) c'], rfl, fun j hj => ?_, A, c', by rw [List.length_map], by rw [List.length_map]; exact h2, by rw [List.length_map]; exact h3⟩
 have hj : j < 1 := hj
 obtain rfl : j = 0 := by omega
 exact hv⟩

theorem fnOk_row1 {GI : Glob} {P : Program} {sig : Nat → Option Sig} {fn : Nat} {ags : List Leaf} {xs : List Int} {ok : Bool} {sg : Sig} {q0 : List TV × List (Nat × Root) × List Leaf} (hsg : sig fn = some sg) (hres : sg.res = [(false, [(.row (.int .i64), 1)]), (false, [(.bool, 0)])]) (hp : ptrs 0 sg.ptr = [])
  (hq : ∀ F, P.funcs[fn]? = some F → enterP P 0 F.params.toList sg.ptr sg.io ags = some q0)
  (hcall : ∀ (g : GW) (pin : Nat → Option Nat) (args : Array Value), GI.ok g.w → (∀ b, g.S b → b < g.w.heap.size) → args.size = (q0.1 ++ q0.2.2.map capTV).length →
   (∀ (i : Nat) (tv : TV), (q0.1 ++ q0.2.2.map capTV)[i]? = some tv → ∃ v, args[i]? = some v ∧ ∀ tmps, TVr (TLr g pin) tmps tv v) →
   Calls P fn args g.w fun e w' => ∃ v, e = .returned (.tuple #[v, .bool ok]) ∧ Below g.w.heap.size g.w w' ∧ w'.ownsRow g.w.heap.size 3 1 v xs.length (xs.map (Value.int .i64))) :
  FnOk GI P sig fn ags [⟨.row (.int .i64), xs⟩, ⟨.bool, ok⟩] := by
 intro sg' F q hsg' hF hq' E φ args hE hw hb hp1 hp2 hsz ha hr
 rw [hsg] at hsg'
 cases hsg'
 rw [hq F hF] at hq'
 cases hq'
 refine Calls.mono (hcall (E.g E.w0 E.ω0 φ) E.pin args hE.ok (fun b hS => hS.1) hsz ha) fun e w' he => ?_
 obtain ⟨v, rfl, hbel, hown⟩ := he
 have hpin : ∀ r b, E.pin r = some b → False := fun r b h => by have := hp1 r b h; rw [hp] at this; cases this
 obtain ⟨_, ho⟩ := hown
 rcases ho with ⟨rfl, hx⟩ | ⟨b, cap, cur, rfl, hgb, hh, hnc, hcap, hcs, htake⟩
 ·have hx : xs = [] := List.eq_nil_of_length_eq_zero hx
  subst hx
  refine ⟨_, rfl, fun _ => none, fun r k => if r = fid 0 0 ∧ k = 0 then some (.slice none 0 0) else none, [.slice none 0 0, .bool ok], ⟨fun r b h => (hpin r b h).elim, fun b t ht => (by cases ht), fun b hb' h0 => ⟨rfl, hbel.block b (by rw [hb] at hb'; exact hb')⟩, by rw [hb]; exact hbel.size, fun r b h => h, ⟨hbel.os, hbel.tape, hbel.output⟩⟩, by rw [hres]; rfl, ?_, fun r root hr' => ?_⟩
  ·rw [hres]
   refine ⟨rfl, rfl, fun j k o l v hj hl hv => ?_⟩
   match j with
   | 0 => cases hj; cases hl; cases hv; exact ⟨.int .i64, [], rfl, (show (if fid 0 0 = fid 0 0 ∧ 0 = 0 then some (Value.slice none 0 0) else none) = _ from if_pos ⟨rfl, rfl⟩), .inr ⟨none, 0, 0, (show (if fid 0 0 = fid 0 0 ∧ 0 = 0 then some (Value.slice none 0 0) else none) = _ from if_pos ⟨rfl, rfl⟩), rfl, .inl ⟨rfl, rfl⟩⟩⟩
   | 1 => cases hj; cases hl; cases hv; exact ⟨rfl, rfl⟩
   | j + 2 => cases hj
  ·rw [hp] at hr'
   simp [ioRoots, look] at hr'
 ·have hbs : b < w'.heap.size := by
   rcases Nat.lt_or_ge b w'.heap.size with h | h
   ·exact h
   ·rw [Array.getElem?_eq_none h] at hh; cases hh
  refine ⟨_, rfl, fun b' => if b' = b then some (.own (fid 0 0, 0) (.fl (fid 0 0) 0)) else none, fun r k => if r = fid 0 0 ∧ k = 0 then some (.slice (some ⟨b, 0, none⟩) xs.length cap) else none, [.slice (some ⟨b, 0, none⟩) xs.length cap, .bool ok], ⟨fun r b h => (hpin r b h).elim, fun b' t ht => ?_, fun b' hb' h0 => ⟨?_, hbel.block b' (by rw [hb] at hb'; exact hb')⟩, by rw [hb]; exact hbel.size, fun r b h => h, ⟨hbel.os, hbel.tape, hbel.output⟩⟩, by rw [hres]; rfl, ?_, fun r root hr' => ?_⟩
  ·by_cases h : b' = b
   ·rw [h]; exact hbs
   ·have ht : (if b' = b then some (Tag.own (fid 0 0, 0) (.fl (fid 0 0) 0)) else none) = some t := ht
    rw [if_neg h] at ht; cases ht
  ·have hgb : E.w0.heap.size ≤ b := hgb
   exact if_neg (by omega)
  ·rw [hres]
   refine ⟨rfl, rfl, fun j k o l v hj hl hv => ?_⟩
   match j with
   | 0 =>
    cases hj; cases hl; cases hv
    refine ⟨.int .i64, xs, rfl, (show (if fid 0 0 = fid 0 0 ∧ 0 = 0 then some (Value.slice (some ⟨b, 0, none⟩) xs.length cap) else none) = _ from if_pos ⟨rfl, rfl⟩), .inr ⟨some ⟨b, 0, none⟩, xs.length, cap, (show (if fid 0 0 = fid 0 0 ∧ 0 = 0 then some (Value.slice (some ⟨b, 0, none⟩) xs.length cap) else none) = _ from if_pos ⟨rfl, rfl⟩), rfl, .inr ⟨b, 0, cur, 3, (0, 0), rfl, hnc, (show (if b = b then some (Tag.own (fid 0 0, 0) (.fl (fid 0 0) 0)) else none) = _ from if_pos rfl), hh, fun o _ h => by omega, ?_, fun i hi => ?_⟩⟩⟩
    ·show 0 + cap * 1 ≤ cur.size
     omega
    ·show cel w' b (0 + i * 1 + 0) = some (.int .i64 xs[i])
     have h1 : (cur.toList.take (xs.length * 1))[i]? = some (.int .i64 xs[i]) := by rw [htake, List.getElem?_map, List.getElem?_eq_getElem hi]; rfl
     rw [List.getElem?_take, if_pos (by omega), Array.getElem?_toList] at h1
     unfold cel World.cell?
     rw [hh]
     show cur[0 + i * 1 + 0]? = _
     rw [show 0 + i * 1 + 0 = i by omega]
     exact h1
   | 1 => cases hj; cases hl; cases hv; exact ⟨rfl, rfl⟩
   | j + 2 => cases hj
  ·rw [hp] at hr'
   simp [ioRoots, look] at hr'
end Go.Proofs.Ythamiihdoicjkaa.Pv
namespace Go.Proofs.Ythamiihdoicjkaa.Pv
open Go Go.RowKit Go.Proofs.YthamiihdoicjkaaW.PrintWords Go.Proofs.Ythamiihdoicjkaa.Pr
def toU (x : kUnit.ty) : S62 := ⟨x.1, x.2.1, x.2.2.1, x.2.2.2.1⟩
def toH (x : kHost.ty) : S33 := ⟨x.1, x.2.1, List.map toU x.2.2.1⟩
theorem rbU : Rb k62 kUnit toU (fun _ => True ∧ True ∧ True ∧ True) := rb_iso (rb_pair (rb_int .i64) (rb_pair (rb_int .i64) (rb_pair rb_str (rb_last (rb_int .i64))))) _ toU (fun _ => rfl)
theorem rbH : Rb k33 kHost toH (fun x => True ∧ True ∧ (x.2.2.1 : List kUnit.ty).length ≤ 9223372036854775807 ∧ ∀ y ∈ (x.2.2.1 : List kUnit.ty), True ∧ True ∧ True ∧ True) := rb_iso (rb_pair (rb_int .i64) (rb_pair rb_bool (rb_last (rb_row rbU 62)))) _ toH (fun _ => rfl)

theorem getD_map {α β : Type} (f : α → β) (l : List α) (i : Nat) (h : i < l.length) (d : β) : (l.map f).getD i d = f l[i] := by
 rw [List.getD_eq_getElem?_getD, List.getElem?_map, List.getElem?_eq_getElem h]; rfl

def keyH (h : kHost.ty) : Nat × Int := ((h.2.2.1 : List kUnit.ty).length, h.1)
theorem key_at (hs : List kHost.ty) (i : Nat) (h : i < hs.length) : Pr.keyOf (hs.map toH) i = keyH hs[i] := by
 unfold Pr.keyOf keyH
 rw [getD_map toH hs i h]
 show (((List.map toU hs[i].2.2.1).length, hs[i].1) : Nat × Int) = _
 rw [List.length_map]
theorem ups_keys (hs : List kHost.ty) : ∀ i, i ≤ hs.length → (upsTo (hs.map toH) i).map (Pr.keyOf (hs.map toH)) = ((hs.take i).filter fun h => h.2.1).map keyH
 | 0, _ => rfl
 | i + 1, h => by
  have hlt : i < hs.length := h
  have hg : ((hs.map toH).getD i z33).f1 = hs[i].2.1 := by rw [getD_map toH hs i hlt]; rfl
  rw [List.take_succ_eq_append_getElem hlt, List.filter_append, List.map_append, ← ups_keys hs i (by omega)]
  have hb : hs[i].2.1 = true ∨ hs[i].2.1 = false := by cases hs[i].2.1; exact .inr rfl; exact .inl rfl
  rcases hb with hb | hb
  ·rw [upsTo_yes _ _ (hg.trans hb), List.map_append, List.filter_cons_of_pos (by exact hb)]
   show _ ++ [Pr.keyOf (hs.map toH) i] = _
   rw [key_at hs i hlt]
   rfl
  ·rw [upsTo_no _ _ (hg.trans hb), List.filter_cons_of_neg (by rw [hb]; exact Bool.false_ne_true)]
   exact (List.append_nil _).symm

theorem lessH_not (a b : kHost.ty) : (!hostLess b a) = true ↔ keyLt (keyH b) (keyH a) = false := by
 rw [keyLt_false, Bool.not_eq_true']
 unfold hostLess keyH
 constructor
 ·intro h
  rw [Bool.or_eq_false_iff, Bool.and_eq_false_iff, decide_eq_false_iff_not, decide_eq_false_iff_not, decide_eq_false_iff_not] at h
  rintro (h1 | ⟨h1, h2⟩)
  ·exact h.1 h1
  ·exact h.2.elim (fun k => k h1) (fun k => k h2)
 ·intro h
  rw [Bool.or_eq_false_iff, Bool.and_eq_false_iff, decide_eq_false_iff_not, decide_eq_false_iff_not, decide_eq_false_iff_not]
  refine ⟨fun h1 => h (.inl h1), ?_⟩
  by_cases h1 : (b.2.2.1 : List kUnit.ty).length = (a.2.2.1 : List kUnit.ty).length
  ·exact .inr fun h2 => h (.inr ⟨h1, h2⟩)
  ·exact .inl h1

theorem ids_same (hs : List kHost.ty) : idsR (hs.map toH) = upIds hs := by
 have hr := sortK_rank (hs.map toH)
 have e : (sortK (hs.map toH)).map (Pr.keyOf (hs.map toH)) = ((hs.filter fun h => h.2.1).mergeSort fun a b => !hostLess b a).map keyH := by
  refine sorted_unique (fun p q => keyLt q p = false) (fun p q h k => ?_) _ _ ?_ ?_ ?_
  ·rw [keyLt_false] at h k
   exact Prod.ext (by omega) (by omega)
  ·refine (hr.perm.map _).trans ?_
   rw [List.length_map, ups_keys hs hs.length (Nat.le_refl _), List.take_length]
   exact ((List.mergeSort_perm _ _).map _).symm
  ·rw [List.pairwise_map]
   exact hr.sorted
  ·rw [List.pairwise_map]
   refine (List.pairwise_mergeSort (le := fun a b => !hostLess b a) (fun a b c h k => ?_) (fun a b => ?_) _).imp (fun {a b} h => (lessH_not a b).1 h)
   ·rw [lessH_not, keyLt_false] at h k ⊢
    omega
   ·rw [Bool.or_eq_true, lessH_not, lessH_not, keyLt_false, keyLt_false]
    omega
 have e2 := congrArg (List.map Prod.snd) e
 rw [List.map_map, List.map_map] at e2
 exact e2
theorem place_same (hs : List kHost.ty) (a : Int) : placeH (hs.map toH) a = placeX hs a := by
 unfold placeH placeX
 rw [ids_same]

def GI : Glob := ⟨0, fun _ => True, fun _ _ _ h => h⟩
theorem sigPl : sigX 8 = some ⟨[false, false], [(false, [(.row (.int .i64), 1)]), (false, [(.bool, 0)])], []⟩ := by kernel_rfl

theorem placeI_ok (hs : List kHost.ty) (a : Int) (hd : placeD hs = true) : FnOk GI Try.prog sigX 8 [⟨.row kHost, hs⟩, ⟨.int .i64, a⟩] [⟨.row (.int .i64), (placeX hs a).1⟩, ⟨.bool, (placeX hs a).2⟩] := by
 unfold placeD at hd
 rw [Bool.and_eq_true, decide_eq_true_eq, List.all_eq_true] at hd
 obtain ⟨hd1, hd2⟩ := hd
 refine fnOk_row1 (q0 := ([.one (.d (.row kHost) hs), .one (.d (.int .i64) a)], [], [])) sigPl rfl rfl (fun F hF => ?_) ?_
 ·have hF' : Try.prog.funcs[8]? = some Try.f8 := Try.func8
  rw [hF'] at hF
  cases hF
  have he : enterP Try.prog 0 Try.f8.params.toList [false, false] [] [⟨.row kHost, hs⟩, ⟨.int .i64, a⟩] = some ([.one (.d (.row kHost) hs), .one (.d (.int .i64) a)], [], []) := by kernel_rfl
  exact he
 ·intro g pin args hok hS hsz ha
  obtain ⟨v0, h0, t0⟩ := ha 0 _ rfl
  obtain ⟨v1, h1, t1⟩ := ha 1 _ rfl
  have hargs : args = #[v0, v1] := by
   have hsz : args.size = 2 := hsz
   apply Array.ext_getElem?
   intro i
   match i with
   | 0 => rw [h0]; rfl
   | 1 => rw [h1]; rfl
   | i + 2 => rw [Array.getElem?_eq_none (by omega)]; rfl
  have t0 : (K.row kHost).isLeaf = true ∧ Sh g.S g.w (.row kHost) hs (one v0) := t0 #[]
  have t1 : (K.int .i64).isLeaf = true ∧ Sh g.S g.w (.int .i64) a (one v1) := t1 #[]
  have e1 : v1 = .int .i64 a := Option.some.inj t1.2
  obtain ⟨A, c, e0, hc, hC⟩ := sh_row rbH (xs := hs) (by omega) (fun x hx => ⟨trivial, trivial, by have := of_decide_eq_true (hd2 x hx); omega, fun _ _ => ⟨trivial, trivial, trivial, trivial⟩⟩) t0.2
  rw [hargs, e0, e1]
  have hl : (hs.map toH).length = hs.length := List.length_map _
  rw [← hl] at hC hc ⊢
  refine (impl_PlaceGroup.calls A c (hs.map toH) a (placeX hs a).1 (placeX hs a).2 g.w hC hc ?_).mono ?_
  ·unfold impl_PlaceGroup.f
   rw [if_pos (by omega), place_same]
  ·rintro e w' ⟨v, he, hr, hb⟩
   refine ⟨v, he, hb, ?_⟩
   obtain ⟨_, inner, ho, hrep⟩ := hr
   have hin : inner = (placeX hs a).1.map (Value.int .i64) := by
    obtain ⟨hl1, hl2⟩ := hrep
    have hl1 : inner.length = (placeX hs a).1.length * 1 := hl1
    refine List.ext_getElem (by rw [List.length_map]; omega) fun i h1 h2 => ?_
    rw [List.length_map] at h2
    have h3 := hl2 i _ (List.getElem?_eq_getElem h2)
    have h3 : (inner.drop (i * 1)).take 1 = [Value.int .i64 (placeX hs a).1[i]] := h3
    rw [Nat.mul_one, List.drop_eq_getElem_cons h1] at h3
    rw [List.getElem_map]
    exact (List.cons.inj h3).1
   rw [← hin]
   exact ho
end Go.Proofs.Ythamiihdoicjkaa.Pv
namespace Go.Proofs.Ythamiihdoicjkaa.Pr
open Go Go.RowKit Go.Proofs.YthamiihdoicjkaaW.PrintWords Go.Proofs.YthamiihdoicjkaaW.PrintLast Go.Proofs.YthamiihdoicjkaaW.PrintMore
theorem BXw {P : Program} {ops : Array Oper} {Q : Exit → Act → World → Prop} {rest : List Oper} {o : Oper} {a : Act} {W : World} (N : Tmp) (cs : Array Value) (t : TypeId)
  (h : ∀ g, g = W.heap.size → ∀ w1, w1 = W.alloc (.cells cs t (0, 0)) → wpList P ops Q rest (a.put o.dst (.pointer (some ⟨g, 0, none⟩))) w1)
  (hd : o.dst = some N := by rfl) (hg : o.guard = none := by rfl) (hr : (execOp a.eval o).run P W = .ok (.value (.pointer (some ⟨W.heap.size, 0, none⟩))) (W.alloc (.cells cs t (0, 0))) := by first | (go_simp; done) | (go_simp; rfl)) : wpList P ops Q (o :: rest) a W :=
 Kd.event_run hg hr (h _ rfl _ rfl)
theorem row_rd (xs : List Int) (i : Nat) (h : i < xs.length) : rd xs (i : Int) = xs[i] := by
 show xs.getD i 0 = _
 rw [List.getD_eq_getElem?_getD, List.getElem?_eq_getElem h]
 rfl
set_option maxHeartbeats 8000000 in
set_option maxRecDepth 100000 in
theorem new_calls' (H : Nat → Int) (A : Option Addr) (c : Nat) (xs : List Int) (w : World) (hr : ∀ i : Nat, i < xs.length → ∃ ad, A = some ad ∧ w.cell? (ad.add i) = some (.int .u8 (rd xs (i : Int)))) (H0 : Aside0 (H 0 = wrap64 (36801 + (xs.length : Int)))) (HS : Aside0 (∀ i : Nat, i < xs.length → H (i + 1) = Go.bits .and .i64 (wrap64 ((wrap64 ((wrap64 (H i * 131)) + (wrap64 (rd xs (i : Int))))) + 7)) 1073741823)) :
  Calls Try.prog 18 #[.slice A xs.length c] w fun e w' => e = .returned (.pointer (some ⟨w.heap.size, 0, none⟩)) ∧ w' = w.alloc (.cells #[.slice A xs.length c, .int .i64 0, .int .i64 (H (min xs.length 4000))] 76 (0, 0)) := by
 have hu76 := Try.underlying76
 have HR0 := Aside0.mk hr
 clear hr
 go_enter Try.func18, Try.ntmps18
 go_wp2
 go_loopg [3, 4] 4001 (fun gg v3 v4 w' => ∃ i : Nat, v4 = .int .i64 (i : Int) ∧ v3 = .int .i64 (H i) ∧ i ≤ xs.length ∧ i ≤ 4000 ∧ 4001 - i ≤ gg ∧ w' = w)
 case atStart => exact ⟨0, rfl, by rw [H0.out], Nat.zero_le _, Nat.zero_le _, Nat.le_refl _, rfl⟩
 case round =>
  obtain ⟨i, rfl, rfl, hi, hi4, hgg, rfl⟩ := hrel
  by_cases c2 : i < xs.length
  ·have c2b : (i : Int) < (xs.length : Int) := by omega
   by_cases c3 : i < 4000
   ·have c3b : (i : Int) < 4000 := by omega
    obtain ⟨ad, e, hx⟩ := HR0.out i c2
    cases e
    go_wp2
    go_roundg (4001 - (i + 1))
    case measure => omega
    case rel => exact ⟨i + 1, by go_num, by rw [HS.out i c2], c2, c3, Nat.le_refl _, rfl⟩
   ·have c3b : ¬ (i : Int) < 4000 := by omega
    go_wp2_with (first | ((with_reducible refine gate_dst (N := 31) rfl ?_); refine BXw 31 #[.slice A xs.length c, .int .i64 0, .int .i64 (H i)] 76 ?_; intro gb hg w6 hw6))
    go_ret
    rw [show min xs.length 4000 = i by omega]
    exact ⟨rfl, rfl⟩
  ·have c2b : ¬ (i : Int) < (xs.length : Int) := by omega
   go_wp2_with (first | ((with_reducible refine gate_dst (N := 31) rfl ?_); refine BXw 31 #[.slice A xs.length c, .int .i64 0, .int .i64 (H i)] 76 ?_; intro gb hg w6 hw6))
   go_ret
   rw [show min xs.length 4000 = i by omega]
   exact ⟨rfl, rfl⟩
end Go.Proofs.Ythamiihdoicjkaa.Pr
namespace Go.Proofs.Ythamiihdoicjkaa.Pv
open Go Go.RowKit Go.Proofs.YthamiihdoicjkaaW.PrintWords Go.Proofs.Ythamiihdoicjkaa.Pr
theorem wrap64_i64 (n : Int) : IntKind.i64.wrap n = RowKit.wrap64 n := by
 rw [IntKind.wrap_i64]
 unfold RowKit.wrap64
 rfl
def stepH (h x : Int) : Int := iand .i64 (iadd .i64 (iadd .i64 (imul .i64 h 131) (iwrap .i64 x)) 7) 1073741823
def hAt (b : List Int) (i : Nat) : Int := (b.take i).foldl stepH (iadd .i64 36801 (rlen b))
theorem hAt_step (b : List Int) (i : Nat) (h : i < b.length) : hAt b (i + 1) = Go.bits .and .i64 (RowKit.wrap64 ((RowKit.wrap64 ((RowKit.wrap64 (hAt b i * 131)) + (RowKit.wrap64 (rd b (i : Int))))) + 7)) 1073741823 := by
 rw [Pr.row_rd b i h]
 unfold hAt
 rw [List.take_succ_eq_append_getElem h, List.foldl_append]
 show stepH _ b[i] = _
 unfold stepH iadd imul iwrap
 rw [← wrap64_i64, ← wrap64_i64, ← wrap64_i64, ← wrap64_i64]
 rfl
theorem hAt_end (b : List Int) : hAt b (min b.length 4000) = newH b := by
 unfold hAt newH
 have : b.take (min b.length 4000) = b.take 4000 := by
  by_cases h : b.length ≤ 4000
  ·rw [Nat.min_eq_left h, List.take_length, List.take_of_length_le h]
  ·rw [Nat.min_eq_right (by omega)]
 rw [this]
 rfl

theorem new_ok (b : List Int) : NewOk GI Try.prog 18 [⟨.row (.int .u8), b⟩] [⟨.row (.int .u8), b⟩, ⟨.int .i64, (0 : Int)⟩, ⟨.int .i64, newH b⟩] := by
 intro F q hF hq G pin args hok hS hsz ha
 have hF' : Try.prog.funcs[18]? = some Try.f18 := Try.func18
 rw [hF'] at hF
 cases hF
 have he : enterP Try.prog 0 Try.f18.params.toList [] [] [⟨.row (.int .u8), b⟩] = some ([.one (.d (.row (.int .u8)) b)], [], []) := by kernel_rfl
 have hq := he.symm.trans hq
 cases hq
 obtain ⟨v0, h0, t0⟩ := ha 0 _ rfl
 have hargs : args = #[v0] := by
  have hsz : args.size = 1 := hsz
  apply Array.ext_getElem?
  intro i
  match i with
  | 0 => rw [h0]; rfl
  | i + 1 => rw [Array.getElem?_eq_none (by omega)]; rfl
 have t0 : (K.row (.int .u8)).isLeaf = true ∧ Sh G.S G.w (.row (.int .u8)) b (one v0) := t0 #[]
 have hsh := t0.2
 obtain ⟨A, len, cap, q1, q2, q3, q4⟩ := t0.2
 subst q2
 have e0 : v0 = .slice A b.length cap := Option.some.inj q1
 rw [hargs, e0]
 refine (new_calls' (hAt b) A cap b G.w (fun i hi => ?_) ⟨?_⟩ ⟨fun i hi => hAt_step b i hi⟩).mono ?_
 ·rcases q4 with rfl | ⟨k, o, rfl, _, hc⟩
  ·exact absurd hi (by simp)
  ·refine ⟨⟨k, o, none⟩, rfl, ?_⟩
   have h1 : cel G.w k (o + i * 1 + 0) = some (.int .u8 b[i]) := hc i hi
   rw [Pr.row_rd b i hi, ← h1]
   unfold cel Addr.add
   split
   ·rename_i hn
    subst hn
    rfl
   ·rw [Nat.mul_one, Nat.add_zero]
 ·unfold hAt
  rw [List.take_zero, List.foldl_nil]
  unfold iadd
  rw [wrap64_i64]
  rfl
 ·rintro e w' ⟨rfl, rfl⟩
  rw [hAt_end]
  refine ⟨#[.slice A b.length cap, .int .i64 0, .int .i64 (newH b)], 76, rfl, alloc_like _ _, ?_, fun b' hb' => ?_, ?_, rfl, fun j l hj => ?_⟩
  ·exact Array.size_push _
  ·exact Array.getElem?_push_lt hb' |>.trans (Array.getElem?_eq_getElem hb').symm
  ·exact Array.getElem?_push_size
  ·match j with
   | 0 => cases hj; exact ⟨_, rfl, rfl, e0 ▸ hsh⟩
   | 1 => cases hj; exact ⟨_, rfl, rfl, rfl⟩
   | 2 => cases hj; exact ⟨_, rfl, rfl, rfl⟩
   | j + 3 => cases hj

theorem new_all : ∀ (fn : Nat) (nw : List Leaf → Option (List Leaf)) (ags ls : List Leaf), L.new fn = some nw → nw ags = some ls → NewOk GI L.P fn ags ls := by
 intro fn nw ags ls h1 h2
 have h1 : (if fn = 18 then some newX else none) = some nw := h1
 split at h1
 ·rename_i hf
  subst hf
  cases h1
  unfold newX at h2
  split at h2
  ·cases h2; exact new_ok _
  ·cases h2
 ·cases h1

theorem ext_ok : ∀ f ls r, L.ext f ls = some (some r) → FnOk GI Try.prog sigX f ls r := by
 intro f ls r h
 have h : extX f ls = some (some r) := h
 unfold extX at h
 split at h
 ·rename_i hf
  subst hf
  have h := Option.some.inj h
  split at h
  ·split at h
   ·rename_i hk
    subst hk
    split at h
    ·rename_i hd
     cases h
     exact placeI_ok _ _ hd
    ·cases h
   ·cases h
  ·cases h
 ·cases h
end Go.Proofs.Ythamiihdoicjkaa.Pv
namespace Go.Proofs.Ythamiihdoicjkaa.Pv
open Go Go.RowKit Go.Proofs.YthamiihdoicjkaaW.PrintWords
abbrev inW (w : World) (b : Nat) : Prop := b < w.heap.size

structure Br {α : Type} (d : Kd α) (k : K) (f : α → k.ty) : Prop where
 sz : d.sz = k.width
 sh : ∀ (w : World) (x : α) (cs : List Value), d.K w x cs → Sh (inW w) w k (f x) (fun j => cs[j]?)

theorem br_int (k : IntKind) : Br (Kd.int k) (.int k) (fun n => n) := ⟨rfl, fun w x cs h => by cases h; rfl⟩
theorem row_sh {α : Type} {d : Kd α} {k : K} {f : α → k.ty} (h : Br d k f) (hk : 0 < k.width) (w : World) (A : Option Addr) (xs : List α) (c : Nat) (hl : xs.length ≤ c) (hC : d.C w A xs.length xs) : Sh (inW w) w (.row k) (xs.map f) (one (.slice A xs.length c)) := by
 refine ⟨A, xs.length, c, rfl, List.length_map _, hl, ?_⟩
 by_cases hx : xs = []
 ·left; rw [hx]; rfl
 ·right
  have hpos : 0 < xs.length := List.length_pos_iff.2 hx
  obtain ⟨_, _, h3⟩ := hC
  obtain ⟨ad, rfl, hc⟩ := h3 hpos
  obtain ⟨c0, hs0, _, hcell0⟩ := hc 0 _ (List.getElem?_eq_getElem hpos)
  have hc0 : 0 < c0.length := by rw [hs0, h.sz]; exact hk
  have h0 := hcell0 0 _ (List.getElem?_eq_getElem hc0)
  obtain ⟨b, o, sp⟩ := ad
  have hsp : sp = none := by
   cases sp with
   | none => rfl
   | some z =>
    exfalso
    rw [show (0 * d.sz + 0 : Nat) = 0 by omega] at h0
    unfold Addr.add World.cell? at h0
    simp only [if_true, Option.isSome_some] at h0
    split at h0 <;> cases h0
  subst hsp
  have hadd : ∀ n, Addr.add ⟨b, o, none⟩ n = ⟨b, o + n, none⟩ := fun n => by
   unfold Addr.add
   split
   ·rename_i hn; subst hn; rfl
   ·rfl
  refine ⟨b, o, rfl, ?_, fun i hi => ?_⟩
  ·have := World.block_lt_of_cell? w _ h0
   rw [hadd] at this
   exact this
  ·have hi' : i < xs.length := by rw [List.length_map] at hi; exact hi
   obtain ⟨ci, hsi, hKi, hcelli⟩ := hc i _ (List.getElem?_eq_getElem hi')
   rw [List.getElem_map]
   refine Sh.congr k _ _ _ (fun j hj => ?_) (h.sh w _ _ hKi)
   have hj' : j < ci.length := by rw [hsi, h.sz]; exact hj
   have := hcelli j _ (List.getElem?_eq_getElem hj')
   rw [hadd, h.sz] at this
   show w.cell? _ = ci[j]?
   rw [List.getElem?_eq_getElem hj', ← this, Nat.add_assoc]

end Go.Proofs.Ythamiihdoicjkaa.Pv
namespace Go.Proofs.Ythamiihdoicjkaa.Pv
open Go Go.RowKit Go.Proofs.YthamiihdoicjkaaW.PrintWords Go.Proofs.Ythamiihdoicjkaa.Pr Go.Proofs.Ythamiihdoicjkaa.SFnLoads
theorem libP : L.P = Try.prog := by kernel_rfl
theorem libS : L.sig = sigX := by kernel_rfl
theorem ext_lib : ∀ f ls r, L.ext f ls = some (some r) → FnOk GI L.P L.sig f ls r := by
 rw [libP, libS]
 exact ext_ok
theorem law_ok (b : List Int) : FnOk GI Try.prog sigX 3 [⟨.row ku8, b⟩] [⟨.bool, true⟩] := by
 obtain ⟨n, hn⟩ := law_true b
 have h : FnOk GI L.P L.sig 3 [⟨.row ku8, b⟩] [⟨.bool, true⟩] := pcall_ok L (by kernel_rfl) ext_lib (fun _ _ _ _ _ _ h => by cases h) new_all n _ _ _ hn
 rw [libP, libS] at h
 exact h

theorem sigLaw : sigX 3 = some ⟨[false], [(false, [(.bool, 0)])], []⟩ := by kernel_rfl

theorem direct : Go.Proofs.Ythamiihdoicjkaa.SFnLoads.Direct := by
 intro l0 A c w hC hc hwf
 have hq : enterP Try.prog 0 Try.f3.params.toList [false] [] [⟨.row ku8, l0⟩] = some ([.one (.d (.row ku8) l0)], [], []) := by kernel_rfl
 refine law_call (law_ok l0) sigLaw Try.func3 hq rfl rfl rfl trivial (Nat.zero_le _) rfl ?_
 intro i tv hi
 match i with
 | 0 =>
  cases hi
  have h := row_sh (br_int .u8) (by decide) w A l0 c hc hC
  rw [List.map_id'] at h
  exact ⟨_, rfl, fun _ => ⟨rfl, Sh.mono (fun b hb => ⟨hb, rfl, .inl trivial⟩) (fun _ _ _ => rfl) _ _ _ h⟩⟩
 | i + 1 => cases hi
end Go.Proofs.Ythamiihdoicjkaa.Pv
namespace Go.Proofs.Ythamiihdoicjkaa.Pure
theorem FnLoads : Go.Proofs.Ythamiihdoicjkaa.SFnLoads.Direct := Go.Proofs.Ythamiihdoicjkaa.Pv.direct
end Go.Proofs.Ythamiihdoicjkaa.Pure
