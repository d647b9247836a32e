/- A part of the proof of the law FnExactPlaceGroup: its texts, one behind the other. -/
import Derived.Test.YthgmmebkjhjgcaaBFnExactPlaceGroup1
import Derived.Test.YthgmmebkjhjgcaaBFnExactPlaceGroup2
namespace Go.Proofs.Ythgmmebkjhjgcaa.Pr
open Go.RowKit Go.Proofs.YthgmmebkjhjgcaaW.PrintWords Go.Proofs.YthgmmebkjhjgcaaW.PrintLast Go.Proofs.YthgmmebkjhjgcaaW.PrintMore
set_option linter.unusedVariables false
set_option linter.unusedSimpArgs false
open Go.Shelf Go.Lib Go.Sort
set_option maxHeartbeats 8000000 in
set_option maxRecDepth 100000 in
theorem cl_rank (bx n ch a b : Nat) (ad : Addr) (A1 A2 : Option Addr) (c1 c2 : Nat) (x y : S41) (W : World) (ha : a < n) (hb : b < n) (h0 : W.cell? ⟨bx, 0, none⟩ = some (.slice (some ad) n ch)) (h1 : W.cell? (ad.add (a * 3)) = some (.int .i64 x.f0)) (h2 : W.cell? ⟨(ad.add (a * 3)).block, (ad.add (a * 3)).off + 1, none⟩ = some (.bool x.f1)) (h3 : W.cell? ⟨(ad.add (a * 3)).block, (ad.add (a * 3)).off + 2, none⟩ = some (.slice A1 x.f2.length c1)) (h4 : W.cell? (ad.add (b * 3)) = some (.int .i64 y.f0)) (h5 : W.cell? ⟨(ad.add (b * 3)).block, (ad.add (b * 3)).off + 1, none⟩ = some (.bool y.f1)) (h6 : W.cell? ⟨(ad.add (b * 3)).block, (ad.add (b * 3)).off + 2, none⟩ = some (.slice A2 y.f2.length c2)) :
    Calls Try.prog 24 #[.int .i64 a, .int .i64 b, .pointer (some ⟨bx, 0, none⟩)] W fun e w' => e = .returned (.int .i64 (orI (cmpI (x.f2.length : Int) (y.f2.length : Int)) (cmpI x.f0 y.f0))) ∧ Gr W w' := by
  have mixed : Try.prog.follows .mixedOrders = true := by kernel_rfl
  have hu41 := Try.underlying41
  have hut := Try.underlying27
  have haz : (a : Int) < (n : Int) := by omega
  have hbz : (b : Int) < (n : Int) := by omega
  have egLoadOf : ∀ args w, (callFunc 27 args).run Try.prog w = .ok (.enter 27 args) w := enters_of Try.func27 (by kernel_rfl) rfl
  have egCompare : ∀ args w, (callFunc 26 args).run Try.prog w = .ok (.enter 26 args) w := enters_of Try.func26 (by kernel_rfl) rfl
  have egOr : ∀ args w, (callFunc 25 args).run Try.prog w = .ok (.enter 25 args) w := enters_of Try.func25 (by kernel_rfl) rfl
  go_enter Try.func24, Try.ntmps24
  go_wp2_with fail
  refine start_ (n := 25) (S := fun w' => Gr W w' ∧ w'.cell? ⟨bx, 0, none⟩ = some (.slice (some ad) n ch) ∧ w'.cell? (ad.add (a * 3)) = some (.int .i64 x.f0) ∧ w'.cell? ⟨(ad.add (a * 3)).block, (ad.add (a * 3)).off + 1, none⟩ = some (.bool x.f1) ∧ w'.cell? ⟨(ad.add (a * 3)).block, (ad.add (a * 3)).off + 2, none⟩ = some (.slice A1 x.f2.length c1) ∧ w'.cell? (ad.add (b * 3)) = some (.int .i64 y.f0) ∧ w'.cell? ⟨(ad.add (b * 3)).block, (ad.add (b * 3)).off + 1, none⟩ = some (.bool y.f1) ∧ w'.cell? ⟨(ad.add (b * 3)).block, (ad.add (b * 3)).off + 2, none⟩ = some (.slice A2 y.f2.length c2)) (ds := []) #[false, false, false, false, false, false, false, false, false, false, false, false, false, false, false, false, false, false, false, false, false, false, false, false, false] (by kernel_rfl) rfl rfl ⟨(Gr.refl W).drew, (Gr.refl W).drew.cell h0, (Gr.refl W).drew.cell h1, (Gr.refl W).drew.cell h2, (Gr.refl W).drew.cell h3, (Gr.refl W).drew.cell h4, (Gr.refl W).drew.cell h5, (Gr.refl W).drew.cell h6⟩ (fun hHeld => ?_)
  refine pure_ (i := 1) (N := some 7) (v := ?_) (a' := ?_) #[false, true, false, false, false, false, false, false, false, false, false, false, false, false, false, false, false, false, false, false, false, false, false, false, false] rfl rfl (by kernel_rfl) (fun _ _ _ h => h) (Or.inl ⟨by rfl, ?_⟩) ?_ ?_
  rotate_left
  · intro w'
    go_simp
    with_reducible rfl
  rotate_left
  · simp only [Act.put, List.setIfInBounds_toArray, List.set_cons_zero, List.set_cons_succ, i64_w, i32_w]
    rfl
  refine pure_ (i := 6) (N := some 12) (v := ?_) (a' := ?_) #[false, true, false, false, false, false, true, false, false, false, false, false, false, false, false, false, false, false, false, false, false, false, false, false, false] rfl rfl (by kernel_rfl) (fun _ _ _ h => h) (Or.inl ⟨by rfl, ?_⟩) ?_ ?_
  rotate_left
  · intro w'
    go_simp
    with_reducible rfl
  rotate_left
  · simp only [Act.put, List.setIfInBounds_toArray, List.set_cons_zero, List.set_cons_succ, i64_w, i32_w]
    rfl
  refine pure_ (i := 12) (N := some 18) (v := ?_) (a' := ?_) #[false, true, false, false, false, false, true, false, false, false, false, false, true, false, false, false, false, false, false, false, false, false, false, false, false] rfl rfl (by kernel_rfl) (fun _ _ _ h => h) (Or.inl ⟨by rfl, ?_⟩) ?_ ?_
  rotate_left
  · intro w'
    go_simp
    with_reducible rfl
  rotate_left
  · simp only [Act.put, List.setIfInBounds_toArray, List.set_cons_zero, List.set_cons_succ, i64_w, i32_w]
    rfl
  refine pure_ (i := 17) (N := some 23) (v := ?_) (a' := ?_) #[false, true, false, false, false, false, true, false, false, false, false, false, true, false, false, false, false, true, false, false, false, false, false, false, false] rfl rfl (by kernel_rfl) (fun _ _ _ h => h) (Or.inl ⟨by rfl, ?_⟩) ?_ ?_
  rotate_left
  · intro w'
    go_simp
    with_reducible rfl
  rotate_left
  · simp only [Act.put, List.setIfInBounds_toArray, List.set_cons_zero, List.set_cons_succ, i64_w, i32_w]
    rfl
  refine take_ (i := 0) (N := some 6) (v := ?_) (a' := ?_) #[true, true, false, false, false, false, true, false, false, false, false, false, true, false, false, false, false, true, false, false, false, false, false, false, false] rfl rfl (by kernel_rfl) (fun _ _ _ h => h) (Or.inl ⟨by rfl, ?_⟩) hHeld ?_ ?_
  rotate_left
  · rintro w' ⟨s0, s1, s2, s3, s4, s5, s6, s7⟩
    go_simp
    with_reducible rfl
  rotate_left
  · simp only [Act.put, List.setIfInBounds_toArray, List.set_cons_zero, List.set_cons_succ, i64_w, i32_w]
    rfl
  refine pure_ (i := 2) (N := some 8) (v := ?_) (a' := ?_) #[true, true, true, false, false, false, true, false, false, false, false, false, true, false, false, false, false, true, false, false, false, false, false, false, false] rfl rfl (by kernel_rfl) (fun _ _ _ h => h) (Or.inl ⟨by rfl, ?_⟩) ?_ ?_
  rotate_left
  · intro w'
    go_simp
    with_reducible rfl
  rotate_left
  · simp only [Act.put, List.setIfInBounds_toArray, List.set_cons_zero, List.set_cons_succ, i64_w, i32_w]
    rfl
  refine take_ (i := 3) (N := some 9) (v := ?_) (a' := ?_) #[true, true, true, true, false, false, true, false, false, false, false, false, true, false, false, false, false, true, false, false, false, false, false, false, false] rfl rfl (by kernel_rfl) (fun _ _ _ h => h) (Or.inl ⟨by rfl, ?_⟩) hHeld ?_ ?_
  rotate_left
  · rintro w' ⟨s0, s1, s2, s3, s4, s5, s6, s7⟩
    go_simp
    with_reducible rfl
  rotate_left
  · simp only [Act.put, List.setIfInBounds_toArray, List.set_cons_zero, List.set_cons_succ, i64_w, i32_w]
    rfl
  refine take_ (i := 5) (N := some 11) (v := ?_) (a' := ?_) #[true, true, true, true, false, true, true, false, false, false, false, false, true, false, false, false, false, true, false, false, false, false, false, false, false] rfl rfl (by kernel_rfl) (fun _ _ _ h => h) (Or.inl ⟨by rfl, ?_⟩) hHeld ?_ ?_
  rotate_left
  · rintro w' ⟨s0, s1, s2, s3, s4, s5, s6, s7⟩
    go_simp
    with_reducible rfl
  rotate_left
  · simp only [Act.put, List.setIfInBounds_toArray, List.set_cons_zero, List.set_cons_succ, i64_w, i32_w]
    rfl
  refine pure_ (i := 7) (N := some 13) (v := ?_) (a' := ?_) #[true, true, true, true, false, true, true, true, false, false, false, false, true, false, false, false, false, true, false, false, false, false, false, false, false] rfl rfl (by kernel_rfl) (fun _ _ _ h => h) (Or.inl ⟨by rfl, ?_⟩) ?_ ?_
  rotate_left
  · intro w'
    go_simp
    with_reducible rfl
  rotate_left
  · simp only [Act.put, List.setIfInBounds_toArray, List.set_cons_zero, List.set_cons_succ, i64_w, i32_w]
    rfl
  refine take_ (i := 8) (N := some 14) (v := ?_) (a' := ?_) #[true, true, true, true, false, true, true, true, true, false, false, false, true, false, false, false, false, true, false, false, false, false, false, false, false] rfl rfl (by kernel_rfl) (fun _ _ _ h => h) (Or.inl ⟨by rfl, ?_⟩) hHeld ?_ ?_
  rotate_left
  · rintro w' ⟨s0, s1, s2, s3, s4, s5, s6, s7⟩
    go_simp
    with_reducible rfl
  rotate_left
  · simp only [Act.put, List.setIfInBounds_toArray, List.set_cons_zero, List.set_cons_succ, i64_w, i32_w]
    rfl
  refine take_ (i := 11) (N := some 17) (v := ?_) (a' := ?_) #[true, true, true, true, false, true, true, true, true, false, false, true, true, false, false, false, false, true, false, false, false, false, false, false, false] rfl rfl (by kernel_rfl) (fun _ _ _ h => h) (Or.inl ⟨by rfl, ?_⟩) hHeld ?_ ?_
  rotate_left
  · rintro w' ⟨s0, s1, s2, s3, s4, s5, s6, s7⟩
    go_simp
    with_reducible rfl
  rotate_left
  · simp only [Act.put, List.setIfInBounds_toArray, List.set_cons_zero, List.set_cons_succ, i64_w, i32_w]
    rfl
  refine pure_ (i := 13) (N := some 19) (v := ?_) (a' := ?_) #[true, true, true, true, false, true, true, true, true, false, false, true, true, true, false, false, false, true, false, false, false, false, false, false, false] rfl rfl (by kernel_rfl) (fun _ _ _ h => h) (Or.inl ⟨by rfl, ?_⟩) ?_ ?_
  rotate_left
  · intro w'
    go_simp
    with_reducible rfl
  rotate_left
  · simp only [Act.put, List.setIfInBounds_toArray, List.set_cons_zero, List.set_cons_succ, i64_w, i32_w]
    rfl
  refine pure_ (i := 14) (N := some 20) (v := ?_) (a' := ?_) #[true, true, true, true, false, true, true, true, true, false, false, true, true, true, true, false, false, true, false, false, false, false, false, false, false] rfl rfl (by kernel_rfl) (fun _ _ _ h => h) (Or.inl ⟨by rfl, ?_⟩) ?_ ?_
  rotate_left
  · intro w'
    go_simp
    with_reducible rfl
  rotate_left
  · simp only [Act.put, List.setIfInBounds_toArray, List.set_cons_zero, List.set_cons_succ, i64_w, i32_w]
    rfl
  refine take_ (i := 15) (N := some 21) (v := ?_) (a' := ?_) #[true, true, true, true, false, true, true, true, true, false, false, true, true, true, true, true, false, true, false, false, false, false, false, false, false] rfl rfl (by kernel_rfl) (fun _ _ _ h => h) (Or.inl ⟨by rfl, ?_⟩) hHeld ?_ ?_
  rotate_left
  · rintro w' ⟨s0, s1, s2, s3, s4, s5, s6, s7⟩
    go_simp
    with_reducible rfl
  rotate_left
  · simp only [Act.put, List.setIfInBounds_toArray, List.set_cons_zero, List.set_cons_succ, i64_w, i32_w]
    rfl
  refine take_ (i := 16) (N := some 22) (v := ?_) (a' := ?_) #[true, true, true, true, false, true, true, true, true, false, false, true, true, true, true, true, true, true, false, false, false, false, false, false, false] rfl rfl (by kernel_rfl) (fun _ _ _ h => h) (Or.inl ⟨by rfl, ?_⟩) hHeld ?_ ?_
  rotate_left
  · rintro w' ⟨s0, s1, s2, s3, s4, s5, s6, s7⟩
    go_simp
    with_reducible rfl
  rotate_left
  · simp only [Act.put, List.setIfInBounds_toArray, List.set_cons_zero, List.set_cons_succ, i64_w, i32_w]
    rfl
  refine pure_ (i := 18) (N := some 24) (v := ?_) (a' := ?_) #[true, true, true, true, false, true, true, true, true, false, false, true, true, true, true, true, true, true, true, false, false, false, false, false, false] rfl rfl (by kernel_rfl) (fun _ _ _ h => h) (Or.inl ⟨by rfl, ?_⟩) ?_ ?_
  rotate_left
  · intro w'
    go_simp
    with_reducible rfl
  rotate_left
  · simp only [Act.put, List.setIfInBounds_toArray, List.set_cons_zero, List.set_cons_succ, i64_w, i32_w]
    rfl
  refine pure_ (i := 19) (N := some 25) (v := ?_) (a' := ?_) #[true, true, true, true, false, true, true, true, true, false, false, true, true, true, true, true, true, true, true, true, false, false, false, false, false] rfl rfl (by kernel_rfl) (fun _ _ _ h => h) (Or.inl ⟨by rfl, ?_⟩) ?_ ?_
  rotate_left
  · intro w'
    go_simp
    with_reducible rfl
  rotate_left
  · simp only [Act.put, List.setIfInBounds_toArray, List.set_cons_zero, List.set_cons_succ, i64_w, i32_w]
    rfl
  refine take_ (i := 20) (N := some 26) (v := ?_) (a' := ?_) #[true, true, true, true, false, true, true, true, true, false, false, true, true, true, true, true, true, true, true, true, true, false, false, false, false] rfl rfl (by kernel_rfl) (fun _ _ _ h => h) (Or.inl ⟨by rfl, ?_⟩) hHeld ?_ ?_
  rotate_left
  · rintro w' ⟨s0, s1, s2, s3, s4, s5, s6, s7⟩
    go_simp
    with_reducible rfl
  rotate_left
  · simp only [Act.put, List.setIfInBounds_toArray, List.set_cons_zero, List.set_cons_succ, i64_w, i32_w]
    rfl
  refine one_ (i := 4) (N := some 10) #[true, true, true, true, true, true, true, true, true, false, false, true, true, true, true, true, true, true, true, true, true, false, false, false, false] rfl rfl (by kernel_rfl) (by decide) (fun K hK => ?_)
  refine call_ 27 #[.agg #[.int .i64 x.f0, .bool x.f1, .slice A1 x.f2.length c1]] (by rfl) rfl ?_ ?_
  · go_simp
    try exact egLoadOf _ _
  refine (loadOf_x x.f0 x.f1 A1 x.f2.length c1 _).mono ?_
  rintro e w3 ⟨rfl, os', rfl⟩
  have hGR_ := hHeld.1.grow os'
  refine ⟨_, rfl, ?_⟩
  refine hK.out _ _ ⟨hGR_, hGR_.cell h0, hGR_.cell h1, hGR_.cell h2, hGR_.cell h3, hGR_.cell h4, hGR_.cell h5, hGR_.cell h6⟩ (fun hHeld => ?_)
  clear hK K
  refine norm_ (a' := ?_) ?_ ?_
  rotate_left
  · show Act.put _ (some 10) _ = _
    simp only [Act.put, List.setIfInBounds_toArray, List.set_cons_zero, List.set_cons_succ, i64_w, i32_w]
    rfl
  refine one_ (i := 9) (N := some 15) #[true, true, true, true, true, true, true, true, true, true, false, true, true, true, true, true, true, true, true, true, true, false, false, false, false] rfl rfl (by kernel_rfl) (by decide) (fun K hK => ?_)
  refine call_ 27 #[.agg #[.int .i64 y.f0, .bool y.f1, .slice A2 y.f2.length c2]] (by rfl) rfl ?_ ?_
  · go_simp
    try exact egLoadOf _ _
  refine (loadOf_x y.f0 y.f1 A2 y.f2.length c2 _).mono ?_
  rintro e w3 ⟨rfl, os', rfl⟩
  have hGR_ := hHeld.1.grow os'
  refine ⟨_, rfl, ?_⟩
  refine hK.out _ _ ⟨hGR_, hGR_.cell h0, hGR_.cell h1, hGR_.cell h2, hGR_.cell h3, hGR_.cell h4, hGR_.cell h5, hGR_.cell h6⟩ (fun hHeld => ?_)
  clear hK K
  refine norm_ (a' := ?_) ?_ ?_
  rotate_left
  · show Act.put _ (some 15) _ = _
    simp only [Act.put, List.setIfInBounds_toArray, List.set_cons_zero, List.set_cons_succ, i64_w, i32_w]
    rfl
  refine one_ (i := 10) (N := some 16) #[true, true, true, true, true, true, true, true, true, true, true, true, true, true, true, true, true, true, true, true, true, false, false, false, false] rfl rfl (by kernel_rfl) (by decide) (fun K hK => ?_)
  refine call_ 26 #[.int .i64 (x.f2.length : Int), .int .i64 (y.f2.length : Int)] (by rfl) rfl ?_ ?_
  · go_simp
    try exact egCompare _ _
  refine (compare_x _ _ _).mono ?_
  rintro e w3 ⟨rfl, hd_⟩
  have hGR_ := hHeld.1.drawn0 hd_
  refine ⟨_, rfl, ?_⟩
  refine hK.out _ _ ⟨hGR_, hGR_.cell h0, hGR_.cell h1, hGR_.cell h2, hGR_.cell h3, hGR_.cell h4, hGR_.cell h5, hGR_.cell h6⟩ (fun hHeld => ?_)
  clear hK K
  refine norm_ (a' := ?_) ?_ ?_
  rotate_left
  · show Act.put _ (some 16) _ = _
    simp only [Act.put, List.setIfInBounds_toArray, List.set_cons_zero, List.set_cons_succ, i64_w, i32_w]
    rfl
  refine one_ (i := 21) (N := some 27) #[true, true, true, true, true, true, true, true, true, true, true, true, true, true, true, true, true, true, true, true, true, true, false, false, false] rfl rfl (by kernel_rfl) (by decide) (fun K hK => ?_)
  refine call_ 26 #[.int .i64 x.f0, .int .i64 y.f0] (by rfl) rfl ?_ ?_
  · go_simp
    try exact egCompare _ _
  refine (compare_x _ _ _).mono ?_
  rintro e w9 ⟨rfl, hd_⟩
  have hGR_ := hHeld.1.drawn0 hd_
  refine ⟨_, rfl, ?_⟩
  refine hK.out _ _ ⟨hGR_, hGR_.cell h0, hGR_.cell h1, hGR_.cell h2, hGR_.cell h3, hGR_.cell h4, hGR_.cell h5, hGR_.cell h6⟩ (fun hHeld => ?_)
  clear hK K
  refine norm_ (a' := ?_) ?_ ?_
  rotate_left
  · show Act.put _ (some 27) _ = _
    simp only [Act.put, List.setIfInBounds_toArray, List.set_cons_zero, List.set_cons_succ, i64_w, i32_w]
    rfl
  refine one_ (i := 22) (N := some 28) #[true, true, true, true, true, true, true, true, true, true, true, true, true, true, true, true, true, true, true, true, true, true, true, false, false] rfl rfl (by kernel_rfl) (by decide) (fun K hK => ?_)
  refine value_ (w1 := ?_) (v := ?_) (by rfl) rfl ?_ ?_
  rotate_left 2
  · go_simp
    constructor
    · rfl
    · rfl
  have hGR_ := hHeld.1.alloc (.cells #[.int .i64 (cmpI (x.f2.length : Int) (y.f2.length : Int)), .int .i64 (cmpI x.f0 y.f0)] 3)
  refine hK.out _ _ ⟨hGR_, hGR_.cell h0, hGR_.cell h1, hGR_.cell h2, hGR_.cell h3, hGR_.cell h4, hGR_.cell h5, hGR_.cell h6⟩ (fun hHeld => ?_)
  clear hK K
  refine norm_ (a' := ?_) ?_ ?_
  rotate_left
  · show Act.put _ (some 28) _ = _
    simp only [Act.put, List.setIfInBounds_toArray, List.set_cons_zero, List.set_cons_succ, i64_w, i32_w]
    rfl
  refine one_ (i := 23) (N := some 29) #[true, true, true, true, true, true, true, true, true, true, true, true, true, true, true, true, true, true, true, true, true, true, true, true, false] rfl rfl (by kernel_rfl) (by decide) (fun K hK => ?_)
  refine call_ 25 #[.slice (some ⟨w9.heap.size, 0, none⟩) 2 2] (by rfl) rfl ?_ ?_
  · go_simp
    try exact egOr _ _
  refine (or_x w9.heap.size (cmpI (x.f2.length : Int) (y.f2.length : Int)) (cmpI x.f0 y.f0) _ (by simp) (by simp)).mono ?_
  rintro e w3 ⟨rfl, hd_⟩
  have hGR_ := hHeld.1.drawn0 hd_
  refine ⟨_, rfl, ?_⟩
  refine hK.out _ _ ⟨hGR_, hGR_.cell h0, hGR_.cell h1, hGR_.cell h2, hGR_.cell h3, hGR_.cell h4, hGR_.cell h5, hGR_.cell h6⟩ (fun hHeld => ?_)
  clear hK K
  refine norm_ (a' := ?_) ?_ ?_
  rotate_left
  · show Act.put _ (some 29) _ = _
    simp only [Act.put, List.setIfInBounds_toArray, List.set_cons_zero, List.set_cons_succ, i64_w, i32_w]
    rfl
  refine pure_ (i := 24) (N := some 5) (v := ?_) (a' := ?_) #[true, true, true, true, true, true, true, true, true, true, true, true, true, true, true, true, true, true, true, true, true, true, true, true, true] rfl rfl (by kernel_rfl) (fun _ _ _ h => h) (Or.inl ⟨by rfl, ?_⟩) ?_ ?_
  rotate_left
  · intro w'
    go_simp
    with_reducible rfl
  rotate_left
  · simp only [Act.put, List.setIfInBounds_toArray, List.set_cons_zero, List.set_cons_succ, i64_w, i32_w]
    rfl
  refine done_ (by kernel_rfl) ?_
  go_wp2
  go_ret
  exact ⟨rfl, hGR_⟩
end Go.Proofs.Ythgmmebkjhjgcaa.Pr

namespace Go.Proofs.Ythgmmebkjhjgcaa.Pr
open Go.RowKit Go.Proofs.YthgmmebkjhjgcaaW.PrintWords Go.Proofs.YthgmmebkjhjgcaaW.PrintLast Go.Proofs.YthgmmebkjhjgcaaW.PrintMore
set_option linter.unusedVariables false
set_option linter.unusedSimpArgs false
open Go.Shelf Go.Lib Go.Sort
theorem cl_true (x : Value) (w : World) (hx : ∃ a b c, x = .agg #[a, b, c]) : Calls Try.prog 17 #[x] w fun e w' => e = .returned (.bool true) ∧ Below w.heap.size w w' := by
  obtain ⟨a, b, c, rfl⟩ := hx
  have hu41 := Try.underlying41
  have HB := Below.refl w.heap.size w
  go_enter Try.func17, Try.ntmps17
  go_wp2_with (first | ((with_reducible refine gate_dst (N := 1) rfl ?_); refine BX 1 #[a, b, c] 41 ?_; intro bx hg W1 hbox hb))
  go_ret
  exact ⟨rfl, hb⟩
set_option maxHeartbeats 8000000 in
set_option maxRecDepth 100000 in
theorem ranked_w (A0 : Option Addr) (c0 : Nat) (l0 : List S41) (w : World) (hr0 : Kd.C k41 w A0 l0.length l0) (hc0 : l0.length ≤ c0) (hl : l0.length < 17592186044416) :
    Calls Try.prog 16 #[.slice A0 l0.length c0, .func (.func 17) #[] #[]] w fun e w' => ∃ v us, e = .returned v ∧ IsRank l0 us ∧ Kd.R (Kd.int .i64) 3 w' w.heap.size (fun _ => True) v (us.map Int.ofNat) ∧ Below w.heap.size w w' := by
  have hu41 := Try.underlying41
  have eg1 : ∀ args w, (callFunc 17 args).run Try.prog w = .ok (.enter 17 args) w := enters_of Try.func17 (by kernel_rfl) rfl
  have eg2 : ∀ args w, (callFunc 23 args).run Try.prog w = .ok (.enter 23 args) w := enters_of Try.func23 (by kernel_rfl) rfl
  have HR0 := Aside0.mk hr0
  clear hr0
  go_enter Try.func16, Try.ntmps16
  go_wp2_with (first | ((with_reducible refine gate_dst (N := 2) rfl ?_); refine BX 2 #[.slice A0 l0.length c0] 27 ?_; intro bx hg W1 hbox hb; have BK0 := Aside0.mk hbox; have HB1 := Aside0.mk hb; clear hb hbox hg; have hcz0 := blk_cell BK0.out 0))
  have HX1 : Aside0 (W1.cell? ⟨bx, 0, none⟩ = some (.slice A0 l0.length c0)) := ⟨(blk_cell BK0.out 0).trans rfl⟩
  have HH1 := Aside0.mk (Kd.C_below HR0.out HB1.out)
  clear hcz0 BK0 HR0
  go_loopg [5, 10] l0.length (fun gg s5 s10 wr => ∃ i : Nat, s10 = .int .i64 i ∧ i ≤ l0.length ∧ l0.length - i ≤ gg ∧ Aside0 (Kd.R (Kd.int .i64) 3 wr W1.heap.size (fun _ => True) s5 ((upsTo l0 i).map Int.ofNat) ∧ (upsTo l0 i = [] → s5 = .slice none 0 0)) ∧ Aside0 (Below W1.heap.size W1 wr))
  case atStart => exact ⟨0, rfl, Nat.zero_le _, Nat.sub_le _ _, ⟨Kd.R_nil _ _ _ _ _, fun _ => rfl⟩, ⟨Below.refl _ _⟩⟩
  case round =>
    obtain ⟨i, rfl, hin, hgg, HO, HB⟩ := hrel
    by_cases hlt : i < l0.length
    · have hltz : (i : Int) < (l0.length : Int) := by omega
      obtain ⟨ad, A2, c2, e1, hx0, hx1, hx2, hl2, hi2⟩ := at_T41 HH1.out (i : Int) (Int.natCast_nonneg _) hltz
      clear hl2 hi2
      subst e1
      simp only [Int.toNat_natCast] at hx0 hx1 hx2
      replace hx0 := (HB.out.cell (World.block_lt_of_cell? _ _ hx0)).trans hx0
      replace hx1 := (HB.out.cell (World.block_lt_of_cell? _ _ hx1)).trans hx1
      replace hx2 := (HB.out.cell (World.block_lt_of_cell? _ _ hx2)).trans hx2
      obtain ⟨y, hy⟩ : ∃ y, y = l0.getD i z41 := ⟨_, rfl⟩
      rw [show rd_T41 l0 (i : Int) = y from hy.symm] at hx0 hx1 hx2
      have HY := Aside0.mk hy
      clear hy
      have UL := Aside0.mk (upsTo_len l0 i)
      cases hup : y.f1 with
      | true =>
        rw [hup] at hx1
        go_wp2_with (first
          | ((with_reducible refine gate_dst (N := 7) rfl ?_); refine BX 7 #[.int .i64 0, .bool false, .slice none 0 0] 41 ?_; intro gb hg w2 hbox hb; have BK := Aside0.mk hbox; have GE : Aside0 (W1.heap.size ≤ gb) := ⟨by rw [hg]; exact HB.out.size⟩; have HO2 := Aside0.mk (Kd.R_below HO.out.1 hb); have HB2 := Aside0.mk (HB.out.trans (hb.mono HB.out.size)); clear hb hbox hg; have hcz1 := blk_cell BK.out; have hfz1 := blk_frozen BK.out)
          | (go_at_fn 17; refine (cl_true _ _ ⟨_, _, _, rfl⟩).mono ?_; rintro e w3 ⟨rfl, hb3⟩; have HO3 := Aside0.mk (Kd.R_below (Kd.R_mono (Kd.R_far (p := ⟨gb, 2, none⟩) (Kd.R_far (p := ⟨gb, 1, none⟩) (Kd.R_far (p := ⟨gb, 0, none⟩) (Kd.R_types HO2.out BK.out (by decide)) (fun _ hk => hk.2) (.int .i64 y.f0)) (fun _ hk => hk.2) (.bool true)) (fun _ hk => hk.2) (.slice A2 y.f2.length c2)) (ok' := fun _ => True) (fun _ _ => trivial)) hb3); have HB3 := Aside0.mk ((((HB2.out.setCell (p := ⟨gb, 0, none⟩) GE.out (.int .i64 y.f0)).setCell (p := ⟨gb, 1, none⟩) GE.out (.bool true)).setCell (p := ⟨gb, 2, none⟩) GE.out (.slice A2 y.f2.length c2)).trans (hb3.mono (((HB2.out.setCell (p := ⟨gb, 0, none⟩) GE.out (.int .i64 y.f0)).setCell (p := ⟨gb, 1, none⟩) GE.out (.bool true)).setCell (p := ⟨gb, 2, none⟩) GE.out (.slice A2 y.f2.length c2)).size)); clear hb3 HO2 HB2 hcz1 hfz1)
          | ((with_reducible refine gate_builtin (b := .append) (xs := #[.tmp 22, .tmp 24]) rfl ?_); at_builtin; refine Kd.R_append (Kd.int .i64) (w0 := W1) W1.heap.size rfl (.tmp 22) (.tmp 24) 24 3 (.int .i64 0) 8 rfl Try.underlying24 info3 rfl (by decide) (by omega) _ ((upsTo l0 i).map Int.ofNat) (i : Int) [.int .i64 (i : Int)] (fun _ => True) (fun _ => False) rfl rfl ?aP (fun _ hk => hk.elim) ?aF ?aO ?aB ?aS ?aL ?_; (case aP => exact rfl); (case aB => exact HB3.out); (case aF => exact (fun _ _ => trivial)); (case aO => exact HO3.out); (case aS => exact HB3.out.size); (case aL => rw [List.length_map]; have := UL.out; omega); intro v4 w4 ho hb hg hat; have HO4 := Aside0.mk ho; have HB4 := Aside0.mk hb; clear ho hb hg hat))
        go_roundg (l0.length - (i + 1))
        case measure => omega
        case rel => exact ⟨i + 1, by go_num, hlt, Nat.le_refl _, ⟨by rw [upsTo_yes l0 i (by rw [← HY.out]; exact hup), List.map_append]; exact HO4.out, fun h => absurd h (by rw [upsTo_yes l0 i (by rw [← HY.out]; exact hup)]; simp)⟩, HB4⟩
      | false =>
        rw [hup] at hx1
        go_wp2_with (first
          | ((with_reducible refine gate_dst (N := 7) rfl ?_); refine BX 7 #[.int .i64 0, .bool false, .slice none 0 0] 41 ?_; intro gb hg w2 hbox hb; have BK := Aside0.mk hbox; have GE : Aside0 (W1.heap.size ≤ gb) := ⟨by rw [hg]; exact HB.out.size⟩; have HO2 := Aside0.mk (Kd.R_below HO.out.1 hb); have HB2 := Aside0.mk (HB.out.trans (hb.mono HB.out.size)); clear hb hbox hg; have hcz1 := blk_cell BK.out; have hfz1 := blk_frozen BK.out))
        go_roundg (l0.length - (i + 1))
        case measure => omega
        case rel => exact ⟨i + 1, by go_num, hlt, Nat.le_refl _, ⟨by rw [upsTo_no l0 i (by rw [← HY.out]; exact hup)]; exact Kd.R_mono (Kd.R_far (p := ⟨gb, 2, none⟩) (Kd.R_far (p := ⟨gb, 1, none⟩) (Kd.R_far (p := ⟨gb, 0, none⟩) (Kd.R_types HO2.out BK.out (by decide)) (fun _ hk => hk.2) (.int .i64 y.f0)) (fun _ hk => hk.2) (.bool false)) (fun _ hk => hk.2) (.slice A2 y.f2.length c2)) (fun _ _ => trivial), fun h => HO.out.2 (by rw [upsTo_no l0 i (by rw [← HY.out]; exact hup)] at h; exact h)⟩, ⟨((HB2.out.setCell (p := ⟨gb, 0, none⟩) GE.out (.int .i64 y.f0)).setCell (p := ⟨gb, 1, none⟩) GE.out (.bool false)).setCell (p := ⟨gb, 2, none⟩) GE.out (.slice A2 y.f2.length c2)⟩⟩
    · have hltz : ¬ (i : Int) < (l0.length : Int) := by omega
      obtain rfl : i = l0.length := by omega
      have hc := sort_own cl_rank l0 (upsTo l0 l0.length) _ A0 c0 bx W1 _ HB.out HX1.out HH1.out HO.out.1 HO.out.2 (upsTo_lt l0 l0.length) (by have := upsTo_len l0 l0.length; omega)
      go_wp2_with (first | (go_at_fn 23; refine hc.mono ?_; rintro e w4 ⟨rfl, hq⟩; have HQ := Aside0.mk hq; clear hq hc))
      go_ret
      obtain ⟨ts, h1, h2, h3, h4⟩ := HQ.out
      exact ⟨_, ts, rfl, ⟨h1, h2⟩, Kd.R_lower h3 HB1.out.size, HB1.out.trans (h4.mono HB1.out.size)⟩
end Go.Proofs.Ythgmmebkjhjgcaa.Pr

namespace Go.Proofs.Ythgmmebkjhjgcaa.Pr
open Go.RowKit Go.Proofs.YthgmmebkjhjgcaaW.PrintWords Go.Proofs.YthgmmebkjhjgcaaW.PrintLast Go.Proofs.YthgmmebkjhjgcaaW.PrintMore
set_option linter.unusedVariables false
set_option linter.unusedSimpArgs false
open Go.Shelf Go.Lib Go.Sort
def impl_PlaceGroup.f (l0 : List (S41)) (a1 : Int) : Option (List Int × Bool) := if l0.length ≤ 1048576 then some (placeH l0 a1) else none
theorem placeH_no {l0 : List (S41)} {a1 : Int} (h : a1 < 0 ∨ a1 > ((idsR l0).length : Int)) : placeH l0 a1 = ([], false) := if_pos h
theorem placeH_yes {l0 : List (S41)} {n : Nat} (h : n ≤ (idsR l0).length) : placeH l0 (n : Int) = ((idsR l0).take n, true) := by
  unfold placeH
  rw [if_neg (by omega), Int.toNat_natCast]
theorem rd_us (us : List Nat) (i : Nat) (h : i < us.length) : rd (us.map Int.ofNat) (i : Int) = ((us[i] : Nat) : Int) := by
  show (us.map Int.ofNat).getD i 0 = _
  rw [List.getD_eq_getElem?_getD, List.getElem?_map, List.getElem?_eq_getElem h]
  rfl
set_option maxHeartbeats 8000000 in
set_option maxRecDepth 100000 in
theorem impl_PlaceGroup.calls (A0 : Option Addr) (c0 : Nat) (l0 : List (S41)) (a1 : Int) (r1 : List Int) (r2 : Bool) (w : World) (hr0 : Kd.C k41 w A0 l0.length l0) (hc0 : l0.length ≤ c0) (h : impl_PlaceGroup.f l0 a1 = some (r1, r2)) :
    Calls Try.prog 7 #[.slice A0 l0.length c0, .int .i64 a1] w fun e w' => ∃ v0_ : Value, e = .returned (.tuple #[v0_, .bool r2]) ∧ Kd.R (Kd.int .i64) 3 w' w.heap.size (fun _ => True) v0_ r1 ∧ Below w.heap.size w w' := by
  unfold impl_PlaceGroup.f at h
  by_cases hl : l0.length ≤ 1048576
  case neg => rw [if_neg hl] at h; cases h
  rw [if_pos hl] at h
  have HP := Aside0.mk (Option.some.inj h)
  clear h
  have hu41 := Try.underlying41
  have eg1 : ∀ args w, (callFunc 16 args).run Try.prog w = .ok (.enter 16 args) w := enters_of Try.func16 (by kernel_rfl) rfl
  have hc := ranked_w A0 c0 l0 w hr0 hc0 (by omega)
  have HR0 := Aside0.mk hr0
  clear hr0
  go_enter Try.func7, Try.ntmps7
  go_upto_region 2 with (first | (go_at_fn 16; refine hc.mono ?_; rintro e w2 ⟨v, us, rfl, hk, ho, hb⟩; have HK := Aside0.mk hk; obtain ⟨A6, c6, rfl, hc6, hC6⟩ := Kd.R_reads ho; have HC6 := Aside0.mk hC6; have HB2 := Aside0.mk hb; clear hk ho hb hc hC6))
  (try rw [List.length_map] at hc6); (try rw [List.length_map] at HC6); (try rw [List.length_map])
  have HL := Aside0.mk HK.out.len
  have hul : us.length ≤ 1048576 := by have := HK.out.len; have := idsR_len l0; have := upsTo_len l0 l0.length; omega
  have HH2 := Aside0.mk (Kd.C_below HR0.out HB2.out)
  clear HR0
  by_cases hneg : a1 < 0
  · have hnb : decide (a1 < 0) = true := decide_eq_true hneg
    go_wp2
    go_ret2
    rw [placeH_no (.inl hneg)] at HP
    have e1 := congrArg Prod.fst HP.out
    have e2 := congrArg Prod.snd HP.out
    subst e1
    subst e2
    exact ⟨_, rfl, Kd.R_nil _ _ _ _ _, HB2.out⟩
  · have hnb : decide (a1 < 0) = false := decide_eq_false hneg
    by_cases hgt : a1 > (us.length : Int)
    · have hgb : decide (a1 > (us.length : Int)) = true := decide_eq_true hgt
      go_wp2
      go_ret2
      rw [placeH_no (.inr (by rw [← HL.out]; exact hgt))] at HP
      have e1 := congrArg Prod.fst HP.out
      have e2 := congrArg Prod.snd HP.out
      subst e1
      subst e2
      exact ⟨_, rfl, Kd.R_nil _ _ _ _ _, HB2.out⟩
    · have hgb : decide (a1 > (us.length : Int)) = false := decide_eq_false hgt
      obtain ⟨n, rfl⟩ : ∃ n : Nat, a1 = (n : Int) := ⟨a1.toNat, by omega⟩
      have hn : n ≤ us.length := by omega
      have HP2 : Aside0 (r1 = (us.take n).map (idOf l0) ∧ r2 = true) := ⟨by
        rw [placeH_yes (by rw [← HL.out]; exact hn), ← rank_idsR HK.out] at HP
        exact ⟨(congrArg Prod.fst HP.out).symm.trans (by show List.take n (us.map (idOf l0)) = _; rw [List.map_take]), (congrArg Prod.snd HP.out).symm⟩⟩
      clear HP
      go_wp2
      go_loopg [7, 8] n (fun gg s7 s8 wr => ∃ i : Nat, s8 = .int .i64 i ∧ i ≤ n ∧ n - i ≤ gg ∧ Aside0 (Kd.R (Kd.int .i64) 3 wr w2.heap.size (fun _ => True) s7 ((us.take i).map (idOf l0))) ∧ Aside0 (Below w2.heap.size w2 wr))
      case atStart => exact ⟨0, rfl, Nat.zero_le _, Nat.sub_le _ _, ⟨Kd.R_nil _ _ _ _ _⟩, ⟨Below.refl _ _⟩⟩
      case round =>
        obtain ⟨i, rfl, hin, hgg, HO, HB⟩ := hrel
        by_cases hlt : i < n
        · have hltz : (i : Int) < (n : Int) := by omega
          have hiu : i < us.length := by omega
          have hiz : (i : Int) < (us.length : Int) := by omega
          obtain ⟨ad6, e6, hx6⟩ := Kd.at_int HC6.out (i : Int) (Int.natCast_nonneg _) hiz
          rw [rd_us us i hiu] at hx6
          obtain ⟨k, hk⟩ : ∃ k, k = us[i] := ⟨_, rfl⟩
          rw [← hk] at hx6
          have hkl : k < l0.length := HK.out.lt k (by rw [hk]; exact List.getElem_mem hiu)
          have hkz : (k : Int) < (l0.length : Int) := by omega
          obtain ⟨ad, A2, c2, e1, hx0, hx1, hx2, hl2, hi2⟩ := at_T41 HH2.out (k : Int) (Int.natCast_nonneg _) hkz
          clear hl2 hi2 hx1 hx2
          subst e1
          subst e6
          simp only [Int.toNat_natCast] at hx0 hx6
          replace hx0 := (HB.out.cell (World.block_lt_of_cell? _ _ hx0)).trans hx0
          replace hx6 := (HB.out.cell (World.block_lt_of_cell? _ _ hx6)).trans hx6
          rw [show (rd_T41 l0 (k : Int)).f0 = idOf l0 k from rfl] at hx0
          obtain ⟨y, hy⟩ : ∃ y, y = idOf l0 k := ⟨_, rfl⟩
          rw [← hy] at hx0
          have HE : Aside0 ((us.take (i + 1)).map (idOf l0) = (us.take i).map (idOf l0) ++ [y]) := ⟨by rw [List.take_succ_eq_append_getElem hiu, List.map_append, hy, hk]; rfl⟩
          clear hk hy
          have UL : Aside0 ((us.take i).length ≤ 1048576) := ⟨by rw [List.length_take]; omega⟩
          go_wp2_with (first
            | ((with_reducible refine gate_builtin (b := .append) (xs := #[.tmp 24, .tmp 33]) rfl ?_); at_builtin; refine Kd.R_append (Kd.int .i64) (w0 := w2) w2.heap.size rfl (.tmp 24) (.tmp 33) 24 3 (.int .i64 0) 8 rfl Try.underlying24 info3 rfl (by decide) (by omega) _ ((us.take i).map (idOf l0)) y [.int .i64 y] (fun _ => True) (fun _ => False) rfl rfl ?aP (fun _ hk => hk.elim) ?aF ?aO ?aB ?aS ?aL ?_; (case aP => exact rfl); (case aB => exact HB.out); (case aF => exact (fun _ _ => trivial)); (case aO => exact HO.out); (case aS => exact HB.out.size); (case aL => rw [List.length_map]; have := UL.out; omega); intro v4 w4 ho hb hg hat; have HO4 := Aside0.mk ho; have HB4 := Aside0.mk hb; clear ho hb hg hat))
          go_roundg (n - (i + 1))
          case measure => omega
          case rel => exact ⟨i + 1, by go_num, hlt, Nat.le_refl _, ⟨by rw [HE.out]; exact HO4.out⟩, HB4⟩
        · have hltz : ¬ (i : Int) < (n : Int) := by omega
          obtain rfl : i = n := by omega
          go_wp2
          go_ret2
          obtain ⟨h1, h2⟩ := HP2.out
          subst h1
          subst h2
          exact ⟨_, rfl, Kd.R_lower HO.out HB2.out.size, HB2.out.trans (HB.out.mono HB2.out.size)⟩
end Go.Proofs.Ythgmmebkjhjgcaa.Pr

namespace Go.Proofs.Ythgmmebkjhjgcaa.Pr
open Go.RowKit Go.Proofs.YthgmmebkjhjgcaaW.PrintWords Go.Proofs.YthgmmebkjhjgcaaW.PrintLast Go.Proofs.YthgmmebkjhjgcaaW.PrintMore
attribute [local go_sem] max2_int min2_int max_two min_two max_three min_three max_four min_four
set_option linter.unusedVariables false
set_option linter.unusedSimpArgs false
def spec_LoadOf.f (a0_0 : Int) (a0_1 : Bool) (l0_2 : List (S55)) : Option (Int) := some (l0_2.length : Int)
set_option maxHeartbeats 8000000 in
set_option maxRecDepth 100000 in
theorem spec_LoadOf.calls (a0_0 : Int) (a0_1 : Bool) (A0_2 : Option Addr) (c0_2 : Nat) (l0_2 : List (S55)) (r : Int) (w : World) (hr0_2 : Kd.C k55 w A0_2 l0_2.length l0_2) (hc0_2 : l0_2.length ≤ c0_2) (h : spec_LoadOf.f a0_0 a0_1 l0_2 = some r) :
    Calls Try.prog 21 #[.agg #[.int .i64 a0_0, .bool a0_1, .slice A0_2 l0_2.length c0_2]] w fun e w' => e = .returned (.int .i64 r) ∧ Below w.heap.size w w' := by
  have hu41 := Try.underlying41
  have HR0_2 := Aside0.mk hr0_2
  have HC0_2 := Aside0.mk hc0_2
  clear hr0_2 hc0_2
  have HB := Aside0.mk (Below.refl w.heap.size w)
  have H : (some (l0_2.length : Int)) = some r := h
  clear h
  obtain rfl := Option.some.inj H
  go_enter Try.func21, Try.ntmps21
  go_wp2_with (first | ((with_reducible refine gate_dst (N := 1) rfl ?_); refine BX 1 #[.int .i64 a0_0, .bool a0_1, .slice A0_2 l0_2.length c0_2] 41 ?_; intro gb108 hg w2 hbox hb; have BK108 := Aside0.mk (hbox); have GW108 : Aside0 (w.heap.size ≤ gb108) := WG hg (BB HB.out); have GE108 := GW108; replace HB := Aside0.mk (below_step (BB HB.out) hb); clear hb hbox hg; have hcz3 := blk_cell BK108.out; have hfz3 := blk_frozen BK108.out))
  go_ret
  exact ⟨ER, (BB1 HB.out GE108.out)⟩

end Go.Proofs.Ythgmmebkjhjgcaa.Pr

namespace Go.Proofs.Ythgmmebkjhjgcaa.Pr
open Go.RowKit Go.Proofs.YthgmmebkjhjgcaaW.PrintWords Go.Proofs.YthgmmebkjhjgcaaW.PrintLast Go.Proofs.YthgmmebkjhjgcaaW.PrintMore
attribute [local go_sem] max2_int min2_int max_two min_two max_three min_three max_four min_four
set_option linter.unusedVariables false
set_option linter.unusedSimpArgs false
mutual
def spec_l15Order.l0 : Nat → List (S41) → List Int → Int → Option (List Int)
  | 0, _, _, _ => none
  | k + 1, x0, x3, x4 => if x4 < (x0.length : Int) then (if 0 ≤ x4 then (if (rd_T41 x0 x4).f1 = true then (if x3.length < 17592186044416 then (spec_l15Order.l0 k x0 (x3 ++ [x4]) (wrap64 (x4 + 1))) else (none)) else (spec_l15Order.l0 k x0 x3 (wrap64 (x4 + 1)))) else (none)) else (spec_l15Order.l1 k x0 x3 1)
def spec_l15Order.l1 : Nat → List (S41) → List Int → Int → Option (List Int)
  | 0, _, _, _ => none
  | k + 1, x0, x3, x5 => if x5 < (x3.length : Int) then (spec_l15Order.l2 k x0 x3 x5 x5) else (some x3)
def spec_l15Order.l2 : Nat → List (S41) → List Int → Int → Int → Option (List Int)
  | 0, _, _, _, _ => none
  | k + 1, x0, x3, x5, x6 => if x6 > 0 then (if 0 ≤ (wrap64 (x6 - 1)) then (if (wrap64 (x6 - 1)) < (x3.length : Int) then (if 0 ≤ (rd x3 (wrap64 (x6 - 1))) then (if (rd x3 (wrap64 (x6 - 1))) < (x0.length : Int) then (if 0 ≤ x6 then (if x6 < (x3.length : Int) then (if 0 ≤ (rd x3 x6) then (if (rd x3 x6) < (x0.length : Int) then ((spec_LoadOf.f ((rd_T41 x0 (rd x3 (wrap64 (x6 - 1)))).f0) ((rd_T41 x0 (rd x3 (wrap64 (x6 - 1)))).f1) ((rd_T41 x0 (rd x3 (wrap64 (x6 - 1)))).f2)).bind fun t122 => ((spec_LoadOf.f ((rd_T41 x0 (rd x3 x6)).f0) ((rd_T41 x0 (rd x3 x6)).f1) ((rd_T41 x0 (rd x3 x6)).f2)).bind fun t123 => (if t122 > t123 then (spec_l15Order.l2 k x0 ((x3.set (x6 : Int).toNat (rd x3 (wrap64 (x6 - 1)))).set ((wrap64 (x6 - 1)) : Int).toNat (rd x3 x6)) x5 (wrap64 (x6 - 1))) else ((spec_LoadOf.f ((rd_T41 x0 (rd x3 (wrap64 (x6 - 1)))).f0) ((rd_T41 x0 (rd x3 (wrap64 (x6 - 1)))).f1) ((rd_T41 x0 (rd x3 (wrap64 (x6 - 1)))).f2)).bind fun t128 => ((spec_LoadOf.f ((rd_T41 x0 (rd x3 x6)).f0) ((rd_T41 x0 (rd x3 x6)).f1) ((rd_T41 x0 (rd x3 x6)).f2)).bind fun t129 => (if t128 = t129 then (if ((rd_T41 x0 (rd x3 (wrap64 (x6 - 1)))).f0) > ((rd_T41 x0 (rd x3 x6)).f0) then (spec_l15Order.l2 k x0 ((x3.set (x6 : Int).toNat (rd x3 (wrap64 (x6 - 1)))).set ((wrap64 (x6 - 1)) : Int).toNat (rd x3 x6)) x5 (wrap64 (x6 - 1))) else (spec_l15Order.l2 k x0 x3 x5 (wrap64 (x6 - 1)))) else (spec_l15Order.l2 k x0 x3 x5 (wrap64 (x6 - 1))))))))) else (none)) else (none)) else (none)) else (none)) else (none)) else (none)) else (none)) else (none)) else (spec_l15Order.l1 k x0 x3 (wrap64 (x5 + 1)))
end
def spec_l15Order.f (k : Nat) (l0 : List (S41)) : Option (List Int) := spec_l15Order.l0 k l0 (([] : List Int)) 0
def spec_l15Order.T15 : Bool × List (List Nat × List Nat) := (true, [([], []), ([0], [0]), ([], []), ([2, 1], [2]), ([1, 3], [1, 3]), ([4, 3], [4]), ([5], [5]), ([6, 5, 5], [5, 6]), ([5], [5]), ([8, 7, 5], [5, 8]), ([7, 9, 5], [5, 7, 9]), ([10, 9, 5], [5, 10]), ([11], [11]), ([12, 11], [11, 12]), ([11], [11]), ([14, 11], [11, 14]), ([13, 15, 11], [11, 13, 15]), ([11, 16, 5], [5, 11, 16]), ([5, 17], [5, 17])])
def spec_l15Order.B15 : List Nat := [0, 1, 0, 7, 15, 31, 63, 127, 63, 511, 1023, 2047, 4095, 8191, 4095, 20479, 65535, 131071, 262143]
theorem spec_l15Order.tab15 : rtab .any (opsOf Try.f14 15) = spec_l15Order.T15 := by kernel_rfl
theorem spec_l15Order.bits15 : waitsOk spec_l15Order.T15.2 spec_l15Order.B15 = true := by kernel_rfl
set_option maxHeartbeats 8000000 in
set_option maxRecDepth 100000 in
theorem spec_l15Order.calls (k : Nat) (A0 : Option Addr) (c0 : Nat) (l0 : List (S41)) (r : List Int) (w : World) (hr0 : Kd.C k41 w A0 l0.length l0) (hc0 : l0.length ≤ c0) (h : spec_l15Order.f k l0 = some r) :
    Calls Try.prog 14 #[.slice A0 l0.length c0] w fun e w' => ∃ v0_ : Value, e = .returned (v0_) ∧ Kd.R (Kd.int .i64) 3 w' w.heap.size (fun _ => True) v0_ r ∧ Below w.heap.size w w' := by
  have hu41 := Try.underlying41
  have HR0 := Aside0.mk hr0
  have HC0 := Aside0.mk hc0
  clear hr0 hc0
  have HB := Aside0.mk (Below.refl w.heap.size w)
  have H : (spec_l15Order.l0 k l0 (([] : List Int)) 0) = some r := h
  clear h
  obtain ⟨y109, hy109⟩ : ∃ y_ : List Int, y_ = (([] : List Int)) := ⟨_, rfl⟩
  replace H : (spec_l15Order.l0 k l0 y109 0) = some r := by first | (rw [hy109]; with_reducible exact H) | (have H2_ := (Option.bind_some _ _).symm.trans H; rw [hy109]; with_reducible exact H2_) | (have H2_ := (Option.bind_some _ _).symm.trans H; with_reducible exact H2_) | with_reducible exact H | (rw [hy109]; exact H) | exact H
  have Ny109 := Aside0.mk hy109
  clear hy109
  have H' := Aside0.mk H
  clear H
  go_enter Try.func14, Try.ntmps14
  go_wp2_with (first | ((with_reducible refine gate_dst (N := 10) rfl ?_); refine Kd.R_lit (Kd.int .i64) _ 3 ?hg (N := 10) ?hd (xs := ([] : List Int)) (inner := []) (ok := fun _ => True) (okp := fun _ => True) ?hr ?hp (fun _ hk => hk) trivial (Below.refl _ _) (Nat.le_refl _) (by simp) ?_; (case hd => rfl); (case hg => rfl); (case hr => first | (go_simp; done) | (go_simp; rfl)); (case hp => exact (Reps.none _ _)); intro v110 w2 ho3 hb hg_ hnew_; clear hg_ hnew_; (first | rw [← Ny109.out] at ho3 | (simp only [Int.reduceToNat] at ho3; rw [← Ny109.out] at ho3)); have HO111 := Aside0.mk (Kd.R_lower ho3 (below_size (BB HB.out))); replace HB := Aside0.mk (below_step (BB HB.out) hb); clear hb ho3))
  go_loopg [3, 4] k (fun kq v3 v4 w' => ∃ (x3_1 : List Int) (x4_1 : Int), v4 = .int .i64 x4_1 ∧ Aside0 (spec_l15Order.l0 kq l0 x3_1 x4_1 = some r) ∧ Aside0 (kq ≤ k) ∧ Aside0 (Kd.R (Kd.int .i64) 3 w' w.heap.size (fun _ => True) v3 x3_1) ∧ Aside0 (Below w.heap.size w w'))
  case atStart => exact ⟨(y109), (0), FR, H', ⟨Nat.le_refl _⟩, ⟨(RR HO111.out)⟩, ⟨(BB HB.out)⟩⟩
  case round =>
    clear H'
    try clear c1
    try clear p2
    obtain ⟨x3_1, x4_1, rfl, HA, HK1, HO_3, HB⟩ := hrel
    cases gk with
    | zero => exact absurd HA.out (by simp [spec_l15Order.l0])
    | succ k1 =>
      have H := HA.out
      clear HA
      simp only [spec_l15Order.l0] at H
      by_cases c4 : x4_1 < (l0.length : Int)
      · rw [if_pos c4] at H
        have c4b0 : decide (x4_1 < (l0.length : Int)) = true := decide_eq_true c4
        clear c4
        by_cases c5 : 0 ≤ x4_1
        · rw [if_pos c5] at H
          have c5b0 : decide (0 ≤ x4_1) = true := decide_eq_true c5
          clear c5
          obtain ⟨bq6, hbq6⟩ : ∃ b_ : Bool, b_ = ((rd_T41 l0 x4_1).f1) := ⟨_, rfl⟩
          replace H : (if bq6 = true then (if x3_1.length < 17592186044416 then (spec_l15Order.l0 k1 l0 (x3_1 ++ [x4_1]) (wrap64 (x4_1 + 1))) else (none)) else (spec_l15Order.l0 k1 l0 x3_1 (wrap64 (x4_1 + 1)))) = some r := by rw [← hbq6] at H; exact H
          have Nbq6 := Aside0.mk hbq6
          clear hbq6
          by_cases c7 : bq6 = true
          · subst c7
            have H1 : (if x3_1.length < 17592186044416 then (spec_l15Order.l0 k1 l0 (x3_1 ++ [x4_1]) (wrap64 (x4_1 + 1))) else (none)) = some r := by rw [if_pos rfl] at H; exact H
            clear H
            have H := H1
            clear H1
            by_cases c8 : x3_1.length < 17592186044416
            · rw [if_pos c8] at H
              have LMc8 := Aside0.mk c8
              clear c8
              obtain ⟨y113, hy113⟩ : ∃ y_ : List Int, y_ = (x3_1 ++ [x4_1]) := ⟨_, rfl⟩
              replace H : (spec_l15Order.l0 k1 l0 y113 (wrap64 (x4_1 + 1))) = some r := by first | (rw [hy113]; with_reducible exact H) | (have H2_ := (Option.bind_some _ _).symm.trans H; rw [hy113]; with_reducible exact H2_) | (have H2_ := (Option.bind_some _ _).symm.trans H; with_reducible exact H2_) | with_reducible exact H | (rw [hy113]; exact H) | exact H
              have Ny113 := Aside0.mk hy113
              clear hy113
              have H' := Aside0.mk H
              clear H
              have p112 : 0 ≤ (x4_1 : Int) := DT
              have q112 : x4_1 < (l0.length : Int) := DT
              obtain ⟨ad112, A112_2, c112_2, e112, hx112_0, hx112_1, hx112_2, hl112_2, hi112_2⟩ := at_T41 HR0.out x4_1 p112 q112
              (try rw [← Nbq6.out] at hx112_1)
              cases e112
              replace hx112_0 := (HB.out.cell (World.block_lt_of_cell? w _ hx112_0)).trans hx112_0
              replace hx112_1 := (HB.out.cell (World.block_lt_of_cell? w _ hx112_1)).trans hx112_1
              replace hx112_2 := (HB.out.cell (World.block_lt_of_cell? w _ hx112_2)).trans hx112_2
              have HR112_2 := Aside0.mk hi112_2
              have HC112_2 := Aside0.mk hl112_2
              clear hi112_2 hl112_2
              replace p112 := eq_true p112
              replace q112 := eq_true q112
              go_wp2_with (first | ((with_reducible refine gate_builtin (b := .append) (xs := #[.tmp 22, .tmp 24]) rfl ?_); at_builtin; refine Kd.R_append (Kd.int .i64) (w0 := w) w.heap.size rfl (.tmp 22) (.tmp 24) 24 3 (.int .i64 0) 8 rfl Try.underlying24 info3 rfl (by decide) (by omega) u3 x3_1 x4_1 [.int .i64 x4_1] (fun _ => True) (fun _ => False) rfl rfl ?aP (fun _ hk => hk.elim) ?aF ?aO ?aB ?aS ?aL ?_; (case aP => exact rfl); (case aB => exact (BB HB.out)); (case aF => exact (fun _ _ => trivial)); (case aO => exact (RR HO_3.out)); (case aS => exact (below_size (BB HB.out))); (case aL => have := LMc8.out; omega); intro v114 w9 ho hb hg hat; rw [← Ny113.out] at ho; have HO115 := Aside0.mk (ho); replace HB := Aside0.mk (hb); clear HO_3; clear ho hb hg hat))
              go_roundg k1
              case measure => have := HK1.out; omega
              case rel => exact ⟨(y113), (wrap64 (x4_1 + 1)), FR, H', ⟨by have := HK1.out; omega⟩, ⟨(RR HO115.out)⟩, ⟨(BB HB.out)⟩⟩
            · rw [if_neg c8] at H
              exact absurd H (by simp)
          · replace c7 := Bool.eq_false_iff.mpr c7
            subst c7
            have H1 : (spec_l15Order.l0 k1 l0 x3_1 (wrap64 (x4_1 + 1))) = some r := by rw [if_neg (show ¬ (false = true) by decide)] at H; exact H
            clear H
            have H := H1
            clear H1
            have H' := Aside0.mk H
            clear H
            have p112 : 0 ≤ (x4_1 : Int) := DT
            have q112 : x4_1 < (l0.length : Int) := DT
            obtain ⟨ad112, A112_2, c112_2, e112, hx112_0, hx112_1, hx112_2, hl112_2, hi112_2⟩ := at_T41 HR0.out x4_1 p112 q112
            (try rw [← Nbq6.out] at hx112_1)
            cases e112
            replace hx112_0 := (HB.out.cell (World.block_lt_of_cell? w _ hx112_0)).trans hx112_0
            replace hx112_1 := (HB.out.cell (World.block_lt_of_cell? w _ hx112_1)).trans hx112_1
            replace hx112_2 := (HB.out.cell (World.block_lt_of_cell? w _ hx112_2)).trans hx112_2
            have HR112_2 := Aside0.mk hi112_2
            have HC112_2 := Aside0.mk hl112_2
            clear hi112_2 hl112_2
            replace p112 := eq_true p112
            replace q112 := eq_true q112
            go_wp2
            go_roundg k1
            case measure => have := HK1.out; omega
            case rel => exact ⟨(x3_1), (wrap64 (x4_1 + 1)), FR, H', ⟨by have := HK1.out; omega⟩, ⟨(RR HO_3.out)⟩, ⟨(BB HB.out)⟩⟩
        · rw [if_neg c5] at H
          exact absurd H (by simp)
      · rw [if_neg c4] at H
        have c4b0 : decide (x4_1 < (l0.length : Int)) = false := decide_eq_false c4
        clear c4
        have H' := Aside0.mk H
        clear H
        go_wp2
        go_loopg [5] k1 (fun kq v5 w' => ∃ (x3_2 : List Int) (x5_2 : Int), v5 = .int .i64 x5_2 ∧ Aside0 (spec_l15Order.l1 kq l0 x3_2 x5_2 = some r) ∧ Aside0 (kq ≤ k1) ∧ Aside0 (Kd.R (Kd.int .i64) 3 w' w.heap.size (fun _ => True) u3 x3_2) ∧ Aside0 (Below w.heap.size w w'))
        case atStart => exact ⟨(x3_1), (1), FR, H', ⟨Nat.le_refl _⟩, ⟨(RR HO_3.out)⟩, ⟨(BB HB.out)⟩⟩
        case round =>
          clear H'
          try clear c1
          try clear p1
          try clear q1
          try clear hx1
          try clear p2
          try clear c4
          try clear c4b0
          try clear c5
          try clear c5b0
          try clear p6
          try clear q6
          try clear c7
          try clear c8
          try clear hx112_0
          try clear hx112_1
          try clear hx112_2
          try clear p112
          try clear p2
          try clear q112
          obtain ⟨x3_2, x5_2, rfl, HA, HK2, HO_3, HB⟩ := hrel
          cases gk with
          | zero => exact absurd HA.out (by simp [spec_l15Order.l1])
          | succ k2 =>
            have H := HA.out
            clear HA
            simp only [spec_l15Order.l1] at H
            by_cases c10 : x5_2 < (x3_2.length : Int)
            · rw [if_pos c10] at H
              have c10b0 : decide (x5_2 < (x3_2.length : Int)) = true := decide_eq_true c10
              clear c10
              have H' := Aside0.mk H
              clear H
              obtain ⟨Ao11, co11, eo11⟩ := Kd.R_slice HO_3.out
              subst eo11
              go_wp2
              go_loopg [6] k2 (fun kq v6 w' => ∃ (x3_3 : List Int) (x6_3 : Int), v6 = .int .i64 x6_3 ∧ Aside0 (spec_l15Order.l2 kq l0 x3_3 x5_2 x6_3 = some r) ∧ Aside0 (kq ≤ k2) ∧ Aside0 (Kd.R (Kd.int .i64) 3 w' w.heap.size (fun _ => True) (.slice Ao11 x3_2.length co11) x3_3) ∧ Aside0 (Below w.heap.size w w'))
              case atStart => exact ⟨(x3_2), (x5_2), FR, H', ⟨Nat.le_refl _⟩, ⟨(RR HO_3.out)⟩, ⟨(BB HB.out)⟩⟩
              case round =>
                clear H'
                try clear c1
                try clear p1
                try clear q1
                try clear hx1
                try clear p2
                try clear c4
                try clear c4b0
                try clear c5
                try clear c5b0
                try clear p6
                try clear q6
                try clear c7
                try clear c8
                try clear c10
                try clear c10b0
                try clear c11
                try clear p11
                try clear q11
                try clear hx11
                try clear hx112_0
                try clear hx112_1
                try clear hx112_2
                try clear p1
                try clear p112
                try clear p2
                try clear p6
                try clear q1
                try clear q112
                try clear q6
                obtain ⟨x3_3, x6_3, rfl, HA, HK3, HO_3, HB⟩ := hrel
                have hl3_3 := (Kd.R_reads' HO_3.out).1
                rw [hl3_3] at HO_3
                (try simp only [hl3_3])
                cases gk with
                | zero => exact absurd HA.out (by simp [spec_l15Order.l2])
                | succ k3 =>
                  have H := HA.out
                  clear HA
                  simp only [spec_l15Order.l2] at H
                  by_cases c12 : x6_3 > 0
                  · rw [if_pos c12] at H
                    have c12b0 : decide (0 < x6_3) = true := decide_eq_true c12
                    clear c12
                    obtain ⟨ji13, hji13⟩ : ∃ j_ : Int, (wrap64 (x6_3 - 1)) = j_ := ⟨_, rfl⟩
                    replace H : (if 0 ≤ (ji13) then (if (ji13) < (x3_3.length : Int) then (if 0 ≤ (rd x3_3 (ji13)) then (if (rd x3_3 (ji13)) < (l0.length : Int) then (if 0 ≤ x6_3 then (if x6_3 < (x3_3.length : Int) then (if 0 ≤ (rd x3_3 x6_3) then (if (rd x3_3 x6_3) < (l0.length : Int) then ((spec_LoadOf.f ((rd_T41 l0 (rd x3_3 (ji13))).f0) ((rd_T41 l0 (rd x3_3 (ji13))).f1) ((rd_T41 l0 (rd x3_3 (ji13))).f2)).bind fun t122 => ((spec_LoadOf.f ((rd_T41 l0 (rd x3_3 x6_3)).f0) ((rd_T41 l0 (rd x3_3 x6_3)).f1) ((rd_T41 l0 (rd x3_3 x6_3)).f2)).bind fun t123 => (if t122 > t123 then (spec_l15Order.l2 k3 l0 ((x3_3.set (x6_3 : Int).toNat (rd x3_3 (ji13))).set ((ji13) : Int).toNat (rd x3_3 x6_3)) x5_2 ji13) else ((spec_LoadOf.f ((rd_T41 l0 (rd x3_3 (ji13))).f0) ((rd_T41 l0 (rd x3_3 (ji13))).f1) ((rd_T41 l0 (rd x3_3 (ji13))).f2)).bind fun t128 => ((spec_LoadOf.f ((rd_T41 l0 (rd x3_3 x6_3)).f0) ((rd_T41 l0 (rd x3_3 x6_3)).f1) ((rd_T41 l0 (rd x3_3 x6_3)).f2)).bind fun t129 => (if t128 = t129 then (if ((rd_T41 l0 (rd x3_3 (ji13))).f0) > ((rd_T41 l0 (rd x3_3 x6_3)).f0) then (spec_l15Order.l2 k3 l0 ((x3_3.set (x6_3 : Int).toNat (rd x3_3 (ji13))).set ((ji13) : Int).toNat (rd x3_3 x6_3)) x5_2 ji13) else (spec_l15Order.l2 k3 l0 x3_3 x5_2 ji13)) else (spec_l15Order.l2 k3 l0 x3_3 x5_2 ji13))))))) else (none)) else (none)) else (none)) else (none)) else (none)) else (none)) else (none)) else (none)) = some r := by first | (rw [hji13] at H; exact H) | (simp only [hji13] at H ⊢; exact H)
                    have hji13w : (IntKind.i64.wrap (x6_3 - 1)) = ji13 := (i64_w _).trans hji13
                    by_cases c14 : 0 ≤ (ji13)
                    · rw [if_pos c14] at H
                      have c14b0 : decide (0 ≤ (ji13)) = true := decide_eq_true c14
                      clear c14
                      by_cases c15 : (ji13) < (x3_3.length : Int)
                      · rw [if_pos c15] at H
                        have c15b0 : decide ((ji13) < (x3_3.length : Int)) = true := decide_eq_true c15
                        clear c15
                        by_cases c16 : 0 ≤ (rd x3_3 (ji13))
                        · rw [if_pos c16] at H
                          have c16b0 : decide (0 ≤ (rd x3_3 (ji13))) = true := decide_eq_true c16
                          clear c16
                          by_cases c17 : (rd x3_3 (ji13)) < (l0.length : Int)
                          · rw [if_pos c17] at H
                            have c17b0 : decide ((rd x3_3 (ji13)) < (l0.length : Int)) = true := decide_eq_true c17
                            clear c17
                            by_cases c18 : 0 ≤ x6_3
                            · rw [if_pos c18] at H
                              have c18b0 : decide (0 ≤ x6_3) = true := decide_eq_true c18
                              clear c18
                              by_cases c19 : x6_3 < (x3_3.length : Int)
                              · rw [if_pos c19] at H
                                have c19b0 : decide (x6_3 < (x3_3.length : Int)) = true := decide_eq_true c19
                                clear c19
                                by_cases c20 : 0 ≤ (rd x3_3 x6_3)
                                · rw [if_pos c20] at H
                                  have c20b0 : decide (0 ≤ (rd x3_3 x6_3)) = true := decide_eq_true c20
                                  clear c20
                                  by_cases c21 : (rd x3_3 x6_3) < (l0.length : Int)
                                  · rw [if_pos c21] at H
                                    have c21b0 : decide ((rd x3_3 x6_3) < (l0.length : Int)) = true := decide_eq_true c21
                                    clear c21
                                    replace H := Option.bind_eq_some_iff.mp H
                                    obtain ⟨t122, A220, H⟩ := H
                                    replace H : ((spec_LoadOf.f ((rd_T41 l0 (rd x3_3 x6_3)).f0) ((rd_T41 l0 (rd x3_3 x6_3)).f1) ((rd_T41 l0 (rd x3_3 x6_3)).f2)).bind fun t123 => (if t122 > t123 then (spec_l15Order.l2 k3 l0 ((x3_3.set (x6_3 : Int).toNat (rd x3_3 (ji13))).set ((ji13) : Int).toNat (rd x3_3 x6_3)) x5_2 ji13) else ((spec_LoadOf.f ((rd_T41 l0 (rd x3_3 (ji13))).f0) ((rd_T41 l0 (rd x3_3 (ji13))).f1) ((rd_T41 l0 (rd x3_3 (ji13))).f2)).bind fun t128 => ((spec_LoadOf.f ((rd_T41 l0 (rd x3_3 x6_3)).f0) ((rd_T41 l0 (rd x3_3 x6_3)).f1) ((rd_T41 l0 (rd x3_3 x6_3)).f2)).bind fun t129 => (if t128 = t129 then (if ((rd_T41 l0 (rd x3_3 (ji13))).f0) > ((rd_T41 l0 (rd x3_3 x6_3)).f0) then (spec_l15Order.l2 k3 l0 ((x3_3.set (x6_3 : Int).toNat (rd x3_3 (ji13))).set ((ji13) : Int).toNat (rd x3_3 x6_3)) x5_2 ji13) else (spec_l15Order.l2 k3 l0 x3_3 x5_2 ji13)) else (spec_l15Order.l2 k3 l0 x3_3 x5_2 ji13)))))) = some r := H
                                    have A22 := Aside0.mk A220
                                    clear A220
                                    replace H := Option.bind_eq_some_iff.mp H
                                    obtain ⟨t123, A230, H⟩ := H
                                    replace H : (if t122 > t123 then (spec_l15Order.l2 k3 l0 ((x3_3.set (x6_3 : Int).toNat (rd x3_3 (ji13))).set ((ji13) : Int).toNat (rd x3_3 x6_3)) x5_2 ji13) else ((spec_LoadOf.f ((rd_T41 l0 (rd x3_3 (ji13))).f0) ((rd_T41 l0 (rd x3_3 (ji13))).f1) ((rd_T41 l0 (rd x3_3 (ji13))).f2)).bind fun t128 => ((spec_LoadOf.f ((rd_T41 l0 (rd x3_3 x6_3)).f0) ((rd_T41 l0 (rd x3_3 x6_3)).f1) ((rd_T41 l0 (rd x3_3 x6_3)).f2)).bind fun t129 => (if t128 = t129 then (if ((rd_T41 l0 (rd x3_3 (ji13))).f0) > ((rd_T41 l0 (rd x3_3 x6_3)).f0) then (spec_l15Order.l2 k3 l0 ((x3_3.set (x6_3 : Int).toNat (rd x3_3 (ji13))).set ((ji13) : Int).toNat (rd x3_3 x6_3)) x5_2 ji13) else (spec_l15Order.l2 k3 l0 x3_3 x5_2 ji13)) else (spec_l15Order.l2 k3 l0 x3_3 x5_2 ji13))))) = some r := H
                                    have A23 := Aside0.mk A230
                                    clear A230
                                    by_cases c24 : t122 > t123
                                    · rw [if_pos c24] at H
                                      have c24b0 : decide (t123 < t122) = true := decide_eq_true c24
                                      clear c24
                                      obtain ⟨y126, hy126⟩ : ∃ y_ : List Int, y_ = (x3_3.set (x6_3 : Int).toNat (rd x3_3 (ji13))) := ⟨_, rfl⟩
                                      replace H : (spec_l15Order.l2 k3 l0 (y126.set ((ji13) : Int).toNat (rd x3_3 x6_3)) x5_2 ji13) = some r := by first | (rw [hy126]; with_reducible exact H) | (have H2_ := (Option.bind_some _ _).symm.trans H; rw [hy126]; with_reducible exact H2_) | (have H2_ := (Option.bind_some _ _).symm.trans H; with_reducible exact H2_) | with_reducible exact H | (rw [hy126]; exact H) | exact H
                                      have Ny126 := Aside0.mk hy126
                                      clear hy126
                                      obtain ⟨y127, hy127⟩ : ∃ y_ : List Int, y_ = (y126.set ((ji13) : Int).toNat (rd x3_3 x6_3)) := ⟨_, rfl⟩
                                      replace H : (spec_l15Order.l2 k3 l0 y127 x5_2 ji13) = some r := by first | (rw [hy127]; with_reducible exact H) | (have H2_ := (Option.bind_some _ _).symm.trans H; rw [hy127]; with_reducible exact H2_) | (have H2_ := (Option.bind_some _ _).symm.trans H; with_reducible exact H2_) | with_reducible exact H | (rw [hy127]; exact H) | exact H
                                      have Ny127 := Aside0.mk hy127
                                      clear hy127
                                      have H' := Aside0.mk H
                                      clear H
                                      have p116 : 0 ≤ ((ji13) : Int) := DT
                                      have q116 : (ji13) < (x3_3.length : Int) := DT
                                      obtain ⟨ad116, e116, hx116_0⟩ := Kd.at_int (Kd.R_reads' HO_3.out).2.2 (ji13) p116 q116
                                      cases e116
                                      replace p116 := eq_true p116
                                      replace q116 := eq_true q116
                                      have p117 : 0 ≤ ((rd x3_3 (ji13)) : Int) := DT
                                      have q117 : (rd x3_3 (ji13)) < (l0.length : Int) := DT
                                      obtain ⟨ad117, A117_2, c117_2, e117, hx117_0, hx117_1, hx117_2, hl117_2, hi117_2⟩ := at_T41 HR0.out (rd x3_3 (ji13)) p117 q117
                                      cases e117
                                      replace hx117_0 := (HB.out.cell (World.block_lt_of_cell? w _ hx117_0)).trans hx117_0
                                      replace hx117_1 := (HB.out.cell (World.block_lt_of_cell? w _ hx117_1)).trans hx117_1
                                      replace hx117_2 := (HB.out.cell (World.block_lt_of_cell? w _ hx117_2)).trans hx117_2
                                      have HR117_2 := Aside0.mk hi117_2
                                      have HC117_2 := Aside0.mk hl117_2
                                      clear hi117_2 hl117_2
                                      replace p117 := eq_true p117
                                      replace q117 := eq_true q117
                                      try go_wp2_with (first | ((with_reducible refine gate_dst (N := 7) rfl ?_); refine BX 7 #[.int .i64 0, .bool false, .slice none 0 0] 41 ?_; intro gb118 hg w27 hbox hb; have BK118 := Aside0.mk (hbox); have GW118 : Aside0 (w.heap.size ≤ gb118) := WG hg (BB HB.out); have GE118 := GW118; replace HO_3 := Aside0.mk (Kd.R_below (RR HO_3.out) hb); replace HB := Aside0.mk (below_step (BB HB.out) hb); clear hb hbox hg; have hcz28 := blk_cell BK118.out; have hfz28 := blk_frozen BK118.out; have p119 : 0 ≤ (x6_3 : Int) := DT; have q119 : x6_3 < (x3_3.length : Int) := DT; obtain ⟨ad119, e119, hx119_0⟩ := Kd.at_int (Kd.R_reads' HO_3.out).2.2 x6_3 p119 q119; obtain rfl : ad116 = ad119 := (by injection e119); have hn119_0 : ad116.block ≠ gb118 := Kd.own_blk (Kd.R_ne HO_3.out BK118.out (by decide)); have hn119_1 : ad116.block ≠ gb118 := Kd.own_blk (Kd.R_ne HO_3.out BK118.out (by decide)); have hn119_2 : ad116.block ≠ gb118 := Kd.own_blk (Kd.R_ne HO_3.out BK118.out (by decide)); replace hx119_0 := (cell_far (p := ⟨gb118, 0, none⟩) (by first | (rw [add_block]; exact hn119_0) | (show (Addr.add _ _).block ≠ _; rw [add_block]; exact hn119_0) | exact hn119_0) (.int .i64 ((rd_T41 l0 (rd x3_3 (ji13))).f0))).trans hx119_0; replace hx119_0 := (cell_far (p := ⟨gb118, 1, none⟩) (by first | (rw [add_block]; exact hn119_1) | (show (Addr.add _ _).block ≠ _; rw [add_block]; exact hn119_1) | exact hn119_1) (.bool ((rd_T41 l0 (rd x3_3 (ji13))).f1))).trans hx119_0; replace hx119_0 := (cell_far (p := ⟨gb118, 2, none⟩) (by first | (rw [add_block]; exact hn119_2) | (show (Addr.add _ _).block ≠ _; rw [add_block]; exact hn119_2) | exact hn119_2) (.slice A117_2 ((rd_T41 l0 (rd x3_3 (ji13))).f2).length c117_2)).trans hx119_0; clear hn119_0; clear hn119_1; clear hn119_2; replace p119 := eq_true p119; replace q119 := eq_true q119; have p120 : 0 ≤ ((rd x3_3 x6_3) : Int) := DT; have q120 : (rd x3_3 x6_3) < (l0.length : Int) := DT; obtain ⟨ad120, A120_2, c120_2, e120, hx120_0, hx120_1, hx120_2, hl120_2, hi120_2⟩ := at_T41 HR0.out (rd x3_3 x6_3) p120 q120; obtain rfl : ad117 = ad120 := (by injection e120); have hn120_0 : ad117.block ≠ gb118 := Nat.ne_of_lt (Nat.lt_of_lt_of_le (by have := World.block_lt_of_cell? _ _ hx120_0; first | rwa [add_block] at this | exact this) GW118.out); have hn120_1 : ad117.block ≠ gb118 := Nat.ne_of_lt (Nat.lt_of_lt_of_le (by have := World.block_lt_of_cell? _ _ hx120_0; first | rwa [add_block] at this | exact this) GW118.out); have hn120_2 : ad117.block ≠ gb118 := Nat.ne_of_lt (Nat.lt_of_lt_of_le (by have := World.block_lt_of_cell? _ _ hx120_0; first | rwa [add_block] at this | exact this) GW118.out); replace hx120_0 := (HB.out.cell (World.block_lt_of_cell? w _ hx120_0)).trans hx120_0; replace hx120_1 := (HB.out.cell (World.block_lt_of_cell? w _ hx120_1)).trans hx120_1; replace hx120_2 := (HB.out.cell (World.block_lt_of_cell? w _ hx120_2)).trans hx120_2; have HR120_2 := Aside0.mk hi120_2; have HC120_2 := Aside0.mk hl120_2; clear hi120_2 hl120_2; replace hx120_0 := (cell_far (p := ⟨gb118, 0, none⟩) (by first | (rw [add_block]; exact hn120_0) | (show (Addr.add _ _).block ≠ _; rw [add_block]; exact hn120_0) | exact hn120_0) (.int .i64 ((rd_T41 l0 (rd x3_3 (ji13))).f0))).trans hx120_0; replace hx120_1 := (cell_far (p := ⟨gb118, 0, none⟩) (by first | (rw [add_block]; exact hn120_0) | (show (Addr.add _ _).block ≠ _; rw [add_block]; exact hn120_0) | exact hn120_0) (.int .i64 ((rd_T41 l0 (rd x3_3 (ji13))).f0))).trans hx120_1; replace hx120_2 := (cell_far (p := ⟨gb118, 0, none⟩) (by first | (rw [add_block]; exact hn120_0) | (show (Addr.add _ _).block ≠ _; rw [add_block]; exact hn120_0) | exact hn120_0) (.int .i64 ((rd_T41 l0 (rd x3_3 (ji13))).f0))).trans hx120_2; replace hx120_0 := (cell_far (p := ⟨gb118, 1, none⟩) (by first | (rw [add_block]; exact hn120_1) | (show (Addr.add _ _).block ≠ _; rw [add_block]; exact hn120_1) | exact hn120_1) (.bool ((rd_T41 l0 (rd x3_3 (ji13))).f1))).trans hx120_0; replace hx120_1 := (cell_far (p := ⟨gb118, 1, none⟩) (by first | (rw [add_block]; exact hn120_1) | (show (Addr.add _ _).block ≠ _; rw [add_block]; exact hn120_1) | exact hn120_1) (.bool ((rd_T41 l0 (rd x3_3 (ji13))).f1))).trans hx120_1; replace hx120_2 := (cell_far (p := ⟨gb118, 1, none⟩) (by first | (rw [add_block]; exact hn120_1) | (show (Addr.add _ _).block ≠ _; rw [add_block]; exact hn120_1) | exact hn120_1) (.bool ((rd_T41 l0 (rd x3_3 (ji13))).f1))).trans hx120_2; replace hx120_0 := (cell_far (p := ⟨gb118, 2, none⟩) (by first | (rw [add_block]; exact hn120_2) | (show (Addr.add _ _).block ≠ _; rw [add_block]; exact hn120_2) | exact hn120_2) (.slice A117_2 ((rd_T41 l0 (rd x3_3 (ji13))).f2).length c117_2)).trans hx120_0; replace hx120_1 := (cell_far (p := ⟨gb118, 2, none⟩) (by first | (rw [add_block]; exact hn120_2) | (show (Addr.add _ _).block ≠ _; rw [add_block]; exact hn120_2) | exact hn120_2) (.slice A117_2 ((rd_T41 l0 (rd x3_3 (ji13))).f2).length c117_2)).trans hx120_1; replace hx120_2 := (cell_far (p := ⟨gb118, 2, none⟩) (by first | (rw [add_block]; exact hn120_2) | (show (Addr.add _ _).block ≠ _; rw [add_block]; exact hn120_2) | exact hn120_2) (.slice A117_2 ((rd_T41 l0 (rd x3_3 (ji13))).f2).length c117_2)).trans hx120_2; clear hn120_0; clear hn120_1; clear hn120_2; replace p120 := eq_true p120; replace q120 := eq_true q120) | ((with_reducible refine gate_dst (N := 8) rfl ?_); refine BX 8 #[.int .i64 0, .bool false, .slice none 0 0] 41 ?_; intro gb121 hg w29 hbox hb; have n0_ := Aside0.mk (Kd.R_below (by (with_reducible repeat (first | apply Kd.R_alloc | apply Kd.R_drewN | apply Kd.R_drew)); exact (Kd.R_mono (Kd.R_far (p := ⟨gb118, 2, none⟩) (Kd.R_far (p := ⟨gb118, 1, none⟩) (Kd.R_far (p := ⟨gb118, 0, none⟩) (Kd.R_types HO_3.out BK118.out (by decide)) (fun _ hk => hk.2) (.int .i64 ((rd_T41 l0 (rd x3_3 (ji13))).f0))) (fun _ hk => hk.2) (.bool ((rd_T41 l0 (rd x3_3 (ji13))).f1))) (fun _ hk => hk.2) (.slice A117_2 ((rd_T41 l0 (rd x3_3 (ji13))).f2).length c117_2)) (fun _ h_ => h_.1))) hb); have n1_ := Aside0.mk (blk_below (g := gb118) (o := .cells #[.int .i64 ((rd_T41 l0 (rd x3_3 (ji13))).f0), .bool ((rd_T41 l0 (rd x3_3 (ji13))).f1), .slice A117_2 ((rd_T41 l0 (rd x3_3 (ji13))).f2).length c117_2] 41 (0, 0)) (by (with_reducible repeat (first | refine blk_drewN ?_ _ | refine blk_drew ?_ | refine blk_alloc ?_ _)); refine blk_put (cs := #[.int .i64 ((rd_T41 l0 (rd x3_3 (ji13))).f0), .bool ((rd_T41 l0 (rd x3_3 (ji13))).f1), .slice none 0 0]) ?_ 2 _ rfl; (with_reducible repeat (first | refine blk_drewN ?_ _ | refine blk_drew ?_ | refine blk_alloc ?_ _)); refine blk_put (cs := #[.int .i64 ((rd_T41 l0 (rd x3_3 (ji13))).f0), .bool false, .slice none 0 0]) ?_ 1 _ rfl; (with_reducible repeat (first | refine blk_drewN ?_ _ | refine blk_drew ?_ | refine blk_alloc ?_ _)); refine blk_put (cs := #[.int .i64 0, .bool false, .slice none 0 0]) ?_ 0 _ rfl; (with_reducible repeat (first | refine blk_drewN ?_ _ | refine blk_drew ?_ | refine blk_alloc ?_ _)); exact BK118.out) hb); have n2_ := Aside0.mk (below_step (BB1 HB.out GE118.out) hb); have n3_ := Aside0.mk (hbox); have n4_ : Aside0 (w.heap.size ≤ gb121) := WG hg (BB1 HB.out GE118.out); have n5_ := n4_; have n6_ := Aside0.mk ((by rw [hg]; exact Nat.ne_of_lt (blk_lt (g := gb118) (o := .cells #[.int .i64 ((rd_T41 l0 (rd x3_3 (ji13))).f0), .bool ((rd_T41 l0 (rd x3_3 (ji13))).f1), .slice A117_2 ((rd_T41 l0 (rd x3_3 (ji13))).f2).length c117_2] 41 (0, 0)) (by (with_reducible repeat (first | refine blk_drewN ?_ _ | refine blk_drew ?_ | refine blk_alloc ?_ _)); refine blk_put (cs := #[.int .i64 ((rd_T41 l0 (rd x3_3 (ji13))).f0), .bool ((rd_T41 l0 (rd x3_3 (ji13))).f1), .slice none 0 0]) ?_ 2 _ rfl; (with_reducible repeat (first | refine blk_drewN ?_ _ | refine blk_drew ?_ | refine blk_alloc ?_ _)); refine blk_put (cs := #[.int .i64 ((rd_T41 l0 (rd x3_3 (ji13))).f0), .bool false, .slice none 0 0]) ?_ 1 _ rfl; (with_reducible repeat (first | refine blk_drewN ?_ _ | refine blk_drew ?_ | refine blk_alloc ?_ _)); refine blk_put (cs := #[.int .i64 0, .bool false, .slice none 0 0]) ?_ 0 _ rfl; (with_reducible repeat (first | refine blk_drewN ?_ _ | refine blk_drew ?_ | refine blk_alloc ?_ _)); exact BK118.out)) : gb118 ≠ gb121)); have n7_ := Aside0.mk ((by rw [hg]; exact Nat.ne_of_gt (blk_lt (g := gb118) (o := .cells #[.int .i64 ((rd_T41 l0 (rd x3_3 (ji13))).f0), .bool ((rd_T41 l0 (rd x3_3 (ji13))).f1), .slice A117_2 ((rd_T41 l0 (rd x3_3 (ji13))).f2).length c117_2] 41 (0, 0)) (by (with_reducible repeat (first | refine blk_drewN ?_ _ | refine blk_drew ?_ | refine blk_alloc ?_ _)); refine blk_put (cs := #[.int .i64 ((rd_T41 l0 (rd x3_3 (ji13))).f0), .bool ((rd_T41 l0 (rd x3_3 (ji13))).f1), .slice none 0 0]) ?_ 2 _ rfl; (with_reducible repeat (first | refine blk_drewN ?_ _ | refine blk_drew ?_ | refine blk_alloc ?_ _)); refine blk_put (cs := #[.int .i64 ((rd_T41 l0 (rd x3_3 (ji13))).f0), .bool false, .slice none 0 0]) ?_ 1 _ rfl; (with_reducible repeat (first | refine blk_drewN ?_ _ | refine blk_drew ?_ | refine blk_alloc ?_ _)); refine blk_put (cs := #[.int .i64 0, .bool false, .slice none 0 0]) ?_ 0 _ rfl; (with_reducible repeat (first | refine blk_drewN ?_ _ | refine blk_drew ?_ | refine blk_alloc ?_ _)); exact BK118.out)) : gb121 ≠ gb118)); clear HO_3; clear BK118; clear HB; have HO_3 := n0_; have BK118 := n1_; have HB := n2_; have BK121 := n3_; have GW121 := n4_; have GE121 := n5_; have NB118_121 := n6_; have NB121_118 := n7_; clear n0_ n1_ n2_ n3_ n4_ n5_ n6_ n7_; clear hb hbox hg; have hnb30 := NB121_118.out; have hnc30 := NB118_121.out; have hcz31 := blk_cell BK121.out; have hfz31 := blk_frozen BK121.out))
                                      have n0_ : Aside0 (Kd.R (Kd.int .i64) 3 (((w29.setCell ⟨gb121, 0, none⟩ (.int .i64 ((rd_T41 l0 (rd x3_3 x6_3)).f0))).setCell ⟨gb121, 1, none⟩ (.bool ((rd_T41 l0 (rd x3_3 x6_3)).f1))).setCell ⟨gb121, 2, none⟩ (.slice A120_2 ((rd_T41 l0 (rd x3_3 x6_3)).f2).length c120_2)) w.heap.size (fun _ => True) (.slice (some ad116) x3_3.length co11) x3_3) := ⟨by (with_reducible repeat (first | apply Kd.R_alloc | apply Kd.R_drewN | apply Kd.R_drew)); exact Kd.R_mono (Kd.R_far (p := ⟨gb121, 2, none⟩) (Kd.R_far (p := ⟨gb121, 1, none⟩) (Kd.R_far (p := ⟨gb121, 0, none⟩) (Kd.R_types HO_3.out BK121.out (by decide)) (fun _ hk => hk.2) (.int .i64 ((rd_T41 l0 (rd x3_3 x6_3)).f0))) (fun _ hk => hk.2) (.bool ((rd_T41 l0 (rd x3_3 x6_3)).f1))) (fun _ hk => hk.2) (.slice A120_2 ((rd_T41 l0 (rd x3_3 x6_3)).f2).length c120_2)) (fun _ hk => trivial)⟩
                                      have n1_ : Aside0 ((((w29.setCell ⟨gb121, 0, none⟩ (.int .i64 ((rd_T41 l0 (rd x3_3 x6_3)).f0))).setCell ⟨gb121, 1, none⟩ (.bool ((rd_T41 l0 (rd x3_3 x6_3)).f1))).setCell ⟨gb121, 2, none⟩ (.slice A120_2 ((rd_T41 l0 (rd x3_3 x6_3)).f2).length c120_2)).heap[gb118]? = some (.cells #[.int .i64 ((rd_T41 l0 (rd x3_3 (ji13))).f0), .bool ((rd_T41 l0 (rd x3_3 (ji13))).f1), .slice A117_2 ((rd_T41 l0 (rd x3_3 (ji13))).f2).length c117_2] 41 (0, 0))) := ⟨by (with_reducible repeat (first | refine blk_drewN ?_ _ | refine blk_drew ?_ | refine blk_alloc ?_ _)); refine blk_far ?_ NB118_121.out _; (with_reducible repeat (first | refine blk_drewN ?_ _ | refine blk_drew ?_ | refine blk_alloc ?_ _)); refine blk_far ?_ NB118_121.out _; (with_reducible repeat (first | refine blk_drewN ?_ _ | refine blk_drew ?_ | refine blk_alloc ?_ _)); refine blk_far ?_ NB118_121.out _; (with_reducible repeat (first | refine blk_drewN ?_ _ | refine blk_drew ?_ | refine blk_alloc ?_ _)); exact BK118.out⟩
                                      have n2_ : Aside0 ((((w29.setCell ⟨gb121, 0, none⟩ (.int .i64 ((rd_T41 l0 (rd x3_3 x6_3)).f0))).setCell ⟨gb121, 1, none⟩ (.bool ((rd_T41 l0 (rd x3_3 x6_3)).f1))).setCell ⟨gb121, 2, none⟩ (.slice A120_2 ((rd_T41 l0 (rd x3_3 x6_3)).f2).length c120_2)).heap[gb121]? = some (.cells #[.int .i64 ((rd_T41 l0 (rd x3_3 x6_3)).f0), .bool ((rd_T41 l0 (rd x3_3 x6_3)).f1), .slice A120_2 ((rd_T41 l0 (rd x3_3 x6_3)).f2).length c120_2] 41 (0, 0))) := ⟨by (with_reducible repeat (first | refine blk_drewN ?_ _ | refine blk_drew ?_ | refine blk_alloc ?_ _)); refine blk_put (cs := #[.int .i64 ((rd_T41 l0 (rd x3_3 x6_3)).f0), .bool ((rd_T41 l0 (rd x3_3 x6_3)).f1), .slice none 0 0]) ?_ 2 _ rfl; (with_reducible repeat (first | refine blk_drewN ?_ _ | refine blk_drew ?_ | refine blk_alloc ?_ _)); refine blk_put (cs := #[.int .i64 ((rd_T41 l0 (rd x3_3 x6_3)).f0), .bool false, .slice none 0 0]) ?_ 1 _ rfl; (with_reducible repeat (first | refine blk_drewN ?_ _ | refine blk_drew ?_ | refine blk_alloc ?_ _)); refine blk_put (cs := #[.int .i64 0, .bool false, .slice none 0 0]) ?_ 0 _ rfl; (with_reducible repeat (first | refine blk_drewN ?_ _ | refine blk_drew ?_ | refine blk_alloc ?_ _)); exact BK121.out⟩
                                      have n3_ : Aside0 (Below w.heap.size w (((w29.setCell ⟨gb121, 0, none⟩ (.int .i64 ((rd_T41 l0 (rd x3_3 x6_3)).f0))).setCell ⟨gb121, 1, none⟩ (.bool ((rd_T41 l0 (rd x3_3 x6_3)).f1))).setCell ⟨gb121, 2, none⟩ (.slice A120_2 ((rd_T41 l0 (rd x3_3 x6_3)).f2).length c120_2))) := ⟨(BB2 HB.out GE118.out GE121.out)⟩
                                      (try clear HO_3)
                                      (try clear BK118)
                                      (try clear BK121)
                                      (try clear HB)
                                      generalize (((w29.setCell ⟨gb121, 0, none⟩ (.int .i64 ((rd_T41 l0 (rd x3_3 x6_3)).f0))).setCell ⟨gb121, 1, none⟩ (.bool ((rd_T41 l0 (rd x3_3 x6_3)).f1))).setCell ⟨gb121, 2, none⟩ (.slice A120_2 ((rd_T41 l0 (rd x3_3 x6_3)).f2).length c120_2)) = w32 at n0_ n1_ n2_ n3_ ⊢
                                      have HO_3 := n0_
                                      have BK118 := n1_
                                      have BK121 := n2_
                                      have HB := n3_
                                      clear n0_ n1_ n2_ n3_
                                      have n0_ := Aside0.mk (Kd.R_drew HO_3.out)
                                      have n1_ := Aside0.mk (blk_drew BK118.out)
                                      have n2_ := Aside0.mk (blk_drew BK121.out)
                                      have n3_ := Aside0.mk (below_drew1 HB.out)
                                      clear HO_3
                                      clear BK118
                                      clear BK121
                                      clear HB
                                      have HO_3 := n0_
                                      have BK118 := n1_
                                      have BK121 := n2_
                                      have HB := n3_
                                      clear n0_ n1_ n2_ n3_
                                      refine start_ (n := 19) (S := fun w' => w'.cell? ⟨gb118, 0, none⟩ = some (.int .i64 ((rd_T41 l0 (rd x3_3 (ji13))).f0)) ∧ w'.cell? ⟨gb118, 1, none⟩ = some (.bool ((rd_T41 l0 (rd x3_3 (ji13))).f1)) ∧ w'.cell? ⟨gb118, 2, none⟩ = some (.slice A117_2 ((rd_T41 l0 (rd x3_3 (ji13))).f2).length c117_2) ∧ w'.cell? ⟨gb121, 0, none⟩ = some (.int .i64 ((rd_T41 l0 (rd x3_3 x6_3)).f0)) ∧ w'.cell? ⟨gb121, 1, none⟩ = some (.bool ((rd_T41 l0 (rd x3_3 x6_3)).f1)) ∧ w'.cell? ⟨gb121, 2, none⟩ = some (.slice A120_2 ((rd_T41 l0 (rd x3_3 x6_3)).f2).length c120_2)) (ds := []) #[false, false, false, false, false, false, false, false, false, false, false, false, false, false, false, false, false, false, false] (by kernel_rfl) rfl rfl ⟨(blk_cell BK118.out 0).trans rfl, (blk_cell BK118.out 1).trans rfl, (blk_cell BK118.out 2).trans rfl, (blk_cell BK121.out 0).trans rfl, (blk_cell BK121.out 1).trans rfl, (blk_cell BK121.out 2).trans rfl⟩ (fun hHeld => ?_); refine with_tabW spec_l15Order.tab15 spec_l15Order.bits15 (fun HT_ HW_ => ?_)
                                      generalize w32.drew = w33 at HO_3 BK118 BK121 HB hHeld ⊢
                                      refine take_ (i := 0) (N := some 52) (v := ?_) (a' := ?_) #[true, false, false, false, false, false, false, false, false, false, false, false, false, false, false, false, false, false, false] rfl rfl (take_ofW HT_.out HW_.out (by kernel_rfl)) (fun _ _ _ h => h) (Or.inl ⟨by rfl, ?_⟩) hHeld ?_ ?_
                                      rotate_left
                                      · rintro w' ⟨s0, s1, s2, s3, s4, s5⟩
                                        go_simp
                                        with_reducible rfl
                                      rotate_left
                                      · simp only [Act.put, List.setIfInBounds_toArray, List.set_cons_zero, List.set_cons_succ, i64_w, i32_w]
                                        rfl
                                      refine take_ (i := 2) (N := some 54) (v := ?_) (a' := ?_) #[true, false, true, false, false, false, false, false, false, false, false, false, false, false, false, false, false, false, false] rfl rfl (take_ofW HT_.out HW_.out (by kernel_rfl)) (fun _ _ _ h => h) (Or.inl ⟨by rfl, ?_⟩) hHeld ?_ ?_
                                      rotate_left
                                      · rintro w' ⟨s0, s1, s2, s3, s4, s5⟩
                                        go_simp
                                        with_reducible rfl
                                      rotate_left
                                      · simp only [Act.put, List.setIfInBounds_toArray, List.set_cons_zero, List.set_cons_succ, i64_w, i32_w]
                                        rfl
                                      refine one_ (i := 1) (N := some 53) #[true, true, true, false, false, false, false, false, false, false, false, false, false, false, false, false, false, false, false] rfl rfl (one_of HT_.out (by kernel_rfl)) (by decide) (fun K hK => ?_)
                                      refine goes_ Try.func21 (by kernel_rfl) rfl #[.agg #[.int .i64 ((rd_T41 l0 (rd x3_3 (ji13))).f0), .bool ((rd_T41 l0 (rd x3_3 (ji13))).f1), .slice A117_2 ((rd_T41 l0 (rd x3_3 (ji13))).f2).length c117_2]] (by rfl) rfl rfl (by (try simp only [List.map_toArray, List.map_cons, List.map_nil]); first | done | (simp only [hji13]; rfl) | rfl | (simp only [List.length_drop, List.length_take]; rfl)) ?_
                                      with_reducible refine (spec_LoadOf.calls ((rd_T41 l0 (rd x3_3 (ji13))).f0) ((rd_T41 l0 (rd x3_3 (ji13))).f1) _ _ ((rd_T41 l0 (rd x3_3 (ji13))).f2) t122 _ ?side1 ?side2 A22.out).mono ?_
                                      (case side1 => exact CC (Kd.C_below HR117_2.out HB.out))
                                      (case side2 => exact HC117_2.out)
                                      rintro e w34 ⟨rfl, hb⟩
                                      refine ⟨_, rfl, ?_⟩
                                      have n0_ := Aside0.mk (Kd.R_below (RR HO_3.out) hb)
                                      have n1_ := Aside0.mk (KB BK118.out hb)
                                      have n2_ := Aside0.mk (KB BK121.out hb)
                                      have n3_ := Aside0.mk (below_step (BB2 HB.out GE118.out GE121.out) hb)
                                      clear HO_3
                                      clear BK118
                                      clear BK121
                                      clear HB
                                      have HO_3 := n0_
                                      have BK118 := n1_
                                      have BK121 := n2_
                                      have HB := n3_
                                      clear n0_ n1_ n2_ n3_
                                      (try clear hb)
                                      (try clear hb2)
                                      (try clear hk)
                                      (try clear hi)
                                      refine hK.out _ _ ⟨(blk_cell BK118.out 0).trans rfl, (blk_cell BK118.out 1).trans rfl, (blk_cell BK118.out 2).trans rfl, (blk_cell BK121.out 0).trans rfl, (blk_cell BK121.out 1).trans rfl, (blk_cell BK121.out 2).trans rfl⟩ (fun hHeld => ?_)
                                      clear hK K
                                      refine norm_ (a' := ?_) ?_ ?_
                                      rotate_left
                                      · show Act.put _ (some 53) _ = _
                                        simp only [Act.put, List.setIfInBounds_toArray, List.set_cons_zero, List.set_cons_succ, i64_w, i32_w]
                                        rfl
                                      refine one_ (i := 3) (N := some 55) #[true, true, true, true, false, false, false, false, false, false, false, false, false, false, false, false, false, false, false] rfl rfl (one_of HT_.out (by kernel_rfl)) (by decide) (fun K hK => ?_)
                                      refine goes_ Try.func21 (by kernel_rfl) rfl #[.agg #[.int .i64 ((rd_T41 l0 (rd x3_3 x6_3)).f0), .bool ((rd_T41 l0 (rd x3_3 x6_3)).f1), .slice A120_2 ((rd_T41 l0 (rd x3_3 x6_3)).f2).length c120_2]] (by rfl) rfl rfl (by (try simp only [List.map_toArray, List.map_cons, List.map_nil]); first | done | rfl | (simp only [List.length_drop, List.length_take]; rfl)) ?_
                                      with_reducible refine (spec_LoadOf.calls ((rd_T41 l0 (rd x3_3 x6_3)).f0) ((rd_T41 l0 (rd x3_3 x6_3)).f1) _ _ ((rd_T41 l0 (rd x3_3 x6_3)).f2) t123 _ ?side1 ?side2 A23.out).mono ?_
                                      (case side1 => exact CC (Kd.C_below HR120_2.out HB.out))
                                      (case side2 => exact HC120_2.out)
                                      rintro e w35 ⟨rfl, hb⟩
                                      refine ⟨_, rfl, ?_⟩
                                      have n0_ := Aside0.mk (Kd.R_below (RR HO_3.out) hb)
                                      have n1_ := Aside0.mk (KB BK118.out hb)
                                      have n2_ := Aside0.mk (KB BK121.out hb)
                                      have n3_ := Aside0.mk (below_step (BB2 HB.out GE118.out GE121.out) hb)
                                      clear HO_3
                                      clear BK118
                                      clear BK121
                                      clear HB
                                      have HO_3 := n0_
                                      have BK118 := n1_
                                      have BK121 := n2_
                                      have HB := n3_
                                      clear n0_ n1_ n2_ n3_
                                      (try clear hb)
                                      (try clear hb2)
                                      (try clear hk)
                                      (try clear hi)
                                      refine hK.out _ _ ⟨(blk_cell BK118.out 0).trans rfl, (blk_cell BK118.out 1).trans rfl, (blk_cell BK118.out 2).trans rfl, (blk_cell BK121.out 0).trans rfl, (blk_cell BK121.out 1).trans rfl, (blk_cell BK121.out 2).trans rfl⟩ (fun hHeld => ?_)
                                      clear hK K
                                      refine norm_ (a' := ?_) ?_ ?_
                                      rotate_left
                                      · show Act.put _ (some 55) _ = _
                                        simp only [Act.put, List.setIfInBounds_toArray, List.set_cons_zero, List.set_cons_succ, i64_w, i32_w]
                                        rfl
                                      refine pure_ (i := 4) (N := some 56) (v := ?_) (a' := ?_) #[true, true, true, true, true, false, false, false, false, false, false, false, false, false, false, false, false, false, false] rfl rfl (any_of HT_.out (by kernel_rfl)) (fun _ _ _ h => h) (Or.inl ⟨by rfl, ?_⟩) ?_ ?_
                                      rotate_left
                                      · intro w'
                                        go_simp
                                        with_reducible rfl
                                      rotate_left
                                      · simp only [Act.put, List.setIfInBounds_toArray, List.set_cons_zero, List.set_cons_succ, i64_w, i32_w]
                                        rfl
                                      refine pure_ (i := 5) (N := some 57) (v := ?_) (a' := ?_) #[true, true, true, true, true, true, false, false, false, false, false, false, false, false, false, false, false, false, false] rfl rfl (any_of HT_.out (by kernel_rfl)) (fun _ _ _ h => h) (Or.inl ⟨by rfl, ?_⟩) ?_ ?_
                                      rotate_left
                                      · intro w'
                                        go_simp
                                        with_reducible rfl
                                      rotate_left
                                      · simp only [Act.put, List.setIfInBounds_toArray, List.set_cons_zero, List.set_cons_succ, i64_w, i32_w]
                                        rfl
                                      refine pure_ (i := 6) (N := some 58) (v := undef) (a' := ?_) #[true, true, true, true, true, true, true, false, false, false, false, false, false, false, false, false, false, false, false] rfl rfl (any_of HT_.out (by kernel_rfl)) (fun _ _ _ h => h) (Or.inr ⟨by rfl, rfl⟩) ?_ ?_
                                      rotate_left
                                      · simp only [Act.put, List.setIfInBounds_toArray, List.set_cons_zero, List.set_cons_succ, i64_w, i32_w]
                                        rfl
                                      refine pure_ (i := 7) (N := some 59) (v := undef) (a' := ?_) #[true, true, true, true, true, true, true, true, false, false, false, false, false, false, false, false, false, false, false] rfl rfl (any_of HT_.out (by kernel_rfl)) (fun _ _ _ h => h) (Or.inr ⟨by rfl, rfl⟩) ?_ ?_
                                      rotate_left
                                      · simp only [Act.put, List.setIfInBounds_toArray, List.set_cons_zero, List.set_cons_succ, i64_w, i32_w]
                                        rfl
                                      refine pure_ (i := 8) (N := some 60) (v := undef) (a' := ?_) #[true, true, true, true, true, true, true, true, true, false, false, false, false, false, false, false, false, false, false] rfl rfl (any_of HT_.out (by kernel_rfl)) (fun _ _ _ h => h) (Or.inr ⟨by rfl, rfl⟩) ?_ ?_
                                      rotate_left
                                      · simp only [Act.put, List.setIfInBounds_toArray, List.set_cons_zero, List.set_cons_succ, i64_w, i32_w]
                                        rfl
                                      refine pure_ (i := 9) (N := some 61) (v := undef) (a' := ?_) #[true, true, true, true, true, true, true, true, true, true, false, false, false, false, false, false, false, false, false] rfl rfl (any_of HT_.out (by kernel_rfl)) (fun _ _ _ h => h) (Or.inr ⟨by rfl, rfl⟩) ?_ ?_
                                      rotate_left
                                      · simp only [Act.put, List.setIfInBounds_toArray, List.set_cons_zero, List.set_cons_succ, i64_w, i32_w]
                                        rfl
                                      refine pure_ (i := 10) (N := some 62) (v := undef) (a' := ?_) #[true, true, true, true, true, true, true, true, true, true, true, false, false, false, false, false, false, false, false] rfl rfl (any_of HT_.out (by kernel_rfl)) (fun _ _ _ h => h) (Or.inr ⟨by rfl, rfl⟩) ?_ ?_
                                      rotate_left
                                      · simp only [Act.put, List.setIfInBounds_toArray, List.set_cons_zero, List.set_cons_succ, i64_w, i32_w]
                                        rfl
                                      refine pure_ (i := 11) (N := some 63) (v := undef) (a' := ?_) #[true, true, true, true, true, true, true, true, true, true, true, true, false, false, false, false, false, false, false] rfl rfl (any_of HT_.out (by kernel_rfl)) (fun _ _ _ h => h) (Or.inr ⟨by rfl, rfl⟩) ?_ ?_
                                      rotate_left
                                      · simp only [Act.put, List.setIfInBounds_toArray, List.set_cons_zero, List.set_cons_succ, i64_w, i32_w]
                                        rfl
                                      refine pure_ (i := 12) (N := some 64) (v := undef) (a' := ?_) #[true, true, true, true, true, true, true, true, true, true, true, true, true, false, false, false, false, false, false] rfl rfl (any_of HT_.out (by kernel_rfl)) (fun _ _ _ h => h) (Or.inr ⟨by rfl, rfl⟩) ?_ ?_
                                      rotate_left
                                      · simp only [Act.put, List.setIfInBounds_toArray, List.set_cons_zero, List.set_cons_succ, i64_w, i32_w]
                                        rfl
                                      refine pure_ (i := 13) (N := some 65) (v := undef) (a' := ?_) #[true, true, true, true, true, true, true, true, true, true, true, true, true, true, false, false, false, false, false] rfl rfl (any_of HT_.out (by kernel_rfl)) (fun _ _ _ h => h) (Or.inr ⟨by rfl, rfl⟩) ?_ ?_
                                      rotate_left
                                      · simp only [Act.put, List.setIfInBounds_toArray, List.set_cons_zero, List.set_cons_succ, i64_w, i32_w]
                                        rfl
                                      refine pure_ (i := 14) (N := some 66) (v := undef) (a' := ?_) #[true, true, true, true, true, true, true, true, true, true, true, true, true, true, true, false, false, false, false] rfl rfl (any_of HT_.out (by kernel_rfl)) (fun _ _ _ h => h) (Or.inr ⟨by rfl, rfl⟩) ?_ ?_
                                      rotate_left
                                      · simp only [Act.put, List.setIfInBounds_toArray, List.set_cons_zero, List.set_cons_succ, i64_w, i32_w]
                                        rfl
                                      refine pure_ (i := 15) (N := some 67) (v := undef) (a' := ?_) #[true, true, true, true, true, true, true, true, true, true, true, true, true, true, true, true, false, false, false] rfl rfl (any_of HT_.out (by kernel_rfl)) (fun _ _ _ h => h) (Or.inr ⟨by rfl, rfl⟩) ?_ ?_
                                      rotate_left
                                      · simp only [Act.put, List.setIfInBounds_toArray, List.set_cons_zero, List.set_cons_succ, i64_w, i32_w]
                                        rfl
                                      refine pure_ (i := 16) (N := some 68) (v := undef) (a' := ?_) #[true, true, true, true, true, true, true, true, true, true, true, true, true, true, true, true, true, false, false] rfl rfl (any_of HT_.out (by kernel_rfl)) (fun _ _ _ h => h) (Or.inr ⟨by rfl, rfl⟩) ?_ ?_
                                      rotate_left
                                      · simp only [Act.put, List.setIfInBounds_toArray, List.set_cons_zero, List.set_cons_succ, i64_w, i32_w]
                                        rfl
                                      refine pure_ (i := 17) (N := some 69) (v := undef) (a' := ?_) #[true, true, true, true, true, true, true, true, true, true, true, true, true, true, true, true, true, true, false] rfl rfl (any_of HT_.out (by kernel_rfl)) (fun _ _ _ h => h) (Or.inr ⟨by rfl, rfl⟩) ?_ ?_
                                      rotate_left
                                      · simp only [Act.put, List.setIfInBounds_toArray, List.set_cons_zero, List.set_cons_succ, i64_w, i32_w]
                                        rfl
                                      refine pure_ (i := 18) (N := some 70) (v := ?_) (a' := ?_) #[true, true, true, true, true, true, true, true, true, true, true, true, true, true, true, true, true, true, true] rfl rfl (any_of HT_.out (by kernel_rfl)) (fun _ _ _ h => h) (Or.inl ⟨by rfl, ?_⟩) ?_ ?_
                                      rotate_left
                                      · intro w'
                                        go_simp
                                        with_reducible rfl
                                      rotate_left
                                      · simp only [Act.put, List.setIfInBounds_toArray, List.set_cons_zero, List.set_cons_succ, i64_w, i32_w]
                                        rfl
                                      refine done_ (done_of HT_.out (by kernel_rfl)) ?_
                                      have p124 : 0 ≤ (x6_3 : Int) := DT
                                      have q124 : x6_3 < (x3_3.length : Int) := DT
                                      obtain ⟨ad124, e124, hx124_0⟩ := Kd.at_int (Kd.R_reads' HO_3.out).2.2 x6_3 p124 q124
                                      obtain rfl : ad116 = ad124 := (by injection e124)
                                      replace p124 := eq_true p124
                                      replace q124 := eq_true q124
                                      have p125 : 0 ≤ ((ji13) : Int) := DT
                                      have q125 : (ji13) < (x3_3.length : Int) := DT
                                      obtain ⟨ad125, e125, hx125_0⟩ := Kd.at_int (Kd.R_reads' HO_3.out).2.2 (ji13) p125 q125
                                      obtain rfl : ad116 = ad125 := (by injection e125)
                                      replace p125 := eq_true p125
                                      replace q125 := eq_true q125
                                      have p25 : 0 ≤ (x6_3 : Int) := DT
                                      have q25 : (x6_3 : Int) < ((x3_3.length : Int) : Int) := DT
                                      obtain ⟨go25, co25, eo25, gb25, gl25, cl25, HG25⟩ := Kd.R_form HO_3.out (by omega)
                                      (first | cases eo25 | (injection eo25 with ea_ en_ ec_; (first | subst ea_ | (injection ea_ with ea_; subst ea_)); subst ec_; clear en_))
                                      have GB25 := Aside0.mk gb25
                                      have GG25 := Aside0.mk HG25
                                      clear gb25 gl25 HG25
                                      (first | simp only [add_plain] at hx116_0 | skip)
                                      (first | simp only [add_plain] at hx119_0 | skip)
                                      (first | simp only [add_plain] at hx124_0 | skip)
                                      (first | simp only [add_plain] at hx125_0 | skip)
                                      obtain ⟨hx25_0, hf25_0⟩ := Kd.R_celln 0 HO_3.out (x6_3 : Int) p25 q25
                                      replace p25 := eq_true p25
                                      replace q25 := eq_true q25
                                      obtain ⟨hy36_, hz36_⟩ := Kd.R_celln 0 HO_3.out (x6_3 : Int) DT DT
                                      have HP36 := Kd.R_putg HO_3.out (x6_3 : Int) (rd x3_3 (ji13))
                                      try go_wp2_with (first | ((with_reducible refine gate_store (t := 3) (p := 82) rfl ?_); refine store_event (t := 3) (p := 82) (v := ?vo_w37) (w1 := (w35.setCell ⟨go25, (x6_3 : Int).toNat, none⟩ (.int .i64 (rd x3_3 (ji13))))) ?hg ?ho ?hn ?hr ?_; (case ho => rfl); (case hg => rfl); (case hn => rfl); (case hr => first | (go_simp; done) | (go_simp; rfl)); intro w37 hw; have hg : w35.grownBy w37 (some go25) := (by rw [hw]; exact HP36.2); have hp_ : Kd.R (Kd.int .i64) 3 w37 w.heap.size (fun _ => True) (.slice (some ⟨go25, 0, none⟩) x3_3.length co11) y126 := (by rw [hw, Ny126.out]; exact HP36.1); clear HP36; have n0_ := Aside0.mk (hp_); have n1_ := Aside0.mk (blk_grown (g := gb118) (o := .cells #[.int .i64 ((rd_T41 l0 (rd x3_3 (ji13))).f0), .bool ((rd_T41 l0 (rd x3_3 (ji13))).f1), .slice A117_2 ((rd_T41 l0 (rd x3_3 (ji13))).f2).length c117_2] 41 (0, 0)) (by (with_reducible repeat (first | refine blk_drewN ?_ _ | refine blk_drew ?_ | refine blk_alloc ?_ _)); exact BK118.out) hg (Kd.R_ne HO_3.out BK118.out (by decide))); have n2_ := Aside0.mk (blk_grown (g := gb121) (o := .cells #[.int .i64 ((rd_T41 l0 (rd x3_3 x6_3)).f0), .bool ((rd_T41 l0 (rd x3_3 x6_3)).f1), .slice A120_2 ((rd_T41 l0 (rd x3_3 x6_3)).f2).length c120_2] 41 (0, 0)) (by (with_reducible repeat (first | refine blk_drewN ?_ _ | refine blk_drew ?_ | refine blk_alloc ?_ _)); exact BK121.out) hg (Kd.R_ne HO_3.out BK121.out (by decide))); have n3_ := Aside0.mk ((by rw [hw]; exact below_set (HB.out) GB25.out : Below w.heap.size w w37)); clear HO_3; clear BK118; clear BK121; clear HB; have HO_3 := n0_; have BK118 := n1_; have BK121 := n2_; have HB := n3_; clear n0_ n1_ n2_ n3_; clear hg hw hp_; have p26 : 0 ≤ ((ji13) : Int) := DT; have q26 : ((ji13) : Int) < ((x3_3.length : Int) : Int) := DT; obtain ⟨hx26_0, hf26_0⟩ := Kd.R_celln 0 HO_3.out ((ji13) : Int) p26 q26; replace p26 := eq_true p26; replace q26 := eq_true q26; obtain ⟨hy38_, hz38_⟩ := Kd.R_celln 0 HO_3.out ((ji13) : Int) DT DT; have HP38 := Kd.R_putg HO_3.out ((ji13) : Int) (rd x3_3 x6_3)) | ((with_reducible refine gate_store (t := 3) (p := 87) rfl ?_); refine store_event (t := 3) (p := 87) (v := ?vo_w39) (w1 := (w37.setCell ⟨go25, ((ji13) : Int).toNat, none⟩ (.int .i64 (rd x3_3 x6_3)))) ?hg ?ho ?hn ?hr ?_; (case ho => rfl); (case hg => rfl); (case hn => rfl); (case hr => first | (go_simp; done) | (go_simp; rfl)); intro w39 hw; have hg : w37.grownBy w39 (some go25) := (by rw [hw]; exact HP38.2); have hp_ : Kd.R (Kd.int .i64) 3 w39 w.heap.size (fun _ => True) (.slice (some ⟨go25, 0, none⟩) x3_3.length co11) y127 := (by rw [hw, Ny127.out]; exact HP38.1); clear HP38; have n0_ := Aside0.mk (hp_); have n1_ := Aside0.mk (blk_grown (g := gb118) (o := .cells #[.int .i64 ((rd_T41 l0 (rd x3_3 (ji13))).f0), .bool ((rd_T41 l0 (rd x3_3 (ji13))).f1), .slice A117_2 ((rd_T41 l0 (rd x3_3 (ji13))).f2).length c117_2] 41 (0, 0)) (by (with_reducible repeat (first | refine blk_drewN ?_ _ | refine blk_drew ?_ | refine blk_alloc ?_ _)); exact BK118.out) hg (Kd.R_ne HO_3.out BK118.out (by decide))); have n2_ := Aside0.mk (blk_grown (g := gb121) (o := .cells #[.int .i64 ((rd_T41 l0 (rd x3_3 x6_3)).f0), .bool ((rd_T41 l0 (rd x3_3 x6_3)).f1), .slice A120_2 ((rd_T41 l0 (rd x3_3 x6_3)).f2).length c120_2] 41 (0, 0)) (by (with_reducible repeat (first | refine blk_drewN ?_ _ | refine blk_drew ?_ | refine blk_alloc ?_ _)); exact BK121.out) hg (Kd.R_ne HO_3.out BK121.out (by decide))); have n3_ := Aside0.mk ((by rw [hw]; exact below_set (HB.out) GB25.out : Below w.heap.size w w39)); clear HO_3; clear BK118; clear BK121; clear HB; have HO_3 := n0_; have BK118 := n1_; have BK121 := n2_; have HB := n3_; clear n0_ n1_ n2_ n3_; clear hg hw hp_))
                                      (try simp only [← hl3_3])
                                      go_roundg k3
                                      case measure => have := HK1.out; have := HK2.out; have := HK3.out; omega
                                      case rel => exact ⟨(y127), (ji13), (by first | rfl | (simp; done) | (simp only [← hji13] <;> (first | rfl | simp)) | (simp [*]; done)), H', ⟨by have := HK1.out; have := HK2.out; have := HK3.out; omega⟩, ⟨by (try simp only [hl3_3]); (with_reducible repeat (first | apply Kd.R_alloc | apply Kd.R_drewN | apply Kd.R_drew)); exact HO_3.out⟩, ⟨(BB2 HB.out GE118.out GE121.out)⟩⟩
                                    · rw [if_neg c24] at H
                                      have c24b0 : decide (t123 < t122) = false := decide_eq_false c24
                                      clear c24
                                      replace H := Option.bind_eq_some_iff.mp H
                                      obtain ⟨t128, A400, H⟩ := H
                                      replace H : ((spec_LoadOf.f ((rd_T41 l0 (rd x3_3 x6_3)).f0) ((rd_T41 l0 (rd x3_3 x6_3)).f1) ((rd_T41 l0 (rd x3_3 x6_3)).f2)).bind fun t129 => (if t128 = t129 then (if ((rd_T41 l0 (rd x3_3 (ji13))).f0) > ((rd_T41 l0 (rd x3_3 x6_3)).f0) then (spec_l15Order.l2 k3 l0 ((x3_3.set (x6_3 : Int).toNat (rd x3_3 (ji13))).set ((ji13) : Int).toNat (rd x3_3 x6_3)) x5_2 ji13) else (spec_l15Order.l2 k3 l0 x3_3 x5_2 ji13)) else (spec_l15Order.l2 k3 l0 x3_3 x5_2 ji13))) = some r := H
                                      have A40 := Aside0.mk A400
                                      clear A400
                                      replace H := Option.bind_eq_some_iff.mp H
                                      obtain ⟨t129, A410, H⟩ := H
                                      replace H : (if t128 = t129 then (if ((rd_T41 l0 (rd x3_3 (ji13))).f0) > ((rd_T41 l0 (rd x3_3 x6_3)).f0) then (spec_l15Order.l2 k3 l0 ((x3_3.set (x6_3 : Int).toNat (rd x3_3 (ji13))).set ((ji13) : Int).toNat (rd x3_3 x6_3)) x5_2 ji13) else (spec_l15Order.l2 k3 l0 x3_3 x5_2 ji13)) else (spec_l15Order.l2 k3 l0 x3_3 x5_2 ji13)) = some r := H
                                      have A41 := Aside0.mk A410
                                      clear A410
                                      by_cases c42 : t128 = t129
                                      · rw [if_pos c42] at H
                                        have c42b0 : (t128 == t129) = true := beq_iff_eq.mpr c42
                                        have c42b1 : (t128 != t129) = false := bne_eq_false_iff_eq.mpr c42
                                        clear c42
                                        by_cases c43 : ((rd_T41 l0 (rd x3_3 (ji13))).f0) > ((rd_T41 l0 (rd x3_3 x6_3)).f0)
                                        · rw [if_pos c43] at H
                                          have c43b0 : decide (((rd_T41 l0 (rd x3_3 x6_3)).f0) < ((rd_T41 l0 (rd x3_3 (ji13))).f0)) = true := decide_eq_true c43
                                          clear c43
                                          obtain ⟨y132, hy132⟩ : ∃ y_ : List Int, y_ = (x3_3.set (x6_3 : Int).toNat (rd x3_3 (ji13))) := ⟨_, rfl⟩
                                          replace H : (spec_l15Order.l2 k3 l0 (y132.set ((ji13) : Int).toNat (rd x3_3 x6_3)) x5_2 ji13) = some r := by first | (rw [hy132]; with_reducible exact H) | (have H2_ := (Option.bind_some _ _).symm.trans H; rw [hy132]; with_reducible exact H2_) | (have H2_ := (Option.bind_some _ _).symm.trans H; with_reducible exact H2_) | with_reducible exact H | (rw [hy132]; exact H) | exact H
                                          have Ny132 := Aside0.mk hy132
                                          clear hy132
                                          obtain ⟨y133, hy133⟩ : ∃ y_ : List Int, y_ = (y132.set ((ji13) : Int).toNat (rd x3_3 x6_3)) := ⟨_, rfl⟩
                                          replace H : (spec_l15Order.l2 k3 l0 y133 x5_2 ji13) = some r := by first | (rw [hy133]; with_reducible exact H) | (have H2_ := (Option.bind_some _ _).symm.trans H; rw [hy133]; with_reducible exact H2_) | (have H2_ := (Option.bind_some _ _).symm.trans H; with_reducible exact H2_) | with_reducible exact H | (rw [hy133]; exact H) | exact H
                                          have Ny133 := Aside0.mk hy133
                                          clear hy133
                                          have H' := Aside0.mk H
                                          clear H
                                          have p116 : 0 ≤ ((ji13) : Int) := DT
                                          have q116 : (ji13) < (x3_3.length : Int) := DT
                                          obtain ⟨ad116, e116, hx116_0⟩ := Kd.at_int (Kd.R_reads' HO_3.out).2.2 (ji13) p116 q116
                                          cases e116
                                          replace p116 := eq_true p116
                                          replace q116 := eq_true q116
                                          have p117 : 0 ≤ ((rd x3_3 (ji13)) : Int) := DT
                                          have q117 : (rd x3_3 (ji13)) < (l0.length : Int) := DT
                                          obtain ⟨ad117, A117_2, c117_2, e117, hx117_0, hx117_1, hx117_2, hl117_2, hi117_2⟩ := at_T41 HR0.out (rd x3_3 (ji13)) p117 q117
                                          cases e117
                                          replace hx117_0 := (HB.out.cell (World.block_lt_of_cell? w _ hx117_0)).trans hx117_0
                                          replace hx117_1 := (HB.out.cell (World.block_lt_of_cell? w _ hx117_1)).trans hx117_1
                                          replace hx117_2 := (HB.out.cell (World.block_lt_of_cell? w _ hx117_2)).trans hx117_2
                                          have HR117_2 := Aside0.mk hi117_2
                                          have HC117_2 := Aside0.mk hl117_2
                                          clear hi117_2 hl117_2
                                          replace p117 := eq_true p117
                                          replace q117 := eq_true q117
                                          try go_wp2_with (first | ((with_reducible refine gate_dst (N := 7) rfl ?_); refine BX 7 #[.int .i64 0, .bool false, .slice none 0 0] 41 ?_; intro gb118 hg w46 hbox hb; have BK118 := Aside0.mk (hbox); have GW118 : Aside0 (w.heap.size ≤ gb118) := WG hg (BB HB.out); have GE118 := GW118; replace HO_3 := Aside0.mk (Kd.R_below (RR HO_3.out) hb); replace HB := Aside0.mk (below_step (BB HB.out) hb); clear hb hbox hg; have hcz47 := blk_cell BK118.out; have hfz47 := blk_frozen BK118.out; have p119 : 0 ≤ (x6_3 : Int) := DT; have q119 : x6_3 < (x3_3.length : Int) := DT; obtain ⟨ad119, e119, hx119_0⟩ := Kd.at_int (Kd.R_reads' HO_3.out).2.2 x6_3 p119 q119; obtain rfl : ad116 = ad119 := (by injection e119); have hn119_0 : ad116.block ≠ gb118 := Kd.own_blk (Kd.R_ne HO_3.out BK118.out (by decide)); have hn119_1 : ad116.block ≠ gb118 := Kd.own_blk (Kd.R_ne HO_3.out BK118.out (by decide)); have hn119_2 : ad116.block ≠ gb118 := Kd.own_blk (Kd.R_ne HO_3.out BK118.out (by decide)); replace hx119_0 := (cell_far (p := ⟨gb118, 0, none⟩) (by first | (rw [add_block]; exact hn119_0) | (show (Addr.add _ _).block ≠ _; rw [add_block]; exact hn119_0) | exact hn119_0) (.int .i64 ((rd_T41 l0 (rd x3_3 (ji13))).f0))).trans hx119_0; replace hx119_0 := (cell_far (p := ⟨gb118, 1, none⟩) (by first | (rw [add_block]; exact hn119_1) | (show (Addr.add _ _).block ≠ _; rw [add_block]; exact hn119_1) | exact hn119_1) (.bool ((rd_T41 l0 (rd x3_3 (ji13))).f1))).trans hx119_0; replace hx119_0 := (cell_far (p := ⟨gb118, 2, none⟩) (by first | (rw [add_block]; exact hn119_2) | (show (Addr.add _ _).block ≠ _; rw [add_block]; exact hn119_2) | exact hn119_2) (.slice A117_2 ((rd_T41 l0 (rd x3_3 (ji13))).f2).length c117_2)).trans hx119_0; clear hn119_0; clear hn119_1; clear hn119_2; replace p119 := eq_true p119; replace q119 := eq_true q119; have p120 : 0 ≤ ((rd x3_3 x6_3) : Int) := DT; have q120 : (rd x3_3 x6_3) < (l0.length : Int) := DT; obtain ⟨ad120, A120_2, c120_2, e120, hx120_0, hx120_1, hx120_2, hl120_2, hi120_2⟩ := at_T41 HR0.out (rd x3_3 x6_3) p120 q120; obtain rfl : ad117 = ad120 := (by injection e120); have hn120_0 : ad117.block ≠ gb118 := Nat.ne_of_lt (Nat.lt_of_lt_of_le (by have := World.block_lt_of_cell? _ _ hx120_0; first | rwa [add_block] at this | exact this) GW118.out); have hn120_1 : ad117.block ≠ gb118 := Nat.ne_of_lt (Nat.lt_of_lt_of_le (by have := World.block_lt_of_cell? _ _ hx120_0; first | rwa [add_block] at this | exact this) GW118.out); have hn120_2 : ad117.block ≠ gb118 := Nat.ne_of_lt (Nat.lt_of_lt_of_le (by have := World.block_lt_of_cell? _ _ hx120_0; first | rwa [add_block] at this | exact this) GW118.out); replace hx120_0 := (HB.out.cell (World.block_lt_of_cell? w _ hx120_0)).trans hx120_0; replace hx120_1 := (HB.out.cell (World.block_lt_of_cell? w _ hx120_1)).trans hx120_1; replace hx120_2 := (HB.out.cell (World.block_lt_of_cell? w _ hx120_2)).trans hx120_2; have HR120_2 := Aside0.mk hi120_2; have HC120_2 := Aside0.mk hl120_2; clear hi120_2 hl120_2; replace hx120_0 := (cell_far (p := ⟨gb118, 0, none⟩) (by first | (rw [add_block]; exact hn120_0) | (show (Addr.add _ _).block ≠ _; rw [add_block]; exact hn120_0) | exact hn120_0) (.int .i64 ((rd_T41 l0 (rd x3_3 (ji13))).f0))).trans hx120_0; replace hx120_1 := (cell_far (p := ⟨gb118, 0, none⟩) (by first | (rw [add_block]; exact hn120_0) | (show (Addr.add _ _).block ≠ _; rw [add_block]; exact hn120_0) | exact hn120_0) (.int .i64 ((rd_T41 l0 (rd x3_3 (ji13))).f0))).trans hx120_1; replace hx120_2 := (cell_far (p := ⟨gb118, 0, none⟩) (by first | (rw [add_block]; exact hn120_0) | (show (Addr.add _ _).block ≠ _; rw [add_block]; exact hn120_0) | exact hn120_0) (.int .i64 ((rd_T41 l0 (rd x3_3 (ji13))).f0))).trans hx120_2; replace hx120_0 := (cell_far (p := ⟨gb118, 1, none⟩) (by first | (rw [add_block]; exact hn120_1) | (show (Addr.add _ _).block ≠ _; rw [add_block]; exact hn120_1) | exact hn120_1) (.bool ((rd_T41 l0 (rd x3_3 (ji13))).f1))).trans hx120_0; replace hx120_1 := (cell_far (p := ⟨gb118, 1, none⟩) (by first | (rw [add_block]; exact hn120_1) | (show (Addr.add _ _).block ≠ _; rw [add_block]; exact hn120_1) | exact hn120_1) (.bool ((rd_T41 l0 (rd x3_3 (ji13))).f1))).trans hx120_1; replace hx120_2 := (cell_far (p := ⟨gb118, 1, none⟩) (by first | (rw [add_block]; exact hn120_1) | (show (Addr.add _ _).block ≠ _; rw [add_block]; exact hn120_1) | exact hn120_1) (.bool ((rd_T41 l0 (rd x3_3 (ji13))).f1))).trans hx120_2; replace hx120_0 := (cell_far (p := ⟨gb118, 2, none⟩) (by first | (rw [add_block]; exact hn120_2) | (show (Addr.add _ _).block ≠ _; rw [add_block]; exact hn120_2) | exact hn120_2) (.slice A117_2 ((rd_T41 l0 (rd x3_3 (ji13))).f2).length c117_2)).trans hx120_0; replace hx120_1 := (cell_far (p := ⟨gb118, 2, none⟩) (by first | (rw [add_block]; exact hn120_2) | (show (Addr.add _ _).block ≠ _; rw [add_block]; exact hn120_2) | exact hn120_2) (.slice A117_2 ((rd_T41 l0 (rd x3_3 (ji13))).f2).length c117_2)).trans hx120_1; replace hx120_2 := (cell_far (p := ⟨gb118, 2, none⟩) (by first | (rw [add_block]; exact hn120_2) | (show (Addr.add _ _).block ≠ _; rw [add_block]; exact hn120_2) | exact hn120_2) (.slice A117_2 ((rd_T41 l0 (rd x3_3 (ji13))).f2).length c117_2)).trans hx120_2; clear hn120_0; clear hn120_1; clear hn120_2; replace p120 := eq_true p120; replace q120 := eq_true q120) | ((with_reducible refine gate_dst (N := 8) rfl ?_); refine BX 8 #[.int .i64 0, .bool false, .slice none 0 0] 41 ?_; intro gb121 hg w48 hbox hb; have n0_ := Aside0.mk (Kd.R_below (by (with_reducible repeat (first | apply Kd.R_alloc | apply Kd.R_drewN | apply Kd.R_drew)); exact (Kd.R_mono (Kd.R_far (p := ⟨gb118, 2, none⟩) (Kd.R_far (p := ⟨gb118, 1, none⟩) (Kd.R_far (p := ⟨gb118, 0, none⟩) (Kd.R_types HO_3.out BK118.out (by decide)) (fun _ hk => hk.2) (.int .i64 ((rd_T41 l0 (rd x3_3 (ji13))).f0))) (fun _ hk => hk.2) (.bool ((rd_T41 l0 (rd x3_3 (ji13))).f1))) (fun _ hk => hk.2) (.slice A117_2 ((rd_T41 l0 (rd x3_3 (ji13))).f2).length c117_2)) (fun _ h_ => h_.1))) hb); have n1_ := Aside0.mk (blk_below (g := gb118) (o := .cells #[.int .i64 ((rd_T41 l0 (rd x3_3 (ji13))).f0), .bool ((rd_T41 l0 (rd x3_3 (ji13))).f1), .slice A117_2 ((rd_T41 l0 (rd x3_3 (ji13))).f2).length c117_2] 41 (0, 0)) (by (with_reducible repeat (first | refine blk_drewN ?_ _ | refine blk_drew ?_ | refine blk_alloc ?_ _)); refine blk_put (cs := #[.int .i64 ((rd_T41 l0 (rd x3_3 (ji13))).f0), .bool ((rd_T41 l0 (rd x3_3 (ji13))).f1), .slice none 0 0]) ?_ 2 _ rfl; (with_reducible repeat (first | refine blk_drewN ?_ _ | refine blk_drew ?_ | refine blk_alloc ?_ _)); refine blk_put (cs := #[.int .i64 ((rd_T41 l0 (rd x3_3 (ji13))).f0), .bool false, .slice none 0 0]) ?_ 1 _ rfl; (with_reducible repeat (first | refine blk_drewN ?_ _ | refine blk_drew ?_ | refine blk_alloc ?_ _)); refine blk_put (cs := #[.int .i64 0, .bool false, .slice none 0 0]) ?_ 0 _ rfl; (with_reducible repeat (first | refine blk_drewN ?_ _ | refine blk_drew ?_ | refine blk_alloc ?_ _)); exact BK118.out) hb); have n2_ := Aside0.mk (below_step (BB1 HB.out GE118.out) hb); have n3_ := Aside0.mk (hbox); have n4_ : Aside0 (w.heap.size ≤ gb121) := WG hg (BB1 HB.out GE118.out); have n5_ := n4_; have n6_ := Aside0.mk ((by rw [hg]; exact Nat.ne_of_lt (blk_lt (g := gb118) (o := .cells #[.int .i64 ((rd_T41 l0 (rd x3_3 (ji13))).f0), .bool ((rd_T41 l0 (rd x3_3 (ji13))).f1), .slice A117_2 ((rd_T41 l0 (rd x3_3 (ji13))).f2).length c117_2] 41 (0, 0)) (by (with_reducible repeat (first | refine blk_drewN ?_ _ | refine blk_drew ?_ | refine blk_alloc ?_ _)); refine blk_put (cs := #[.int .i64 ((rd_T41 l0 (rd x3_3 (ji13))).f0), .bool ((rd_T41 l0 (rd x3_3 (ji13))).f1), .slice none 0 0]) ?_ 2 _ rfl; (with_reducible repeat (first | refine blk_drewN ?_ _ | refine blk_drew ?_ | refine blk_alloc ?_ _)); refine blk_put (cs := #[.int .i64 ((rd_T41 l0 (rd x3_3 (ji13))).f0), .bool false, .slice none 0 0]) ?_ 1 _ rfl; (with_reducible repeat (first | refine blk_drewN ?_ _ | refine blk_drew ?_ | refine blk_alloc ?_ _)); refine blk_put (cs := #[.int .i64 0, .bool false, .slice none 0 0]) ?_ 0 _ rfl; (with_reducible repeat (first | refine blk_drewN ?_ _ | refine blk_drew ?_ | refine blk_alloc ?_ _)); exact BK118.out)) : gb118 ≠ gb121)); have n7_ := Aside0.mk ((by rw [hg]; exact Nat.ne_of_gt (blk_lt (g := gb118) (o := .cells #[.int .i64 ((rd_T41 l0 (rd x3_3 (ji13))).f0), .bool ((rd_T41 l0 (rd x3_3 (ji13))).f1), .slice A117_2 ((rd_T41 l0 (rd x3_3 (ji13))).f2).length c117_2] 41 (0, 0)) (by (with_reducible repeat (first | refine blk_drewN ?_ _ | refine blk_drew ?_ | refine blk_alloc ?_ _)); refine blk_put (cs := #[.int .i64 ((rd_T41 l0 (rd x3_3 (ji13))).f0), .bool ((rd_T41 l0 (rd x3_3 (ji13))).f1), .slice none 0 0]) ?_ 2 _ rfl; (with_reducible repeat (first | refine blk_drewN ?_ _ | refine blk_drew ?_ | refine blk_alloc ?_ _)); refine blk_put (cs := #[.int .i64 ((rd_T41 l0 (rd x3_3 (ji13))).f0), .bool false, .slice none 0 0]) ?_ 1 _ rfl; (with_reducible repeat (first | refine blk_drewN ?_ _ | refine blk_drew ?_ | refine blk_alloc ?_ _)); refine blk_put (cs := #[.int .i64 0, .bool false, .slice none 0 0]) ?_ 0 _ rfl; (with_reducible repeat (first | refine blk_drewN ?_ _ | refine blk_drew ?_ | refine blk_alloc ?_ _)); exact BK118.out)) : gb121 ≠ gb118)); clear HO_3; clear BK118; clear HB; have HO_3 := n0_; have BK118 := n1_; have HB := n2_; have BK121 := n3_; have GW121 := n4_; have GE121 := n5_; have NB118_121 := n6_; have NB121_118 := n7_; clear n0_ n1_ n2_ n3_ n4_ n5_ n6_ n7_; clear hb hbox hg; have hnb49 := NB121_118.out; have hnc49 := NB118_121.out; have hcz50 := blk_cell BK121.out; have hfz50 := blk_frozen BK121.out))
                                          have n0_ : Aside0 (Kd.R (Kd.int .i64) 3 (((w48.setCell ⟨gb121, 0, none⟩ (.int .i64 ((rd_T41 l0 (rd x3_3 x6_3)).f0))).setCell ⟨gb121, 1, none⟩ (.bool ((rd_T41 l0 (rd x3_3 x6_3)).f1))).setCell ⟨gb121, 2, none⟩ (.slice A120_2 ((rd_T41 l0 (rd x3_3 x6_3)).f2).length c120_2)) w.heap.size (fun _ => True) (.slice (some ad116) x3_3.length co11) x3_3) := ⟨by (with_reducible repeat (first | apply Kd.R_alloc | apply Kd.R_drewN | apply Kd.R_drew)); exact Kd.R_mono (Kd.R_far (p := ⟨gb121, 2, none⟩) (Kd.R_far (p := ⟨gb121, 1, none⟩) (Kd.R_far (p := ⟨gb121, 0, none⟩) (Kd.R_types HO_3.out BK121.out (by decide)) (fun _ hk => hk.2) (.int .i64 ((rd_T41 l0 (rd x3_3 x6_3)).f0))) (fun _ hk => hk.2) (.bool ((rd_T41 l0 (rd x3_3 x6_3)).f1))) (fun _ hk => hk.2) (.slice A120_2 ((rd_T41 l0 (rd x3_3 x6_3)).f2).length c120_2)) (fun _ hk => trivial)⟩
                                          have n1_ : Aside0 ((((w48.setCell ⟨gb121, 0, none⟩ (.int .i64 ((rd_T41 l0 (rd x3_3 x6_3)).f0))).setCell ⟨gb121, 1, none⟩ (.bool ((rd_T41 l0 (rd x3_3 x6_3)).f1))).setCell ⟨gb121, 2, none⟩ (.slice A120_2 ((rd_T41 l0 (rd x3_3 x6_3)).f2).length c120_2)).heap[gb118]? = some (.cells #[.int .i64 ((rd_T41 l0 (rd x3_3 (ji13))).f0), .bool ((rd_T41 l0 (rd x3_3 (ji13))).f1), .slice A117_2 ((rd_T41 l0 (rd x3_3 (ji13))).f2).length c117_2] 41 (0, 0))) := ⟨by (with_reducible repeat (first | refine blk_drewN ?_ _ | refine blk_drew ?_ | refine blk_alloc ?_ _)); refine blk_far ?_ NB118_121.out _; (with_reducible repeat (first | refine blk_drewN ?_ _ | refine blk_drew ?_ | refine blk_alloc ?_ _)); refine blk_far ?_ NB118_121.out _; (with_reducible repeat (first | refine blk_drewN ?_ _ | refine blk_drew ?_ | refine blk_alloc ?_ _)); refine blk_far ?_ NB118_121.out _; (with_reducible repeat (first | refine blk_drewN ?_ _ | refine blk_drew ?_ | refine blk_alloc ?_ _)); exact BK118.out⟩
                                          have n2_ : Aside0 ((((w48.setCell ⟨gb121, 0, none⟩ (.int .i64 ((rd_T41 l0 (rd x3_3 x6_3)).f0))).setCell ⟨gb121, 1, none⟩ (.bool ((rd_T41 l0 (rd x3_3 x6_3)).f1))).setCell ⟨gb121, 2, none⟩ (.slice A120_2 ((rd_T41 l0 (rd x3_3 x6_3)).f2).length c120_2)).heap[gb121]? = some (.cells #[.int .i64 ((rd_T41 l0 (rd x3_3 x6_3)).f0), .bool ((rd_T41 l0 (rd x3_3 x6_3)).f1), .slice A120_2 ((rd_T41 l0 (rd x3_3 x6_3)).f2).length c120_2] 41 (0, 0))) := ⟨by (with_reducible repeat (first | refine blk_drewN ?_ _ | refine blk_drew ?_ | refine blk_alloc ?_ _)); refine blk_put (cs := #[.int .i64 ((rd_T41 l0 (rd x3_3 x6_3)).f0), .bool ((rd_T41 l0 (rd x3_3 x6_3)).f1), .slice none 0 0]) ?_ 2 _ rfl; (with_reducible repeat (first | refine blk_drewN ?_ _ | refine blk_drew ?_ | refine blk_alloc ?_ _)); refine blk_put (cs := #[.int .i64 ((rd_T41 l0 (rd x3_3 x6_3)).f0), .bool false, .slice none 0 0]) ?_ 1 _ rfl; (with_reducible repeat (first | refine blk_drewN ?_ _ | refine blk_drew ?_ | refine blk_alloc ?_ _)); refine blk_put (cs := #[.int .i64 0, .bool false, .slice none 0 0]) ?_ 0 _ rfl; (with_reducible repeat (first | refine blk_drewN ?_ _ | refine blk_drew ?_ | refine blk_alloc ?_ _)); exact BK121.out⟩
                                          have n3_ : Aside0 (Below w.heap.size w (((w48.setCell ⟨gb121, 0, none⟩ (.int .i64 ((rd_T41 l0 (rd x3_3 x6_3)).f0))).setCell ⟨gb121, 1, none⟩ (.bool ((rd_T41 l0 (rd x3_3 x6_3)).f1))).setCell ⟨gb121, 2, none⟩ (.slice A120_2 ((rd_T41 l0 (rd x3_3 x6_3)).f2).length c120_2))) := ⟨(BB2 HB.out GE118.out GE121.out)⟩
                                          (try clear HO_3)
                                          (try clear BK118)
                                          (try clear BK121)
                                          (try clear HB)
                                          generalize (((w48.setCell ⟨gb121, 0, none⟩ (.int .i64 ((rd_T41 l0 (rd x3_3 x6_3)).f0))).setCell ⟨gb121, 1, none⟩ (.bool ((rd_T41 l0 (rd x3_3 x6_3)).f1))).setCell ⟨gb121, 2, none⟩ (.slice A120_2 ((rd_T41 l0 (rd x3_3 x6_3)).f2).length c120_2)) = w51 at n0_ n1_ n2_ n3_ ⊢
                                          have HO_3 := n0_
                                          have BK118 := n1_
                                          have BK121 := n2_
                                          have HB := n3_
                                          clear n0_ n1_ n2_ n3_
                                          have n0_ := Aside0.mk (Kd.R_drew HO_3.out)
                                          have n1_ := Aside0.mk (blk_drew BK118.out)
                                          have n2_ := Aside0.mk (blk_drew BK121.out)
                                          have n3_ := Aside0.mk (below_drew1 HB.out)
                                          clear HO_3
                                          clear BK118
                                          clear BK121
                                          clear HB
                                          have HO_3 := n0_
                                          have BK118 := n1_
                                          have BK121 := n2_
                                          have HB := n3_
                                          clear n0_ n1_ n2_ n3_
                                          refine start_ (n := 19) (S := fun w' => w'.cell? ⟨gb118, 0, none⟩ = some (.int .i64 ((rd_T41 l0 (rd x3_3 (ji13))).f0)) ∧ w'.cell? ⟨gb118, 1, none⟩ = some (.bool ((rd_T41 l0 (rd x3_3 (ji13))).f1)) ∧ w'.cell? ⟨gb118, 2, none⟩ = some (.slice A117_2 ((rd_T41 l0 (rd x3_3 (ji13))).f2).length c117_2) ∧ w'.cell? ⟨gb121, 0, none⟩ = some (.int .i64 ((rd_T41 l0 (rd x3_3 x6_3)).f0)) ∧ w'.cell? ⟨gb121, 1, none⟩ = some (.bool ((rd_T41 l0 (rd x3_3 x6_3)).f1)) ∧ w'.cell? ⟨gb121, 2, none⟩ = some (.slice A120_2 ((rd_T41 l0 (rd x3_3 x6_3)).f2).length c120_2)) (ds := []) #[false, false, false, false, false, false, false, false, false, false, false, false, false, false, false, false, false, false, false] (by kernel_rfl) rfl rfl ⟨(blk_cell BK118.out 0).trans rfl, (blk_cell BK118.out 1).trans rfl, (blk_cell BK118.out 2).trans rfl, (blk_cell BK121.out 0).trans rfl, (blk_cell BK121.out 1).trans rfl, (blk_cell BK121.out 2).trans rfl⟩ (fun hHeld => ?_); refine with_tabW spec_l15Order.tab15 spec_l15Order.bits15 (fun HT_ HW_ => ?_)
                                          generalize w51.drew = w52 at HO_3 BK118 BK121 HB hHeld ⊢
                                          refine take_ (i := 0) (N := some 52) (v := ?_) (a' := ?_) #[true, false, false, false, false, false, false, false, false, false, false, false, false, false, false, false, false, false, false] rfl rfl (take_ofW HT_.out HW_.out (by kernel_rfl)) (fun _ _ _ h => h) (Or.inl ⟨by rfl, ?_⟩) hHeld ?_ ?_
                                          rotate_left
                                          · rintro w' ⟨s0, s1, s2, s3, s4, s5⟩
                                            go_simp
                                            with_reducible rfl
                                          rotate_left
                                          · simp only [Act.put, List.setIfInBounds_toArray, List.set_cons_zero, List.set_cons_succ, i64_w, i32_w]
                                            rfl
                                          refine take_ (i := 2) (N := some 54) (v := ?_) (a' := ?_) #[true, false, true, false, false, false, false, false, false, false, false, false, false, false, false, false, false, false, false] rfl rfl (take_ofW HT_.out HW_.out (by kernel_rfl)) (fun _ _ _ h => h) (Or.inl ⟨by rfl, ?_⟩) hHeld ?_ ?_
                                          rotate_left
                                          · rintro w' ⟨s0, s1, s2, s3, s4, s5⟩
                                            go_simp
                                            with_reducible rfl
                                          rotate_left
                                          · simp only [Act.put, List.setIfInBounds_toArray, List.set_cons_zero, List.set_cons_succ, i64_w, i32_w]
                                            rfl
                                          refine one_ (i := 1) (N := some 53) #[true, true, true, false, false, false, false, false, false, false, false, false, false, false, false, false, false, false, false] rfl rfl (one_of HT_.out (by kernel_rfl)) (by decide) (fun K hK => ?_)
                                          refine goes_ Try.func21 (by kernel_rfl) rfl #[.agg #[.int .i64 ((rd_T41 l0 (rd x3_3 (ji13))).f0), .bool ((rd_T41 l0 (rd x3_3 (ji13))).f1), .slice A117_2 ((rd_T41 l0 (rd x3_3 (ji13))).f2).length c117_2]] (by rfl) rfl rfl (by (try simp only [List.map_toArray, List.map_cons, List.map_nil]); first | done | (simp only [hji13]; rfl) | rfl | (simp only [List.length_drop, List.length_take]; rfl)) ?_
                                          with_reducible refine (spec_LoadOf.calls ((rd_T41 l0 (rd x3_3 (ji13))).f0) ((rd_T41 l0 (rd x3_3 (ji13))).f1) _ _ ((rd_T41 l0 (rd x3_3 (ji13))).f2) t122 _ ?side1 ?side2 A22.out).mono ?_
                                          (case side1 => exact CC (Kd.C_below HR117_2.out HB.out))
                                          (case side2 => exact HC117_2.out)
                                          rintro e w53 ⟨rfl, hb⟩
                                          refine ⟨_, rfl, ?_⟩
                                          have n0_ := Aside0.mk (Kd.R_below (RR HO_3.out) hb)
                                          have n1_ := Aside0.mk (KB BK118.out hb)
                                          have n2_ := Aside0.mk (KB BK121.out hb)
                                          have n3_ := Aside0.mk (below_step (BB2 HB.out GE118.out GE121.out) hb)
                                          clear HO_3
                                          clear BK118
                                          clear BK121
                                          clear HB
                                          have HO_3 := n0_
                                          have BK118 := n1_
                                          have BK121 := n2_
                                          have HB := n3_
                                          clear n0_ n1_ n2_ n3_
                                          (try clear hb)
                                          (try clear hb2)
                                          (try clear hk)
                                          (try clear hi)
                                          refine hK.out _ _ ⟨(blk_cell BK118.out 0).trans rfl, (blk_cell BK118.out 1).trans rfl, (blk_cell BK118.out 2).trans rfl, (blk_cell BK121.out 0).trans rfl, (blk_cell BK121.out 1).trans rfl, (blk_cell BK121.out 2).trans rfl⟩ (fun hHeld => ?_)
                                          clear hK K
                                          refine norm_ (a' := ?_) ?_ ?_
                                          rotate_left
                                          · show Act.put _ (some 53) _ = _
                                            simp only [Act.put, List.setIfInBounds_toArray, List.set_cons_zero, List.set_cons_succ, i64_w, i32_w]
                                            rfl
                                          refine one_ (i := 3) (N := some 55) #[true, true, true, true, false, false, false, false, false, false, false, false, false, false, false, false, false, false, false] rfl rfl (one_of HT_.out (by kernel_rfl)) (by decide) (fun K hK => ?_)
                                          refine goes_ Try.func21 (by kernel_rfl) rfl #[.agg #[.int .i64 ((rd_T41 l0 (rd x3_3 x6_3)).f0), .bool ((rd_T41 l0 (rd x3_3 x6_3)).f1), .slice A120_2 ((rd_T41 l0 (rd x3_3 x6_3)).f2).length c120_2]] (by rfl) rfl rfl (by (try simp only [List.map_toArray, List.map_cons, List.map_nil]); first | done | rfl | (simp only [List.length_drop, List.length_take]; rfl)) ?_
                                          with_reducible refine (spec_LoadOf.calls ((rd_T41 l0 (rd x3_3 x6_3)).f0) ((rd_T41 l0 (rd x3_3 x6_3)).f1) _ _ ((rd_T41 l0 (rd x3_3 x6_3)).f2) t123 _ ?side1 ?side2 A23.out).mono ?_
                                          (case side1 => exact CC (Kd.C_below HR120_2.out HB.out))
                                          (case side2 => exact HC120_2.out)
                                          rintro e w54 ⟨rfl, hb⟩
                                          refine ⟨_, rfl, ?_⟩
                                          have n0_ := Aside0.mk (Kd.R_below (RR HO_3.out) hb)
                                          have n1_ := Aside0.mk (KB BK118.out hb)
                                          have n2_ := Aside0.mk (KB BK121.out hb)
                                          have n3_ := Aside0.mk (below_step (BB2 HB.out GE118.out GE121.out) hb)
                                          clear HO_3
                                          clear BK118
                                          clear BK121
                                          clear HB
                                          have HO_3 := n0_
                                          have BK118 := n1_
                                          have BK121 := n2_
                                          have HB := n3_
                                          clear n0_ n1_ n2_ n3_
                                          (try clear hb)
                                          (try clear hb2)
                                          (try clear hk)
                                          (try clear hi)
                                          refine hK.out _ _ ⟨(blk_cell BK118.out 0).trans rfl, (blk_cell BK118.out 1).trans rfl, (blk_cell BK118.out 2).trans rfl, (blk_cell BK121.out 0).trans rfl, (blk_cell BK121.out 1).trans rfl, (blk_cell BK121.out 2).trans rfl⟩ (fun hHeld => ?_)
                                          clear hK K
                                          refine norm_ (a' := ?_) ?_ ?_
                                          rotate_left
                                          · show Act.put _ (some 55) _ = _
                                            simp only [Act.put, List.setIfInBounds_toArray, List.set_cons_zero, List.set_cons_succ, i64_w, i32_w]
                                            rfl
                                          refine pure_ (i := 4) (N := some 56) (v := ?_) (a' := ?_) #[true, true, true, true, true, false, false, false, false, false, false, false, false, false, false, false, false, false, false] rfl rfl (any_of HT_.out (by kernel_rfl)) (fun _ _ _ h => h) (Or.inl ⟨by rfl, ?_⟩) ?_ ?_
                                          rotate_left
                                          · intro w'
                                            go_simp
                                            with_reducible rfl
                                          rotate_left
                                          · simp only [Act.put, List.setIfInBounds_toArray, List.set_cons_zero, List.set_cons_succ, i64_w, i32_w]
                                            rfl
                                          refine pure_ (i := 5) (N := some 57) (v := ?_) (a' := ?_) #[true, true, true, true, true, true, false, false, false, false, false, false, false, false, false, false, false, false, false] rfl rfl (any_of HT_.out (by kernel_rfl)) (fun _ _ _ h => h) (Or.inl ⟨by rfl, ?_⟩) ?_ ?_
                                          rotate_left
                                          · intro w'
                                            go_simp
                                            with_reducible rfl
                                          rotate_left
                                          · simp only [Act.put, List.setIfInBounds_toArray, List.set_cons_zero, List.set_cons_succ, i64_w, i32_w]
                                            rfl
                                          refine take_ (i := 6) (N := some 58) (v := ?_) (a' := ?_) #[true, true, true, true, true, true, true, false, false, false, false, false, false, false, false, false, false, false, false] rfl rfl (take_ofW HT_.out HW_.out (by kernel_rfl)) (fun _ _ _ h => h) (Or.inl ⟨by rfl, ?_⟩) hHeld ?_ ?_
                                          rotate_left
                                          · rintro w' ⟨s0, s1, s2, s3, s4, s5⟩
                                            go_simp
                                            with_reducible rfl
                                          rotate_left
                                          · simp only [Act.put, List.setIfInBounds_toArray, List.set_cons_zero, List.set_cons_succ, i64_w, i32_w]
                                            rfl
                                          refine take_ (i := 8) (N := some 60) (v := ?_) (a' := ?_) #[true, true, true, true, true, true, true, false, true, false, false, false, false, false, false, false, false, false, false] rfl rfl (take_ofW HT_.out HW_.out (by kernel_rfl)) (fun _ _ _ h => h) (Or.inl ⟨by rfl, ?_⟩) hHeld ?_ ?_
                                          rotate_left
                                          · rintro w' ⟨s0, s1, s2, s3, s4, s5⟩
                                            go_simp
                                            with_reducible rfl
                                          rotate_left
                                          · simp only [Act.put, List.setIfInBounds_toArray, List.set_cons_zero, List.set_cons_succ, i64_w, i32_w]
                                            rfl
                                          refine one_ (i := 7) (N := some 59) #[true, true, true, true, true, true, true, true, true, false, false, false, false, false, false, false, false, false, false] rfl rfl (one_of HT_.out (by kernel_rfl)) (by decide) (fun K hK => ?_)
                                          refine goes_ Try.func21 (by kernel_rfl) rfl #[.agg #[.int .i64 ((rd_T41 l0 (rd x3_3 (ji13))).f0), .bool ((rd_T41 l0 (rd x3_3 (ji13))).f1), .slice A117_2 ((rd_T41 l0 (rd x3_3 (ji13))).f2).length c117_2]] (by rfl) rfl rfl (by (try simp only [List.map_toArray, List.map_cons, List.map_nil]); first | done | (simp only [hji13]; rfl) | rfl | (simp only [List.length_drop, List.length_take]; rfl)) ?_
                                          with_reducible refine (spec_LoadOf.calls ((rd_T41 l0 (rd x3_3 (ji13))).f0) ((rd_T41 l0 (rd x3_3 (ji13))).f1) _ _ ((rd_T41 l0 (rd x3_3 (ji13))).f2) t128 _ ?side1 ?side2 A40.out).mono ?_
                                          (case side1 => exact CC (Kd.C_below HR117_2.out HB.out))
                                          (case side2 => exact HC117_2.out)
                                          rintro e w55 ⟨rfl, hb⟩
                                          refine ⟨_, rfl, ?_⟩
                                          have n0_ := Aside0.mk (Kd.R_below (RR HO_3.out) hb)
                                          have n1_ := Aside0.mk (KB BK118.out hb)
                                          have n2_ := Aside0.mk (KB BK121.out hb)
                                          have n3_ := Aside0.mk (below_step (BB2 HB.out GE118.out GE121.out) hb)
                                          clear HO_3
                                          clear BK118
                                          clear BK121
                                          clear HB
                                          have HO_3 := n0_
                                          have BK118 := n1_
                                          have BK121 := n2_
                                          have HB := n3_
                                          clear n0_ n1_ n2_ n3_
                                          (try clear hb)
                                          (try clear hb2)
                                          (try clear hk)
                                          (try clear hi)
                                          refine hK.out _ _ ⟨(blk_cell BK118.out 0).trans rfl, (blk_cell BK118.out 1).trans rfl, (blk_cell BK118.out 2).trans rfl, (blk_cell BK121.out 0).trans rfl, (blk_cell BK121.out 1).trans rfl, (blk_cell BK121.out 2).trans rfl⟩ (fun hHeld => ?_)
                                          clear hK K
                                          refine norm_ (a' := ?_) ?_ ?_
                                          rotate_left
                                          · show Act.put _ (some 59) _ = _
                                            simp only [Act.put, List.setIfInBounds_toArray, List.set_cons_zero, List.set_cons_succ, i64_w, i32_w]
                                            rfl
                                          refine one_ (i := 9) (N := some 61) #[true, true, true, true, true, true, true, true, true, true, false, false, false, false, false, false, false, false, false] rfl rfl (one_of HT_.out (by kernel_rfl)) (by decide) (fun K hK => ?_)
                                          refine goes_ Try.func21 (by kernel_rfl) rfl #[.agg #[.int .i64 ((rd_T41 l0 (rd x3_3 x6_3)).f0), .bool ((rd_T41 l0 (rd x3_3 x6_3)).f1), .slice A120_2 ((rd_T41 l0 (rd x3_3 x6_3)).f2).length c120_2]] (by rfl) rfl rfl (by (try simp only [List.map_toArray, List.map_cons, List.map_nil]); first | done | rfl | (simp only [List.length_drop, List.length_take]; rfl)) ?_
                                          with_reducible refine (spec_LoadOf.calls ((rd_T41 l0 (rd x3_3 x6_3)).f0) ((rd_T41 l0 (rd x3_3 x6_3)).f1) _ _ ((rd_T41 l0 (rd x3_3 x6_3)).f2) t129 _ ?side1 ?side2 A41.out).mono ?_
                                          (case side1 => exact CC (Kd.C_below HR120_2.out HB.out))
                                          (case side2 => exact HC120_2.out)
                                          rintro e w56 ⟨rfl, hb⟩
                                          refine ⟨_, rfl, ?_⟩
                                          have n0_ := Aside0.mk (Kd.R_below (RR HO_3.out) hb)
                                          have n1_ := Aside0.mk (KB BK118.out hb)
                                          have n2_ := Aside0.mk (KB BK121.out hb)
                                          have n3_ := Aside0.mk (below_step (BB2 HB.out GE118.out GE121.out) hb)
                                          clear HO_3
                                          clear BK118
                                          clear BK121
                                          clear HB
                                          have HO_3 := n0_
                                          have BK118 := n1_
                                          have BK121 := n2_
                                          have HB := n3_
                                          clear n0_ n1_ n2_ n3_
                                          (try clear hb)
                                          (try clear hb2)
                                          (try clear hk)
                                          (try clear hi)
                                          refine hK.out _ _ ⟨(blk_cell BK118.out 0).trans rfl, (blk_cell BK118.out 1).trans rfl, (blk_cell BK118.out 2).trans rfl, (blk_cell BK121.out 0).trans rfl, (blk_cell BK121.out 1).trans rfl, (blk_cell BK121.out 2).trans rfl⟩ (fun hHeld => ?_)
                                          clear hK K
                                          refine norm_ (a' := ?_) ?_ ?_
                                          rotate_left
                                          · show Act.put _ (some 61) _ = _
                                            simp only [Act.put, List.setIfInBounds_toArray, List.set_cons_zero, List.set_cons_succ, i64_w, i32_w]
                                            rfl
                                          refine pure_ (i := 10) (N := some 62) (v := ?_) (a' := ?_) #[true, true, true, true, true, true, true, true, true, true, true, false, false, false, false, false, false, false, false] rfl rfl (any_of HT_.out (by kernel_rfl)) (fun _ _ _ h => h) (Or.inl ⟨by rfl, ?_⟩) ?_ ?_
                                          rotate_left
                                          · intro w'
                                            go_simp
                                            with_reducible rfl
                                          rotate_left
                                          · simp only [Act.put, List.setIfInBounds_toArray, List.set_cons_zero, List.set_cons_succ, i64_w, i32_w]
                                            rfl
                                          refine pure_ (i := 11) (N := some 63) (v := ?_) (a' := ?_) #[true, true, true, true, true, true, true, true, true, true, true, true, false, false, false, false, false, false, false] rfl rfl (any_of HT_.out (by kernel_rfl)) (fun _ _ _ h => h) (Or.inl ⟨by rfl, ?_⟩) ?_ ?_
                                          rotate_left
                                          · intro w'
                                            go_simp
                                            with_reducible rfl
                                          rotate_left
                                          · simp only [Act.put, List.setIfInBounds_toArray, List.set_cons_zero, List.set_cons_succ, i64_w, i32_w]
                                            rfl
                                          refine pure_ (i := 12) (N := some 64) (v := ?_) (a' := ?_) #[true, true, true, true, true, true, true, true, true, true, true, true, true, false, false, false, false, false, false] rfl rfl (any_of HT_.out (by kernel_rfl)) (fun _ _ _ h => h) (Or.inl ⟨by rfl, ?_⟩) ?_ ?_
                                          rotate_left
                                          · intro w'
                                            go_simp
                                            with_reducible rfl
                                          rotate_left
                                          · simp only [Act.put, List.setIfInBounds_toArray, List.set_cons_zero, List.set_cons_succ, i64_w, i32_w]
                                            rfl
                                          refine pure_ (i := 14) (N := some 66) (v := ?_) (a' := ?_) #[true, true, true, true, true, true, true, true, true, true, true, true, true, false, true, false, false, false, false] rfl rfl (any_of HT_.out (by kernel_rfl)) (fun _ _ _ h => h) (Or.inl ⟨by rfl, ?_⟩) ?_ ?_
                                          rotate_left
                                          · intro w'
                                            go_simp
                                            with_reducible rfl
                                          rotate_left
                                          · simp only [Act.put, List.setIfInBounds_toArray, List.set_cons_zero, List.set_cons_succ, i64_w, i32_w]
                                            rfl
                                          refine take_ (i := 13) (N := some 65) (v := ?_) (a' := ?_) #[true, true, true, true, true, true, true, true, true, true, true, true, true, true, true, false, false, false, false] rfl rfl (take_ofW HT_.out HW_.out (by kernel_rfl)) (fun _ _ _ h => h) (Or.inl ⟨by rfl, ?_⟩) hHeld ?_ ?_
                                          rotate_left
                                          · rintro w' ⟨s0, s1, s2, s3, s4, s5⟩
                                            go_simp
                                            with_reducible rfl
                                          rotate_left
                                          · simp only [Act.put, List.setIfInBounds_toArray, List.set_cons_zero, List.set_cons_succ, i64_w, i32_w]
                                            rfl
                                          refine take_ (i := 15) (N := some 67) (v := ?_) (a' := ?_) #[true, true, true, true, true, true, true, true, true, true, true, true, true, true, true, true, false, false, false] rfl rfl (take_ofW HT_.out HW_.out (by kernel_rfl)) (fun _ _ _ h => h) (Or.inl ⟨by rfl, ?_⟩) hHeld ?_ ?_
                                          rotate_left
                                          · rintro w' ⟨s0, s1, s2, s3, s4, s5⟩
                                            go_simp
                                            with_reducible rfl
                                          rotate_left
                                          · simp only [Act.put, List.setIfInBounds_toArray, List.set_cons_zero, List.set_cons_succ, i64_w, i32_w]
                                            rfl
                                          refine pure_ (i := 16) (N := some 68) (v := ?_) (a' := ?_) #[true, true, true, true, true, true, true, true, true, true, true, true, true, true, true, true, true, false, false] rfl rfl (any_of HT_.out (by kernel_rfl)) (fun _ _ _ h => h) (Or.inl ⟨by rfl, ?_⟩) ?_ ?_
                                          rotate_left
                                          · intro w'
                                            go_simp
                                            with_reducible rfl
                                          rotate_left
                                          · simp only [Act.put, List.setIfInBounds_toArray, List.set_cons_zero, List.set_cons_succ, i64_w, i32_w]
                                            rfl
                                          refine pure_ (i := 17) (N := some 69) (v := ?_) (a' := ?_) #[true, true, true, true, true, true, true, true, true, true, true, true, true, true, true, true, true, true, false] rfl rfl (any_of HT_.out (by kernel_rfl)) (fun _ _ _ h => h) (Or.inl ⟨by rfl, ?_⟩) ?_ ?_
                                          rotate_left
                                          · intro w'
                                            go_simp
                                            with_reducible rfl
                                          rotate_left
                                          · simp only [Act.put, List.setIfInBounds_toArray, List.set_cons_zero, List.set_cons_succ, i64_w, i32_w]
                                            rfl
                                          refine pure_ (i := 18) (N := some 70) (v := ?_) (a' := ?_) #[true, true, true, true, true, true, true, true, true, true, true, true, true, true, true, true, true, true, true] rfl rfl (any_of HT_.out (by kernel_rfl)) (fun _ _ _ h => h) (Or.inl ⟨by rfl, ?_⟩) ?_ ?_
                                          rotate_left
                                          · intro w'
                                            go_simp
                                            with_reducible rfl
                                          rotate_left
                                          · simp only [Act.put, List.setIfInBounds_toArray, List.set_cons_zero, List.set_cons_succ, i64_w, i32_w]
                                            rfl
                                          refine done_ (done_of HT_.out (by kernel_rfl)) ?_
                                          have p130 : 0 ≤ (x6_3 : Int) := DT
                                          have q130 : x6_3 < (x3_3.length : Int) := DT
                                          obtain ⟨ad130, e130, hx130_0⟩ := Kd.at_int (Kd.R_reads' HO_3.out).2.2 x6_3 p130 q130
                                          obtain rfl : ad116 = ad130 := (by injection e130)
                                          replace p130 := eq_true p130
                                          replace q130 := eq_true q130
                                          have p131 : 0 ≤ ((ji13) : Int) := DT
                                          have q131 : (ji13) < (x3_3.length : Int) := DT
                                          obtain ⟨ad131, e131, hx131_0⟩ := Kd.at_int (Kd.R_reads' HO_3.out).2.2 (ji13) p131 q131
                                          obtain rfl : ad116 = ad131 := (by injection e131)
                                          replace p131 := eq_true p131
                                          replace q131 := eq_true q131
                                          have p44 : 0 ≤ (x6_3 : Int) := DT
                                          have q44 : (x6_3 : Int) < ((x3_3.length : Int) : Int) := DT
                                          obtain ⟨go44, co44, eo44, gb44, gl44, cl44, HG44⟩ := Kd.R_form HO_3.out (by omega)
                                          (first | cases eo44 | (injection eo44 with ea_ en_ ec_; (first | subst ea_ | (injection ea_ with ea_; subst ea_)); subst ec_; clear en_))
                                          have GB44 := Aside0.mk gb44
                                          have GG44 := Aside0.mk HG44
                                          clear gb44 gl44 HG44
                                          (first | simp only [add_plain] at hx116_0 | skip)
                                          (first | simp only [add_plain] at hx119_0 | skip)
                                          (first | simp only [add_plain] at hx130_0 | skip)
                                          (first | simp only [add_plain] at hx131_0 | skip)
                                          obtain ⟨hx44_0, hf44_0⟩ := Kd.R_celln 0 HO_3.out (x6_3 : Int) p44 q44
                                          replace p44 := eq_true p44
                                          replace q44 := eq_true q44
                                          obtain ⟨hy57_, hz57_⟩ := Kd.R_celln 0 HO_3.out (x6_3 : Int) DT DT
                                          have HP57 := Kd.R_putg HO_3.out (x6_3 : Int) (rd x3_3 (ji13))
                                          try go_wp2_with (first | ((with_reducible refine gate_store (t := 3) (p := 82) rfl ?_); refine store_event (t := 3) (p := 82) (v := ?vo_w58) (w1 := (w56.setCell ⟨go44, (x6_3 : Int).toNat, none⟩ (.int .i64 (rd x3_3 (ji13))))) ?hg ?ho ?hn ?hr ?_; (case ho => rfl); (case hg => rfl); (case hn => rfl); (case hr => first | (go_simp; done) | (go_simp; rfl)); intro w58 hw; have hg : w56.grownBy w58 (some go44) := (by rw [hw]; exact HP57.2); have hp_ : Kd.R (Kd.int .i64) 3 w58 w.heap.size (fun _ => True) (.slice (some ⟨go44, 0, none⟩) x3_3.length co11) y132 := (by rw [hw, Ny132.out]; exact HP57.1); clear HP57; have n0_ := Aside0.mk (hp_); have n1_ := Aside0.mk (blk_grown (g := gb118) (o := .cells #[.int .i64 ((rd_T41 l0 (rd x3_3 (ji13))).f0), .bool ((rd_T41 l0 (rd x3_3 (ji13))).f1), .slice A117_2 ((rd_T41 l0 (rd x3_3 (ji13))).f2).length c117_2] 41 (0, 0)) (by (with_reducible repeat (first | refine blk_drewN ?_ _ | refine blk_drew ?_ | refine blk_alloc ?_ _)); exact BK118.out) hg (Kd.R_ne HO_3.out BK118.out (by decide))); have n2_ := Aside0.mk (blk_grown (g := gb121) (o := .cells #[.int .i64 ((rd_T41 l0 (rd x3_3 x6_3)).f0), .bool ((rd_T41 l0 (rd x3_3 x6_3)).f1), .slice A120_2 ((rd_T41 l0 (rd x3_3 x6_3)).f2).length c120_2] 41 (0, 0)) (by (with_reducible repeat (first | refine blk_drewN ?_ _ | refine blk_drew ?_ | refine blk_alloc ?_ _)); exact BK121.out) hg (Kd.R_ne HO_3.out BK121.out (by decide))); have n3_ := Aside0.mk ((by rw [hw]; exact below_set (HB.out) GB44.out : Below w.heap.size w w58)); clear HO_3; clear BK118; clear BK121; clear HB; have HO_3 := n0_; have BK118 := n1_; have BK121 := n2_; have HB := n3_; clear n0_ n1_ n2_ n3_; clear hg hw hp_; have p45 : 0 ≤ ((ji13) : Int) := DT; have q45 : ((ji13) : Int) < ((x3_3.length : Int) : Int) := DT; obtain ⟨hx45_0, hf45_0⟩ := Kd.R_celln 0 HO_3.out ((ji13) : Int) p45 q45; replace p45 := eq_true p45; replace q45 := eq_true q45; obtain ⟨hy59_, hz59_⟩ := Kd.R_celln 0 HO_3.out ((ji13) : Int) DT DT; have HP59 := Kd.R_putg HO_3.out ((ji13) : Int) (rd x3_3 x6_3)) | ((with_reducible refine gate_store (t := 3) (p := 87) rfl ?_); refine store_event (t := 3) (p := 87) (v := ?vo_w60) (w1 := (w58.setCell ⟨go44, ((ji13) : Int).toNat, none⟩ (.int .i64 (rd x3_3 x6_3)))) ?hg ?ho ?hn ?hr ?_; (case ho => rfl); (case hg => rfl); (case hn => rfl); (case hr => first | (go_simp; done) | (go_simp; rfl)); intro w60 hw; have hg : w58.grownBy w60 (some go44) := (by rw [hw]; exact HP59.2); have hp_ : Kd.R (Kd.int .i64) 3 w60 w.heap.size (fun _ => True) (.slice (some ⟨go44, 0, none⟩) x3_3.length co11) y133 := (by rw [hw, Ny133.out]; exact HP59.1); clear HP59; have n0_ := Aside0.mk (hp_); have n1_ := Aside0.mk (blk_grown (g := gb118) (o := .cells #[.int .i64 ((rd_T41 l0 (rd x3_3 (ji13))).f0), .bool ((rd_T41 l0 (rd x3_3 (ji13))).f1), .slice A117_2 ((rd_T41 l0 (rd x3_3 (ji13))).f2).length c117_2] 41 (0, 0)) (by (with_reducible repeat (first | refine blk_drewN ?_ _ | refine blk_drew ?_ | refine blk_alloc ?_ _)); exact BK118.out) hg (Kd.R_ne HO_3.out BK118.out (by decide))); have n2_ := Aside0.mk (blk_grown (g := gb121) (o := .cells #[.int .i64 ((rd_T41 l0 (rd x3_3 x6_3)).f0), .bool ((rd_T41 l0 (rd x3_3 x6_3)).f1), .slice A120_2 ((rd_T41 l0 (rd x3_3 x6_3)).f2).length c120_2] 41 (0, 0)) (by (with_reducible repeat (first | refine blk_drewN ?_ _ | refine blk_drew ?_ | refine blk_alloc ?_ _)); exact BK121.out) hg (Kd.R_ne HO_3.out BK121.out (by decide))); have n3_ := Aside0.mk ((by rw [hw]; exact below_set (HB.out) GB44.out : Below w.heap.size w w60)); clear HO_3; clear BK118; clear BK121; clear HB; have HO_3 := n0_; have BK118 := n1_; have BK121 := n2_; have HB := n3_; clear n0_ n1_ n2_ n3_; clear hg hw hp_))
                                          (try simp only [← hl3_3])
                                          go_roundg k3
                                          case measure => have := HK1.out; have := HK2.out; have := HK3.out; omega
                                          case rel => exact ⟨(y133), (ji13), (by first | rfl | (simp; done) | (simp only [← hji13] <;> (first | rfl | simp)) | (simp [*]; done)), H', ⟨by have := HK1.out; have := HK2.out; have := HK3.out; omega⟩, ⟨by (try simp only [hl3_3]); (with_reducible repeat (first | apply Kd.R_alloc | apply Kd.R_drewN | apply Kd.R_drew)); exact HO_3.out⟩, ⟨(BB2 HB.out GE118.out GE121.out)⟩⟩
                                        · rw [if_neg c43] at H
                                          have c43b0 : decide (((rd_T41 l0 (rd x3_3 x6_3)).f0) < ((rd_T41 l0 (rd x3_3 (ji13))).f0)) = false := decide_eq_false c43
                                          clear c43
                                          have H' := Aside0.mk H
                                          clear H
                                          have p116 : 0 ≤ ((ji13) : Int) := DT
                                          have q116 : (ji13) < (x3_3.length : Int) := DT
                                          obtain ⟨ad116, e116, hx116_0⟩ := Kd.at_int (Kd.R_reads' HO_3.out).2.2 (ji13) p116 q116
                                          cases e116
                                          replace p116 := eq_true p116
                                          replace q116 := eq_true q116
                                          have p117 : 0 ≤ ((rd x3_3 (ji13)) : Int) := DT
                                          have q117 : (rd x3_3 (ji13)) < (l0.length : Int) := DT
                                          obtain ⟨ad117, A117_2, c117_2, e117, hx117_0, hx117_1, hx117_2, hl117_2, hi117_2⟩ := at_T41 HR0.out (rd x3_3 (ji13)) p117 q117
                                          cases e117
                                          replace hx117_0 := (HB.out.cell (World.block_lt_of_cell? w _ hx117_0)).trans hx117_0
                                          replace hx117_1 := (HB.out.cell (World.block_lt_of_cell? w _ hx117_1)).trans hx117_1
                                          replace hx117_2 := (HB.out.cell (World.block_lt_of_cell? w _ hx117_2)).trans hx117_2
                                          have HR117_2 := Aside0.mk hi117_2
                                          have HC117_2 := Aside0.mk hl117_2
                                          clear hi117_2 hl117_2
                                          replace p117 := eq_true p117
                                          replace q117 := eq_true q117
                                          try go_wp2_with (first | ((with_reducible refine gate_dst (N := 7) rfl ?_); refine BX 7 #[.int .i64 0, .bool false, .slice none 0 0] 41 ?_; intro gb118 hg w61 hbox hb; have BK118 := Aside0.mk (hbox); have GW118 : Aside0 (w.heap.size ≤ gb118) := WG hg (BB HB.out); have GE118 := GW118; replace HO_3 := Aside0.mk (Kd.R_below (RR HO_3.out) hb); replace HB := Aside0.mk (below_step (BB HB.out) hb); clear hb hbox hg; have hcz62 := blk_cell BK118.out; have hfz62 := blk_frozen BK118.out; have p119 : 0 ≤ (x6_3 : Int) := DT; have q119 : x6_3 < (x3_3.length : Int) := DT; obtain ⟨ad119, e119, hx119_0⟩ := Kd.at_int (Kd.R_reads' HO_3.out).2.2 x6_3 p119 q119; obtain rfl : ad116 = ad119 := (by injection e119); have hn119_0 : ad116.block ≠ gb118 := Kd.own_blk (Kd.R_ne HO_3.out BK118.out (by decide)); have hn119_1 : ad116.block ≠ gb118 := Kd.own_blk (Kd.R_ne HO_3.out BK118.out (by decide)); have hn119_2 : ad116.block ≠ gb118 := Kd.own_blk (Kd.R_ne HO_3.out BK118.out (by decide)); replace hx119_0 := (cell_far (p := ⟨gb118, 0, none⟩) (by first | (rw [add_block]; exact hn119_0) | (show (Addr.add _ _).block ≠ _; rw [add_block]; exact hn119_0) | exact hn119_0) (.int .i64 ((rd_T41 l0 (rd x3_3 (ji13))).f0))).trans hx119_0; replace hx119_0 := (cell_far (p := ⟨gb118, 1, none⟩) (by first | (rw [add_block]; exact hn119_1) | (show (Addr.add _ _).block ≠ _; rw [add_block]; exact hn119_1) | exact hn119_1) (.bool ((rd_T41 l0 (rd x3_3 (ji13))).f1))).trans hx119_0; replace hx119_0 := (cell_far (p := ⟨gb118, 2, none⟩) (by first | (rw [add_block]; exact hn119_2) | (show (Addr.add _ _).block ≠ _; rw [add_block]; exact hn119_2) | exact hn119_2) (.slice A117_2 ((rd_T41 l0 (rd x3_3 (ji13))).f2).length c117_2)).trans hx119_0; clear hn119_0; clear hn119_1; clear hn119_2; replace p119 := eq_true p119; replace q119 := eq_true q119; have p120 : 0 ≤ ((rd x3_3 x6_3) : Int) := DT; have q120 : (rd x3_3 x6_3) < (l0.length : Int) := DT; obtain ⟨ad120, A120_2, c120_2, e120, hx120_0, hx120_1, hx120_2, hl120_2, hi120_2⟩ := at_T41 HR0.out (rd x3_3 x6_3) p120 q120; obtain rfl : ad117 = ad120 := (by injection e120); have hn120_0 : ad117.block ≠ gb118 := Nat.ne_of_lt (Nat.lt_of_lt_of_le (by have := World.block_lt_of_cell? _ _ hx120_0; first | rwa [add_block] at this | exact this) GW118.out); have hn120_1 : ad117.block ≠ gb118 := Nat.ne_of_lt (Nat.lt_of_lt_of_le (by have := World.block_lt_of_cell? _ _ hx120_0; first | rwa [add_block] at this | exact this) GW118.out); have hn120_2 : ad117.block ≠ gb118 := Nat.ne_of_lt (Nat.lt_of_lt_of_le (by have := World.block_lt_of_cell? _ _ hx120_0; first | rwa [add_block] at this | exact this) GW118.out); replace hx120_0 := (HB.out.cell (World.block_lt_of_cell? w _ hx120_0)).trans hx120_0; replace hx120_1 := (HB.out.cell (World.block_lt_of_cell? w _ hx120_1)).trans hx120_1; replace hx120_2 := (HB.out.cell (World.block_lt_of_cell? w _ hx120_2)).trans hx120_2; have HR120_2 := Aside0.mk hi120_2; have HC120_2 := Aside0.mk hl120_2; clear hi120_2 hl120_2; replace hx120_0 := (cell_far (p := ⟨gb118, 0, none⟩) (by first | (rw [add_block]; exact hn120_0) | (show (Addr.add _ _).block ≠ _; rw [add_block]; exact hn120_0) | exact hn120_0) (.int .i64 ((rd_T41 l0 (rd x3_3 (ji13))).f0))).trans hx120_0; replace hx120_1 := (cell_far (p := ⟨gb118, 0, none⟩) (by first | (rw [add_block]; exact hn120_0) | (show (Addr.add _ _).block ≠ _; rw [add_block]; exact hn120_0) | exact hn120_0) (.int .i64 ((rd_T41 l0 (rd x3_3 (ji13))).f0))).trans hx120_1; replace hx120_2 := (cell_far (p := ⟨gb118, 0, none⟩) (by first | (rw [add_block]; exact hn120_0) | (show (Addr.add _ _).block ≠ _; rw [add_block]; exact hn120_0) | exact hn120_0) (.int .i64 ((rd_T41 l0 (rd x3_3 (ji13))).f0))).trans hx120_2; replace hx120_0 := (cell_far (p := ⟨gb118, 1, none⟩) (by first | (rw [add_block]; exact hn120_1) | (show (Addr.add _ _).block ≠ _; rw [add_block]; exact hn120_1) | exact hn120_1) (.bool ((rd_T41 l0 (rd x3_3 (ji13))).f1))).trans hx120_0; replace hx120_1 := (cell_far (p := ⟨gb118, 1, none⟩) (by first | (rw [add_block]; exact hn120_1) | (show (Addr.add _ _).block ≠ _; rw [add_block]; exact hn120_1) | exact hn120_1) (.bool ((rd_T41 l0 (rd x3_3 (ji13))).f1))).trans hx120_1; replace hx120_2 := (cell_far (p := ⟨gb118, 1, none⟩) (by first | (rw [add_block]; exact hn120_1) | (show (Addr.add _ _).block ≠ _; rw [add_block]; exact hn120_1) | exact hn120_1) (.bool ((rd_T41 l0 (rd x3_3 (ji13))).f1))).trans hx120_2; replace hx120_0 := (cell_far (p := ⟨gb118, 2, none⟩) (by first | (rw [add_block]; exact hn120_2) | (show (Addr.add _ _).block ≠ _; rw [add_block]; exact hn120_2) | exact hn120_2) (.slice A117_2 ((rd_T41 l0 (rd x3_3 (ji13))).f2).length c117_2)).trans hx120_0; replace hx120_1 := (cell_far (p := ⟨gb118, 2, none⟩) (by first | (rw [add_block]; exact hn120_2) | (show (Addr.add _ _).block ≠ _; rw [add_block]; exact hn120_2) | exact hn120_2) (.slice A117_2 ((rd_T41 l0 (rd x3_3 (ji13))).f2).length c117_2)).trans hx120_1; replace hx120_2 := (cell_far (p := ⟨gb118, 2, none⟩) (by first | (rw [add_block]; exact hn120_2) | (show (Addr.add _ _).block ≠ _; rw [add_block]; exact hn120_2) | exact hn120_2) (.slice A117_2 ((rd_T41 l0 (rd x3_3 (ji13))).f2).length c117_2)).trans hx120_2; clear hn120_0; clear hn120_1; clear hn120_2; replace p120 := eq_true p120; replace q120 := eq_true q120) | ((with_reducible refine gate_dst (N := 8) rfl ?_); refine BX 8 #[.int .i64 0, .bool false, .slice none 0 0] 41 ?_; intro gb121 hg w63 hbox hb; have n0_ := Aside0.mk (Kd.R_below (by (with_reducible repeat (first | apply Kd.R_alloc | apply Kd.R_drewN | apply Kd.R_drew)); exact (Kd.R_mono (Kd.R_far (p := ⟨gb118, 2, none⟩) (Kd.R_far (p := ⟨gb118, 1, none⟩) (Kd.R_far (p := ⟨gb118, 0, none⟩) (Kd.R_types HO_3.out BK118.out (by decide)) (fun _ hk => hk.2) (.int .i64 ((rd_T41 l0 (rd x3_3 (ji13))).f0))) (fun _ hk => hk.2) (.bool ((rd_T41 l0 (rd x3_3 (ji13))).f1))) (fun _ hk => hk.2) (.slice A117_2 ((rd_T41 l0 (rd x3_3 (ji13))).f2).length c117_2)) (fun _ h_ => h_.1))) hb); have n1_ := Aside0.mk (blk_below (g := gb118) (o := .cells #[.int .i64 ((rd_T41 l0 (rd x3_3 (ji13))).f0), .bool ((rd_T41 l0 (rd x3_3 (ji13))).f1), .slice A117_2 ((rd_T41 l0 (rd x3_3 (ji13))).f2).length c117_2] 41 (0, 0)) (by (with_reducible repeat (first | refine blk_drewN ?_ _ | refine blk_drew ?_ | refine blk_alloc ?_ _)); refine blk_put (cs := #[.int .i64 ((rd_T41 l0 (rd x3_3 (ji13))).f0), .bool ((rd_T41 l0 (rd x3_3 (ji13))).f1), .slice none 0 0]) ?_ 2 _ rfl; (with_reducible repeat (first | refine blk_drewN ?_ _ | refine blk_drew ?_ | refine blk_alloc ?_ _)); refine blk_put (cs := #[.int .i64 ((rd_T41 l0 (rd x3_3 (ji13))).f0), .bool false, .slice none 0 0]) ?_ 1 _ rfl; (with_reducible repeat (first | refine blk_drewN ?_ _ | refine blk_drew ?_ | refine blk_alloc ?_ _)); refine blk_put (cs := #[.int .i64 0, .bool false, .slice none 0 0]) ?_ 0 _ rfl; (with_reducible repeat (first | refine blk_drewN ?_ _ | refine blk_drew ?_ | refine blk_alloc ?_ _)); exact BK118.out) hb); have n2_ := Aside0.mk (below_step (BB1 HB.out GE118.out) hb); have n3_ := Aside0.mk (hbox); have n4_ : Aside0 (w.heap.size ≤ gb121) := WG hg (BB1 HB.out GE118.out); have n5_ := n4_; have n6_ := Aside0.mk ((by rw [hg]; exact Nat.ne_of_lt (blk_lt (g := gb118) (o := .cells #[.int .i64 ((rd_T41 l0 (rd x3_3 (ji13))).f0), .bool ((rd_T41 l0 (rd x3_3 (ji13))).f1), .slice A117_2 ((rd_T41 l0 (rd x3_3 (ji13))).f2).length c117_2] 41 (0, 0)) (by (with_reducible repeat (first | refine blk_drewN ?_ _ | refine blk_drew ?_ | refine blk_alloc ?_ _)); refine blk_put (cs := #[.int .i64 ((rd_T41 l0 (rd x3_3 (ji13))).f0), .bool ((rd_T41 l0 (rd x3_3 (ji13))).f1), .slice none 0 0]) ?_ 2 _ rfl; (with_reducible repeat (first | refine blk_drewN ?_ _ | refine blk_drew ?_ | refine blk_alloc ?_ _)); refine blk_put (cs := #[.int .i64 ((rd_T41 l0 (rd x3_3 (ji13))).f0), .bool false, .slice none 0 0]) ?_ 1 _ rfl; (with_reducible repeat (first | refine blk_drewN ?_ _ | refine blk_drew ?_ | refine blk_alloc ?_ _)); refine blk_put (cs := #[.int .i64 0, .bool false, .slice none 0 0]) ?_ 0 _ rfl; (with_reducible repeat (first | refine blk_drewN ?_ _ | refine blk_drew ?_ | refine blk_alloc ?_ _)); exact BK118.out)) : gb118 ≠ gb121)); have n7_ := Aside0.mk ((by rw [hg]; exact Nat.ne_of_gt (blk_lt (g := gb118) (o := .cells #[.int .i64 ((rd_T41 l0 (rd x3_3 (ji13))).f0), .bool ((rd_T41 l0 (rd x3_3 (ji13))).f1), .slice A117_2 ((rd_T41 l0 (rd x3_3 (ji13))).f2).length c117_2] 41 (0, 0)) (by (with_reducible repeat (first | refine blk_drewN ?_ _ | refine blk_drew ?_ | refine blk_alloc ?_ _)); refine blk_put (cs := #[.int .i64 ((rd_T41 l0 (rd x3_3 (ji13))).f0), .bool ((rd_T41 l0 (rd x3_3 (ji13))).f1), .slice none 0 0]) ?_ 2 _ rfl; (with_reducible repeat (first | refine blk_drewN ?_ _ | refine blk_drew ?_ | refine blk_alloc ?_ _)); refine blk_put (cs := #[.int .i64 ((rd_T41 l0 (rd x3_3 (ji13))).f0), .bool false, .slice none 0 0]) ?_ 1 _ rfl; (with_reducible repeat (first | refine blk_drewN ?_ _ | refine blk_drew ?_ | refine blk_alloc ?_ _)); refine blk_put (cs := #[.int .i64 0, .bool false, .slice none 0 0]) ?_ 0 _ rfl; (with_reducible repeat (first | refine blk_drewN ?_ _ | refine blk_drew ?_ | refine blk_alloc ?_ _)); exact BK118.out)) : gb121 ≠ gb118)); clear HO_3; clear BK118; clear HB; have HO_3 := n0_; have BK118 := n1_; have HB := n2_; have BK121 := n3_; have GW121 := n4_; have GE121 := n5_; have NB118_121 := n6_; have NB121_118 := n7_; clear n0_ n1_ n2_ n3_ n4_ n5_ n6_ n7_; clear hb hbox hg; have hnb64 := NB121_118.out; have hnc64 := NB118_121.out; have hcz65 := blk_cell BK121.out; have hfz65 := blk_frozen BK121.out))
                                          have n0_ : Aside0 (Kd.R (Kd.int .i64) 3 (((w63.setCell ⟨gb121, 0, none⟩ (.int .i64 ((rd_T41 l0 (rd x3_3 x6_3)).f0))).setCell ⟨gb121, 1, none⟩ (.bool ((rd_T41 l0 (rd x3_3 x6_3)).f1))).setCell ⟨gb121, 2, none⟩ (.slice A120_2 ((rd_T41 l0 (rd x3_3 x6_3)).f2).length c120_2)) w.heap.size (fun _ => True) (.slice (some ad116) x3_3.length co11) x3_3) := ⟨by (with_reducible repeat (first | apply Kd.R_alloc | apply Kd.R_drewN | apply Kd.R_drew)); exact Kd.R_mono (Kd.R_far (p := ⟨gb121, 2, none⟩) (Kd.R_far (p := ⟨gb121, 1, none⟩) (Kd.R_far (p := ⟨gb121, 0, none⟩) (Kd.R_types HO_3.out BK121.out (by decide)) (fun _ hk => hk.2) (.int .i64 ((rd_T41 l0 (rd x3_3 x6_3)).f0))) (fun _ hk => hk.2) (.bool ((rd_T41 l0 (rd x3_3 x6_3)).f1))) (fun _ hk => hk.2) (.slice A120_2 ((rd_T41 l0 (rd x3_3 x6_3)).f2).length c120_2)) (fun _ hk => trivial)⟩
                                          have n1_ : Aside0 ((((w63.setCell ⟨gb121, 0, none⟩ (.int .i64 ((rd_T41 l0 (rd x3_3 x6_3)).f0))).setCell ⟨gb121, 1, none⟩ (.bool ((rd_T41 l0 (rd x3_3 x6_3)).f1))).setCell ⟨gb121, 2, none⟩ (.slice A120_2 ((rd_T41 l0 (rd x3_3 x6_3)).f2).length c120_2)).heap[gb118]? = some (.cells #[.int .i64 ((rd_T41 l0 (rd x3_3 (ji13))).f0), .bool ((rd_T41 l0 (rd x3_3 (ji13))).f1), .slice A117_2 ((rd_T41 l0 (rd x3_3 (ji13))).f2).length c117_2] 41 (0, 0))) := ⟨by (with_reducible repeat (first | refine blk_drewN ?_ _ | refine blk_drew ?_ | refine blk_alloc ?_ _)); refine blk_far ?_ NB118_121.out _; (with_reducible repeat (first | refine blk_drewN ?_ _ | refine blk_drew ?_ | refine blk_alloc ?_ _)); refine blk_far ?_ NB118_121.out _; (with_reducible repeat (first | refine blk_drewN ?_ _ | refine blk_drew ?_ | refine blk_alloc ?_ _)); refine blk_far ?_ NB118_121.out _; (with_reducible repeat (first | refine blk_drewN ?_ _ | refine blk_drew ?_ | refine blk_alloc ?_ _)); exact BK118.out⟩
                                          have n2_ : Aside0 ((((w63.setCell ⟨gb121, 0, none⟩ (.int .i64 ((rd_T41 l0 (rd x3_3 x6_3)).f0))).setCell ⟨gb121, 1, none⟩ (.bool ((rd_T41 l0 (rd x3_3 x6_3)).f1))).setCell ⟨gb121, 2, none⟩ (.slice A120_2 ((rd_T41 l0 (rd x3_3 x6_3)).f2).length c120_2)).heap[gb121]? = some (.cells #[.int .i64 ((rd_T41 l0 (rd x3_3 x6_3)).f0), .bool ((rd_T41 l0 (rd x3_3 x6_3)).f1), .slice A120_2 ((rd_T41 l0 (rd x3_3 x6_3)).f2).length c120_2] 41 (0, 0))) := ⟨by (with_reducible repeat (first | refine blk_drewN ?_ _ | refine blk_drew ?_ | refine blk_alloc ?_ _)); refine blk_put (cs := #[.int .i64 ((rd_T41 l0 (rd x3_3 x6_3)).f0), .bool ((rd_T41 l0 (rd x3_3 x6_3)).f1), .slice none 0 0]) ?_ 2 _ rfl; (with_reducible repeat (first | refine blk_drewN ?_ _ | refine blk_drew ?_ | refine blk_alloc ?_ _)); refine blk_put (cs := #[.int .i64 ((rd_T41 l0 (rd x3_3 x6_3)).f0), .bool false, .slice none 0 0]) ?_ 1 _ rfl; (with_reducible repeat (first | refine blk_drewN ?_ _ | refine blk_drew ?_ | refine blk_alloc ?_ _)); refine blk_put (cs := #[.int .i64 0, .bool false, .slice none 0 0]) ?_ 0 _ rfl; (with_reducible repeat (first | refine blk_drewN ?_ _ | refine blk_drew ?_ | refine blk_alloc ?_ _)); exact BK121.out⟩
                                          have n3_ : Aside0 (Below w.heap.size w (((w63.setCell ⟨gb121, 0, none⟩ (.int .i64 ((rd_T41 l0 (rd x3_3 x6_3)).f0))).setCell ⟨gb121, 1, none⟩ (.bool ((rd_T41 l0 (rd x3_3 x6_3)).f1))).setCell ⟨gb121, 2, none⟩ (.slice A120_2 ((rd_T41 l0 (rd x3_3 x6_3)).f2).length c120_2))) := ⟨(BB2 HB.out GE118.out GE121.out)⟩
                                          (try clear HO_3)
                                          (try clear BK118)
                                          (try clear BK121)
                                          (try clear HB)
                                          generalize (((w63.setCell ⟨gb121, 0, none⟩ (.int .i64 ((rd_T41 l0 (rd x3_3 x6_3)).f0))).setCell ⟨gb121, 1, none⟩ (.bool ((rd_T41 l0 (rd x3_3 x6_3)).f1))).setCell ⟨gb121, 2, none⟩ (.slice A120_2 ((rd_T41 l0 (rd x3_3 x6_3)).f2).length c120_2)) = w66 at n0_ n1_ n2_ n3_ ⊢
                                          have HO_3 := n0_
                                          have BK118 := n1_
                                          have BK121 := n2_
                                          have HB := n3_
                                          clear n0_ n1_ n2_ n3_
                                          have n0_ := Aside0.mk (Kd.R_drew HO_3.out)
                                          have n1_ := Aside0.mk (blk_drew BK118.out)
                                          have n2_ := Aside0.mk (blk_drew BK121.out)
                                          have n3_ := Aside0.mk (below_drew1 HB.out)
                                          clear HO_3
                                          clear BK118
                                          clear BK121
                                          clear HB
                                          have HO_3 := n0_
                                          have BK118 := n1_
                                          have BK121 := n2_
                                          have HB := n3_
                                          clear n0_ n1_ n2_ n3_
                                          refine start_ (n := 19) (S := fun w' => w'.cell? ⟨gb118, 0, none⟩ = some (.int .i64 ((rd_T41 l0 (rd x3_3 (ji13))).f0)) ∧ w'.cell? ⟨gb118, 1, none⟩ = some (.bool ((rd_T41 l0 (rd x3_3 (ji13))).f1)) ∧ w'.cell? ⟨gb118, 2, none⟩ = some (.slice A117_2 ((rd_T41 l0 (rd x3_3 (ji13))).f2).length c117_2) ∧ w'.cell? ⟨gb121, 0, none⟩ = some (.int .i64 ((rd_T41 l0 (rd x3_3 x6_3)).f0)) ∧ w'.cell? ⟨gb121, 1, none⟩ = some (.bool ((rd_T41 l0 (rd x3_3 x6_3)).f1)) ∧ w'.cell? ⟨gb121, 2, none⟩ = some (.slice A120_2 ((rd_T41 l0 (rd x3_3 x6_3)).f2).length c120_2)) (ds := []) #[false, false, false, false, false, false, false, false, false, false, false, false, false, false, false, false, false, false, false] (by kernel_rfl) rfl rfl ⟨(blk_cell BK118.out 0).trans rfl, (blk_cell BK118.out 1).trans rfl, (blk_cell BK118.out 2).trans rfl, (blk_cell BK121.out 0).trans rfl, (blk_cell BK121.out 1).trans rfl, (blk_cell BK121.out 2).trans rfl⟩ (fun hHeld => ?_); refine with_tabW spec_l15Order.tab15 spec_l15Order.bits15 (fun HT_ HW_ => ?_)
                                          generalize w66.drew = w67 at HO_3 BK118 BK121 HB hHeld ⊢
                                          refine take_ (i := 0) (N := some 52) (v := ?_) (a' := ?_) #[true, false, false, false, false, false, false, false, false, false, false, false, false, false, false, false, false, false, false] rfl rfl (take_ofW HT_.out HW_.out (by kernel_rfl)) (fun _ _ _ h => h) (Or.inl ⟨by rfl, ?_⟩) hHeld ?_ ?_
                                          rotate_left
                                          · rintro w' ⟨s0, s1, s2, s3, s4, s5⟩
                                            go_simp
                                            with_reducible rfl
                                          rotate_left
                                          · simp only [Act.put, List.setIfInBounds_toArray, List.set_cons_zero, List.set_cons_succ, i64_w, i32_w]
                                            rfl
                                          refine take_ (i := 2) (N := some 54) (v := ?_) (a' := ?_) #[true, false, true, false, false, false, false, false, false, false, false, false, false, false, false, false, false, false, false] rfl rfl (take_ofW HT_.out HW_.out (by kernel_rfl)) (fun _ _ _ h => h) (Or.inl ⟨by rfl, ?_⟩) hHeld ?_ ?_
                                          rotate_left
                                          · rintro w' ⟨s0, s1, s2, s3, s4, s5⟩
                                            go_simp
                                            with_reducible rfl
                                          rotate_left
                                          · simp only [Act.put, List.setIfInBounds_toArray, List.set_cons_zero, List.set_cons_succ, i64_w, i32_w]
                                            rfl
                                          refine one_ (i := 1) (N := some 53) #[true, true, true, false, false, false, false, false, false, false, false, false, false, false, false, false, false, false, false] rfl rfl (one_of HT_.out (by kernel_rfl)) (by decide) (fun K hK => ?_)
                                          refine goes_ Try.func21 (by kernel_rfl) rfl #[.agg #[.int .i64 ((rd_T41 l0 (rd x3_3 (ji13))).f0), .bool ((rd_T41 l0 (rd x3_3 (ji13))).f1), .slice A117_2 ((rd_T41 l0 (rd x3_3 (ji13))).f2).length c117_2]] (by rfl) rfl rfl (by (try simp only [List.map_toArray, List.map_cons, List.map_nil]); first | done | (simp only [hji13]; rfl) | rfl | (simp only [List.length_drop, List.length_take]; rfl)) ?_
                                          with_reducible refine (spec_LoadOf.calls ((rd_T41 l0 (rd x3_3 (ji13))).f0) ((rd_T41 l0 (rd x3_3 (ji13))).f1) _ _ ((rd_T41 l0 (rd x3_3 (ji13))).f2) t122 _ ?side1 ?side2 A22.out).mono ?_
                                          (case side1 => exact CC (Kd.C_below HR117_2.out HB.out))
                                          (case side2 => exact HC117_2.out)
                                          rintro e w68 ⟨rfl, hb⟩
                                          refine ⟨_, rfl, ?_⟩
                                          have n0_ := Aside0.mk (Kd.R_below (RR HO_3.out) hb)
                                          have n1_ := Aside0.mk (KB BK118.out hb)
                                          have n2_ := Aside0.mk (KB BK121.out hb)
                                          have n3_ := Aside0.mk (below_step (BB2 HB.out GE118.out GE121.out) hb)
                                          clear HO_3
                                          clear BK118
                                          clear BK121
                                          clear HB
                                          have HO_3 := n0_
                                          have BK118 := n1_
                                          have BK121 := n2_
                                          have HB := n3_
                                          clear n0_ n1_ n2_ n3_
                                          (try clear hb)
                                          (try clear hb2)
                                          (try clear hk)
                                          (try clear hi)
                                          refine hK.out _ _ ⟨(blk_cell BK118.out 0).trans rfl, (blk_cell BK118.out 1).trans rfl, (blk_cell BK118.out 2).trans rfl, (blk_cell BK121.out 0).trans rfl, (blk_cell BK121.out 1).trans rfl, (blk_cell BK121.out 2).trans rfl⟩ (fun hHeld => ?_)
                                          clear hK K
                                          refine norm_ (a' := ?_) ?_ ?_
                                          rotate_left
                                          · show Act.put _ (some 53) _ = _
                                            simp only [Act.put, List.setIfInBounds_toArray, List.set_cons_zero, List.set_cons_succ, i64_w, i32_w]
                                            rfl
                                          refine one_ (i := 3) (N := some 55) #[true, true, true, true, false, false, false, false, false, false, false, false, false, false, false, false, false, false, false] rfl rfl (one_of HT_.out (by kernel_rfl)) (by decide) (fun K hK => ?_)
                                          refine goes_ Try.func21 (by kernel_rfl) rfl #[.agg #[.int .i64 ((rd_T41 l0 (rd x3_3 x6_3)).f0), .bool ((rd_T41 l0 (rd x3_3 x6_3)).f1), .slice A120_2 ((rd_T41 l0 (rd x3_3 x6_3)).f2).length c120_2]] (by rfl) rfl rfl (by (try simp only [List.map_toArray, List.map_cons, List.map_nil]); first | done | rfl | (simp only [List.length_drop, List.length_take]; rfl)) ?_
                                          with_reducible refine (spec_LoadOf.calls ((rd_T41 l0 (rd x3_3 x6_3)).f0) ((rd_T41 l0 (rd x3_3 x6_3)).f1) _ _ ((rd_T41 l0 (rd x3_3 x6_3)).f2) t123 _ ?side1 ?side2 A23.out).mono ?_
                                          (case side1 => exact CC (Kd.C_below HR120_2.out HB.out))
                                          (case side2 => exact HC120_2.out)
                                          rintro e w69 ⟨rfl, hb⟩
                                          refine ⟨_, rfl, ?_⟩
                                          have n0_ := Aside0.mk (Kd.R_below (RR HO_3.out) hb)
                                          have n1_ := Aside0.mk (KB BK118.out hb)
                                          have n2_ := Aside0.mk (KB BK121.out hb)
                                          have n3_ := Aside0.mk (below_step (BB2 HB.out GE118.out GE121.out) hb)
                                          clear HO_3
                                          clear BK118
                                          clear BK121
                                          clear HB
                                          have HO_3 := n0_
                                          have BK118 := n1_
                                          have BK121 := n2_
                                          have HB := n3_
                                          clear n0_ n1_ n2_ n3_
                                          (try clear hb)
                                          (try clear hb2)
                                          (try clear hk)
                                          (try clear hi)
                                          refine hK.out _ _ ⟨(blk_cell BK118.out 0).trans rfl, (blk_cell BK118.out 1).trans rfl, (blk_cell BK118.out 2).trans rfl, (blk_cell BK121.out 0).trans rfl, (blk_cell BK121.out 1).trans rfl, (blk_cell BK121.out 2).trans rfl⟩ (fun hHeld => ?_)
                                          clear hK K
                                          refine norm_ (a' := ?_) ?_ ?_
                                          rotate_left
                                          · show Act.put _ (some 55) _ = _
                                            simp only [Act.put, List.setIfInBounds_toArray, List.set_cons_zero, List.set_cons_succ, i64_w, i32_w]
                                            rfl
                                          refine pure_ (i := 4) (N := some 56) (v := ?_) (a' := ?_) #[true, true, true, true, true, false, false, false, false, false, false, false, false, false, false, false, false, false, false] rfl rfl (any_of HT_.out (by kernel_rfl)) (fun _ _ _ h => h) (Or.inl ⟨by rfl, ?_⟩) ?_ ?_
                                          rotate_left
                                          · intro w'
                                            go_simp
                                            with_reducible rfl
                                          rotate_left
                                          · simp only [Act.put, List.setIfInBounds_toArray, List.set_cons_zero, List.set_cons_succ, i64_w, i32_w]
                                            rfl
                                          refine pure_ (i := 5) (N := some 57) (v := ?_) (a' := ?_) #[true, true, true, true, true, true, false, false, false, false, false, false, false, false, false, false, false, false, false] rfl rfl (any_of HT_.out (by kernel_rfl)) (fun _ _ _ h => h) (Or.inl ⟨by rfl, ?_⟩) ?_ ?_
                                          rotate_left
                                          · intro w'
                                            go_simp
                                            with_reducible rfl
                                          rotate_left
                                          · simp only [Act.put, List.setIfInBounds_toArray, List.set_cons_zero, List.set_cons_succ, i64_w, i32_w]
                                            rfl
                                          refine take_ (i := 6) (N := some 58) (v := ?_) (a' := ?_) #[true, true, true, true, true, true, true, false, false, false, false, false, false, false, false, false, false, false, false] rfl rfl (take_ofW HT_.out HW_.out (by kernel_rfl)) (fun _ _ _ h => h) (Or.inl ⟨by rfl, ?_⟩) hHeld ?_ ?_
                                          rotate_left
                                          · rintro w' ⟨s0, s1, s2, s3, s4, s5⟩
                                            go_simp
                                            with_reducible rfl
                                          rotate_left
                                          · simp only [Act.put, List.setIfInBounds_toArray, List.set_cons_zero, List.set_cons_succ, i64_w, i32_w]
                                            rfl
                                          refine take_ (i := 8) (N := some 60) (v := ?_) (a' := ?_) #[true, true, true, true, true, true, true, false, true, false, false, false, false, false, false, false, false, false, false] rfl rfl (take_ofW HT_.out HW_.out (by kernel_rfl)) (fun _ _ _ h => h) (Or.inl ⟨by rfl, ?_⟩) hHeld ?_ ?_
                                          rotate_left
                                          · rintro w' ⟨s0, s1, s2, s3, s4, s5⟩
                                            go_simp
                                            with_reducible rfl
                                          rotate_left
                                          · simp only [Act.put, List.setIfInBounds_toArray, List.set_cons_zero, List.set_cons_succ, i64_w, i32_w]
                                            rfl
                                          refine one_ (i := 7) (N := some 59) #[true, true, true, true, true, true, true, true, true, false, false, false, false, false, false, false, false, false, false] rfl rfl (one_of HT_.out (by kernel_rfl)) (by decide) (fun K hK => ?_)
                                          refine goes_ Try.func21 (by kernel_rfl) rfl #[.agg #[.int .i64 ((rd_T41 l0 (rd x3_3 (ji13))).f0), .bool ((rd_T41 l0 (rd x3_3 (ji13))).f1), .slice A117_2 ((rd_T41 l0 (rd x3_3 (ji13))).f2).length c117_2]] (by rfl) rfl rfl (by (try simp only [List.map_toArray, List.map_cons, List.map_nil]); first | done | (simp only [hji13]; rfl) | rfl | (simp only [List.length_drop, List.length_take]; rfl)) ?_
                                          with_reducible refine (spec_LoadOf.calls ((rd_T41 l0 (rd x3_3 (ji13))).f0) ((rd_T41 l0 (rd x3_3 (ji13))).f1) _ _ ((rd_T41 l0 (rd x3_3 (ji13))).f2) t128 _ ?side1 ?side2 A40.out).mono ?_
                                          (case side1 => exact CC (Kd.C_below HR117_2.out HB.out))
                                          (case side2 => exact HC117_2.out)
                                          rintro e w70 ⟨rfl, hb⟩
                                          refine ⟨_, rfl, ?_⟩
                                          have n0_ := Aside0.mk (Kd.R_below (RR HO_3.out) hb)
                                          have n1_ := Aside0.mk (KB BK118.out hb)
                                          have n2_ := Aside0.mk (KB BK121.out hb)
                                          have n3_ := Aside0.mk (below_step (BB2 HB.out GE118.out GE121.out) hb)
                                          clear HO_3
                                          clear BK118
                                          clear BK121
                                          clear HB
                                          have HO_3 := n0_
                                          have BK118 := n1_
                                          have BK121 := n2_
                                          have HB := n3_
                                          clear n0_ n1_ n2_ n3_
                                          (try clear hb)
                                          (try clear hb2)
                                          (try clear hk)
                                          (try clear hi)
                                          refine hK.out _ _ ⟨(blk_cell BK118.out 0).trans rfl, (blk_cell BK118.out 1).trans rfl, (blk_cell BK118.out 2).trans rfl, (blk_cell BK121.out 0).trans rfl, (blk_cell BK121.out 1).trans rfl, (blk_cell BK121.out 2).trans rfl⟩ (fun hHeld => ?_)
                                          clear hK K
                                          refine norm_ (a' := ?_) ?_ ?_
                                          rotate_left
                                          · show Act.put _ (some 59) _ = _
                                            simp only [Act.put, List.setIfInBounds_toArray, List.set_cons_zero, List.set_cons_succ, i64_w, i32_w]
                                            rfl
                                          refine one_ (i := 9) (N := some 61) #[true, true, true, true, true, true, true, true, true, true, false, false, false, false, false, false, false, false, false] rfl rfl (one_of HT_.out (by kernel_rfl)) (by decide) (fun K hK => ?_)
                                          refine goes_ Try.func21 (by kernel_rfl) rfl #[.agg #[.int .i64 ((rd_T41 l0 (rd x3_3 x6_3)).f0), .bool ((rd_T41 l0 (rd x3_3 x6_3)).f1), .slice A120_2 ((rd_T41 l0 (rd x3_3 x6_3)).f2).length c120_2]] (by rfl) rfl rfl (by (try simp only [List.map_toArray, List.map_cons, List.map_nil]); first | done | rfl | (simp only [List.length_drop, List.length_take]; rfl)) ?_
                                          with_reducible refine (spec_LoadOf.calls ((rd_T41 l0 (rd x3_3 x6_3)).f0) ((rd_T41 l0 (rd x3_3 x6_3)).f1) _ _ ((rd_T41 l0 (rd x3_3 x6_3)).f2) t129 _ ?side1 ?side2 A41.out).mono ?_
                                          (case side1 => exact CC (Kd.C_below HR120_2.out HB.out))
                                          (case side2 => exact HC120_2.out)
                                          rintro e w71 ⟨rfl, hb⟩
                                          refine ⟨_, rfl, ?_⟩
                                          have n0_ := Aside0.mk (Kd.R_below (RR HO_3.out) hb)
                                          have n1_ := Aside0.mk (KB BK118.out hb)
                                          have n2_ := Aside0.mk (KB BK121.out hb)
                                          have n3_ := Aside0.mk (below_step (BB2 HB.out GE118.out GE121.out) hb)
                                          clear HO_3
                                          clear BK118
                                          clear BK121
                                          clear HB
                                          have HO_3 := n0_
                                          have BK118 := n1_
                                          have BK121 := n2_
                                          have HB := n3_
                                          clear n0_ n1_ n2_ n3_
                                          (try clear hb)
                                          (try clear hb2)
                                          (try clear hk)
                                          (try clear hi)
                                          refine hK.out _ _ ⟨(blk_cell BK118.out 0).trans rfl, (blk_cell BK118.out 1).trans rfl, (blk_cell BK118.out 2).trans rfl, (blk_cell BK121.out 0).trans rfl, (blk_cell BK121.out 1).trans rfl, (blk_cell BK121.out 2).trans rfl⟩ (fun hHeld => ?_)
                                          clear hK K
                                          refine norm_ (a' := ?_) ?_ ?_
                                          rotate_left
                                          · show Act.put _ (some 61) _ = _
                                            simp only [Act.put, List.setIfInBounds_toArray, List.set_cons_zero, List.set_cons_succ, i64_w, i32_w]
                                            rfl
                                          refine pure_ (i := 10) (N := some 62) (v := ?_) (a' := ?_) #[true, true, true, true, true, true, true, true, true, true, true, false, false, false, false, false, false, false, false] rfl rfl (any_of HT_.out (by kernel_rfl)) (fun _ _ _ h => h) (Or.inl ⟨by rfl, ?_⟩) ?_ ?_
                                          rotate_left
                                          · intro w'
                                            go_simp
                                            with_reducible rfl
                                          rotate_left
                                          · simp only [Act.put, List.setIfInBounds_toArray, List.set_cons_zero, List.set_cons_succ, i64_w, i32_w]
                                            rfl
                                          refine pure_ (i := 11) (N := some 63) (v := ?_) (a' := ?_) #[true, true, true, true, true, true, true, true, true, true, true, true, false, false, false, false, false, false, false] rfl rfl (any_of HT_.out (by kernel_rfl)) (fun _ _ _ h => h) (Or.inl ⟨by rfl, ?_⟩) ?_ ?_
                                          rotate_left
                                          · intro w'
                                            go_simp
                                            with_reducible rfl
                                          rotate_left
                                          · simp only [Act.put, List.setIfInBounds_toArray, List.set_cons_zero, List.set_cons_succ, i64_w, i32_w]
                                            rfl
                                          refine pure_ (i := 12) (N := some 64) (v := ?_) (a' := ?_) #[true, true, true, true, true, true, true, true, true, true, true, true, true, false, false, false, false, false, false] rfl rfl (any_of HT_.out (by kernel_rfl)) (fun _ _ _ h => h) (Or.inl ⟨by rfl, ?_⟩) ?_ ?_
                                          rotate_left
                                          · intro w'
                                            go_simp
                                            with_reducible rfl
                                          rotate_left
                                          · simp only [Act.put, List.setIfInBounds_toArray, List.set_cons_zero, List.set_cons_succ, i64_w, i32_w]
                                            rfl
                                          refine pure_ (i := 14) (N := some 66) (v := ?_) (a' := ?_) #[true, true, true, true, true, true, true, true, true, true, true, true, true, false, true, false, false, false, false] rfl rfl (any_of HT_.out (by kernel_rfl)) (fun _ _ _ h => h) (Or.inl ⟨by rfl, ?_⟩) ?_ ?_
                                          rotate_left
                                          · intro w'
                                            go_simp
                                            with_reducible rfl
                                          rotate_left
                                          · simp only [Act.put, List.setIfInBounds_toArray, List.set_cons_zero, List.set_cons_succ, i64_w, i32_w]
                                            rfl
                                          refine take_ (i := 13) (N := some 65) (v := ?_) (a' := ?_) #[true, true, true, true, true, true, true, true, true, true, true, true, true, true, true, false, false, false, false] rfl rfl (take_ofW HT_.out HW_.out (by kernel_rfl)) (fun _ _ _ h => h) (Or.inl ⟨by rfl, ?_⟩) hHeld ?_ ?_
                                          rotate_left
                                          · rintro w' ⟨s0, s1, s2, s3, s4, s5⟩
                                            go_simp
                                            with_reducible rfl
                                          rotate_left
                                          · simp only [Act.put, List.setIfInBounds_toArray, List.set_cons_zero, List.set_cons_succ, i64_w, i32_w]
                                            rfl
                                          refine take_ (i := 15) (N := some 67) (v := ?_) (a' := ?_) #[true, true, true, true, true, true, true, true, true, true, true, true, true, true, true, true, false, false, false] rfl rfl (take_ofW HT_.out HW_.out (by kernel_rfl)) (fun _ _ _ h => h) (Or.inl ⟨by rfl, ?_⟩) hHeld ?_ ?_
                                          rotate_left
                                          · rintro w' ⟨s0, s1, s2, s3, s4, s5⟩
                                            go_simp
                                            with_reducible rfl
                                          rotate_left
                                          · simp only [Act.put, List.setIfInBounds_toArray, List.set_cons_zero, List.set_cons_succ, i64_w, i32_w]
                                            rfl
                                          refine pure_ (i := 16) (N := some 68) (v := ?_) (a' := ?_) #[true, true, true, true, true, true, true, true, true, true, true, true, true, true, true, true, true, false, false] rfl rfl (any_of HT_.out (by kernel_rfl)) (fun _ _ _ h => h) (Or.inl ⟨by rfl, ?_⟩) ?_ ?_
                                          rotate_left
                                          · intro w'
                                            go_simp
                                            with_reducible rfl
                                          rotate_left
                                          · simp only [Act.put, List.setIfInBounds_toArray, List.set_cons_zero, List.set_cons_succ, i64_w, i32_w]
                                            rfl
                                          refine pure_ (i := 17) (N := some 69) (v := ?_) (a' := ?_) #[true, true, true, true, true, true, true, true, true, true, true, true, true, true, true, true, true, true, false] rfl rfl (any_of HT_.out (by kernel_rfl)) (fun _ _ _ h => h) (Or.inl ⟨by rfl, ?_⟩) ?_ ?_
                                          rotate_left
                                          · intro w'
                                            go_simp
                                            with_reducible rfl
                                          rotate_left
                                          · simp only [Act.put, List.setIfInBounds_toArray, List.set_cons_zero, List.set_cons_succ, i64_w, i32_w]
                                            rfl
                                          refine pure_ (i := 18) (N := some 70) (v := ?_) (a' := ?_) #[true, true, true, true, true, true, true, true, true, true, true, true, true, true, true, true, true, true, true] rfl rfl (any_of HT_.out (by kernel_rfl)) (fun _ _ _ h => h) (Or.inl ⟨by rfl, ?_⟩) ?_ ?_
                                          rotate_left
                                          · intro w'
                                            go_simp
                                            with_reducible rfl
                                          rotate_left
                                          · simp only [Act.put, List.setIfInBounds_toArray, List.set_cons_zero, List.set_cons_succ, i64_w, i32_w]
                                            rfl
                                          refine done_ (done_of HT_.out (by kernel_rfl)) ?_
                                          try go_wp2
                                          (try simp only [← hl3_3])
                                          go_roundg k3
                                          case measure => have := HK1.out; have := HK2.out; have := HK3.out; omega
                                          case rel => exact ⟨(x3_3), (ji13), (by first | rfl | (simp; done) | (simp only [← hji13] <;> (first | rfl | simp)) | (simp [*]; done)), H', ⟨by have := HK1.out; have := HK2.out; have := HK3.out; omega⟩, ⟨by (try simp only [hl3_3]); (with_reducible repeat (first | apply Kd.R_alloc | apply Kd.R_drewN | apply Kd.R_drew)); exact HO_3.out⟩, ⟨(BB2 HB.out GE118.out GE121.out)⟩⟩
                                      · rw [if_neg c42] at H
                                        have c42b0 : (t128 == t129) = false := beq_eq_false_iff_ne.mpr c42
                                        have c42b1 : (t128 != t129) = true := bne_iff_ne.mpr c42
                                        have H' := Aside0.mk H
                                        clear H
                                        have p116 : 0 ≤ ((ji13) : Int) := DT
                                        have q116 : (ji13) < (x3_3.length : Int) := DT
                                        obtain ⟨ad116, e116, hx116_0⟩ := Kd.at_int (Kd.R_reads' HO_3.out).2.2 (ji13) p116 q116
                                        cases e116
                                        replace p116 := eq_true p116
                                        replace q116 := eq_true q116
                                        have p117 : 0 ≤ ((rd x3_3 (ji13)) : Int) := DT
                                        have q117 : (rd x3_3 (ji13)) < (l0.length : Int) := DT
                                        obtain ⟨ad117, A117_2, c117_2, e117, hx117_0, hx117_1, hx117_2, hl117_2, hi117_2⟩ := at_T41 HR0.out (rd x3_3 (ji13)) p117 q117
                                        cases e117
                                        replace hx117_0 := (HB.out.cell (World.block_lt_of_cell? w _ hx117_0)).trans hx117_0
                                        replace hx117_1 := (HB.out.cell (World.block_lt_of_cell? w _ hx117_1)).trans hx117_1
                                        replace hx117_2 := (HB.out.cell (World.block_lt_of_cell? w _ hx117_2)).trans hx117_2
                                        have HR117_2 := Aside0.mk hi117_2
                                        have HC117_2 := Aside0.mk hl117_2
                                        clear hi117_2 hl117_2
                                        replace p117 := eq_true p117
                                        replace q117 := eq_true q117
                                        try go_wp2_with (first | ((with_reducible refine gate_dst (N := 7) rfl ?_); refine BX 7 #[.int .i64 0, .bool false, .slice none 0 0] 41 ?_; intro gb118 hg w72 hbox hb; have BK118 := Aside0.mk (hbox); have GW118 : Aside0 (w.heap.size ≤ gb118) := WG hg (BB HB.out); have GE118 := GW118; replace HO_3 := Aside0.mk (Kd.R_below (RR HO_3.out) hb); replace HB := Aside0.mk (below_step (BB HB.out) hb); clear hb hbox hg; have hcz73 := blk_cell BK118.out; have hfz73 := blk_frozen BK118.out; have p119 : 0 ≤ (x6_3 : Int) := DT; have q119 : x6_3 < (x3_3.length : Int) := DT; obtain ⟨ad119, e119, hx119_0⟩ := Kd.at_int (Kd.R_reads' HO_3.out).2.2 x6_3 p119 q119; obtain rfl : ad116 = ad119 := (by injection e119); have hn119_0 : ad116.block ≠ gb118 := Kd.own_blk (Kd.R_ne HO_3.out BK118.out (by decide)); have hn119_1 : ad116.block ≠ gb118 := Kd.own_blk (Kd.R_ne HO_3.out BK118.out (by decide)); have hn119_2 : ad116.block ≠ gb118 := Kd.own_blk (Kd.R_ne HO_3.out BK118.out (by decide)); replace hx119_0 := (cell_far (p := ⟨gb118, 0, none⟩) (by first | (rw [add_block]; exact hn119_0) | (show (Addr.add _ _).block ≠ _; rw [add_block]; exact hn119_0) | exact hn119_0) (.int .i64 ((rd_T41 l0 (rd x3_3 (ji13))).f0))).trans hx119_0; replace hx119_0 := (cell_far (p := ⟨gb118, 1, none⟩) (by first | (rw [add_block]; exact hn119_1) | (show (Addr.add _ _).block ≠ _; rw [add_block]; exact hn119_1) | exact hn119_1) (.bool ((rd_T41 l0 (rd x3_3 (ji13))).f1))).trans hx119_0; replace hx119_0 := (cell_far (p := ⟨gb118, 2, none⟩) (by first | (rw [add_block]; exact hn119_2) | (show (Addr.add _ _).block ≠ _; rw [add_block]; exact hn119_2) | exact hn119_2) (.slice A117_2 ((rd_T41 l0 (rd x3_3 (ji13))).f2).length c117_2)).trans hx119_0; clear hn119_0; clear hn119_1; clear hn119_2; replace p119 := eq_true p119; replace q119 := eq_true q119; have p120 : 0 ≤ ((rd x3_3 x6_3) : Int) := DT; have q120 : (rd x3_3 x6_3) < (l0.length : Int) := DT; obtain ⟨ad120, A120_2, c120_2, e120, hx120_0, hx120_1, hx120_2, hl120_2, hi120_2⟩ := at_T41 HR0.out (rd x3_3 x6_3) p120 q120; obtain rfl : ad117 = ad120 := (by injection e120); have hn120_0 : ad117.block ≠ gb118 := Nat.ne_of_lt (Nat.lt_of_lt_of_le (by have := World.block_lt_of_cell? _ _ hx120_0; first | rwa [add_block] at this | exact this) GW118.out); have hn120_1 : ad117.block ≠ gb118 := Nat.ne_of_lt (Nat.lt_of_lt_of_le (by have := World.block_lt_of_cell? _ _ hx120_0; first | rwa [add_block] at this | exact this) GW118.out); have hn120_2 : ad117.block ≠ gb118 := Nat.ne_of_lt (Nat.lt_of_lt_of_le (by have := World.block_lt_of_cell? _ _ hx120_0; first | rwa [add_block] at this | exact this) GW118.out); replace hx120_0 := (HB.out.cell (World.block_lt_of_cell? w _ hx120_0)).trans hx120_0; replace hx120_1 := (HB.out.cell (World.block_lt_of_cell? w _ hx120_1)).trans hx120_1; replace hx120_2 := (HB.out.cell (World.block_lt_of_cell? w _ hx120_2)).trans hx120_2; have HR120_2 := Aside0.mk hi120_2; have HC120_2 := Aside0.mk hl120_2; clear hi120_2 hl120_2; replace hx120_0 := (cell_far (p := ⟨gb118, 0, none⟩) (by first | (rw [add_block]; exact hn120_0) | (show (Addr.add _ _).block ≠ _; rw [add_block]; exact hn120_0) | exact hn120_0) (.int .i64 ((rd_T41 l0 (rd x3_3 (ji13))).f0))).trans hx120_0; replace hx120_1 := (cell_far (p := ⟨gb118, 0, none⟩) (by first | (rw [add_block]; exact hn120_0) | (show (Addr.add _ _).block ≠ _; rw [add_block]; exact hn120_0) | exact hn120_0) (.int .i64 ((rd_T41 l0 (rd x3_3 (ji13))).f0))).trans hx120_1; replace hx120_2 := (cell_far (p := ⟨gb118, 0, none⟩) (by first | (rw [add_block]; exact hn120_0) | (show (Addr.add _ _).block ≠ _; rw [add_block]; exact hn120_0) | exact hn120_0) (.int .i64 ((rd_T41 l0 (rd x3_3 (ji13))).f0))).trans hx120_2; replace hx120_0 := (cell_far (p := ⟨gb118, 1, none⟩) (by first | (rw [add_block]; exact hn120_1) | (show (Addr.add _ _).block ≠ _; rw [add_block]; exact hn120_1) | exact hn120_1) (.bool ((rd_T41 l0 (rd x3_3 (ji13))).f1))).trans hx120_0; replace hx120_1 := (cell_far (p := ⟨gb118, 1, none⟩) (by first | (rw [add_block]; exact hn120_1) | (show (Addr.add _ _).block ≠ _; rw [add_block]; exact hn120_1) | exact hn120_1) (.bool ((rd_T41 l0 (rd x3_3 (ji13))).f1))).trans hx120_1; replace hx120_2 := (cell_far (p := ⟨gb118, 1, none⟩) (by first | (rw [add_block]; exact hn120_1) | (show (Addr.add _ _).block ≠ _; rw [add_block]; exact hn120_1) | exact hn120_1) (.bool ((rd_T41 l0 (rd x3_3 (ji13))).f1))).trans hx120_2; replace hx120_0 := (cell_far (p := ⟨gb118, 2, none⟩) (by first | (rw [add_block]; exact hn120_2) | (show (Addr.add _ _).block ≠ _; rw [add_block]; exact hn120_2) | exact hn120_2) (.slice A117_2 ((rd_T41 l0 (rd x3_3 (ji13))).f2).length c117_2)).trans hx120_0; replace hx120_1 := (cell_far (p := ⟨gb118, 2, none⟩) (by first | (rw [add_block]; exact hn120_2) | (show (Addr.add _ _).block ≠ _; rw [add_block]; exact hn120_2) | exact hn120_2) (.slice A117_2 ((rd_T41 l0 (rd x3_3 (ji13))).f2).length c117_2)).trans hx120_1; replace hx120_2 := (cell_far (p := ⟨gb118, 2, none⟩) (by first | (rw [add_block]; exact hn120_2) | (show (Addr.add _ _).block ≠ _; rw [add_block]; exact hn120_2) | exact hn120_2) (.slice A117_2 ((rd_T41 l0 (rd x3_3 (ji13))).f2).length c117_2)).trans hx120_2; clear hn120_0; clear hn120_1; clear hn120_2; replace p120 := eq_true p120; replace q120 := eq_true q120) | ((with_reducible refine gate_dst (N := 8) rfl ?_); refine BX 8 #[.int .i64 0, .bool false, .slice none 0 0] 41 ?_; intro gb121 hg w74 hbox hb; have n0_ := Aside0.mk (Kd.R_below (by (with_reducible repeat (first | apply Kd.R_alloc | apply Kd.R_drewN | apply Kd.R_drew)); exact (Kd.R_mono (Kd.R_far (p := ⟨gb118, 2, none⟩) (Kd.R_far (p := ⟨gb118, 1, none⟩) (Kd.R_far (p := ⟨gb118, 0, none⟩) (Kd.R_types HO_3.out BK118.out (by decide)) (fun _ hk => hk.2) (.int .i64 ((rd_T41 l0 (rd x3_3 (ji13))).f0))) (fun _ hk => hk.2) (.bool ((rd_T41 l0 (rd x3_3 (ji13))).f1))) (fun _ hk => hk.2) (.slice A117_2 ((rd_T41 l0 (rd x3_3 (ji13))).f2).length c117_2)) (fun _ h_ => h_.1))) hb); have n1_ := Aside0.mk (blk_below (g := gb118) (o := .cells #[.int .i64 ((rd_T41 l0 (rd x3_3 (ji13))).f0), .bool ((rd_T41 l0 (rd x3_3 (ji13))).f1), .slice A117_2 ((rd_T41 l0 (rd x3_3 (ji13))).f2).length c117_2] 41 (0, 0)) (by (with_reducible repeat (first | refine blk_drewN ?_ _ | refine blk_drew ?_ | refine blk_alloc ?_ _)); refine blk_put (cs := #[.int .i64 ((rd_T41 l0 (rd x3_3 (ji13))).f0), .bool ((rd_T41 l0 (rd x3_3 (ji13))).f1), .slice none 0 0]) ?_ 2 _ rfl; (with_reducible repeat (first | refine blk_drewN ?_ _ | refine blk_drew ?_ | refine blk_alloc ?_ _)); refine blk_put (cs := #[.int .i64 ((rd_T41 l0 (rd x3_3 (ji13))).f0), .bool false, .slice none 0 0]) ?_ 1 _ rfl; (with_reducible repeat (first | refine blk_drewN ?_ _ | refine blk_drew ?_ | refine blk_alloc ?_ _)); refine blk_put (cs := #[.int .i64 0, .bool false, .slice none 0 0]) ?_ 0 _ rfl; (with_reducible repeat (first | refine blk_drewN ?_ _ | refine blk_drew ?_ | refine blk_alloc ?_ _)); exact BK118.out) hb); have n2_ := Aside0.mk (below_step (BB1 HB.out GE118.out) hb); have n3_ := Aside0.mk (hbox); have n4_ : Aside0 (w.heap.size ≤ gb121) := WG hg (BB1 HB.out GE118.out); have n5_ := n4_; have n6_ := Aside0.mk ((by rw [hg]; exact Nat.ne_of_lt (blk_lt (g := gb118) (o := .cells #[.int .i64 ((rd_T41 l0 (rd x3_3 (ji13))).f0), .bool ((rd_T41 l0 (rd x3_3 (ji13))).f1), .slice A117_2 ((rd_T41 l0 (rd x3_3 (ji13))).f2).length c117_2] 41 (0, 0)) (by (with_reducible repeat (first | refine blk_drewN ?_ _ | refine blk_drew ?_ | refine blk_alloc ?_ _)); refine blk_put (cs := #[.int .i64 ((rd_T41 l0 (rd x3_3 (ji13))).f0), .bool ((rd_T41 l0 (rd x3_3 (ji13))).f1), .slice none 0 0]) ?_ 2 _ rfl; (with_reducible repeat (first | refine blk_drewN ?_ _ | refine blk_drew ?_ | refine blk_alloc ?_ _)); refine blk_put (cs := #[.int .i64 ((rd_T41 l0 (rd x3_3 (ji13))).f0), .bool false, .slice none 0 0]) ?_ 1 _ rfl; (with_reducible repeat (first | refine blk_drewN ?_ _ | refine blk_drew ?_ | refine blk_alloc ?_ _)); refine blk_put (cs := #[.int .i64 0, .bool false, .slice none 0 0]) ?_ 0 _ rfl; (with_reducible repeat (first | refine blk_drewN ?_ _ | refine blk_drew ?_ | refine blk_alloc ?_ _)); exact BK118.out)) : gb118 ≠ gb121)); have n7_ := Aside0.mk ((by rw [hg]; exact Nat.ne_of_gt (blk_lt (g := gb118) (o := .cells #[.int .i64 ((rd_T41 l0 (rd x3_3 (ji13))).f0), .bool ((rd_T41 l0 (rd x3_3 (ji13))).f1), .slice A117_2 ((rd_T41 l0 (rd x3_3 (ji13))).f2).length c117_2] 41 (0, 0)) (by (with_reducible repeat (first | refine blk_drewN ?_ _ | refine blk_drew ?_ | refine blk_alloc ?_ _)); refine blk_put (cs := #[.int .i64 ((rd_T41 l0 (rd x3_3 (ji13))).f0), .bool ((rd_T41 l0 (rd x3_3 (ji13))).f1), .slice none 0 0]) ?_ 2 _ rfl; (with_reducible repeat (first | refine blk_drewN ?_ _ | refine blk_drew ?_ | refine blk_alloc ?_ _)); refine blk_put (cs := #[.int .i64 ((rd_T41 l0 (rd x3_3 (ji13))).f0), .bool false, .slice none 0 0]) ?_ 1 _ rfl; (with_reducible repeat (first | refine blk_drewN ?_ _ | refine blk_drew ?_ | refine blk_alloc ?_ _)); refine blk_put (cs := #[.int .i64 0, .bool false, .slice none 0 0]) ?_ 0 _ rfl; (with_reducible repeat (first | refine blk_drewN ?_ _ | refine blk_drew ?_ | refine blk_alloc ?_ _)); exact BK118.out)) : gb121 ≠ gb118)); clear HO_3; clear BK118; clear HB; have HO_3 := n0_; have BK118 := n1_; have HB := n2_; have BK121 := n3_; have GW121 := n4_; have GE121 := n5_; have NB118_121 := n6_; have NB121_118 := n7_; clear n0_ n1_ n2_ n3_ n4_ n5_ n6_ n7_; clear hb hbox hg; have hnb75 := NB121_118.out; have hnc75 := NB118_121.out; have hcz76 := blk_cell BK121.out; have hfz76 := blk_frozen BK121.out))
                                        have n0_ : Aside0 (Kd.R (Kd.int .i64) 3 (((w74.setCell ⟨gb121, 0, none⟩ (.int .i64 ((rd_T41 l0 (rd x3_3 x6_3)).f0))).setCell ⟨gb121, 1, none⟩ (.bool ((rd_T41 l0 (rd x3_3 x6_3)).f1))).setCell ⟨gb121, 2, none⟩ (.slice A120_2 ((rd_T41 l0 (rd x3_3 x6_3)).f2).length c120_2)) w.heap.size (fun _ => True) (.slice (some ad116) x3_3.length co11) x3_3) := ⟨by (with_reducible repeat (first | apply Kd.R_alloc | apply Kd.R_drewN | apply Kd.R_drew)); exact Kd.R_mono (Kd.R_far (p := ⟨gb121, 2, none⟩) (Kd.R_far (p := ⟨gb121, 1, none⟩) (Kd.R_far (p := ⟨gb121, 0, none⟩) (Kd.R_types HO_3.out BK121.out (by decide)) (fun _ hk => hk.2) (.int .i64 ((rd_T41 l0 (rd x3_3 x6_3)).f0))) (fun _ hk => hk.2) (.bool ((rd_T41 l0 (rd x3_3 x6_3)).f1))) (fun _ hk => hk.2) (.slice A120_2 ((rd_T41 l0 (rd x3_3 x6_3)).f2).length c120_2)) (fun _ hk => trivial)⟩
                                        have n1_ : Aside0 ((((w74.setCell ⟨gb121, 0, none⟩ (.int .i64 ((rd_T41 l0 (rd x3_3 x6_3)).f0))).setCell ⟨gb121, 1, none⟩ (.bool ((rd_T41 l0 (rd x3_3 x6_3)).f1))).setCell ⟨gb121, 2, none⟩ (.slice A120_2 ((rd_T41 l0 (rd x3_3 x6_3)).f2).length c120_2)).heap[gb118]? = some (.cells #[.int .i64 ((rd_T41 l0 (rd x3_3 (ji13))).f0), .bool ((rd_T41 l0 (rd x3_3 (ji13))).f1), .slice A117_2 ((rd_T41 l0 (rd x3_3 (ji13))).f2).length c117_2] 41 (0, 0))) := ⟨by (with_reducible repeat (first | refine blk_drewN ?_ _ | refine blk_drew ?_ | refine blk_alloc ?_ _)); refine blk_far ?_ NB118_121.out _; (with_reducible repeat (first | refine blk_drewN ?_ _ | refine blk_drew ?_ | refine blk_alloc ?_ _)); refine blk_far ?_ NB118_121.out _; (with_reducible repeat (first | refine blk_drewN ?_ _ | refine blk_drew ?_ | refine blk_alloc ?_ _)); refine blk_far ?_ NB118_121.out _; (with_reducible repeat (first | refine blk_drewN ?_ _ | refine blk_drew ?_ | refine blk_alloc ?_ _)); exact BK118.out⟩
                                        have n2_ : Aside0 ((((w74.setCell ⟨gb121, 0, none⟩ (.int .i64 ((rd_T41 l0 (rd x3_3 x6_3)).f0))).setCell ⟨gb121, 1, none⟩ (.bool ((rd_T41 l0 (rd x3_3 x6_3)).f1))).setCell ⟨gb121, 2, none⟩ (.slice A120_2 ((rd_T41 l0 (rd x3_3 x6_3)).f2).length c120_2)).heap[gb121]? = some (.cells #[.int .i64 ((rd_T41 l0 (rd x3_3 x6_3)).f0), .bool ((rd_T41 l0 (rd x3_3 x6_3)).f1), .slice A120_2 ((rd_T41 l0 (rd x3_3 x6_3)).f2).length c120_2] 41 (0, 0))) := ⟨by (with_reducible repeat (first | refine blk_drewN ?_ _ | refine blk_drew ?_ | refine blk_alloc ?_ _)); refine blk_put (cs := #[.int .i64 ((rd_T41 l0 (rd x3_3 x6_3)).f0), .bool ((rd_T41 l0 (rd x3_3 x6_3)).f1), .slice none 0 0]) ?_ 2 _ rfl; (with_reducible repeat (first | refine blk_drewN ?_ _ | refine blk_drew ?_ | refine blk_alloc ?_ _)); refine blk_put (cs := #[.int .i64 ((rd_T41 l0 (rd x3_3 x6_3)).f0), .bool false, .slice none 0 0]) ?_ 1 _ rfl; (with_reducible repeat (first | refine blk_drewN ?_ _ | refine blk_drew ?_ | refine blk_alloc ?_ _)); refine blk_put (cs := #[.int .i64 0, .bool false, .slice none 0 0]) ?_ 0 _ rfl; (with_reducible repeat (first | refine blk_drewN ?_ _ | refine blk_drew ?_ | refine blk_alloc ?_ _)); exact BK121.out⟩
                                        have n3_ : Aside0 (Below w.heap.size w (((w74.setCell ⟨gb121, 0, none⟩ (.int .i64 ((rd_T41 l0 (rd x3_3 x6_3)).f0))).setCell ⟨gb121, 1, none⟩ (.bool ((rd_T41 l0 (rd x3_3 x6_3)).f1))).setCell ⟨gb121, 2, none⟩ (.slice A120_2 ((rd_T41 l0 (rd x3_3 x6_3)).f2).length c120_2))) := ⟨(BB2 HB.out GE118.out GE121.out)⟩
                                        (try clear HO_3)
                                        (try clear BK118)
                                        (try clear BK121)
                                        (try clear HB)
                                        generalize (((w74.setCell ⟨gb121, 0, none⟩ (.int .i64 ((rd_T41 l0 (rd x3_3 x6_3)).f0))).setCell ⟨gb121, 1, none⟩ (.bool ((rd_T41 l0 (rd x3_3 x6_3)).f1))).setCell ⟨gb121, 2, none⟩ (.slice A120_2 ((rd_T41 l0 (rd x3_3 x6_3)).f2).length c120_2)) = w77 at n0_ n1_ n2_ n3_ ⊢
                                        have HO_3 := n0_
                                        have BK118 := n1_
                                        have BK121 := n2_
                                        have HB := n3_
                                        clear n0_ n1_ n2_ n3_
                                        have n0_ := Aside0.mk (Kd.R_drew HO_3.out)
                                        have n1_ := Aside0.mk (blk_drew BK118.out)
                                        have n2_ := Aside0.mk (blk_drew BK121.out)
                                        have n3_ := Aside0.mk (below_drew1 HB.out)
                                        clear HO_3
                                        clear BK118
                                        clear BK121
                                        clear HB
                                        have HO_3 := n0_
                                        have BK118 := n1_
                                        have BK121 := n2_
                                        have HB := n3_
                                        clear n0_ n1_ n2_ n3_
                                        refine start_ (n := 19) (S := fun w' => w'.cell? ⟨gb118, 0, none⟩ = some (.int .i64 ((rd_T41 l0 (rd x3_3 (ji13))).f0)) ∧ w'.cell? ⟨gb118, 1, none⟩ = some (.bool ((rd_T41 l0 (rd x3_3 (ji13))).f1)) ∧ w'.cell? ⟨gb118, 2, none⟩ = some (.slice A117_2 ((rd_T41 l0 (rd x3_3 (ji13))).f2).length c117_2) ∧ w'.cell? ⟨gb121, 0, none⟩ = some (.int .i64 ((rd_T41 l0 (rd x3_3 x6_3)).f0)) ∧ w'.cell? ⟨gb121, 1, none⟩ = some (.bool ((rd_T41 l0 (rd x3_3 x6_3)).f1)) ∧ w'.cell? ⟨gb121, 2, none⟩ = some (.slice A120_2 ((rd_T41 l0 (rd x3_3 x6_3)).f2).length c120_2)) (ds := []) #[false, false, false, false, false, false, false, false, false, false, false, false, false, false, false, false, false, false, false] (by kernel_rfl) rfl rfl ⟨(blk_cell BK118.out 0).trans rfl, (blk_cell BK118.out 1).trans rfl, (blk_cell BK118.out 2).trans rfl, (blk_cell BK121.out 0).trans rfl, (blk_cell BK121.out 1).trans rfl, (blk_cell BK121.out 2).trans rfl⟩ (fun hHeld => ?_); refine with_tabW spec_l15Order.tab15 spec_l15Order.bits15 (fun HT_ HW_ => ?_)
                                        generalize w77.drew = w78 at HO_3 BK118 BK121 HB hHeld ⊢
                                        refine take_ (i := 0) (N := some 52) (v := ?_) (a' := ?_) #[true, false, false, false, false, false, false, false, false, false, false, false, false, false, false, false, false, false, false] rfl rfl (take_ofW HT_.out HW_.out (by kernel_rfl)) (fun _ _ _ h => h) (Or.inl ⟨by rfl, ?_⟩) hHeld ?_ ?_
                                        rotate_left
                                        · rintro w' ⟨s0, s1, s2, s3, s4, s5⟩
                                          go_simp
                                          with_reducible rfl
                                        rotate_left
                                        · simp only [Act.put, List.setIfInBounds_toArray, List.set_cons_zero, List.set_cons_succ, i64_w, i32_w]
                                          rfl
                                        refine take_ (i := 2) (N := some 54) (v := ?_) (a' := ?_) #[true, false, true, false, false, false, false, false, false, false, false, false, false, false, false, false, false, false, false] rfl rfl (take_ofW HT_.out HW_.out (by kernel_rfl)) (fun _ _ _ h => h) (Or.inl ⟨by rfl, ?_⟩) hHeld ?_ ?_
                                        rotate_left
                                        · rintro w' ⟨s0, s1, s2, s3, s4, s5⟩
                                          go_simp
                                          with_reducible rfl
                                        rotate_left
                                        · simp only [Act.put, List.setIfInBounds_toArray, List.set_cons_zero, List.set_cons_succ, i64_w, i32_w]
                                          rfl
                                        refine one_ (i := 1) (N := some 53) #[true, true, true, false, false, false, false, false, false, false, false, false, false, false, false, false, false, false, false] rfl rfl (one_of HT_.out (by kernel_rfl)) (by decide) (fun K hK => ?_)
                                        refine goes_ Try.func21 (by kernel_rfl) rfl #[.agg #[.int .i64 ((rd_T41 l0 (rd x3_3 (ji13))).f0), .bool ((rd_T41 l0 (rd x3_3 (ji13))).f1), .slice A117_2 ((rd_T41 l0 (rd x3_3 (ji13))).f2).length c117_2]] (by rfl) rfl rfl (by (try simp only [List.map_toArray, List.map_cons, List.map_nil]); first | done | (simp only [hji13]; rfl) | rfl | (simp only [List.length_drop, List.length_take]; rfl)) ?_
                                        with_reducible refine (spec_LoadOf.calls ((rd_T41 l0 (rd x3_3 (ji13))).f0) ((rd_T41 l0 (rd x3_3 (ji13))).f1) _ _ ((rd_T41 l0 (rd x3_3 (ji13))).f2) t122 _ ?side1 ?side2 A22.out).mono ?_
                                        (case side1 => exact CC (Kd.C_below HR117_2.out HB.out))
                                        (case side2 => exact HC117_2.out)
                                        rintro e w79 ⟨rfl, hb⟩
                                        refine ⟨_, rfl, ?_⟩
                                        have n0_ := Aside0.mk (Kd.R_below (RR HO_3.out) hb)
                                        have n1_ := Aside0.mk (KB BK118.out hb)
                                        have n2_ := Aside0.mk (KB BK121.out hb)
                                        have n3_ := Aside0.mk (below_step (BB2 HB.out GE118.out GE121.out) hb)
                                        clear HO_3
                                        clear BK118
                                        clear BK121
                                        clear HB
                                        have HO_3 := n0_
                                        have BK118 := n1_
                                        have BK121 := n2_
                                        have HB := n3_
                                        clear n0_ n1_ n2_ n3_
                                        (try clear hb)
                                        (try clear hb2)
                                        (try clear hk)
                                        (try clear hi)
                                        refine hK.out _ _ ⟨(blk_cell BK118.out 0).trans rfl, (blk_cell BK118.out 1).trans rfl, (blk_cell BK118.out 2).trans rfl, (blk_cell BK121.out 0).trans rfl, (blk_cell BK121.out 1).trans rfl, (blk_cell BK121.out 2).trans rfl⟩ (fun hHeld => ?_)
                                        clear hK K
                                        refine norm_ (a' := ?_) ?_ ?_
                                        rotate_left
                                        · show Act.put _ (some 53) _ = _
                                          simp only [Act.put, List.setIfInBounds_toArray, List.set_cons_zero, List.set_cons_succ, i64_w, i32_w]
                                          rfl
                                        refine one_ (i := 3) (N := some 55) #[true, true, true, true, false, false, false, false, false, false, false, false, false, false, false, false, false, false, false] rfl rfl (one_of HT_.out (by kernel_rfl)) (by decide) (fun K hK => ?_)
                                        refine goes_ Try.func21 (by kernel_rfl) rfl #[.agg #[.int .i64 ((rd_T41 l0 (rd x3_3 x6_3)).f0), .bool ((rd_T41 l0 (rd x3_3 x6_3)).f1), .slice A120_2 ((rd_T41 l0 (rd x3_3 x6_3)).f2).length c120_2]] (by rfl) rfl rfl (by (try simp only [List.map_toArray, List.map_cons, List.map_nil]); first | done | rfl | (simp only [List.length_drop, List.length_take]; rfl)) ?_
                                        with_reducible refine (spec_LoadOf.calls ((rd_T41 l0 (rd x3_3 x6_3)).f0) ((rd_T41 l0 (rd x3_3 x6_3)).f1) _ _ ((rd_T41 l0 (rd x3_3 x6_3)).f2) t123 _ ?side1 ?side2 A23.out).mono ?_
                                        (case side1 => exact CC (Kd.C_below HR120_2.out HB.out))
                                        (case side2 => exact HC120_2.out)
                                        rintro e w80 ⟨rfl, hb⟩
                                        refine ⟨_, rfl, ?_⟩
                                        have n0_ := Aside0.mk (Kd.R_below (RR HO_3.out) hb)
                                        have n1_ := Aside0.mk (KB BK118.out hb)
                                        have n2_ := Aside0.mk (KB BK121.out hb)
                                        have n3_ := Aside0.mk (below_step (BB2 HB.out GE118.out GE121.out) hb)
                                        clear HO_3
                                        clear BK118
                                        clear BK121
                                        clear HB
                                        have HO_3 := n0_
                                        have BK118 := n1_
                                        have BK121 := n2_
                                        have HB := n3_
                                        clear n0_ n1_ n2_ n3_
                                        (try clear hb)
                                        (try clear hb2)
                                        (try clear hk)
                                        (try clear hi)
                                        refine hK.out _ _ ⟨(blk_cell BK118.out 0).trans rfl, (blk_cell BK118.out 1).trans rfl, (blk_cell BK118.out 2).trans rfl, (blk_cell BK121.out 0).trans rfl, (blk_cell BK121.out 1).trans rfl, (blk_cell BK121.out 2).trans rfl⟩ (fun hHeld => ?_)
                                        clear hK K
                                        refine norm_ (a' := ?_) ?_ ?_
                                        rotate_left
                                        · show Act.put _ (some 55) _ = _
                                          simp only [Act.put, List.setIfInBounds_toArray, List.set_cons_zero, List.set_cons_succ, i64_w, i32_w]
                                          rfl
                                        refine pure_ (i := 4) (N := some 56) (v := ?_) (a' := ?_) #[true, true, true, true, true, false, false, false, false, false, false, false, false, false, false, false, false, false, false] rfl rfl (any_of HT_.out (by kernel_rfl)) (fun _ _ _ h => h) (Or.inl ⟨by rfl, ?_⟩) ?_ ?_
                                        rotate_left
                                        · intro w'
                                          go_simp
                                          with_reducible rfl
                                        rotate_left
                                        · simp only [Act.put, List.setIfInBounds_toArray, List.set_cons_zero, List.set_cons_succ, i64_w, i32_w]
                                          rfl
                                        refine pure_ (i := 5) (N := some 57) (v := ?_) (a' := ?_) #[true, true, true, true, true, true, false, false, false, false, false, false, false, false, false, false, false, false, false] rfl rfl (any_of HT_.out (by kernel_rfl)) (fun _ _ _ h => h) (Or.inl ⟨by rfl, ?_⟩) ?_ ?_
                                        rotate_left
                                        · intro w'
                                          go_simp
                                          with_reducible rfl
                                        rotate_left
                                        · simp only [Act.put, List.setIfInBounds_toArray, List.set_cons_zero, List.set_cons_succ, i64_w, i32_w]
                                          rfl
                                        refine take_ (i := 6) (N := some 58) (v := ?_) (a' := ?_) #[true, true, true, true, true, true, true, false, false, false, false, false, false, false, false, false, false, false, false] rfl rfl (take_ofW HT_.out HW_.out (by kernel_rfl)) (fun _ _ _ h => h) (Or.inl ⟨by rfl, ?_⟩) hHeld ?_ ?_
                                        rotate_left
                                        · rintro w' ⟨s0, s1, s2, s3, s4, s5⟩
                                          go_simp
                                          with_reducible rfl
                                        rotate_left
                                        · simp only [Act.put, List.setIfInBounds_toArray, List.set_cons_zero, List.set_cons_succ, i64_w, i32_w]
                                          rfl
                                        refine take_ (i := 8) (N := some 60) (v := ?_) (a' := ?_) #[true, true, true, true, true, true, true, false, true, false, false, false, false, false, false, false, false, false, false] rfl rfl (take_ofW HT_.out HW_.out (by kernel_rfl)) (fun _ _ _ h => h) (Or.inl ⟨by rfl, ?_⟩) hHeld ?_ ?_
                                        rotate_left
                                        · rintro w' ⟨s0, s1, s2, s3, s4, s5⟩
                                          go_simp
                                          with_reducible rfl
                                        rotate_left
                                        · simp only [Act.put, List.setIfInBounds_toArray, List.set_cons_zero, List.set_cons_succ, i64_w, i32_w]
                                          rfl
                                        refine one_ (i := 7) (N := some 59) #[true, true, true, true, true, true, true, true, true, false, false, false, false, false, false, false, false, false, false] rfl rfl (one_of HT_.out (by kernel_rfl)) (by decide) (fun K hK => ?_)
                                        refine goes_ Try.func21 (by kernel_rfl) rfl #[.agg #[.int .i64 ((rd_T41 l0 (rd x3_3 (ji13))).f0), .bool ((rd_T41 l0 (rd x3_3 (ji13))).f1), .slice A117_2 ((rd_T41 l0 (rd x3_3 (ji13))).f2).length c117_2]] (by rfl) rfl rfl (by (try simp only [List.map_toArray, List.map_cons, List.map_nil]); first | done | (simp only [hji13]; rfl) | rfl | (simp only [List.length_drop, List.length_take]; rfl)) ?_
                                        with_reducible refine (spec_LoadOf.calls ((rd_T41 l0 (rd x3_3 (ji13))).f0) ((rd_T41 l0 (rd x3_3 (ji13))).f1) _ _ ((rd_T41 l0 (rd x3_3 (ji13))).f2) t128 _ ?side1 ?side2 A40.out).mono ?_
                                        (case side1 => exact CC (Kd.C_below HR117_2.out HB.out))
                                        (case side2 => exact HC117_2.out)
                                        rintro e w81 ⟨rfl, hb⟩
                                        refine ⟨_, rfl, ?_⟩
                                        have n0_ := Aside0.mk (Kd.R_below (RR HO_3.out) hb)
                                        have n1_ := Aside0.mk (KB BK118.out hb)
                                        have n2_ := Aside0.mk (KB BK121.out hb)
                                        have n3_ := Aside0.mk (below_step (BB2 HB.out GE118.out GE121.out) hb)
                                        clear HO_3
                                        clear BK118
                                        clear BK121
                                        clear HB
                                        have HO_3 := n0_
                                        have BK118 := n1_
                                        have BK121 := n2_
                                        have HB := n3_
                                        clear n0_ n1_ n2_ n3_
                                        (try clear hb)
                                        (try clear hb2)
                                        (try clear hk)
                                        (try clear hi)
                                        refine hK.out _ _ ⟨(blk_cell BK118.out 0).trans rfl, (blk_cell BK118.out 1).trans rfl, (blk_cell BK118.out 2).trans rfl, (blk_cell BK121.out 0).trans rfl, (blk_cell BK121.out 1).trans rfl, (blk_cell BK121.out 2).trans rfl⟩ (fun hHeld => ?_)
                                        clear hK K
                                        refine norm_ (a' := ?_) ?_ ?_
                                        rotate_left
                                        · show Act.put _ (some 59) _ = _
                                          simp only [Act.put, List.setIfInBounds_toArray, List.set_cons_zero, List.set_cons_succ, i64_w, i32_w]
                                          rfl
                                        refine one_ (i := 9) (N := some 61) #[true, true, true, true, true, true, true, true, true, true, false, false, false, false, false, false, false, false, false] rfl rfl (one_of HT_.out (by kernel_rfl)) (by decide) (fun K hK => ?_)
                                        refine goes_ Try.func21 (by kernel_rfl) rfl #[.agg #[.int .i64 ((rd_T41 l0 (rd x3_3 x6_3)).f0), .bool ((rd_T41 l0 (rd x3_3 x6_3)).f1), .slice A120_2 ((rd_T41 l0 (rd x3_3 x6_3)).f2).length c120_2]] (by rfl) rfl rfl (by (try simp only [List.map_toArray, List.map_cons, List.map_nil]); first | done | rfl | (simp only [List.length_drop, List.length_take]; rfl)) ?_
                                        with_reducible refine (spec_LoadOf.calls ((rd_T41 l0 (rd x3_3 x6_3)).f0) ((rd_T41 l0 (rd x3_3 x6_3)).f1) _ _ ((rd_T41 l0 (rd x3_3 x6_3)).f2) t129 _ ?side1 ?side2 A41.out).mono ?_
                                        (case side1 => exact CC (Kd.C_below HR120_2.out HB.out))
                                        (case side2 => exact HC120_2.out)
                                        rintro e w82 ⟨rfl, hb⟩
                                        refine ⟨_, rfl, ?_⟩
                                        have n0_ := Aside0.mk (Kd.R_below (RR HO_3.out) hb)
                                        have n1_ := Aside0.mk (KB BK118.out hb)
                                        have n2_ := Aside0.mk (KB BK121.out hb)
                                        have n3_ := Aside0.mk (below_step (BB2 HB.out GE118.out GE121.out) hb)
                                        clear HO_3
                                        clear BK118
                                        clear BK121
                                        clear HB
                                        have HO_3 := n0_
                                        have BK118 := n1_
                                        have BK121 := n2_
                                        have HB := n3_
                                        clear n0_ n1_ n2_ n3_
                                        (try clear hb)
                                        (try clear hb2)
                                        (try clear hk)
                                        (try clear hi)
                                        refine hK.out _ _ ⟨(blk_cell BK118.out 0).trans rfl, (blk_cell BK118.out 1).trans rfl, (blk_cell BK118.out 2).trans rfl, (blk_cell BK121.out 0).trans rfl, (blk_cell BK121.out 1).trans rfl, (blk_cell BK121.out 2).trans rfl⟩ (fun hHeld => ?_)
                                        clear hK K
                                        refine norm_ (a' := ?_) ?_ ?_
                                        rotate_left
                                        · show Act.put _ (some 61) _ = _
                                          simp only [Act.put, List.setIfInBounds_toArray, List.set_cons_zero, List.set_cons_succ, i64_w, i32_w]
                                          rfl
                                        refine pure_ (i := 10) (N := some 62) (v := ?_) (a' := ?_) #[true, true, true, true, true, true, true, true, true, true, true, false, false, false, false, false, false, false, false] rfl rfl (any_of HT_.out (by kernel_rfl)) (fun _ _ _ h => h) (Or.inl ⟨by rfl, ?_⟩) ?_ ?_
                                        rotate_left
                                        · intro w'
                                          go_simp
                                          with_reducible rfl
                                        rotate_left
                                        · simp only [Act.put, List.setIfInBounds_toArray, List.set_cons_zero, List.set_cons_succ, i64_w, i32_w]
                                          rfl
                                        refine pure_ (i := 11) (N := some 63) (v := ?_) (a' := ?_) #[true, true, true, true, true, true, true, true, true, true, true, true, false, false, false, false, false, false, false] rfl rfl (any_of HT_.out (by kernel_rfl)) (fun _ _ _ h => h) (Or.inl ⟨by rfl, ?_⟩) ?_ ?_
                                        rotate_left
                                        · intro w'
                                          go_simp
                                          with_reducible rfl
                                        rotate_left
                                        · simp only [Act.put, List.setIfInBounds_toArray, List.set_cons_zero, List.set_cons_succ, i64_w, i32_w]
                                          rfl
                                        refine pure_ (i := 12) (N := some 64) (v := undef) (a' := ?_) #[true, true, true, true, true, true, true, true, true, true, true, true, true, false, false, false, false, false, false] rfl rfl (any_of HT_.out (by kernel_rfl)) (fun _ _ _ h => h) (Or.inr ⟨by rfl, rfl⟩) ?_ ?_
                                        rotate_left
                                        · simp only [Act.put, List.setIfInBounds_toArray, List.set_cons_zero, List.set_cons_succ, i64_w, i32_w]
                                          rfl
                                        refine pure_ (i := 13) (N := some 65) (v := undef) (a' := ?_) #[true, true, true, true, true, true, true, true, true, true, true, true, true, true, false, false, false, false, false] rfl rfl (any_of HT_.out (by kernel_rfl)) (fun _ _ _ h => h) (Or.inr ⟨by rfl, rfl⟩) ?_ ?_
                                        rotate_left
                                        · simp only [Act.put, List.setIfInBounds_toArray, List.set_cons_zero, List.set_cons_succ, i64_w, i32_w]
                                          rfl
                                        refine pure_ (i := 14) (N := some 66) (v := undef) (a' := ?_) #[true, true, true, true, true, true, true, true, true, true, true, true, true, true, true, false, false, false, false] rfl rfl (any_of HT_.out (by kernel_rfl)) (fun _ _ _ h => h) (Or.inr ⟨by rfl, rfl⟩) ?_ ?_
                                        rotate_left
                                        · simp only [Act.put, List.setIfInBounds_toArray, List.set_cons_zero, List.set_cons_succ, i64_w, i32_w]
                                          rfl
                                        refine pure_ (i := 15) (N := some 67) (v := undef) (a' := ?_) #[true, true, true, true, true, true, true, true, true, true, true, true, true, true, true, true, false, false, false] rfl rfl (any_of HT_.out (by kernel_rfl)) (fun _ _ _ h => h) (Or.inr ⟨by rfl, rfl⟩) ?_ ?_
                                        rotate_left
                                        · simp only [Act.put, List.setIfInBounds_toArray, List.set_cons_zero, List.set_cons_succ, i64_w, i32_w]
                                          rfl
                                        refine pure_ (i := 16) (N := some 68) (v := undef) (a' := ?_) #[true, true, true, true, true, true, true, true, true, true, true, true, true, true, true, true, true, false, false] rfl rfl (any_of HT_.out (by kernel_rfl)) (fun _ _ _ h => h) (Or.inr ⟨by rfl, rfl⟩) ?_ ?_
                                        rotate_left
                                        · simp only [Act.put, List.setIfInBounds_toArray, List.set_cons_zero, List.set_cons_succ, i64_w, i32_w]
                                          rfl
                                        refine pure_ (i := 17) (N := some 69) (v := ?_) (a' := ?_) #[true, true, true, true, true, true, true, true, true, true, true, true, true, true, true, true, true, true, false] rfl rfl (any_of HT_.out (by kernel_rfl)) (fun _ _ _ h => h) (Or.inl ⟨by rfl, ?_⟩) ?_ ?_
                                        rotate_left
                                        · intro w'
                                          go_simp
                                          with_reducible rfl
                                        rotate_left
                                        · simp only [Act.put, List.setIfInBounds_toArray, List.set_cons_zero, List.set_cons_succ, i64_w, i32_w]
                                          rfl
                                        refine pure_ (i := 18) (N := some 70) (v := ?_) (a' := ?_) #[true, true, true, true, true, true, true, true, true, true, true, true, true, true, true, true, true, true, true] rfl rfl (any_of HT_.out (by kernel_rfl)) (fun _ _ _ h => h) (Or.inl ⟨by rfl, ?_⟩) ?_ ?_
                                        rotate_left
                                        · intro w'
                                          go_simp
                                          with_reducible rfl
                                        rotate_left
                                        · simp only [Act.put, List.setIfInBounds_toArray, List.set_cons_zero, List.set_cons_succ, i64_w, i32_w]
                                          rfl
                                        refine done_ (done_of HT_.out (by kernel_rfl)) ?_
                                        try go_wp2
                                        (try simp only [← hl3_3])
                                        go_roundg k3
                                        case measure => have := HK1.out; have := HK2.out; have := HK3.out; omega
                                        case rel => exact ⟨(x3_3), (ji13), (by first | rfl | (simp; done) | (simp only [← hji13] <;> (first | rfl | simp)) | (simp [*]; done)), H', ⟨by have := HK1.out; have := HK2.out; have := HK3.out; omega⟩, ⟨by (try simp only [hl3_3]); (with_reducible repeat (first | apply Kd.R_alloc | apply Kd.R_drewN | apply Kd.R_drew)); exact HO_3.out⟩, ⟨(BB2 HB.out GE118.out GE121.out)⟩⟩
                                  · rw [if_neg c21] at H
                                    exact absurd H (by simp)
                                · rw [if_neg c20] at H
                                  exact absurd H (by simp)
                              · rw [if_neg c19] at H
                                exact absurd H (by simp)
                            · rw [if_neg c18] at H
                              exact absurd H (by simp)
                          · rw [if_neg c17] at H
                            exact absurd H (by simp)
                        · rw [if_neg c16] at H
                          exact absurd H (by simp)
                      · rw [if_neg c15] at H
                        exact absurd H (by simp)
                    · rw [if_neg c14] at H
                      exact absurd H (by simp)
                  · rw [if_neg c12] at H
                    have c12b0 : decide (0 < x6_3) = false := decide_eq_false c12
                    clear c12
                    have H' := Aside0.mk H
                    clear H
                    go_wp2
                    (try simp only [← hl3_3])
                    go_roundg k3
                    case measure => have := HK1.out; have := HK2.out; have := HK3.out; omega
                    case rel => exact ⟨(x3_3), (wrap64 (x5_2 + 1)), FR, H', ⟨by have := HK1.out; have := HK2.out; have := HK3.out; omega⟩, ⟨by (try simp only [hl3_3]); (with_reducible repeat (first | apply Kd.R_alloc | apply Kd.R_drewN | apply Kd.R_drew)); exact HO_3.out⟩, ⟨(BB HB.out)⟩⟩
            · rw [if_neg c10] at H
              have c10b0 : decide (x5_2 < (x3_2.length : Int)) = false := decide_eq_false c10
              clear c10
              obtain rfl := Option.some.inj H
              obtain ⟨Ao83, co83, eo83⟩ := Kd.R_slice HO_3.out
              subst eo83
              go_wp2
              go_ret
              exact ⟨_, ER, by (with_reducible repeat (first | apply Kd.R_alloc | apply Kd.R_drewN | apply Kd.R_drew)); exact HO_3.out, (BB HB.out)⟩

end Go.Proofs.Ythgmmebkjhjgcaa.Pr

namespace Go.Proofs.Ythgmmebkjhjgcaa.Pr
open Go.RowKit Go.Proofs.YthgmmebkjhjgcaaW.PrintWords Go.Proofs.YthgmmebkjhjgcaaW.PrintLast Go.Proofs.YthgmmebkjhjgcaaW.PrintMore
attribute [local go_sem] max2_int min2_int max_two min_two max_three min_three max_four min_four
set_option linter.unusedVariables false
set_option linter.unusedSimpArgs false
mutual
def spec_PlaceGroup.j0 : Nat → List (S41) → Int → List Int → List Int → Bool → Option (List Int × Bool)
  | 0, _, _, _, _, _ => none
  | k + 1, x0, x1, x6, x7, x19 => if x19 = true then (some (x7, false)) else (spec_PlaceGroup.l0 k x0 x1 x6 x7 0)
def spec_PlaceGroup.l0 : Nat → List (S41) → Int → List Int → List Int → Int → Option (List Int × Bool)
  | 0, _, _, _, _, _ => none
  | k + 1, x0, x1, x6, x7, x8 => if x8 < x1 then (if 0 ≤ x8 then (if x8 < (x6.length : Int) then (if 0 ≤ (rd x6 x8) then (if (rd x6 x8) < (x0.length : Int) then (if x7.length < 17592186044416 then (spec_PlaceGroup.l0 k x0 x1 x6 (x7 ++ [(rd_T41 x0 (rd x6 x8)).f0]) (wrap64 (x8 + 1))) else (none)) else (none)) else (none)) else (none)) else (none)) else (some (x7, true))
end
def spec_PlaceGroup.f (k : Nat) (l0 : List (S41)) (a1 : Int) : Option (List Int × Bool) := (spec_l15Order.f k l0).bind fun t134 => ((some (([] : List Int) : List Int)).bind fun y137 => (if a1 < 0 then (spec_PlaceGroup.j0 k l0 a1 t134 y137 true) else (spec_PlaceGroup.j0 k l0 a1 t134 y137 (decide (a1 > (t134.length : Int))))))
set_option maxHeartbeats 8000000 in
set_option maxRecDepth 100000 in
theorem spec_PlaceGroup.calls (k : Nat) (A0 : Option Addr) (c0 : Nat) (l0 : List (S41)) (a1 : Int) (r1 : List Int) (r2 : Bool) (w : World) (hr0 : Kd.C k41 w A0 l0.length l0) (hc0 : l0.length ≤ c0) (h : spec_PlaceGroup.f k l0 a1 = some (r1, r2)) :
    Calls Try.prog 5 #[.slice A0 l0.length c0, .int .i64 a1] w fun e w' => ∃ v0_ : Value, e = .returned (.tuple #[v0_, .bool r2]) ∧ Kd.R (Kd.int .i64) 3 w' w.heap.size (fun _ => True) v0_ r1 ∧ Below w.heap.size w w' := by
  have HR0 := Aside0.mk hr0
  have HC0 := Aside0.mk hc0
  clear hr0 hc0
  have HB := Aside0.mk (Below.refl w.heap.size w)
  have H : ((spec_l15Order.f k l0).bind fun t134 => ((some (([] : List Int) : List Int)).bind fun y137 => (if a1 < 0 then (spec_PlaceGroup.j0 k l0 a1 t134 y137 true) else (spec_PlaceGroup.j0 k l0 a1 t134 y137 (decide (a1 > (t134.length : Int))))))) = some (r1, r2) := h
  clear h
  replace H := Option.bind_eq_some_iff.mp H
  obtain ⟨t134, A30, H⟩ := H
  replace H : ((some (([] : List Int) : List Int)).bind fun y137 => (if a1 < 0 then (spec_PlaceGroup.j0 k l0 a1 t134 y137 true) else (spec_PlaceGroup.j0 k l0 a1 t134 y137 (decide (a1 > (t134.length : Int)))))) = some (r1, r2) := H
  have A3 := Aside0.mk A30
  clear A30
  obtain ⟨y137, hy137⟩ : ∃ y_ : List Int, y_ = (([] : List Int)) := ⟨_, rfl⟩
  replace H : (if a1 < 0 then (spec_PlaceGroup.j0 k l0 a1 t134 y137 true) else (spec_PlaceGroup.j0 k l0 a1 t134 y137 (decide (a1 > (t134.length : Int))))) = some (r1, r2) := by first | (rw [hy137]; with_reducible exact H) | (have H2_ := (Option.bind_some _ _).symm.trans H; rw [hy137]; with_reducible exact H2_) | (have H2_ := (Option.bind_some _ _).symm.trans H; with_reducible exact H2_) | with_reducible exact H | (rw [hy137]; exact H) | exact H
  have Ny137 := Aside0.mk hy137
  clear hy137
  have HC4 := Aside0.mk H
  clear H
  go_enter Try.func5, Try.ntmps5
  go_upto_region 3 with (first | ((with_reducible refine gate_callee (f := 14) rfl ?_); refine GL (some 10) rfl rfl Try.func14 #[.slice A0 l0.length c0] rfl ?_; (with_reducible refine (spec_l15Order.calls k _ _ l0 t134 _ ?side1 ?side2 A3.out).mono ?_); (case side1 => exact CC HR0.out); (case side2 => exact HC0.out); rintro e w5 ⟨v135, rfl, ho0, hb⟩; refine ⟨_, rfl, ?_⟩; have HO136 := Aside0.mk (Kd.R_lower ho0 (below_size (BB HB.out))); replace HB := Aside0.mk (below_step (BB HB.out) hb); (try clear hb); (try clear ho0)) | ((with_reducible refine gate_dst (N := 11) rfl ?_); (try (refine gate_guard (by rfl) ?_; dsimp only)); refine Kd.R_lit (Kd.int .i64) _ 3 ?hg (N := 11) ?hd (xs := ([] : List Int)) (inner := []) (ok := fun _ => True) (okp := fun _ => True) ?hr ?hp (fun _ hk => hk) trivial (Below.refl _ _) (Nat.le_refl _) (by simp) ?_; (case hd => rfl); (case hg => rfl); (case hr => first | (go_simp; done) | (go_simp; rfl)); (case hp => exact (Reps.none _ _)); intro v138 w6 ho7 hb hg_ hnew_; clear hg_ hnew_; (first | rw [← Ny137.out] at ho7 | (simp only [Int.reduceToNat] at ho7; rw [← Ny137.out] at ho7)); have HO139 := Aside0.mk (Kd.R_lower (Kd.R_new' ho7 (Kd.R_lt (RR HO136.out))) (below_size (BB HB.out))); replace HO136 := Aside0.mk (Kd.R_elder' (RR HO136.out) (Kd.R_base ho7) hb); replace HB := Aside0.mk (below_step (BB HB.out) hb); clear hb ho7))
  (try simp only [Act.put, List.setIfInBounds_toArray, List.set_cons_zero, List.set_cons_succ])
  go_cut [19] (fun v19 wc => ∃ (kq : Nat) (x19_3 : Bool), v19 = .bool x19_3 ∧ Aside0 (spec_PlaceGroup.j0 kq l0 a1 t134 y137 x19_3 = some (r1, r2)) ∧ Aside0 (kq ≤ k) ∧ Aside0 (Kd.R (Kd.int .i64) 3 wc w.heap.size (fun k_ => some k_ ≠ (v138 : Value).ownBlock) v135 t134) ∧ Aside0 (Kd.R (Kd.int .i64) 3 wc w.heap.size (fun k_ => some k_ ≠ (v135 : Value).ownBlock) v138 y137) ∧ Aside0 (Below w.heap.size w wc))
  case first =>
    have H := HC4.out
    clear HC4
    by_cases c8 : a1 < 0
    · rw [if_pos c8] at H
      have c8b0 : decide (a1 < 0) = true := decide_eq_true c8
      clear c8
      (first | rw [c8b0] | (simp only [i64_w, i32_w]; rw [c8b0]) | skip)
      have H' := Aside0.mk H
      clear H
      go_wp2
      go_meet
      case rel => exact ⟨_, (true), FR, H', ⟨by first | omega | exact Nat.le_refl _⟩, ⟨by (with_reducible repeat (first | apply Kd.R_alloc | apply Kd.R_drewN | apply Kd.R_drew)); exact Kd.R_mono HO136.out (fun _ hk => hk.2)⟩, ⟨by (with_reducible repeat (first | apply Kd.R_alloc | apply Kd.R_drewN | apply Kd.R_drew)); exact Kd.R_mono HO139.out (fun _ hk => hk.2)⟩, ⟨(BB HB.out)⟩⟩
    · rw [if_neg c8] at H
      have c8b0 : decide (a1 < 0) = false := decide_eq_false c8
      clear c8
      (first | rw [c8b0] | (simp only [i64_w, i32_w]; rw [c8b0]) | skip)
      have H' := Aside0.mk H
      clear H
      obtain ⟨Ao9, co9, eo9⟩ := Kd.R_slice HO136.out
      subst eo9
      go_wp2
      go_meet
      case rel => exact ⟨_, (decide (a1 > (t134.length : Int))), FR, H', ⟨by first | omega | exact Nat.le_refl _⟩, ⟨by (with_reducible repeat (first | apply Kd.R_alloc | apply Kd.R_drewN | apply Kd.R_drew)); exact Kd.R_mono HO136.out (fun _ hk => hk.2)⟩, ⟨by (with_reducible repeat (first | apply Kd.R_alloc | apply Kd.R_drewN | apply Kd.R_drew)); exact Kd.R_mono HO139.out (fun _ hk => hk.2)⟩, ⟨(BB HB.out)⟩⟩
  case rest =>
    clear HC4
    try clear c1
    try clear p2
    try clear c5
    try clear c8
    try clear c8b0
    obtain ⟨kq, x19_3, rfl, HA, HJ3, HO_6, HO_7, HB⟩ := hcut
    cases kq with
    | zero => exact absurd HA.out (by simp [spec_PlaceGroup.j0])
    | succ kj3 =>
      have H := HA.out
      clear HA
      simp only [spec_PlaceGroup.j0] at H
      by_cases c10 : x19_3 = true
      · subst c10
        have H1 : (some (y137, false)) = some (r1, r2) := by rw [if_pos rfl] at H; exact H
        clear H
        have H := H1
        clear H1
        simp only [Option.some.injEq, Prod.mk.injEq] at H
        obtain ⟨rfl, rfl⟩ := H
        go_wp2
        go_ret2
        exact ⟨_, ER, by (with_reducible repeat (first | apply Kd.R_alloc | apply Kd.R_drewN | apply Kd.R_drew)); exact Kd.R_mono HO_7.out (fun _ hk => trivial), (BB HB.out)⟩
      · replace c10 := Bool.eq_false_iff.mpr c10
        subst c10
        have H1 : (spec_PlaceGroup.l0 kj3 l0 a1 t134 y137 0) = some (r1, r2) := by rw [if_neg (show ¬ (false = true) by decide)] at H; exact H
        clear H
        have H := H1
        clear H1
        have H' := Aside0.mk H
        clear H
        go_wp2
        go_loopg [7, 8] kj3 (fun kq v7 v8 w' => ∃ (x7_2 : List Int) (x8_2 : Int), v8 = .int .i64 x8_2 ∧ Aside0 (spec_PlaceGroup.l0 kq l0 a1 t134 x7_2 x8_2 = some (r1, r2)) ∧ Aside0 (kq ≤ kj3) ∧ Aside0 (Kd.R (Kd.int .i64) 3 w' w.heap.size (fun k_ => some k_ ≠ (v7 : Value).ownBlock) v135 t134) ∧ Aside0 (Kd.R (Kd.int .i64) 3 w' w.heap.size (fun k_ => some k_ ≠ (v135 : Value).ownBlock) v7 x7_2) ∧ Aside0 (Below w.heap.size w w'))
        case atStart => exact ⟨(y137), (0), FR, H', ⟨Nat.le_refl _⟩, ⟨(RR HO_6.out)⟩, ⟨(RR HO_7.out)⟩, ⟨(BB HB.out)⟩⟩
        case round =>
          clear H'
          try clear c1
          try clear p2
          try clear c5
          try clear c8
          try clear c8b0
          try clear c10
          try clear p2
          obtain ⟨x7_2, x8_2, rfl, HA, HK2, HO_6, HO_7, HB⟩ := hrel
          cases gk with
          | zero => exact absurd HA.out (by simp [spec_PlaceGroup.l0])
          | succ k2 =>
            have H := HA.out
            clear HA
            simp only [spec_PlaceGroup.l0] at H
            by_cases c11 : x8_2 < a1
            · rw [if_pos c11] at H
              have c11b0 : decide (x8_2 < a1) = true := decide_eq_true c11
              clear c11
              by_cases c12 : 0 ≤ x8_2
              · rw [if_pos c12] at H
                have c12b0 : decide (0 ≤ x8_2) = true := decide_eq_true c12
                clear c12
                by_cases c13 : x8_2 < (t134.length : Int)
                · rw [if_pos c13] at H
                  have c13b0 : decide (x8_2 < (t134.length : Int)) = true := decide_eq_true c13
                  clear c13
                  by_cases c14 : 0 ≤ (rd t134 x8_2)
                  · rw [if_pos c14] at H
                    have c14b0 : decide (0 ≤ (rd t134 x8_2)) = true := decide_eq_true c14
                    clear c14
                    by_cases c15 : (rd t134 x8_2) < (l0.length : Int)
                    · rw [if_pos c15] at H
                      have c15b0 : decide ((rd t134 x8_2) < (l0.length : Int)) = true := decide_eq_true c15
                      clear c15
                      by_cases c16 : x7_2.length < 17592186044416
                      · rw [if_pos c16] at H
                        have LMc16 := Aside0.mk c16
                        clear c16
                        obtain ⟨y142, hy142⟩ : ∃ y_ : List Int, y_ = (x7_2 ++ [(rd_T41 l0 (rd t134 x8_2)).f0]) := ⟨_, rfl⟩
                        replace H : (spec_PlaceGroup.l0 k2 l0 a1 t134 y142 (wrap64 (x8_2 + 1))) = some (r1, r2) := by first | (rw [hy142]; with_reducible exact H) | (have H2_ := (Option.bind_some _ _).symm.trans H; rw [hy142]; with_reducible exact H2_) | (have H2_ := (Option.bind_some _ _).symm.trans H; with_reducible exact H2_) | with_reducible exact H | (rw [hy142]; exact H) | exact H
                        have Ny142 := Aside0.mk hy142
                        clear hy142
                        have H' := Aside0.mk H
                        clear H
                        obtain ⟨Ao17, co17, eo17⟩ := Kd.R_slice HO_6.out
                        subst eo17
                        have p140 : 0 ≤ (x8_2 : Int) := DT
                        have q140 : x8_2 < (t134.length : Int) := DT
                        obtain ⟨ad140, e140, hx140_0⟩ := Kd.at_int (Kd.R_reads' HO_6.out).2.2 x8_2 p140 q140
                        cases e140
                        replace p140 := eq_true p140
                        replace q140 := eq_true q140
                        have p141 : 0 ≤ ((rd t134 x8_2) : Int) := DT
                        have q141 : (rd t134 x8_2) < (l0.length : Int) := DT
                        obtain ⟨ad141, A141_2, c141_2, e141, hx141_0, hx141_1, hx141_2, hl141_2, hi141_2⟩ := at_T41 HR0.out (rd t134 x8_2) p141 q141
                        cases e141
                        replace hx141_0 := (HB.out.cell (World.block_lt_of_cell? w _ hx141_0)).trans hx141_0
                        replace hx141_1 := (HB.out.cell (World.block_lt_of_cell? w _ hx141_1)).trans hx141_1
                        replace hx141_2 := (HB.out.cell (World.block_lt_of_cell? w _ hx141_2)).trans hx141_2
                        have HR141_2 := Aside0.mk hi141_2
                        have HC141_2 := Aside0.mk hl141_2
                        clear hi141_2 hl141_2
                        replace p141 := eq_true p141
                        replace q141 := eq_true q141
                        go_wp2_with (first | ((with_reducible refine gate_builtin (b := .append) (xs := #[.tmp 26, .tmp 35]) rfl ?_); (try (refine gate_guard (by rfl) ?_; dsimp only)); at_builtin; refine Kd.R_append (Kd.int .i64) (w0 := w) w.heap.size rfl (.tmp 26) (.tmp 35) 24 3 (.int .i64 0) 8 rfl Try.underlying24 info3 rfl (by decide) (by omega) u7 x7_2 ((rd_T41 l0 (rd t134 x8_2)).f0) [.int .i64 ((rd_T41 l0 (rd t134 x8_2)).f0)] (fun k_ => some k_ ≠ (.slice (some ad140) t134.length co17 : Value).ownBlock) (fun _ => False) rfl rfl ?aP (fun _ hk => hk.elim) ?aF ?aO ?aB ?aS ?aL ?_; (case aP => exact rfl); (case aB => exact (BB HB.out)); (case aF => exact (fun k_ hk => Kd.fresh' (Kd.R_lt (RR HO_6.out)) k_ hk)); (case aO => exact (RR HO_7.out)); (case aS => exact (below_size (BB HB.out))); (case aL => have := LMc16.out; omega); intro v143 w18 ho hb hg hat; rw [← Ny142.out] at ho; have n0_ := Aside0.mk (Kd.R_after (ok := (fun _ => True)) (by (with_reducible repeat (first | apply Kd.R_alloc | apply Kd.R_drewN | apply Kd.R_drew)); exact Kd.R_mono HO_6.out (fun _ hk => ⟨trivial, hk⟩)) hg hat); have n1_ := Aside0.mk (hb); have n2_ := Aside0.mk (ho); clear HO_6; clear HB; clear HO_7; have HO_6 := n0_; have HB := n1_; have HO144 := n2_; clear n0_ n1_ n2_; clear ho hb hg hat))
                        go_roundg k2
                        case measure => have := HJ3.out; have := HK2.out; omega
                        case rel => exact ⟨(y142), (wrap64 (x8_2 + 1)), FR, H', ⟨by have := HJ3.out; have := HK2.out; omega⟩, ⟨by (with_reducible repeat (first | apply Kd.R_alloc | apply Kd.R_drewN | apply Kd.R_drew)); exact Kd.R_mono HO_6.out (fun _ hk => hk.2)⟩, ⟨(RR HO144.out)⟩, ⟨(BB HB.out)⟩⟩
                      · rw [if_neg c16] at H
                        exact absurd H (by simp)
                    · rw [if_neg c15] at H
                      exact absurd H (by simp)
                  · rw [if_neg c14] at H
                    exact absurd H (by simp)
                · rw [if_neg c13] at H
                  exact absurd H (by simp)
              · rw [if_neg c12] at H
                exact absurd H (by simp)
            · rw [if_neg c11] at H
              have c11b0 : decide (x8_2 < a1) = false := decide_eq_false c11
              clear c11
              simp only [Option.some.injEq, Prod.mk.injEq] at H
              obtain ⟨rfl, rfl⟩ := H
              go_wp2
              go_ret2
              exact ⟨_, ER, by (with_reducible repeat (first | apply Kd.R_alloc | apply Kd.R_drewN | apply Kd.R_drew)); exact Kd.R_mono HO_7.out (fun _ hk => trivial), (BB HB.out)⟩

end Go.Proofs.Ythgmmebkjhjgcaa.Pr

namespace Go.Proofs.Ythgmmebkjhjgcaa.Pu
open Go.RowKit Go.Proofs.YthgmmebkjhjgcaaW.PrintWords Go.Proofs.Ythgmmebkjhjgcaa.Pr Go.Proofs.Ythgmmebkjhjgcaa.Evs
set_option linter.unusedVariables false
set_option linter.unusedSimpArgs false
structure Ins (lt : Nat → Nat → Bool) (k i : Nat) (g : Nat → Nat) : Prop where
  all : ∀ p q, p < q → q ≤ i → p ≠ k → q ≠ k → lt (g q) (g p) = false
  beh : ∀ q, k < q → q ≤ i → lt (g q) (g k) = false
theorem Ins.start {lt : Nat → Nat → Bool} {i : Nat} {g : Nat → Nat} (h : ∀ p q, p < q → q < i → lt (g q) (g p) = false) : Ins lt i i g := ⟨fun p q h1 h2 _ h4 => h p q h1 (by omega), fun q h1 h2 => absurd h1 (by omega)⟩
theorem Ins.stop {lt : Nat → Nat → Bool} {i : Nat} {g : Nat → Nat} (h : Ins lt 0 i g) : ∀ p q, p < q → q < i + 1 → lt (g q) (g p) = false := fun p q h1 h2 => by
  by_cases hp : p = 0
  · subst hp
    exact h.beh q h1 (by omega)
  · exact h.all p q h1 (by omega) hp (by omega)
theorem Ins.stay {lt : Nat → Nat → Bool} (ht : ∀ x y z, lt x y = false → lt y z = false → lt x z = false) {k i : Nat} {g : Nat → Nat} (h : Ins lt (k + 1) i g) (hk : k + 1 ≤ i) (c : lt (g (k + 1)) (g k) = false) : Ins lt k i g := by
  refine ⟨fun p q h1 h2 h3 h4 => ?_, fun q h1 h2 => ?_⟩
  · by_cases hq : q = k + 1
    · subst hq
      exact ht _ _ _ c (h.all p k (by omega) (by omega) (by omega) (by omega))
    · by_cases hp : p = k + 1
      · subst hp
        exact h.beh q h1 h2
      · exact h.all p q h1 h2 hp hq
  · by_cases hq : q = k + 1
    · subst hq
      exact c
    · exact h.all k q h1 h2 (by omega) hq
theorem Ins.swap {lt : Nat → Nat → Bool} (ha : ∀ x y, lt x y = true → lt y x = false) {k i : Nat} {g g' : Nat → Nat} (h : Ins lt (k + 1) i g) (hk : k + 1 ≤ i) (c : lt (g (k + 1)) (g k) = true) (e1 : g' k = g (k + 1)) (e2 : g' (k + 1) = g k) (e3 : ∀ j, j ≠ k → j ≠ k + 1 → g' j = g j) : Ins lt k i g' := by
  refine ⟨fun p q h1 h2 h3 h4 => ?_, fun q h1 h2 => ?_⟩
  · by_cases hq : q = k + 1
    · subst hq
      rw [e2, e3 p h3 (by omega)]
      exact h.all p k (by omega) (by omega) (by omega) (by omega)
    · by_cases hp : p = k + 1
      · subst hp
        rw [e2, e3 q h4 hq]
        exact h.all k q (by omega) h2 (by omega) hq
      · rw [e3 p h3 hp, e3 q h4 hq]
        exact h.all p q h1 h2 hp hq
  · rw [e1]
    by_cases hq : q = k + 1
    · subst hq
      rw [e2]
      exact ha _ _ c
    · rw [e3 q (by omega) hq]
      exact h.beh q (by omega) h2
theorem ltK_n (l : List S41) (x y z : Nat) (h : ltK l x y = false) (k : ltK l y z = false) : ltK l x z = false := by
  rw [ltK_key, keyLt_false] at h k ⊢
  omega
theorem ltK_a (l : List S41) (x y : Nat) (h : ltK l x y = true) : ltK l y x = false := by
  have h := of_decide_eq_true h
  exact decide_eq_false (by omega)
theorem gd (us : List Nat) (j : Nat) (h : j < us.length) : us.getD j 0 = us[j] := by rw [List.getD_eq_getElem?_getD, List.getElem?_eq_getElem h]; rfl
theorem rd_gd (us : List Nat) (j : Nat) (h : j < us.length) : rd (us.map Int.ofNat) (j : Int) = ((us.getD j 0 : Nat) : Int) := by rw [rd_us us j h, gd us j h]
theorem host_gd (l : List S41) (k : Nat) : rd_T41 l (k : Int) = l.getD k z41 := rfl
theorem order_l2 (l : List S41) (hl : l.length < 1048577) (i : Nat) (v : List Int) (P : List Nat → Prop) : ∀ (k : Nat) (us : List Nat), us.Perm (upsTo l l.length) → k ≤ i → i < us.length → Ins (ltK l) k i (fun j => us.getD j 0) →
    (∀ ts : List Nat, ts.Perm (upsTo l l.length) → (∀ p q, p < q → q < i + 1 → ltK l (ts.getD q 0) (ts.getD p 0) = false) → ∃ r, P r ∧ Ev (fun n => spec_l15Order.l1 n l (ts.map Int.ofNat) ((i + 1 : Nat) : Int)) (r.map Int.ofNat)) →
    ∃ r, P r ∧ Ev (fun n => spec_l15Order.l2 n l (us.map Int.ofNat) (i : Int) (k : Int)) (r.map Int.ofNat) := by
  intro k
  induction k with
  | zero =>
    intro us hp hk hi hI hE
    have hul : us.length ≤ l.length := by rw [hp.length_eq]; exact upsTo_len l _
    obtain ⟨r, hr, h⟩ := hE us hp hI.stop
    have e : wrap64 ((i : Int) + 1) = ((i + 1 : Nat) : Int) := by rw [wrap_in (by omega) (by omega)]; omega
    exact ⟨r, hr, ev_step (fun n => spec_l15Order.l2.eq_2 _ _ _ _ n) (ev_neg (by omega) (by rw [e]; exact h))⟩
  | succ k ih =>
    intro us hp hk hi hI hE
    have hul : us.length ≤ l.length := by rw [hp.length_eq]; exact upsTo_len l _
    have hk1 : k < us.length := by omega
    have hk2 : k + 1 < us.length := by omega
    have e : wrap64 (((k + 1 : Nat) : Int) - 1) = (k : Int) := by rw [wrap_in (by omega) (by omega)]; omega
    have b1 : us.getD k 0 < l.length := by rw [gd us k hk1]; exact upsTo_lt l _ _ (hp.mem_iff.1 (List.getElem_mem hk1))
    have b2 : us.getD (k + 1) 0 < l.length := by rw [gd us (k + 1) hk2]; exact upsTo_lt l _ _ (hp.mem_iff.1 (List.getElem_mem hk2))
    by_cases c : ltK l (us.getD (k + 1) 0) (us.getD k 0) = true
    · -- they change places
      obtain ⟨us', hus'⟩ : ∃ q, q = (us.set (k + 1) (us.getD k 0)).set k (us.getD (k + 1) 0) := ⟨_, rfl⟩
      have hp' : us'.Perm (upsTo l l.length) := by
        rw [hus', gd us k hk1, gd us (k + 1) hk2]
        exact (List.set_set_perm hk2 hk1).trans hp
      have hl' : us'.length = us.length := by rw [hus']; simp
      have g1 : us'.getD k 0 = us.getD (k + 1) 0 := by rw [hus']; simp [List.getD_eq_getElem?_getD, hk1]
      have g2 : us'.getD (k + 1) 0 = us.getD k 0 := by rw [hus']; simp [List.getD_eq_getElem?_getD, hk2]
      have g3 : ∀ j, j ≠ k → j ≠ k + 1 → us'.getD j 0 = us.getD j 0 := fun j h1 h2 => by
        rw [hus']
        simp [List.getD_eq_getElem?_getD, List.getElem?_set, Ne.symm h1, Ne.symm h2]
      obtain ⟨r, hr, h⟩ := ih us' hp' (by omega) (by omega) (hI.swap (ltK_a l) hk c g1 g2 g3) hE
      have e2 : us'.map Int.ofNat = ((us.map Int.ofNat).set (((k + 1 : Nat) : Int)).toNat (rd (us.map Int.ofNat) (k : Int))).set ((k : Int)).toNat (rd (us.map Int.ofNat) ((k + 1 : Nat) : Int)) := by
        rw [rd_gd us k hk1, rd_gd us (k + 1) hk2, Int.toNat_natCast, Int.toNat_natCast, hus', List.map_set, List.map_set]
        rfl
      rw [e2] at h
      refine ⟨r, hr, ev_step (fun n => spec_l15Order.l2.eq_2 _ _ _ _ n) ?_⟩
      have hc := of_decide_eq_true c
      simp only [e]
      refine ev_pos (by omega) (ev_pos (by omega) (ev_pos (by rw [List.length_map]; omega) (ev_pos (by rw [rd_gd us k hk1]; omega) (ev_pos (by rw [rd_gd us k hk1]; omega) (ev_pos (by omega) (ev_pos (by rw [List.length_map]; omega) (ev_pos (by rw [rd_gd us (k + 1) hk2]; omega) (ev_pos (by rw [rd_gd us (k + 1) hk2]; omega) ?_))))))))
      refine ev_call rfl (ev_call rfl ?_)
      rw [rd_gd us k hk1, rd_gd us (k + 1) hk2] at h ⊢
      rw [host_gd, host_gd]
      by_cases c2 : ((l.getD (us.getD k 0) z41).f2.length : Int) > ((l.getD (us.getD (k + 1) 0) z41).f2.length : Int)
      · exact ev_pos c2 h
      · refine ev_neg c2 (ev_call rfl (ev_call rfl (ev_pos ?_ (ev_pos ?_ h))))
        · omega
        · omega
    · have cf : ltK l (us.getD (k + 1) 0) (us.getD k 0) = false := by simpa using c
      obtain ⟨r, hr, h⟩ := ih us hp (by omega) hi (hI.stay (ltK_n l) hk cf) hE
      refine ⟨r, hr, ev_step (fun n => spec_l15Order.l2.eq_2 _ _ _ _ n) ?_⟩
      have hc := of_decide_eq_false cf
      simp only [e]
      refine ev_pos (by omega) (ev_pos (by omega) (ev_pos (by rw [List.length_map]; omega) (ev_pos (by rw [rd_gd us k hk1]; omega) (ev_pos (by rw [rd_gd us k hk1]; omega) (ev_pos (by omega) (ev_pos (by rw [List.length_map]; omega) (ev_pos (by rw [rd_gd us (k + 1) hk2]; omega) (ev_pos (by rw [rd_gd us (k + 1) hk2]; omega) ?_))))))))
      refine ev_call rfl (ev_call rfl ?_)
      rw [rd_gd us k hk1, rd_gd us (k + 1) hk2]
      rw [host_gd, host_gd]
      refine ev_neg (by omega) (ev_call rfl (ev_call rfl ?_))
      by_cases c2 : ((l.getD (us.getD k 0) z41).f2.length : Int) = ((l.getD (us.getD (k + 1) 0) z41).f2.length : Int)
      · exact ev_pos c2 (ev_neg (by omega) h)
      · exact ev_neg c2 h
theorem order_l1 (l : List S41) (hl : l.length < 1048577) : ∀ (d i : Nat) (us : List Nat), 0 < i → us.length ≤ i + d → us.Perm (upsTo l l.length) → (∀ p q, p < q → q < i → q < us.length → ltK l (us.getD q 0) (us.getD p 0) = false) →
    ∃ r, IsRank l r ∧ Ev (fun n => spec_l15Order.l1 n l (us.map Int.ofNat) (i : Int)) (r.map Int.ofNat) := by
  have fin : ∀ (i : Nat) (us : List Nat), us.length ≤ i → us.Perm (upsTo l l.length) → (∀ p q, p < q → q < i → q < us.length → ltK l (us.getD q 0) (us.getD p 0) = false) → ∃ r, IsRank l r ∧ Ev (fun n => spec_l15Order.l1 n l (us.map Int.ofNat) (i : Int)) (r.map Int.ofNat) := by
    intro i us hi hp hs
    refine ⟨us, ⟨hp, List.pairwise_iff_getElem.2 fun p q h1 h2 h3 => ?_⟩, ev_step (fun n => spec_l15Order.l1.eq_2 _ _ _ n) (ev_neg (by rw [List.length_map]; omega) (ev_some _))⟩
    have := hs p q h3 (by omega) h2
    rwa [gd us p h1, gd us q h2] at this
  intro d
  induction d with
  | zero => intro i us h0 hi hp hs; exact fin i us (by omega) hp hs
  | succ d ih =>
    intro i us h0 hi hp hs
    by_cases hlt : i < us.length
    · obtain ⟨r, hr, h⟩ := order_l2 l hl i [] (IsRank l) i us hp (Nat.le_refl _) hlt (Ins.start fun p q h1 h2 => hs p q h1 h2 (by omega)) (fun ts ht hs' => ih (i + 1) ts (by omega) (by rw [ht.length_eq, ← hp.length_eq]; omega) ht (fun p q h1 h2 _ => hs' p q h1 h2))
      exact ⟨r, hr, ev_step (fun n => spec_l15Order.l1.eq_2 _ _ _ n) (ev_pos (by rw [List.length_map]; omega) h)⟩
    · exact fin i us (by omega) hp hs
theorem order_l0 (l : List S41) (hl : l.length < 1048577) (v : List Int) (hE : Ev (fun n => spec_l15Order.l1 n l ((upsTo l l.length).map Int.ofNat) 1) v) : ∀ (d i : Nat), i + d = l.length →
    Ev (fun n => spec_l15Order.l0 n l ((upsTo l i).map Int.ofNat) (i : Int)) v := by
  intro d
  induction d with
  | zero =>
    intro i hi
    obtain rfl : i = l.length := by omega
    exact ev_step (fun n => spec_l15Order.l0.eq_2 _ _ _ n) (ev_neg (by omega) hE)
  | succ d ih =>
    intro i hi
    have h := ih (i + 1) (by omega)
    have e : wrap64 ((i : Int) + 1) = ((i + 1 : Nat) : Int) := by rw [wrap_in (by omega) (by omega)]; omega
    have hu := upsTo_len l i
    refine ev_step (fun n => spec_l15Order.l0.eq_2 _ _ _ n) (ev_pos (by omega) (ev_pos (by omega) ?_))
    rw [e, host_gd]
    cases c : (l.getD i z41).f1 with
    | true =>
      rw [upsTo_yes l i c, List.map_append] at h
      exact ev_pos rfl (ev_pos (by rw [List.length_map]; omega) h)
    | false =>
      rw [upsTo_no l i c] at h
      exact ev_neg (by decide) h
theorem order_ev (l : List S41) (hl : l.length < 1048577) : ∃ r, IsRank l r ∧ Ev (fun n => spec_l15Order.f n l) (r.map Int.ofNat) := by
  obtain ⟨r, hr, h⟩ := order_l1 l hl l.length 1 (upsTo l l.length) (by omega) (by have := upsTo_len l l.length; omega) (List.Perm.refl _) (fun p q h1 h2 => absurd h2 (by omega))
  refine ⟨r, hr, ?_⟩
  unfold spec_l15Order.f
  exact order_l0 l hl _ h l.length 0 (by omega)
theorem place_l0 (l : List S41) (hl : l.length < 1048577) (us : List Nat) (hus : ∀ k ∈ us, k < l.length) (hul : us.length < 1048577) (n : Nat) (hn : n ≤ us.length) : ∀ (d i : Nat), i + d = n →
    Ev (fun k => spec_PlaceGroup.l0 k l (n : Int) (us.map Int.ofNat) ((us.take i).map (idOf l)) (i : Int)) ((us.take n).map (idOf l), true) := by
  intro d
  induction d with
  | zero =>
    intro i hi
    obtain rfl : i = n := by omega
    exact ev_step (fun k => spec_PlaceGroup.l0.eq_2 _ _ _ _ _ k) (ev_neg (by omega) (ev_some _))
  | succ d ih =>
    intro i hi
    have h := ih (i + 1) (by omega)
    have hiu : i < us.length := by omega
    have e : wrap64 ((i : Int) + 1) = ((i + 1 : Nat) : Int) := by rw [wrap_in (by omega) (by omega)]; omega
    have b := hus _ (List.getElem_mem hiu)
    rw [List.take_succ_eq_append_getElem hiu, List.map_append] at h
    refine ev_step (fun k => spec_PlaceGroup.l0.eq_2 _ _ _ _ _ k) ?_
    rw [rd_us us i hiu, e, host_gd]
    exact ev_pos (by omega) (ev_pos (by omega) (ev_pos (by rw [List.length_map]; omega) (ev_pos (by omega) (ev_pos (by omega) (ev_pos (by rw [List.length_map, List.length_take]; omega) h)))))
theorem spec_PlaceGroup_ev (l : List S41) (hl : l.length < 1048577) (a : Int) : Ev (fun k => spec_PlaceGroup.f k l a) (placeH l a) := by
  obtain ⟨us, hr, h⟩ := order_ev l hl
  have hz := hr.len
  have hul : us.length < 1048577 := by rw [hr.perm.length_eq]; have := upsTo_len l l.length; omega
  unfold spec_PlaceGroup.f
  refine ev_bind h (ev_call rfl ?_)
  by_cases c : a < 0
  · refine ev_pos c (ev_step (fun k => spec_PlaceGroup.j0.eq_2 _ _ _ _ _ k) (ev_pos rfl ?_))
    rw [placeH_no (.inl c)]
    exact ev_some _
  · refine ev_neg c (ev_step (fun k => spec_PlaceGroup.j0.eq_2 _ _ _ _ _ k) ?_)
    by_cases c2 : a > ((us.map Int.ofNat).length : Int)
    · refine ev_pos (decide_eq_true c2) ?_
      rw [List.length_map, hz] at c2
      rw [placeH_no (.inr c2)]
      exact ev_some _
    · refine ev_neg (by simp only [decide_eq_true_eq]; exact c2) ?_
      rw [List.length_map] at c2
      obtain ⟨n, rfl⟩ : ∃ n : Nat, a = (n : Int) := ⟨a.toNat, by omega⟩
      rw [placeH_yes (by rw [← hz]; omega), ← rank_idsR hr, ← List.map_take]
      exact place_l0 l hl us hr.lt hul n (by omega) n 0 (by omega)
theorem impl_PlaceGroup_eq (l : List S41) (hl : l.length ≤ 1048576) (a : Int) : impl_PlaceGroup.f l a = some (placeH l a) := if_pos hl
theorem placeH_len (l : List S41) (a : Int) : (placeH l a).1.length ≤ l.length := by
  unfold placeH
  split
  · exact Nat.zero_le _
  · have := idsR_len l
    have := upsTo_len l l.length
    have := List.length_take_le a.toNat (idsR l)
    simp only
    omega
end Go.Proofs.Ythgmmebkjhjgcaa.Pu

namespace Go.Proofs.Ythgmmebkjhjgcaa.Pr
open Go.RowKit Go.Proofs.YthgmmebkjhjgcaaW.PrintWords Go.Proofs.YthgmmebkjhjgcaaW.PrintLast Go.Proofs.YthgmmebkjhjgcaaW.PrintMore
attribute [local go_sem] max2_int min2_int max_two min_two max_three min_three max_four min_four
set_option linter.unusedVariables false
set_option linter.unusedSimpArgs false
def laws_eqIntS.l0 : Nat → List Int → List Int → Int → Option (Bool)
  | 0, _, _, _ => none
  | k + 1, x0, x1, x5 => if x5 < (x0.length : Int) then (if 0 ≤ x5 then (if x5 < (x1.length : Int) then (if (rd x0 x5) = (rd x1 x5) then (laws_eqIntS.l0 k x0 x1 (wrap64 (x5 + 1))) else (some false)) else (none)) else (none)) else (some true)
def laws_eqIntS.f (k : Nat) (l0 : List Int) (l1 : List Int) : Option (Bool) := if (l0.length : Int) = (l1.length : Int) then (laws_eqIntS.l0 k l0 l1 0) else (some false)
set_option maxHeartbeats 8000000 in
set_option maxRecDepth 100000 in
theorem laws_eqIntS.calls (k : Nat) (A0 : Option Addr) (c0 : Nat) (l0 : List Int) (A1 : Option Addr) (c1 : Nat) (l1 : List Int) (r : Bool) (w : World) (hr0 : Kd.C (Kd.int .i64) w A0 l0.length l0) (hc0 : l0.length ≤ c0) (hr1 : Kd.C (Kd.int .i64) w A1 l1.length l1) (hc1 : l1.length ≤ c1) (h : laws_eqIntS.f k l0 l1 = some r) (hr_ : Aside0 (r = true) := by exact ⟨rfl⟩) :
    Calls Try.prog 8 #[.slice A0 l0.length c0, .slice A1 l1.length c1] w fun e w' => e = .returned (.bool r) ∧ Drawn0 w w' := by
  have HR0 := Aside0.mk hr0
  have HC0 := Aside0.mk hc0
  clear hr0 hc0
  have HR1 := Aside0.mk hr1
  have HC1 := Aside0.mk hc1
  clear hr1 hc1
  have H : (if (l0.length : Int) = (l1.length : Int) then (laws_eqIntS.l0 k l0 l1 0) else (some false)) = some r := h
  clear h
  by_cases c3 : (l0.length : Int) = (l1.length : Int)
  · rw [if_pos c3] at H
    have c3b0 : ((l0.length : Int) == (l1.length : Int)) = true := beq_iff_eq.mpr c3
    have c3b1 : ((l0.length : Int) != (l1.length : Int)) = false := bne_eq_false_iff_eq.mpr c3
    have c3b2 : (l0.length == l1.length) = true := by first | simpa using c3 | (simp at c3 ⊢; omega)
    clear c3
    have H' := Aside0.mk H
    clear H
    go_enter Try.func8, Try.ntmps8
    go_wp2
    repeat (go_quiet (fail); try go_wp2)
    go_loopg [5] k (fun kq v5 w' => ∃ (x5_1 : Int), v5 = .int .i64 x5_1 ∧ Aside0 (laws_eqIntS.l0 kq l0 l1 x5_1 = some r) ∧ Aside0 (kq ≤ k) ∧ Drawn0 w w')
    case atStart => exact ⟨(0), FR, H', ⟨Nat.le_refl _⟩, by repeat (first | exact Drawn0.refl _ | apply Drawn0.step)⟩
    case round =>
      clear H'
      try clear c1
      try clear p2
      try clear c3
      try clear c3b0
      try clear c3b1
      try clear c3b2
      obtain ⟨x5_1, rfl, HA, HK1, ⟨m1, rfl⟩⟩ := hrel
      cases gk with
      | zero => exact absurd HA.out (by simp [laws_eqIntS.l0])
      | succ k1 =>
        have H := HA.out
        clear HA
        simp only [laws_eqIntS.l0] at H
        by_cases c4 : x5_1 < (l0.length : Int)
        · rw [if_pos c4] at H
          have c4b0 : decide (x5_1 < (l0.length : Int)) = true := decide_eq_true c4
          clear c4
          by_cases c5 : 0 ≤ x5_1
          · rw [if_pos c5] at H
            have c5b0 : decide (0 ≤ x5_1) = true := decide_eq_true c5
            clear c5
            by_cases c6 : x5_1 < (l1.length : Int)
            · rw [if_pos c6] at H
              have c6b0 : decide (x5_1 < (l1.length : Int)) = true := decide_eq_true c6
              clear c6
              by_cases c7 : (rd l0 x5_1) = (rd l1 x5_1)
              · rw [if_pos c7] at H
                have c7b0 : ((rd l0 x5_1) == (rd l1 x5_1)) = true := beq_iff_eq.mpr c7
                have c7b1 : ((rd l0 x5_1) != (rd l1 x5_1)) = false := bne_eq_false_iff_eq.mpr c7
                clear c7
                have H' := Aside0.mk H
                clear H
                have p173 : 0 ≤ (x5_1 : Int) := DT
                have q173 : x5_1 < (l0.length : Int) := DT
                obtain ⟨ad173, e173, hx173_0⟩ := Kd.at_int HR0.out x5_1 p173 q173
                cases e173
                replace p173 := eq_true p173
                replace q173 := eq_true q173
                have p174 : 0 ≤ (x5_1 : Int) := DT
                have q174 : x5_1 < (l1.length : Int) := DT
                obtain ⟨ad174, e174, hx174_0⟩ := Kd.at_int HR1.out x5_1 p174 q174
                cases e174
                replace p174 := eq_true p174
                replace q174 := eq_true q174
                go_wp2
                repeat (go_quiet (fail); try go_wp2)
                go_roundg k1
                case measure => have := HK1.out; omega
                case rel => exact ⟨(wrap64 (x5_1 + 1)), FR, H', ⟨by have := HK1.out; omega⟩, by repeat (first | exact Drawn0.refl _ | apply Drawn0.step)⟩
              · rw [if_neg c7] at H
                have c7b0 : ((rd l0 x5_1) == (rd l1 x5_1)) = false := beq_eq_false_iff_ne.mpr c7
                have c7b1 : ((rd l0 x5_1) != (rd l1 x5_1)) = true := bne_iff_ne.mpr c7
                exact absurd ((Option.some.inj H).trans hr_.out) (by decide)
            · rw [if_neg c6] at H
              exact absurd H (by simp)
          · rw [if_neg c5] at H
            exact absurd H (by simp)
        · rw [if_neg c4] at H
          have c4b0 : decide (x5_1 < (l0.length : Int)) = false := decide_eq_false c4
          clear c4
          obtain rfl := Option.some.inj H
          go_wp2
          repeat (go_quiet (fail); try go_wp2)
          go_ret
          exact ⟨FR, by repeat (first | exact Drawn0.refl _ | apply Drawn0.step)⟩
  · rw [if_neg c3] at H
    have c3b0 : ((l0.length : Int) == (l1.length : Int)) = false := beq_eq_false_iff_ne.mpr c3
    have c3b1 : ((l0.length : Int) != (l1.length : Int)) = true := bne_iff_ne.mpr c3
    have c3b2 : (l0.length == l1.length) = false := by first | simpa using c3 | (simp at c3 ⊢; omega)
    exact absurd ((Option.some.inj H).trans hr_.out) (by decide)

end Go.Proofs.Ythgmmebkjhjgcaa.Pr

namespace Go.Proofs.Ythgmmebkjhjgcaa.Lw
open Go.RowKit Go.Proofs.YthgmmebkjhjgcaaW.PrintWords Go.Proofs.Ythgmmebkjhjgcaa.Pr Go.Proofs.Ythgmmebkjhjgcaa.Evs
set_option linter.unusedVariables false
theorem rdInt (p s : List Int) (x : Int) : rd (p ++ x :: s) (p.length : Int) = x := by unfold rd; exact getD_mid' p s x _ _ rfl
theorem eqIntS_loop (s : List Int) : ∀ (p : List Int), p.length + s.length < 9223372036854775807 → Ev (fun k => laws_eqIntS.l0 k (p ++ s) (p ++ s) (p.length : Int)) true := by
  induction s with
  | nil => intro p hl; exact ev_step (fun k => laws_eqIntS.l0.eq_2 _ _ _ k) (ev_neg (by simp) (ev_some _))
  | cons x s ih =>
    intro p hl
    simp at hl
    refine ev_step (fun k => laws_eqIntS.l0.eq_2 _ _ _ k) (ev_pos (by simp; omega) (ev_pos (by omega) (ev_pos (by simp; omega) ?_)))
    refine ev_pos (by first | rfl | simp) ?_
    rw [wrap_succ (by omega) (by omega)]
    simpa using ih (p ++ [x]) (by simp; omega)
theorem eqIntS_ev (l : List Int) (hl : l.length < 9223372036854775807) : Ev (fun k => laws_eqIntS.f k l l) true := by
  unfold laws_eqIntS.f
  refine ev_pos rfl ?_
  simpa using eqIntS_loop l [] (by simp; omega)
end Go.Proofs.Ythgmmebkjhjgcaa.Lw
