/- ring.Mul where neither is infinite. -/
import Derived.Test.YtblfingmdipopaaGreatM22
namespace Go.Proofs.YtblfingmdipopaaGreat
set_option linter.unusedSimpArgs false
set_option linter.unusedVariables false
open Go.ChangeShapes Go.WideShapes Go.ChangeAt Go.RowKit
open Go.RowKit (wrap32 wrap64)
set_option maxHeartbeats 8000000
set_option maxRecDepth 100000 in
theorem mulNear1 (a x : Int) (ha : 0 ≤ a ∧ a < infV) (hx : 0 ≤ x ∧ x < infV) (w : World) : Calls Tryz.prog 84 #[.int .i64 1, .int .i64 a, .int .i64 x] w fun e w' => e = .returned (wdV (wOf (mulV 1 a x))) ∧ Kept [] w w' := by
  have HZ := Lib.hid (Blk.new w 100 (wdC (0, 0)))
  have K0 := Lib.hid ((Kept.refl [] w).alloc (.cells (wdC (0, 0)).toArray 100))
  have hmx : max a x < 4611686018427387904 := by unfold infV at *; omega
  obtain ⟨z, hz⟩ : ∃ z, z = mulV 1 a x := ⟨_, rfl⟩
  rw [← hz]
  have HADD := Lib.hid (show wAdd (wOf a) (wOf x) = wOf (a + x) from wAdd_pos (by omega) hx)
  have HMIN := Lib.hid (show wMin (wOf 4611686018427387904) (wOf (a + x)) = wOf z by
    unfold infV at *
    rw [wMin_pos (by omega) (by omega), hz]
    unfold mulV infV
    refine congrArg wOf ?_
    simp only [show ¬ (1 : Int) = 2 by decide, show ¬ (1 : Int) = 4 by decide, if_false]
    clear hz hmx
    by_cases h : (4611686018427387904 : Int) ≤ a + x
    · rw [if_neg (by omega), if_neg (by omega), if_pos h]
    · rw [if_pos (by omega), if_neg (by omega), if_neg h])
  clear hz
  have h2 : ¬ 4611686018427387904 ≤ a := by unfold infV at ha; omega
  have h3 : ¬ 4611686018427387904 ≤ x := by unfold infV at hx; omega
  by_cases h1 : x ≤ a
  all_goals
    have HY := Lib.hid (Blk.new1F w (.cells (wdC (0, 0)).toArray 100) 100 (wdC (0, 0)))
    have HZ2 := Lib.hid (HZ.out.alloc (.cells (wdC (0, 0)).toArray 100))
    have K2 := Lib.hid (K0.out.alloc (.cells (wdC (0, 0)).toArray 100))
    clear HZ K0
    go_enter Tryz.func84, Tryz.ntmps84
    go_wp2_with fail
    refine (ringIs_any _ _).mono ?_
    rintro _ w2 ⟨rfl, rfl⟩
    rw [show ringIs 1 = true from by decide]
    go_upto_region 13 with (first | (refine wpList_storeBlk rfl 100 (.tmp 7) (.tmp 32) rfl (w.heap.size + 1) _ (wdC (0, 0)) HY.out rfl rfl rfl infoWide (by simp [Value.oneCell']) ?_; intro w4 hb4 hk4))
    have HV := Lib.hid hb4
    have HZ := Lib.hid (HZ2.out.kept hk4 (by simp))
    have K0 := Lib.hid (K2.out.then hk4 (fun m hm => by simp at hm; subst hm; exact .inr (by omega)))
    clear hk4 hb4 HY HZ2 K2
    go_wp2_with fail
    refine (of_any a (by unfold In64; omega) _).mono ?_
    rintro _ w5 ⟨rfl, hk⟩
    replace HV := Lib.hid (HV.out.kept hk (by simp))
    replace HZ := Lib.hid (HZ.out.kept hk (by simp))
    replace K0 := Lib.hid (K0.out.trans hk)
    clear hk
    go_upto_region 14 with (first | (refine wpList_storeBlk rfl 100 (.tmp 7) (.tmp 41) rfl (w.heap.size + 1) _ (wdC (wOf a)) HV.out rfl rfl rfl infoWide (by simp [Value.oneCell']) ?_; intro w6 hb6 hk6))
    replace HV := Lib.hid hb6
    replace HZ := Lib.hid (HZ.out.kept hk6 (by simp))
    replace K0 := Lib.hid (K0.out.then hk6 (fun m hm => by simp at hm; subst hm; exact .inr (by omega)))
    clear hb6 hk6
    refine wp_region_held_drew (S := (fun w' => w'.rangeAt (w.heap.size + 1) 0 (wdC (wOf a)))) (by kernel_rfl) ?_ (fun hHeld => ?_)
    · exact HV.out.cell2
    replace HV := Lib.hid HV.out.drew
    replace HZ := Lib.hid HZ.out.drew
    replace K0 := Lib.hid K0.out.drew
    generalize w6.drew = w7 at *
    refine tkLoad (i := 1) 100 (.tmp 7) (w.heap.size + 1) (0) (wdC (wOf a)) _ rfl rfl (by kernel_rfl) (by kernel_rfl) (by kernel_rfl) (fun _ _ _ h => h) (by rfl) rfl rfl (fun w hw => hw) Tryz.underlying100 rfl infoWide (by assumption) ?_
    try simp only [Act.put, List.setIfInBounds_toArray, List.set_cons_zero, List.set_cons_succ]
    refine tkYes (i := 2) (v := ?_) rfl rfl (by kernel_rfl) (by kernel_rfl) (by kernel_rfl) (fun _ _ _ h => h) (by rfl) ?_ (by assumption) ?_
    rotate_left
    · (intro w' hSw; (try dsimp only at hSw); go_simp; try with_reducible rfl)
    try simp only [Act.put, List.setIfInBounds_toArray, List.set_cons_zero, List.set_cons_succ]
    refine wpAnyH_ready (rs := [0]) (by kernel_rfl) (by simp) ?_
    refine AllReadyH.cons rfl (fun K hK => ?_) AllReadyH.nil
    go_simp
    refine (of_any 4611686018427387904 (by unfold In64; omega) _).mono ?_
    rintro _ y1 ⟨rfl, hk⟩
    replace HV := Lib.hid (HV.out.kept hk (by simp))
    replace HZ := Lib.hid (HZ.out.kept hk (by simp))
    replace K0 := Lib.hid (K0.out.trans hk)
    clear hk
    go_wp2_with fail
    refine hK.out _ _ ?_ (fun hHeld => ?_)
    · exact HV.out.cell2
    clear hK K
    try simp only [Act.put, List.setIfInBounds_toArray, List.set_cons_zero, List.set_cons_succ]
    refine wpAnyH_ready (rs := [3]) (by kernel_rfl) (by simp) ?_
    refine AllReadyH.cons rfl (fun K hK => ?_) AllReadyH.nil
    go_simp
    refine (of_any x (by unfold In64; omega) _).mono ?_
    rintro _ y2 ⟨rfl, hk⟩
    replace HV := Lib.hid (HV.out.kept hk (by simp))
    replace HZ := Lib.hid (HZ.out.kept hk (by simp))
    replace K0 := Lib.hid (K0.out.trans hk)
    clear hk
    go_wp2_with fail
    refine hK.out _ _ ?_ (fun hHeld => ?_)
    · exact HV.out.cell2
    clear hK K
    try simp only [Act.put, List.setIfInBounds_toArray, List.set_cons_zero, List.set_cons_succ]
    refine wpAnyH_ready (rs := [4]) (by kernel_rfl) (by simp) ?_
    refine AllReadyH.cons rfl (fun K hK => ?_) AllReadyH.nil
    go_simp
    refine (wideAdd_any (wOf a) (wOf x) (wOf_ok a) (wOf_ok x) _).mono ?_
    rw [show wAdd (wOf a) (wOf x) = wOf (a + x) from HADD.out]
    rintro _ y3 ⟨rfl, hk⟩
    replace HV := Lib.hid (HV.out.kept hk (by simp))
    replace HZ := Lib.hid (HZ.out.kept hk (by simp))
    replace K0 := Lib.hid (K0.out.trans hk)
    clear hk
    go_wp2_with fail
    refine hK.out _ _ ?_ (fun hHeld => ?_)
    · exact HV.out.cell2
    clear hK K
    try simp only [Act.put, List.setIfInBounds_toArray, List.set_cons_zero, List.set_cons_succ]
    refine wpAnyH_ready (rs := [5]) (by kernel_rfl) (by simp) ?_
    refine AllReadyH.cons rfl (fun K hK => ?_) AllReadyH.nil
    go_simp
    refine (lesser_any (wOf 4611686018427387904) (wOf (a + x)) _).mono ?_
    rw [HMIN.out]
    rintro _ y4 ⟨rfl, hk⟩
    replace HV := Lib.hid (HV.out.kept hk (by simp))
    replace HZ := Lib.hid (HZ.out.kept hk (by simp))
    replace K0 := Lib.hid (K0.out.trans hk)
    clear hk
    go_wp2_with fail
    refine hK.out _ _ ?_ (fun hHeld => ?_)
    · exact HV.out.cell2
    clear hK K
    try simp only [Act.put, List.setIfInBounds_toArray, List.set_cons_zero, List.set_cons_succ]
    refine wpAnyH_ready (rs := [6]) (by kernel_rfl) (by simp) ?_
    refine AllReadyH.cons rfl (fun K hK => ?_) AllReadyH.nil
    refine stpBlk rfl 100 (.tmp 6) (.tmp 47) rfl (w.heap.size) _ (wdC (wOf z)) HZ.out rfl rfl rfl infoWide (by simp [Value.oneCell']) ?_
    intro w8 hb8 hk8
    replace HV := Lib.hid (HV.out.kept hk8 (by simp))
    go_simp
    refine hK.out _ _ ?_ (fun hHeld => ?_)
    · exact HV.out.cell2
    clear hK K
    try simp only [Act.put, List.setIfInBounds_toArray, List.set_cons_zero, List.set_cons_succ]
    refine wpAnyH_done (by kernel_rfl) ?_ _
    go_wp2_with fail
    have e0 := hb8.cell 0
    have e1 := hb8.cell 1
    simp only [List.getElem?_cons_zero, List.getElem?_cons_succ] at e0 e1
    refine bodyPost_ret (v := wdV (wOf z)) (by simp [results, Tryz.results84, go_sem, e0, e1]) rfl ?_
    exact ⟨rfl, K0.out.then hk8 (fun m hm => by simp at hm; subst hm; exact .inr (by omega))⟩
set_option maxRecDepth 100000 in
theorem mulNear4 (a x : Int) (ha : 0 ≤ a ∧ a < infV) (hx : 0 ≤ x ∧ x < infV) (w : World) : Calls Tryz.prog 84 #[.int .i64 4, .int .i64 a, .int .i64 x] w fun e w' => e = .returned (wdV (wOf (mulV 4 a x))) ∧ Kept [] w w' := by
  have HZ := Lib.hid (Blk.new w 100 (wdC (0, 0)))
  have K0 := Lib.hid ((Kept.refl [] w).alloc (.cells (wdC (0, 0)).toArray 100))
  have hmx : max a x < 4611686018427387904 := by unfold infV at *; omega
  obtain ⟨z, hz⟩ : ∃ z, z = mulV 4 a x := ⟨_, rfl⟩
  rw [← hz]
  have HADD := Lib.hid (show wAdd (0, 0) (wOf x) = wOf x from by
    have := wAdd_pos (a := 0) (b := x) (by unfold infV; omega) hx
    rw [Int.zero_add] at this
    exact this)
  have HMIN := Lib.hid (show wMin (wOf 4611686018427387904) (wOf x) = wOf z by
    unfold infV at *
    rw [wMin_pos (by omega) (by omega), hz]
    unfold mulV infV
    refine congrArg wOf ?_
    simp only [show ¬ (4 : Int) = 2 by decide, if_true, if_false]
    clear hz hmx
    rw [if_pos (by omega), if_neg (by omega)])
  clear hz
  have h2 : ¬ 4611686018427387904 ≤ a := by unfold infV at ha; omega
  have h3 : ¬ 4611686018427387904 ≤ x := by unfold infV at hx; omega
  by_cases h1 : x ≤ a
  all_goals
    have HY := Lib.hid (Blk.new1F w (.cells (wdC (0, 0)).toArray 100) 100 (wdC (0, 0)))
    have HZ2 := Lib.hid (HZ.out.alloc (.cells (wdC (0, 0)).toArray 100))
    have K2 := Lib.hid (K0.out.alloc (.cells (wdC (0, 0)).toArray 100))
    clear HZ K0
    go_enter Tryz.func84, Tryz.ntmps84
    go_wp2_with fail
    refine (ringIs_any _ _).mono ?_
    rintro _ w2 ⟨rfl, rfl⟩
    rw [show ringIs 4 = true from by decide]
    go_upto_region 14 with (first | (refine wpList_storeBlk rfl 100 (.tmp 7) (.tmp 32) rfl (w.heap.size + 1) _ (wdC (0, 0)) HY.out rfl rfl rfl infoWide (by simp [Value.oneCell']) ?_; intro w4 hb4 hk4))
    have HV := Lib.hid hb4
    have HZ := Lib.hid (HZ2.out.kept hk4 (by simp))
    have K0 := Lib.hid (K2.out.then hk4 (fun m hm => by simp at hm; subst hm; exact .inr (by omega)))
    clear hk4 hb4 HY HZ2 K2
    refine wp_region_held_drew (S := (fun w' => w'.rangeAt (w.heap.size + 1) 0 (wdC ((0, 0))))) (by kernel_rfl) ?_ (fun hHeld => ?_)
    · exact HV.out.cell2
    replace HV := Lib.hid HV.out.drew
    replace HZ := Lib.hid HZ.out.drew
    replace K0 := Lib.hid K0.out.drew
    generalize w4.drew = w7 at *
    refine tkLoad (i := 1) 100 (.tmp 7) (w.heap.size + 1) (0) (wdC ((0, 0))) _ rfl rfl (by kernel_rfl) (by kernel_rfl) (by kernel_rfl) (fun _ _ _ h => h) (by rfl) rfl rfl (fun w hw => hw) Tryz.underlying100 rfl infoWide (by assumption) ?_
    try simp only [Act.put, List.setIfInBounds_toArray, List.set_cons_zero, List.set_cons_succ]
    refine tkYes (i := 2) (v := ?_) rfl rfl (by kernel_rfl) (by kernel_rfl) (by kernel_rfl) (fun _ _ _ h => h) (by rfl) ?_ (by assumption) ?_
    rotate_left
    · (intro w' hSw; (try dsimp only at hSw); go_simp; try with_reducible rfl)
    try simp only [Act.put, List.setIfInBounds_toArray, List.set_cons_zero, List.set_cons_succ]
    refine wpAnyH_ready (rs := [0]) (by kernel_rfl) (by simp) ?_
    refine AllReadyH.cons rfl (fun K hK => ?_) AllReadyH.nil
    go_simp
    refine (of_any 4611686018427387904 (by unfold In64; omega) _).mono ?_
    rintro _ y1 ⟨rfl, hk⟩
    replace HV := Lib.hid (HV.out.kept hk (by simp))
    replace HZ := Lib.hid (HZ.out.kept hk (by simp))
    replace K0 := Lib.hid (K0.out.trans hk)
    clear hk
    go_wp2_with fail
    refine hK.out _ _ ?_ (fun hHeld => ?_)
    · exact HV.out.cell2
    clear hK K
    try simp only [Act.put, List.setIfInBounds_toArray, List.set_cons_zero, List.set_cons_succ]
    refine wpAnyH_ready (rs := [3]) (by kernel_rfl) (by simp) ?_
    refine AllReadyH.cons rfl (fun K hK => ?_) AllReadyH.nil
    go_simp
    refine (of_any x (by unfold In64; omega) _).mono ?_
    rintro _ y2 ⟨rfl, hk⟩
    replace HV := Lib.hid (HV.out.kept hk (by simp))
    replace HZ := Lib.hid (HZ.out.kept hk (by simp))
    replace K0 := Lib.hid (K0.out.trans hk)
    clear hk
    go_wp2_with fail
    refine hK.out _ _ ?_ (fun hHeld => ?_)
    · exact HV.out.cell2
    clear hK K
    try simp only [Act.put, List.setIfInBounds_toArray, List.set_cons_zero, List.set_cons_succ]
    refine wpAnyH_ready (rs := [4]) (by kernel_rfl) (by simp) ?_
    refine AllReadyH.cons rfl (fun K hK => ?_) AllReadyH.nil
    go_simp
    refine (wideAdd_any ((0, 0)) (wOf x) (by unfold WdOk In64; decide) (wOf_ok x) _).mono ?_
    rw [show wAdd ((0, 0)) (wOf x) = wOf (x) from HADD.out]
    rintro _ y3 ⟨rfl, hk⟩
    replace HV := Lib.hid (HV.out.kept hk (by simp))
    replace HZ := Lib.hid (HZ.out.kept hk (by simp))
    replace K0 := Lib.hid (K0.out.trans hk)
    clear hk
    go_wp2_with fail
    refine hK.out _ _ ?_ (fun hHeld => ?_)
    · exact HV.out.cell2
    clear hK K
    try simp only [Act.put, List.setIfInBounds_toArray, List.set_cons_zero, List.set_cons_succ]
    refine wpAnyH_ready (rs := [5]) (by kernel_rfl) (by simp) ?_
    refine AllReadyH.cons rfl (fun K hK => ?_) AllReadyH.nil
    go_simp
    refine (lesser_any (wOf 4611686018427387904) (wOf (x)) _).mono ?_
    rw [HMIN.out]
    rintro _ y4 ⟨rfl, hk⟩
    replace HV := Lib.hid (HV.out.kept hk (by simp))
    replace HZ := Lib.hid (HZ.out.kept hk (by simp))
    replace K0 := Lib.hid (K0.out.trans hk)
    clear hk
    go_wp2_with fail
    refine hK.out _ _ ?_ (fun hHeld => ?_)
    · exact HV.out.cell2
    clear hK K
    try simp only [Act.put, List.setIfInBounds_toArray, List.set_cons_zero, List.set_cons_succ]
    refine wpAnyH_ready (rs := [6]) (by kernel_rfl) (by simp) ?_
    refine AllReadyH.cons rfl (fun K hK => ?_) AllReadyH.nil
    refine stpBlk rfl 100 (.tmp 6) (.tmp 47) rfl (w.heap.size) _ (wdC (wOf z)) HZ.out rfl rfl rfl infoWide (by simp [Value.oneCell']) ?_
    intro w8 hb8 hk8
    replace HV := Lib.hid (HV.out.kept hk8 (by simp))
    go_simp
    refine hK.out _ _ ?_ (fun hHeld => ?_)
    · exact HV.out.cell2
    clear hK K
    try simp only [Act.put, List.setIfInBounds_toArray, List.set_cons_zero, List.set_cons_succ]
    refine wpAnyH_done (by kernel_rfl) ?_ _
    go_wp2_with fail
    have e0 := hb8.cell 0
    have e1 := hb8.cell 1
    simp only [List.getElem?_cons_zero, List.getElem?_cons_succ] at e0 e1
    refine bodyPost_ret (v := wdV (wOf z)) (by simp [results, Tryz.results84, go_sem, e0, e1]) rfl ?_
    exact ⟨rfl, K0.out.then hk8 (fun m hm => by simp at hm; subst hm; exact .inr (by omega))⟩
theorem mul_val {r a x : Int} (hr : RingV r) (ha : OkV r a) (hx : OkV r x) (w : World) : Calls Tryz.prog 84 #[.int .i64 r, .int .i64 a, .int .i64 x] w fun e w' => e = .returned (wdV (wOf (mulV r a x))) ∧ Kept [] w w' := by
  have a1 := okV_in ha
  have x1 := okV_in hx
  rcases hr with rfl | rfl | rfl
  · by_cases h : infV ≤ a ∨ infV ≤ x
    · exact mulFar 1 a x (.inl rfl) a1 x1 h w
    · exact mulNear1 a x (by omega) (by omega) w
  · exact mul2 a x w
  · by_cases h : infV ≤ a ∨ infV ≤ x
    · exact mulFar 4 a x (.inr rfl) a1 x1 h w
    · exact mulNear4 a x (by omega) (by omega) w
end Go.Proofs.YtblfingmdipopaaGreat
