/- Rings: the reference's sums. -/
import Derived.Test.YtblfingmdipopaaGreatM07
namespace Go.Proofs.YtblfingmdipopaaGreat
set_option linter.unusedSimpArgs false
set_option linter.unusedVariables false
open Go.ChangeShapes Go.WideShapes Go.ChangeAt Go.RowKit
open Go.RowKit (wrap32 wrap64)
set_option maxHeartbeats 4000000
theorem wCmp_cases (a b : Wd) : wCmp a b = if a.1 < b.1 ∨ (a.1 = b.1 ∧ a.2 < b.2) then -1 else if a = b then 0 else 1 := by
  obtain ⟨a1, a2⟩ := a
  obtain ⟨b1, b2⟩ := b
  unfold wCmp orI cmpI
  dsimp only
  by_cases h1 : a1 < b1
  · simp [h1]
  · by_cases h2 : b1 < a1
    · have h3 : ¬ a1 = b1 := by omega
      simp [h1, h2, h3]
    · obtain rfl : a1 = b1 := by omega
      by_cases h4 : a2 < b2
      · have : (a2 : Int) < b2 := by omega
        simp [h4]
      · by_cases h5 : b2 < a2
        · have h6 : ¬ a2 = b2 := by omega
          simp [h4, h5, h6]
        · obtain rfl : a2 = b2 := by omega
          simp
set_option maxRecDepth 100000 in
theorem refCompare_any (a b : Wd) (w : World) : Calls Tryz.prog 123 #[wdV a, wdV b] w fun e w' => e = .returned (.int .i64 (wCmp a b)) ∧ Kept [] w w' := by
  obtain ⟨a1, a2⟩ := a
  obtain ⟨b1, b2⟩ := b
  rw [wCmp_cases]
  dsimp only
  have F3 := guardWide
  have q0 := fun w => eqlWide (a1, a2) (b1, b2) w
  dsimp only at q0
  have HX := Lib.hid ((Blk.new w 100 (wdC (a1, a2))).alloc (.cells (wdC (b1, b2)).toArray 100))
  have HY := Lib.hid (Blk.new1F w (.cells (wdC (a1, a2)).toArray 100) 100 (wdC (b1, b2)))
  by_cases h1 : a1 < b1
  · rw [if_pos (.inl h1)]
    clear q0
    go_enter Tryz.func123, Tryz.ntmps123
    go_wp2
    go_ret
    exact ⟨rfl, ((Kept.refl _ _).alloc _).alloc _⟩
  by_cases h2 : a1 = b1
  · subst h2
    by_cases h3 : a2 < b2
    · rw [if_pos (.inr ⟨rfl, h3⟩)]
      have h4 : (a2 : Int) < (b2 : Int) := by omega
      clear q0
      go_enter Tryz.func123, Tryz.ntmps123
      go_wp2
      go_ret
      exact ⟨rfl, ((Kept.refl _ _).alloc _).alloc _⟩
    · rw [if_neg (by omega)]
      have h4 : ¬ (a2 : Int) < (b2 : Int) := by omega
      by_cases he : a2 = b2
      · subst he
        have q1 : ∀ w, (binOp .eql 100 (.agg #[.int .i64 a1, .int .u64 (a2 : Int)]) (.agg #[.int .i64 a1, .int .u64 (a2 : Int)])).run Tryz.prog w = .ok (.bool true) w := fun w => (q0 w).trans (by simp)
        rw [if_pos rfl]
        clear q0 h1 h3 h4
        go_enter Tryz.func123, Tryz.ntmps123
        go_wp2
        go_ret
        exact ⟨rfl, ((Kept.refl _ _).alloc _).alloc _⟩
      · have hne : ¬ (a1, a2) = (a1, b2) := by simpa using he
        have q1 : ∀ w, (binOp .eql 100 (.agg #[.int .i64 a1, .int .u64 (a2 : Int)]) (.agg #[.int .i64 a1, .int .u64 (b2 : Int)])).run Tryz.prog w = .ok (.bool false) w := fun w => (q0 w).trans (by rw [decide_eq_false hne])
        rw [if_neg hne]
        clear q0 hne he h1
        go_enter Tryz.func123, Tryz.ntmps123
        go_wp2
        go_ret
        exact ⟨rfl, ((Kept.refl _ _).alloc _).alloc _⟩
  · have hne : ¬ (a1, a2) = (b1, b2) := fun h => h2 (congrArg Prod.fst h)
    have q1 : ∀ w, (binOp .eql 100 (.agg #[.int .i64 a1, .int .u64 (a2 : Int)]) (.agg #[.int .i64 b1, .int .u64 (b2 : Int)])).run Tryz.prog w = .ok (.bool false) w := fun w => (q0 w).trans (by rw [decide_eq_false hne])
    rw [if_neg (by omega), if_neg hne]
    clear q0 hne
    go_enter Tryz.func123, Tryz.ntmps123
    go_wp2
    go_ret
    exact ⟨rfl, ((Kept.refl _ _).alloc _).alloc _⟩
set_option maxRecDepth 100000 in
theorem refRingAdd_any (r : Int) (a b : Wd) (ha : WdOk a) (hb : WdOk b) (w : World) : Calls Tryz.prog 82 #[.int .i64 r, wdV a, wdV b] w fun e w' => e = .returned (wdV (rAdd r a b)) ∧ Kept [] w w' := by
  have HA := Blk.new ((w.alloc (.cells (wdC a).toArray 100)).alloc (.cells (wdC b).toArray 100)) 100 (wdC (0, 0))
  rw [show ((w.alloc (.cells (wdC a).toArray 100)).alloc (.cells (wdC b).toArray 100)).heap.size = w.heap.size + 1 + 1 by simp] at HA
  have HZ := Lib.hid HA
  clear HA
  have HX := Lib.hid (((Blk.new w 100 (wdC a)).alloc (.cells (wdC b).toArray 100)).alloc (.cells (wdC (0, 0)).toArray 100))
  have HY := Lib.hid ((Blk.new1F w (.cells (wdC a).toArray 100) 100 (wdC b)).alloc (.cells (wdC (0, 0)).toArray 100))
  have K0 := Lib.hid ((((Kept.refl [] w).alloc (.cells (wdC a).toArray 100)).alloc (.cells (wdC b).toArray 100)).alloc (.cells (wdC (0, 0)).toArray 100))
  have HA := Lib.hid ha
  have HB := Lib.hid hb
  clear ha hb
  by_cases r1 : r = 1
  · subst r1
    rw [show rAdd 1 a b = wMin a b from rfl]
    unfold wMin
    by_cases h : wCmp a b ≤ 0
    · rw [if_pos h]
      have h2 : ¬ wCmp b a < 0 := by rw [wCmp_anti]; omega
      clear h
      go_enter Tryz.func82, Tryz.ntmps82
      go_wp2_with (first | (refine wpList_loadBlk rfl 100 (.tmp 4) rfl w.heap.size (wdC a) _ HX.out rfl Tryz.underlying100 rfl infoWide ?_) | (refine wpList_loadBlk rfl 100 (.tmp 5) rfl (w.heap.size + 1) (wdC b) _ HY.out rfl Tryz.underlying100 rfl infoWide ?_))
      refine (refCompare_any b a _).mono ?_
      rintro _ w3 ⟨rfl, hk⟩
      replace HX := Lib.hid (HX.out.kept hk (by simp))
      replace HY := Lib.hid (HY.out.kept hk (by simp))
      replace HZ := Lib.hid (HZ.out.kept hk (by simp))
      replace K0 := Lib.hid (K0.out.trans hk)
      clear hk
      go_wp2_with (first | (refine wpList_loadBlk rfl 100 (.tmp 4) rfl w.heap.size (wdC a) _ HX.out rfl Tryz.underlying100 rfl infoWide ?_) | (refine wpList_loadBlk rfl 100 (.tmp 5) rfl (w.heap.size + 1) (wdC b) _ HY.out rfl Tryz.underlying100 rfl infoWide ?_) | (refine wpList_storeBlk rfl 100 (.tmp 6) (.tmp 18) rfl (w.heap.size + 1 + 1) _ (wdC a) HZ.out rfl rfl rfl infoWide (by simp [Value.oneCell']) ?_; intro w8 hb8 hk8))
      have e0 := hb8.cell 0
      have e1 := hb8.cell 1
      simp only [List.getElem?_cons_zero, List.getElem?_cons_succ] at e0 e1
      refine bodyPost_ret (v := wdV a) (by simp [results, Tryz.results82, go_sem, e0, e1]) rfl ?_
      exact ⟨rfl, K0.out.then hk8 (fun m hm => by simp at hm; subst hm; exact .inr (by omega))⟩
    · rw [if_neg h]
      have h2 : wCmp b a < 0 := by rw [wCmp_anti]; omega
      clear h
      go_enter Tryz.func82, Tryz.ntmps82
      go_wp2_with (first | (refine wpList_loadBlk rfl 100 (.tmp 4) rfl w.heap.size (wdC a) _ HX.out rfl Tryz.underlying100 rfl infoWide ?_) | (refine wpList_loadBlk rfl 100 (.tmp 5) rfl (w.heap.size + 1) (wdC b) _ HY.out rfl Tryz.underlying100 rfl infoWide ?_))
      refine (refCompare_any b a _).mono ?_
      rintro _ w3 ⟨rfl, hk⟩
      replace HX := Lib.hid (HX.out.kept hk (by simp))
      replace HY := Lib.hid (HY.out.kept hk (by simp))
      replace HZ := Lib.hid (HZ.out.kept hk (by simp))
      replace K0 := Lib.hid (K0.out.trans hk)
      clear hk
      go_wp2_with (first | (refine wpList_loadBlk rfl 100 (.tmp 4) rfl w.heap.size (wdC a) _ HX.out rfl Tryz.underlying100 rfl infoWide ?_) | (refine wpList_loadBlk rfl 100 (.tmp 5) rfl (w.heap.size + 1) (wdC b) _ HY.out rfl Tryz.underlying100 rfl infoWide ?_) | (refine wpList_storeBlk rfl 100 (.tmp 6) (.tmp 17) rfl (w.heap.size + 1 + 1) _ (wdC b) HZ.out rfl rfl rfl infoWide (by simp [Value.oneCell']) ?_; intro w8 hb8 hk8))
      have e0 := hb8.cell 0
      have e1 := hb8.cell 1
      simp only [List.getElem?_cons_zero, List.getElem?_cons_succ] at e0 e1
      refine bodyPost_ret (v := wdV b) (by simp [results, Tryz.results82, go_sem, e0, e1]) rfl ?_
      exact ⟨rfl, K0.out.then hk8 (fun m hm => by simp at hm; subst hm; exact .inr (by omega))⟩
  by_cases r3 : r = 3
  · subst r3
    rw [show rAdd 3 a b = wMin a b from rfl]
    unfold wMin
    by_cases h : wCmp a b ≤ 0
    · rw [if_pos h]
      have h2 : ¬ wCmp b a < 0 := by rw [wCmp_anti]; omega
      clear h
      go_enter Tryz.func82, Tryz.ntmps82
      go_wp2_with (first | (refine wpList_loadBlk rfl 100 (.tmp 4) rfl w.heap.size (wdC a) _ HX.out rfl Tryz.underlying100 rfl infoWide ?_) | (refine wpList_loadBlk rfl 100 (.tmp 5) rfl (w.heap.size + 1) (wdC b) _ HY.out rfl Tryz.underlying100 rfl infoWide ?_))
      refine (refCompare_any b a _).mono ?_
      rintro _ w3 ⟨rfl, hk⟩
      replace HX := Lib.hid (HX.out.kept hk (by simp))
      replace HY := Lib.hid (HY.out.kept hk (by simp))
      replace HZ := Lib.hid (HZ.out.kept hk (by simp))
      replace K0 := Lib.hid (K0.out.trans hk)
      clear hk
      go_wp2_with (first | (refine wpList_loadBlk rfl 100 (.tmp 4) rfl w.heap.size (wdC a) _ HX.out rfl Tryz.underlying100 rfl infoWide ?_) | (refine wpList_loadBlk rfl 100 (.tmp 5) rfl (w.heap.size + 1) (wdC b) _ HY.out rfl Tryz.underlying100 rfl infoWide ?_) | (refine wpList_storeBlk rfl 100 (.tmp 6) (.tmp 18) rfl (w.heap.size + 1 + 1) _ (wdC a) HZ.out rfl rfl rfl infoWide (by simp [Value.oneCell']) ?_; intro w8 hb8 hk8))
      have e0 := hb8.cell 0
      have e1 := hb8.cell 1
      simp only [List.getElem?_cons_zero, List.getElem?_cons_succ] at e0 e1
      refine bodyPost_ret (v := wdV a) (by simp [results, Tryz.results82, go_sem, e0, e1]) rfl ?_
      exact ⟨rfl, K0.out.then hk8 (fun m hm => by simp at hm; subst hm; exact .inr (by omega))⟩
    · rw [if_neg h]
      have h2 : wCmp b a < 0 := by rw [wCmp_anti]; omega
      clear h
      go_enter Tryz.func82, Tryz.ntmps82
      go_wp2_with (first | (refine wpList_loadBlk rfl 100 (.tmp 4) rfl w.heap.size (wdC a) _ HX.out rfl Tryz.underlying100 rfl infoWide ?_) | (refine wpList_loadBlk rfl 100 (.tmp 5) rfl (w.heap.size + 1) (wdC b) _ HY.out rfl Tryz.underlying100 rfl infoWide ?_))
      refine (refCompare_any b a _).mono ?_
      rintro _ w3 ⟨rfl, hk⟩
      replace HX := Lib.hid (HX.out.kept hk (by simp))
      replace HY := Lib.hid (HY.out.kept hk (by simp))
      replace HZ := Lib.hid (HZ.out.kept hk (by simp))
      replace K0 := Lib.hid (K0.out.trans hk)
      clear hk
      go_wp2_with (first | (refine wpList_loadBlk rfl 100 (.tmp 4) rfl w.heap.size (wdC a) _ HX.out rfl Tryz.underlying100 rfl infoWide ?_) | (refine wpList_loadBlk rfl 100 (.tmp 5) rfl (w.heap.size + 1) (wdC b) _ HY.out rfl Tryz.underlying100 rfl infoWide ?_) | (refine wpList_storeBlk rfl 100 (.tmp 6) (.tmp 17) rfl (w.heap.size + 1 + 1) _ (wdC b) HZ.out rfl rfl rfl infoWide (by simp [Value.oneCell']) ?_; intro w8 hb8 hk8))
      have e0 := hb8.cell 0
      have e1 := hb8.cell 1
      simp only [List.getElem?_cons_zero, List.getElem?_cons_succ] at e0 e1
      refine bodyPost_ret (v := wdV b) (by simp [results, Tryz.results82, go_sem, e0, e1]) rfl ?_
      exact ⟨rfl, K0.out.then hk8 (fun m hm => by simp at hm; subst hm; exact .inr (by omega))⟩
  by_cases r4 : r = 4
  · subst r4
    rw [show rAdd 4 a b = wMin a b from rfl]
    unfold wMin
    by_cases h : wCmp a b ≤ 0
    · rw [if_pos h]
      have h2 : ¬ wCmp b a < 0 := by rw [wCmp_anti]; omega
      clear h
      go_enter Tryz.func82, Tryz.ntmps82
      go_wp2_with (first | (refine wpList_loadBlk rfl 100 (.tmp 4) rfl w.heap.size (wdC a) _ HX.out rfl Tryz.underlying100 rfl infoWide ?_) | (refine wpList_loadBlk rfl 100 (.tmp 5) rfl (w.heap.size + 1) (wdC b) _ HY.out rfl Tryz.underlying100 rfl infoWide ?_))
      refine (refCompare_any b a _).mono ?_
      rintro _ w3 ⟨rfl, hk⟩
      replace HX := Lib.hid (HX.out.kept hk (by simp))
      replace HY := Lib.hid (HY.out.kept hk (by simp))
      replace HZ := Lib.hid (HZ.out.kept hk (by simp))
      replace K0 := Lib.hid (K0.out.trans hk)
      clear hk
      go_wp2_with (first | (refine wpList_loadBlk rfl 100 (.tmp 4) rfl w.heap.size (wdC a) _ HX.out rfl Tryz.underlying100 rfl infoWide ?_) | (refine wpList_loadBlk rfl 100 (.tmp 5) rfl (w.heap.size + 1) (wdC b) _ HY.out rfl Tryz.underlying100 rfl infoWide ?_) | (refine wpList_storeBlk rfl 100 (.tmp 6) (.tmp 18) rfl (w.heap.size + 1 + 1) _ (wdC a) HZ.out rfl rfl rfl infoWide (by simp [Value.oneCell']) ?_; intro w8 hb8 hk8))
      have e0 := hb8.cell 0
      have e1 := hb8.cell 1
      simp only [List.getElem?_cons_zero, List.getElem?_cons_succ] at e0 e1
      refine bodyPost_ret (v := wdV a) (by simp [results, Tryz.results82, go_sem, e0, e1]) rfl ?_
      exact ⟨rfl, K0.out.then hk8 (fun m hm => by simp at hm; subst hm; exact .inr (by omega))⟩
    · rw [if_neg h]
      have h2 : wCmp b a < 0 := by rw [wCmp_anti]; omega
      clear h
      go_enter Tryz.func82, Tryz.ntmps82
      go_wp2_with (first | (refine wpList_loadBlk rfl 100 (.tmp 4) rfl w.heap.size (wdC a) _ HX.out rfl Tryz.underlying100 rfl infoWide ?_) | (refine wpList_loadBlk rfl 100 (.tmp 5) rfl (w.heap.size + 1) (wdC b) _ HY.out rfl Tryz.underlying100 rfl infoWide ?_))
      refine (refCompare_any b a _).mono ?_
      rintro _ w3 ⟨rfl, hk⟩
      replace HX := Lib.hid (HX.out.kept hk (by simp))
      replace HY := Lib.hid (HY.out.kept hk (by simp))
      replace HZ := Lib.hid (HZ.out.kept hk (by simp))
      replace K0 := Lib.hid (K0.out.trans hk)
      clear hk
      go_wp2_with (first | (refine wpList_loadBlk rfl 100 (.tmp 4) rfl w.heap.size (wdC a) _ HX.out rfl Tryz.underlying100 rfl infoWide ?_) | (refine wpList_loadBlk rfl 100 (.tmp 5) rfl (w.heap.size + 1) (wdC b) _ HY.out rfl Tryz.underlying100 rfl infoWide ?_) | (refine wpList_storeBlk rfl 100 (.tmp 6) (.tmp 17) rfl (w.heap.size + 1 + 1) _ (wdC b) HZ.out rfl rfl rfl infoWide (by simp [Value.oneCell']) ?_; intro w8 hb8 hk8))
      have e0 := hb8.cell 0
      have e1 := hb8.cell 1
      simp only [List.getElem?_cons_zero, List.getElem?_cons_succ] at e0 e1
      refine bodyPost_ret (v := wdV b) (by simp [results, Tryz.results82, go_sem, e0, e1]) rfl ?_
      exact ⟨rfl, K0.out.then hk8 (fun m hm => by simp at hm; subst hm; exact .inr (by omega))⟩
  by_cases r2 : r = 2
  · subst r2
    have F3 := guardWide
    have q1 : ∀ w, (binOp .neq 100 (.agg #[.int .i64 a.1, .int .u64 (a.2 : Int)]) (.agg #[.int .i64 0, .int .u64 0])).run Tryz.prog w = .ok (.bool (!decide (a = (0, 0)))) w := fun w => neqWide a (0, 0) w
    have q2 : ∀ w, (binOp .neq 100 (.agg #[.int .i64 b.1, .int .u64 (b.2 : Int)]) (.agg #[.int .i64 0, .int .u64 0])).run Tryz.prog w = .ok (.bool (!decide (b = (0, 0)))) w := fun w => neqWide b (0, 0) w
    rw [show rAdd 2 a b = wTruth (!decide (a = b) || !decide (a = (0, 0))) from rfl]
    rw [show (!decide (a = b) || !decide (a = (0, 0))) = (!decide (a = (0, 0)) || !decide (b = (0, 0))) from by
      by_cases h1 : a = (0, 0)
      · subst h1
        by_cases h2 : b = (0, 0)
        · subst h2; simp
        · have h3 : ¬ (0, 0) = b := fun h => h2 h.symm
          simp [h2, h3]
      · simp [h1]]
    by_cases h1 : a = (0, 0)
    · rw [decide_eq_true h1] at q1 ⊢
      clear h1
      generalize decide (b = (0, 0)) = z at q2 ⊢
      rw [show wTruth (!true || !z) = wTruth (!z) by simp]
      cases z
      · go_enter Tryz.func82, Tryz.ntmps82
        go_wp2_with (first | (refine wpList_loadBlk rfl 100 (.tmp 4) rfl w.heap.size (wdC a) _ HX.out rfl Tryz.underlying100 rfl infoWide ?_) | (refine wpList_loadBlk rfl 100 (.tmp 5) rfl (w.heap.size + 1) (wdC b) _ HY.out rfl Tryz.underlying100 rfl infoWide ?_))
        refine (refTruth_any _ _).mono ?_
        rintro _ w3 ⟨rfl, hk⟩
        replace HX := Lib.hid (HX.out.kept hk (by simp))
        replace HY := Lib.hid (HY.out.kept hk (by simp))
        replace HZ := Lib.hid (HZ.out.kept hk (by simp))
        replace K0 := Lib.hid (K0.out.trans hk)
        clear hk
        go_wp2_with (first | (refine wpList_loadBlk rfl 100 (.tmp 4) rfl w.heap.size (wdC a) _ HX.out rfl Tryz.underlying100 rfl infoWide ?_) | (refine wpList_loadBlk rfl 100 (.tmp 5) rfl (w.heap.size + 1) (wdC b) _ HY.out rfl Tryz.underlying100 rfl infoWide ?_) | (refine wpList_storeBlk rfl 100 (.tmp 6) (.tmp 29) rfl (w.heap.size + 1 + 1) _ (wdC (wTruth (!false))) HZ.out rfl rfl rfl infoWide (by simp [Value.oneCell']) ?_; intro w8 hb8 hk8))
        have e0 := hb8.cell 0
        have e1 := hb8.cell 1
        simp only [List.getElem?_cons_zero, List.getElem?_cons_succ] at e0 e1
        refine bodyPost_ret (v := wdV (wTruth (!false))) (by simp [results, Tryz.results82, go_sem, e0, e1]) rfl ?_
        exact ⟨rfl, K0.out.then hk8 (fun m hm => by simp at hm; subst hm; exact .inr (by omega))⟩
      · go_enter Tryz.func82, Tryz.ntmps82
        go_wp2_with (first | (refine wpList_loadBlk rfl 100 (.tmp 4) rfl w.heap.size (wdC a) _ HX.out rfl Tryz.underlying100 rfl infoWide ?_) | (refine wpList_loadBlk rfl 100 (.tmp 5) rfl (w.heap.size + 1) (wdC b) _ HY.out rfl Tryz.underlying100 rfl infoWide ?_))
        refine (refTruth_any _ _).mono ?_
        rintro _ w3 ⟨rfl, hk⟩
        replace HX := Lib.hid (HX.out.kept hk (by simp))
        replace HY := Lib.hid (HY.out.kept hk (by simp))
        replace HZ := Lib.hid (HZ.out.kept hk (by simp))
        replace K0 := Lib.hid (K0.out.trans hk)
        clear hk
        go_wp2_with (first | (refine wpList_loadBlk rfl 100 (.tmp 4) rfl w.heap.size (wdC a) _ HX.out rfl Tryz.underlying100 rfl infoWide ?_) | (refine wpList_loadBlk rfl 100 (.tmp 5) rfl (w.heap.size + 1) (wdC b) _ HY.out rfl Tryz.underlying100 rfl infoWide ?_) | (refine wpList_storeBlk rfl 100 (.tmp 6) (.tmp 29) rfl (w.heap.size + 1 + 1) _ (wdC (wTruth (!true))) HZ.out rfl rfl rfl infoWide (by simp [Value.oneCell']) ?_; intro w8 hb8 hk8))
        have e0 := hb8.cell 0
        have e1 := hb8.cell 1
        simp only [List.getElem?_cons_zero, List.getElem?_cons_succ] at e0 e1
        refine bodyPost_ret (v := wdV (wTruth (!true))) (by simp [results, Tryz.results82, go_sem, e0, e1]) rfl ?_
        exact ⟨rfl, K0.out.then hk8 (fun m hm => by simp at hm; subst hm; exact .inr (by omega))⟩
    · rw [decide_eq_false h1] at q1 ⊢
      clear h1
      generalize decide (b = (0, 0)) = z at q2 ⊢
      rw [show wTruth (!false || !z) = wTruth true by simp]
      go_enter Tryz.func82, Tryz.ntmps82
      go_wp2_with (first | (refine wpList_loadBlk rfl 100 (.tmp 4) rfl w.heap.size (wdC a) _ HX.out rfl Tryz.underlying100 rfl infoWide ?_) | (refine wpList_loadBlk rfl 100 (.tmp 5) rfl (w.heap.size + 1) (wdC b) _ HY.out rfl Tryz.underlying100 rfl infoWide ?_))
      refine (refTruth_any _ _).mono ?_
      rintro _ w3 ⟨rfl, hk⟩
      replace HX := Lib.hid (HX.out.kept hk (by simp))
      replace HY := Lib.hid (HY.out.kept hk (by simp))
      replace HZ := Lib.hid (HZ.out.kept hk (by simp))
      replace K0 := Lib.hid (K0.out.trans hk)
      clear hk
      go_wp2_with (first | (refine wpList_loadBlk rfl 100 (.tmp 4) rfl w.heap.size (wdC a) _ HX.out rfl Tryz.underlying100 rfl infoWide ?_) | (refine wpList_loadBlk rfl 100 (.tmp 5) rfl (w.heap.size + 1) (wdC b) _ HY.out rfl Tryz.underlying100 rfl infoWide ?_) | (refine wpList_storeBlk rfl 100 (.tmp 6) (.tmp 29) rfl (w.heap.size + 1 + 1) _ (wdC (wTruth true)) HZ.out rfl rfl rfl infoWide (by simp [Value.oneCell']) ?_; intro w8 hb8 hk8))
      have e0 := hb8.cell 0
      have e1 := hb8.cell 1
      simp only [List.getElem?_cons_zero, List.getElem?_cons_succ] at e0 e1
      refine bodyPost_ret (v := wdV (wTruth true)) (by simp [results, Tryz.results82, go_sem, e0, e1]) rfl ?_
      exact ⟨rfl, K0.out.then hk8 (fun m hm => by simp at hm; subst hm; exact .inr (by omega))⟩
  by_cases r5 : r = 5
  · subst r5
    rw [show rAdd 5 a b = wAdd a b from rfl]
    go_enter Tryz.func82, Tryz.ntmps82
    go_wp2_with (first | (refine wpList_loadBlk rfl 100 (.tmp 4) rfl w.heap.size (wdC a) _ HX.out rfl Tryz.underlying100 rfl infoWide ?_) | (refine wpList_loadBlk rfl 100 (.tmp 5) rfl (w.heap.size + 1) (wdC b) _ HY.out rfl Tryz.underlying100 rfl infoWide ?_))
    refine (refAdd_any a b HA.out HB.out _).mono ?_
    rintro _ w3 ⟨rfl, hk⟩
    replace HX := Lib.hid (HX.out.kept hk (by simp))
    replace HY := Lib.hid (HY.out.kept hk (by simp))
    replace HZ := Lib.hid (HZ.out.kept hk (by simp))
    replace K0 := Lib.hid (K0.out.trans hk)
    clear hk
    go_wp2_with (first | (refine wpList_loadBlk rfl 100 (.tmp 4) rfl w.heap.size (wdC a) _ HX.out rfl Tryz.underlying100 rfl infoWide ?_) | (refine wpList_loadBlk rfl 100 (.tmp 5) rfl (w.heap.size + 1) (wdC b) _ HY.out rfl Tryz.underlying100 rfl infoWide ?_) | (refine wpList_storeBlk rfl 100 (.tmp 6) (.tmp 34) rfl (w.heap.size + 1 + 1) _ (wdC (wAdd a b)) HZ.out rfl rfl rfl infoWide (by simp [Value.oneCell']) ?_; intro w8 hb8 hk8))
    have e0 := hb8.cell 0
    have e1 := hb8.cell 1
    simp only [List.getElem?_cons_zero, List.getElem?_cons_succ] at e0 e1
    refine bodyPost_ret (v := wdV (wAdd a b)) (by simp [results, Tryz.results82, go_sem, e0, e1]) rfl ?_
    exact ⟨rfl, K0.out.then hk8 (fun m hm => by simp at hm; subst hm; exact .inr (by omega))⟩
  rw [show rAdd r a b = (0, 0) by unfold rAdd; rw [if_neg (by omega), if_neg r2, if_neg r5]]
  go_enter Tryz.func82, Tryz.ntmps82
  go_wp2_with fail
  refine bodyPost_ret (v := wdV (0, 0)) (by simp [results, Tryz.results82, go_sem]) rfl ?_
  exact ⟨rfl, K0.out⟩
end Go.Proofs.YtblfingmdipopaaGreat
