/- Rings: sums. -/
import Derived.Test.YtblfingmdipopaaGreatM06
namespace Go.Proofs.YtblfingmdipopaaGreat
set_option linter.unusedSimpArgs false
set_option linter.unusedVariables false
open Go.ChangeShapes Go.WideShapes Go.ChangeAt Go.RowKit
open Go.RowKit (wrap32 wrap64)
set_option maxHeartbeats 4000000
/-- A truth as a wide number. -/
def wTruth (b : Bool) : Wd := if b then (0, 1) else (0, 0)
theorem truth_any (b : Bool) (w : World) : Calls Tryz.prog 69 #[.bool b] w fun e w' => e = .returned (wdV (wTruth b)) ∧ Kept [] w w' := by
  cases b
  · go_enter Tryz.func69, Tryz.ntmps69
    go_wp2_with fail
    refine bodyPost_ret (v := .agg #[.int .i64 0, .int .u64 0]) (by simp [results, Tryz.results69, go_sem]) rfl ?_
    exact ⟨rfl, (Kept.refl _ _).alloc _⟩
  · have HZ := Lib.hid (Blk.new w 100 (wdC (0, 0)))
    have K0 := Lib.hid ((Kept.refl [] w).alloc (.cells (wdC (0, 0)).toArray 100))
    go_enter Tryz.func69, Tryz.ntmps69
    go_wp2_with fail
    refine (of_any 1 (by unfold In64; omega) _).mono ?_
    rintro _ w3 ⟨rfl, hk⟩
    have HZ := Lib.hid (HZ.out.kept hk (by simp))
    have K0 := Lib.hid (K0.out.trans hk)
    clear hk
    rw [show wOf 1 = (0, 1) from by decide]
    go_wp2_with (first | (refine wpList_storeBlk rfl 100 (.tmp 2) (.tmp 4) rfl w.heap.size _ [.int .i64 0, .int .u64 1] HZ.out rfl rfl rfl infoWide (by simp [Value.oneCell']) ?_; intro w8 hb8 hk8))
    have e0 := hb8.cell 0
    have e1 := hb8.cell 1
    simp only [List.getElem?_cons_zero, List.getElem?_cons_succ] at e0 e1
    refine bodyPost_ret (v := .agg #[.int .i64 0, .int .u64 1]) (by simp [results, Tryz.results69, go_sem, e0, e1]) rfl ?_
    exact ⟨rfl, K0.out.then hk8 (fun m hm => by simp at hm; subst hm; exact .inr (Nat.le_refl _))⟩
theorem refTruth_any (b : Bool) (w : World) : Calls Tryz.prog 124 #[.bool b] w fun e w' => e = .returned (wdV (wTruth b)) ∧ Kept [] w w' := by
  cases b
  · go_enter Tryz.func124, Tryz.ntmps124
    go_wp2_with fail
    refine bodyPost_ret (v := .agg #[.int .i64 0, .int .u64 0]) (by simp [results, Tryz.results124, go_sem]) rfl ?_
    exact ⟨rfl, (Kept.refl _ _).alloc _⟩
  · go_enter Tryz.func124, Tryz.ntmps124
    go_wp2_with fail
    refine bodyPost_ret (v := .agg #[.int .i64 0, .int .u64 1]) (by simp [results, Tryz.results124, go_sem]) rfl ?_
    exact ⟨rfl, (Kept.refl _ _).alloc _⟩
/-- The lesser one. -/
def wMin (a b : Wd) : Wd := if wCmp a b ≤ 0 then a else b
set_option maxRecDepth 100000 in
theorem lesser_any (a b : Wd) (w : World) : Calls Tryz.prog 68 #[wdV a, wdV b] w fun e w' => e = .returned (wdV (wMin a b)) ∧ Kept [] w w' := by
  have HA := Blk.new ((w.alloc (.cells (wdC a).toArray 100)).alloc (.cells (wdC b).toArray 100)) 100 (wdC (0, 0))
  rw [show ((w.alloc (.cells (wdC a).toArray 100)).alloc (.cells (wdC b).toArray 100)).heap.size = w.heap.size + 1 + 1 by simp] at HA
  have HZ := Lib.hid HA
  clear HA
  have HX := Lib.hid (((Blk.new w 100 (wdC a)).alloc (.cells (wdC b).toArray 100)).alloc (.cells (wdC (0, 0)).toArray 100))
  have HY := Lib.hid ((Blk.new1F w (.cells (wdC a).toArray 100) 100 (wdC b)).alloc (.cells (wdC (0, 0)).toArray 100))
  have K0 := Lib.hid ((((Kept.refl [] w).alloc (.cells (wdC a).toArray 100)).alloc (.cells (wdC b).toArray 100)).alloc (.cells (wdC (0, 0)).toArray 100))
  unfold wMin
  by_cases h : wCmp a b ≤ 0
  · rw [if_pos h]
    go_enter Tryz.func68, Tryz.ntmps68
    go_wp2_with (first | (refine wpList_loadBlk rfl 100 (.tmp 2) rfl w.heap.size (wdC a) _ HX.out rfl Tryz.underlying100 rfl infoWide ?_) | (refine wpList_loadBlk rfl 100 (.tmp 3) rfl (w.heap.size + 1) (wdC b) _ HY.out rfl Tryz.underlying100 rfl infoWide ?_))
    refine (wCompare_any a b _).mono ?_
    rintro _ w3 ⟨rfl, hk⟩
    replace HX := Lib.hid (HX.out.kept hk (by simp))
    replace HY := Lib.hid (HY.out.kept hk (by simp))
    replace HZ := Lib.hid (HZ.out.kept hk (by simp))
    replace K0 := Lib.hid (K0.out.trans hk)
    clear hk
    go_wp2_with (first | (refine wpList_loadBlk rfl 100 (.tmp 2) rfl w.heap.size (wdC a) _ HX.out rfl Tryz.underlying100 rfl infoWide ?_) | (refine wpList_loadBlk rfl 100 (.tmp 3) rfl (w.heap.size + 1) (wdC b) _ HY.out rfl Tryz.underlying100 rfl infoWide ?_) | (refine wpList_storeBlk rfl 100 (.tmp 4) (.tmp 9) rfl (w.heap.size + 1 + 1) _ (wdC a) HZ.out rfl rfl rfl infoWide (by simp [Value.oneCell']) ?_; intro w8 hb8 hk8))
    have e0 := hb8.cell 0
    have e1 := hb8.cell 1
    simp only [List.getElem?_cons_zero, List.getElem?_cons_succ] at e0 e1
    refine bodyPost_ret (v := wdV a) (by simp [results, Tryz.results68, go_sem, e0, e1]) rfl ?_
    exact ⟨rfl, K0.out.then hk8 (fun m hm => by simp at hm; subst hm; exact .inr (by omega))⟩
  · rw [if_neg h]
    go_enter Tryz.func68, Tryz.ntmps68
    go_wp2_with (first | (refine wpList_loadBlk rfl 100 (.tmp 2) rfl w.heap.size (wdC a) _ HX.out rfl Tryz.underlying100 rfl infoWide ?_) | (refine wpList_loadBlk rfl 100 (.tmp 3) rfl (w.heap.size + 1) (wdC b) _ HY.out rfl Tryz.underlying100 rfl infoWide ?_))
    refine (wCompare_any a b _).mono ?_
    rintro _ w3 ⟨rfl, hk⟩
    replace HX := Lib.hid (HX.out.kept hk (by simp))
    replace HY := Lib.hid (HY.out.kept hk (by simp))
    replace HZ := Lib.hid (HZ.out.kept hk (by simp))
    replace K0 := Lib.hid (K0.out.trans hk)
    clear hk
    go_wp2_with (first | (refine wpList_loadBlk rfl 100 (.tmp 2) rfl w.heap.size (wdC a) _ HX.out rfl Tryz.underlying100 rfl infoWide ?_) | (refine wpList_loadBlk rfl 100 (.tmp 3) rfl (w.heap.size + 1) (wdC b) _ HY.out rfl Tryz.underlying100 rfl infoWide ?_) | (refine wpList_storeBlk rfl 100 (.tmp 4) (.tmp 10) rfl (w.heap.size + 1 + 1) _ (wdC b) HZ.out rfl rfl rfl infoWide (by simp [Value.oneCell']) ?_; intro w8 hb8 hk8))
    have e0 := hb8.cell 0
    have e1 := hb8.cell 1
    simp only [List.getElem?_cons_zero, List.getElem?_cons_succ] at e0 e1
    refine bodyPost_ret (v := wdV b) (by simp [results, Tryz.results68, go_sem, e0, e1]) rfl ?_
    exact ⟨rfl, K0.out.then hk8 (fun m hm => by simp at hm; subst hm; exact .inr (by omega))⟩
theorem cmpI_anti (a b : Int) : cmpI b a = - cmpI a b := by unfold cmpI; split <;> split <;> omega
theorem wCmp_anti (a b : Wd) : wCmp b a = - wCmp a b := by
  unfold wCmp orI
  rw [cmpI_anti a.1 b.1, cmpI_anti (a.2 : Int) b.2]
  split <;> split <;> omega
/-- The sum by a ring. -/
def rAdd (r : Int) (a b : Wd) : Wd := if r = 1 ∨ r = 3 ∨ r = 4 then wMin a b else if r = 2 then wTruth (!decide (a = b) || !decide (a = (0, 0))) else if r = 5 then wAdd a b else (0, 0)
theorem rAdd_ok (r : Int) {a b : Wd} (ha : WdOk a) (hb : WdOk b) : WdOk (rAdd r a b) := by
  unfold rAdd wMin wTruth
  split
  · split
    · exact ha
    · exact hb
  · split
    · split <;> (unfold WdOk In64; decide)
    · split
      · exact wAdd_ok a b
      · unfold WdOk In64; decide
set_option maxRecDepth 100000 in
theorem ringAdd_any (r : Int) (a b : Wd) (ha : WdOk a) (hb : WdOk b) (w : World) : Calls Tryz.prog 36 #[.int .i64 r, wdV a, wdV b] w fun e w' => e = .returned (wdV (rAdd r a b)) ∧ Kept [] w w' := by
  have HA := Blk.new ((w.alloc (.cells (wdC a).toArray 100)).alloc (.cells (wdC b).toArray 100)) 100 (wdC (0, 0))
  rw [show ((w.alloc (.cells (wdC a).toArray 100)).alloc (.cells (wdC b).toArray 100)).heap.size = w.heap.size + 1 + 1 by simp] at HA
  have HZ := Lib.hid HA
  clear HA
  have HX := Lib.hid (((Blk.new w 100 (wdC a)).alloc (.cells (wdC b).toArray 100)).alloc (.cells (wdC (0, 0)).toArray 100))
  have HY := Lib.hid ((Blk.new1F w (.cells (wdC a).toArray 100) 100 (wdC b)).alloc (.cells (wdC (0, 0)).toArray 100))
  have K0 := Lib.hid ((((Kept.refl [] w).alloc (.cells (wdC a).toArray 100)).alloc (.cells (wdC b).toArray 100)).alloc (.cells (wdC (0, 0)).toArray 100))
  have HA := Lib.hid ha
  have HB := Lib.hid hb
  clear ha hb
  by_cases r1 : r = 1
  · subst r1
    rw [show rAdd 1 a b = wMin a b from rfl]
    go_enter Tryz.func36, Tryz.ntmps36
    go_wp2_with (first | (refine wpList_loadBlk rfl 100 (.tmp 4) rfl w.heap.size (wdC a) _ HX.out rfl Tryz.underlying100 rfl infoWide ?_) | (refine wpList_loadBlk rfl 100 (.tmp 5) rfl (w.heap.size + 1) (wdC b) _ HY.out rfl Tryz.underlying100 rfl infoWide ?_))
    refine (lesser_any a b _).mono ?_
    rintro _ w3 ⟨rfl, hk⟩
    replace HX := Lib.hid (HX.out.kept hk (by simp))
    replace HY := Lib.hid (HY.out.kept hk (by simp))
    replace HZ := Lib.hid (HZ.out.kept hk (by simp))
    replace K0 := Lib.hid (K0.out.trans hk)
    clear hk
    go_wp2_with (first | (refine wpList_storeBlk rfl 100 (.tmp 6) (.tmp 14) rfl (w.heap.size + 1 + 1) _ (wdC (wMin a b)) HZ.out rfl rfl rfl infoWide (by simp [Value.oneCell']) ?_; intro w8 hb8 hk8))
    have e0 := hb8.cell 0
    have e1 := hb8.cell 1
    simp only [List.getElem?_cons_zero, List.getElem?_cons_succ] at e0 e1
    refine bodyPost_ret (v := wdV (wMin a b)) (by simp [results, Tryz.results36, go_sem, e0, e1]) rfl ?_
    exact ⟨rfl, K0.out.then hk8 (fun m hm => by simp at hm; subst hm; exact .inr (by omega))⟩
  by_cases r3 : r = 3
  · subst r3
    rw [show rAdd 3 a b = wMin a b from rfl]
    go_enter Tryz.func36, Tryz.ntmps36
    go_wp2_with (first | (refine wpList_loadBlk rfl 100 (.tmp 4) rfl w.heap.size (wdC a) _ HX.out rfl Tryz.underlying100 rfl infoWide ?_) | (refine wpList_loadBlk rfl 100 (.tmp 5) rfl (w.heap.size + 1) (wdC b) _ HY.out rfl Tryz.underlying100 rfl infoWide ?_))
    refine (lesser_any a b _).mono ?_
    rintro _ w3 ⟨rfl, hk⟩
    replace HX := Lib.hid (HX.out.kept hk (by simp))
    replace HY := Lib.hid (HY.out.kept hk (by simp))
    replace HZ := Lib.hid (HZ.out.kept hk (by simp))
    replace K0 := Lib.hid (K0.out.trans hk)
    clear hk
    go_wp2_with (first | (refine wpList_storeBlk rfl 100 (.tmp 6) (.tmp 14) rfl (w.heap.size + 1 + 1) _ (wdC (wMin a b)) HZ.out rfl rfl rfl infoWide (by simp [Value.oneCell']) ?_; intro w8 hb8 hk8))
    have e0 := hb8.cell 0
    have e1 := hb8.cell 1
    simp only [List.getElem?_cons_zero, List.getElem?_cons_succ] at e0 e1
    refine bodyPost_ret (v := wdV (wMin a b)) (by simp [results, Tryz.results36, go_sem, e0, e1]) rfl ?_
    exact ⟨rfl, K0.out.then hk8 (fun m hm => by simp at hm; subst hm; exact .inr (by omega))⟩
  by_cases r4 : r = 4
  · subst r4
    rw [show rAdd 4 a b = wMin a b from rfl]
    go_enter Tryz.func36, Tryz.ntmps36
    go_wp2_with (first | (refine wpList_loadBlk rfl 100 (.tmp 4) rfl w.heap.size (wdC a) _ HX.out rfl Tryz.underlying100 rfl infoWide ?_) | (refine wpList_loadBlk rfl 100 (.tmp 5) rfl (w.heap.size + 1) (wdC b) _ HY.out rfl Tryz.underlying100 rfl infoWide ?_))
    refine (lesser_any a b _).mono ?_
    rintro _ w3 ⟨rfl, hk⟩
    replace HX := Lib.hid (HX.out.kept hk (by simp))
    replace HY := Lib.hid (HY.out.kept hk (by simp))
    replace HZ := Lib.hid (HZ.out.kept hk (by simp))
    replace K0 := Lib.hid (K0.out.trans hk)
    clear hk
    go_wp2_with (first | (refine wpList_storeBlk rfl 100 (.tmp 6) (.tmp 14) rfl (w.heap.size + 1 + 1) _ (wdC (wMin a b)) HZ.out rfl rfl rfl infoWide (by simp [Value.oneCell']) ?_; intro w8 hb8 hk8))
    have e0 := hb8.cell 0
    have e1 := hb8.cell 1
    simp only [List.getElem?_cons_zero, List.getElem?_cons_succ] at e0 e1
    refine bodyPost_ret (v := wdV (wMin a b)) (by simp [results, Tryz.results36, go_sem, e0, e1]) rfl ?_
    exact ⟨rfl, K0.out.then hk8 (fun m hm => by simp at hm; subst hm; exact .inr (by omega))⟩
  by_cases r2 : r = 2
  · subst r2
    have F3 := guardWide
    have q1 : ∀ w, (binOp .neq 100 (.agg #[.int .i64 a.1, .int .u64 (a.2 : Int)]) (.agg #[.int .i64 b.1, .int .u64 (b.2 : Int)])).run Tryz.prog w = .ok (.bool (!decide (a = b))) w := fun w => neqWide a b w
    have q2 : ∀ w, (binOp .neq 100 (.agg #[.int .i64 a.1, .int .u64 (a.2 : Int)]) (.agg #[.int .i64 0, .int .u64 0])).run Tryz.prog w = .ok (.bool (!decide (a = (0, 0)))) w := fun w => neqWide a (0, 0) w
    rw [show rAdd 2 a b = wTruth (!decide (a = b) || !decide (a = (0, 0))) from rfl]
    by_cases h1 : a = b
    · rw [decide_eq_true h1] at q1 ⊢
      by_cases h2 : a = (0, 0)
      · rw [decide_eq_true h2] at q2 ⊢
        clear h1 h2
        go_enter Tryz.func36, Tryz.ntmps36
        go_wp2_with (first | (refine wpList_loadBlk rfl 100 (.tmp 4) rfl w.heap.size (wdC a) _ HX.out rfl Tryz.underlying100 rfl infoWide ?_) | (refine wpList_loadBlk rfl 100 (.tmp 5) rfl (w.heap.size + 1) (wdC b) _ HY.out rfl Tryz.underlying100 rfl infoWide ?_))
        refine (truth_any _ _).mono ?_
        rintro _ w3 ⟨rfl, hk⟩
        replace HX := Lib.hid (HX.out.kept hk (by simp))
        replace HY := Lib.hid (HY.out.kept hk (by simp))
        replace HZ := Lib.hid (HZ.out.kept hk (by simp))
        replace K0 := Lib.hid (K0.out.trans hk)
        clear hk
        go_wp2_with (first | (refine wpList_storeBlk rfl 100 (.tmp 6) (.tmp 25) rfl (w.heap.size + 1 + 1) _ (wdC (wTruth (!true || !true))) HZ.out rfl rfl rfl infoWide (by simp [Value.oneCell']) ?_; intro w8 hb8 hk8))
        have e0 := hb8.cell 0
        have e1 := hb8.cell 1
        simp only [List.getElem?_cons_zero, List.getElem?_cons_succ] at e0 e1
        refine bodyPost_ret (v := wdV (wTruth (!true || !true))) (by simp [results, Tryz.results36, go_sem, e0, e1]) rfl ?_
        exact ⟨rfl, K0.out.then hk8 (fun m hm => by simp at hm; subst hm; exact .inr (by omega))⟩
      · rw [decide_eq_false h2] at q2 ⊢
        clear h1 h2
        go_enter Tryz.func36, Tryz.ntmps36
        go_wp2_with (first | (refine wpList_loadBlk rfl 100 (.tmp 4) rfl w.heap.size (wdC a) _ HX.out rfl Tryz.underlying100 rfl infoWide ?_) | (refine wpList_loadBlk rfl 100 (.tmp 5) rfl (w.heap.size + 1) (wdC b) _ HY.out rfl Tryz.underlying100 rfl infoWide ?_))
        refine (truth_any _ _).mono ?_
        rintro _ w3 ⟨rfl, hk⟩
        replace HX := Lib.hid (HX.out.kept hk (by simp))
        replace HY := Lib.hid (HY.out.kept hk (by simp))
        replace HZ := Lib.hid (HZ.out.kept hk (by simp))
        replace K0 := Lib.hid (K0.out.trans hk)
        clear hk
        go_wp2_with (first | (refine wpList_storeBlk rfl 100 (.tmp 6) (.tmp 25) rfl (w.heap.size + 1 + 1) _ (wdC (wTruth (!true || !false))) HZ.out rfl rfl rfl infoWide (by simp [Value.oneCell']) ?_; intro w8 hb8 hk8))
        have e0 := hb8.cell 0
        have e1 := hb8.cell 1
        simp only [List.getElem?_cons_zero, List.getElem?_cons_succ] at e0 e1
        refine bodyPost_ret (v := wdV (wTruth (!true || !false))) (by simp [results, Tryz.results36, go_sem, e0, e1]) rfl ?_
        exact ⟨rfl, K0.out.then hk8 (fun m hm => by simp at hm; subst hm; exact .inr (by omega))⟩
    · rw [decide_eq_false h1] at q1 ⊢
      clear h1
      generalize decide (a = (0, 0)) = z at q2 ⊢
      rw [show wTruth (!false || !z) = wTruth true by simp]
      go_enter Tryz.func36, Tryz.ntmps36
      go_wp2_with (first | (refine wpList_loadBlk rfl 100 (.tmp 4) rfl w.heap.size (wdC a) _ HX.out rfl Tryz.underlying100 rfl infoWide ?_) | (refine wpList_loadBlk rfl 100 (.tmp 5) rfl (w.heap.size + 1) (wdC b) _ HY.out rfl Tryz.underlying100 rfl infoWide ?_))
      refine (truth_any _ _).mono ?_
      rintro _ w3 ⟨rfl, hk⟩
      replace HX := Lib.hid (HX.out.kept hk (by simp))
      replace HY := Lib.hid (HY.out.kept hk (by simp))
      replace HZ := Lib.hid (HZ.out.kept hk (by simp))
      replace K0 := Lib.hid (K0.out.trans hk)
      clear hk
      go_wp2_with (first | (refine wpList_storeBlk rfl 100 (.tmp 6) (.tmp 25) rfl (w.heap.size + 1 + 1) _ (wdC (wTruth true)) HZ.out rfl rfl rfl infoWide (by simp [Value.oneCell']) ?_; intro w8 hb8 hk8))
      have e0 := hb8.cell 0
      have e1 := hb8.cell 1
      simp only [List.getElem?_cons_zero, List.getElem?_cons_succ] at e0 e1
      refine bodyPost_ret (v := wdV (wTruth true)) (by simp [results, Tryz.results36, go_sem, e0, e1]) rfl ?_
      exact ⟨rfl, K0.out.then hk8 (fun m hm => by simp at hm; subst hm; exact .inr (by omega))⟩
  by_cases r5 : r = 5
  · subst r5
    rw [show rAdd 5 a b = wAdd a b from rfl]
    go_enter Tryz.func36, Tryz.ntmps36
    go_wp2_with (first | (refine wpList_loadBlk rfl 100 (.tmp 4) rfl w.heap.size (wdC a) _ HX.out rfl Tryz.underlying100 rfl infoWide ?_) | (refine wpList_loadBlk rfl 100 (.tmp 5) rfl (w.heap.size + 1) (wdC b) _ HY.out rfl Tryz.underlying100 rfl infoWide ?_))
    refine (wideAdd_any a b HA.out HB.out _).mono ?_
    rintro _ w3 ⟨rfl, hk⟩
    replace HX := Lib.hid (HX.out.kept hk (by simp))
    replace HY := Lib.hid (HY.out.kept hk (by simp))
    replace HZ := Lib.hid (HZ.out.kept hk (by simp))
    replace K0 := Lib.hid (K0.out.trans hk)
    clear hk
    go_wp2_with (first | (refine wpList_storeBlk rfl 100 (.tmp 6) (.tmp 30) rfl (w.heap.size + 1 + 1) _ (wdC (wAdd a b)) HZ.out rfl rfl rfl infoWide (by simp [Value.oneCell']) ?_; intro w8 hb8 hk8))
    have e0 := hb8.cell 0
    have e1 := hb8.cell 1
    simp only [List.getElem?_cons_zero, List.getElem?_cons_succ] at e0 e1
    refine bodyPost_ret (v := wdV (wAdd a b)) (by simp [results, Tryz.results36, go_sem, e0, e1]) rfl ?_
    exact ⟨rfl, K0.out.then hk8 (fun m hm => by simp at hm; subst hm; exact .inr (by omega))⟩
  rw [show rAdd r a b = (0, 0) by unfold rAdd; rw [if_neg (by omega), if_neg r2, if_neg r5]]
  go_enter Tryz.func36, Tryz.ntmps36
  go_wp2_with fail
  refine bodyPost_ret (v := wdV (0, 0)) (by simp [results, Tryz.results36, go_sem]) rfl ?_
  exact ⟨rfl, K0.out⟩
end Go.Proofs.YtblfingmdipopaaGreat
