/- Wide numbers: the way back; sums. -/
import Derived.Test.YtblfingmdipopaaGreatM05
namespace Go.Proofs.YtblfingmdipopaaGreat
set_option linter.unusedSimpArgs false
set_option linter.unusedVariables false
open Go.ChangeShapes Go.WideShapes Go.ChangeAt Go.RowKit
open Go.RowKit (wrap32 wrap64)
set_option maxHeartbeats 4000000
set_option maxRecDepth 100000 in
theorem narrow_any (u : Wd) (hu : WdOk u) (w : World) : Calls Tryz.prog 71 #[wdV u] w fun e w' => e = .returned (.tuple #[.int .i64 (wNarrow u).1, .bool (wNarrow u).2]) ∧ Kept [] w w' := by
  have HX := Lib.hid (Blk.new w 100 (wdC u))
  have K0 := Lib.hid ((Kept.refl [] w).alloc (.cells (wdC u).toArray 100))
  have hw := sgn_wrap hu.2
  have hin := Lib.hid (sgn_in hu.2)
  have F3 := guardWide
  unfold wNarrow
  obtain ⟨n, hn⟩ : ∃ n, n = sgn u.2 := ⟨_, rfl⟩
  rw [← hn] at hw hin ⊢
  clear hn hu
  by_cases he : wOf n = u
  · have F4 : ∀ w, (binOp .neq 100 (.agg #[.int .i64 (wOf n).1, .int .u64 ((wOf n).2 : Int)]) (.agg #[.int .i64 u.1, .int .u64 (u.2 : Int)])).run Tryz.prog w = .ok (.bool false) w := fun w => (neqWide (wOf n) u w).trans (by rw [he]; simp)
    rw [if_pos he]
    clear he
    go_enter Tryz.func71, Tryz.ntmps71
    go_upto_region 2 with (fail)
    generalize (w.alloc (.cells (wdC u).toArray 100)) = w2 at *
    generalize w.heap.size = g at HX ⊢
    refine wp_region_held_drew (S := (fun w' => w'.rangeAt g 0 (wdC u))) (by kernel_rfl) ?_ (fun hHeld => ?_)
    · exact HX.out.cell2
    replace HX := Lib.hid HX.out.drew
    replace K0 := Lib.hid K0.out.drew
    refine tkYes (i := 0) (v := ?_) rfl rfl (by kernel_rfl) (by kernel_rfl) (by kernel_rfl) (fun _ _ _ h => h) (by rfl) ?_ (by assumption) ?_
    rotate_left
    · (intro w' hSw; (try dsimp only at hSw); go_simp; try with_reducible rfl)
    try simp only [Act.put, List.setIfInBounds_toArray, List.set_cons_zero, List.set_cons_succ]
    refine tkLoad (i := 2) 100 (.tmp 1) g 0 (wdC u) _ rfl rfl (by kernel_rfl) (by kernel_rfl) (by kernel_rfl) (fun _ _ _ h => h) (by rfl) rfl rfl (fun w hw => hw) Tryz.underlying100 rfl infoWide (by assumption) ?_
    try simp only [Act.put, List.setIfInBounds_toArray, List.set_cons_zero, List.set_cons_succ]
    refine wpAnyH_ready (rs := [1]) (by kernel_rfl) (by simp) ?_
    refine AllReadyH.cons rfl (fun K hK => ?_) AllReadyH.nil
    go_simp
    refine (of_any n hin.out _).mono ?_; rintro _ w3 ⟨rfl, hk⟩; replace HX := Lib.hid (HX.out.kept hk (by simp)); replace K0 := Lib.hid (K0.out.trans hk); clear hk
    go_wp2_with fail
    refine hK.out _ _ ?_ (fun hHeld => ?_)
    · exact HX.out.cell2
    clear hK K
    try simp only [Act.put, List.setIfInBounds_toArray, List.set_cons_zero, List.set_cons_succ]
    refine tkYes (i := 3) (v := ?_) rfl rfl (by kernel_rfl) (by kernel_rfl) (by kernel_rfl) (fun _ _ _ h => h) (by rfl) ?_ (by assumption) ?_
    rotate_left
    · (intro w' hSw; (try dsimp only at hSw); go_simp; try with_reducible rfl)
    try simp only [Act.put, List.setIfInBounds_toArray, List.set_cons_zero, List.set_cons_succ]
    refine wpAnyH_done (by kernel_rfl) ?_ _
    go_wp2_with fail
    refine bodyPost_ret (results_tmp2 rfl _ _ _) rfl ?_
    exact ⟨rfl, K0.out⟩
  · have F4 : ∀ w, (binOp .neq 100 (.agg #[.int .i64 (wOf n).1, .int .u64 ((wOf n).2 : Int)]) (.agg #[.int .i64 u.1, .int .u64 (u.2 : Int)])).run Tryz.prog w = .ok (.bool true) w := fun w => (neqWide (wOf n) u w).trans (by rw [decide_eq_false he]; rfl)
    rw [if_neg he]
    clear he
    go_enter Tryz.func71, Tryz.ntmps71
    go_upto_region 2 with (fail)
    generalize (w.alloc (.cells (wdC u).toArray 100)) = w2 at *
    generalize w.heap.size = g at HX ⊢
    refine wp_region_held_drew (S := (fun w' => w'.rangeAt g 0 (wdC u))) (by kernel_rfl) ?_ (fun hHeld => ?_)
    · exact HX.out.cell2
    replace HX := Lib.hid HX.out.drew
    replace K0 := Lib.hid K0.out.drew
    refine tkYes (i := 0) (v := ?_) rfl rfl (by kernel_rfl) (by kernel_rfl) (by kernel_rfl) (fun _ _ _ h => h) (by rfl) ?_ (by assumption) ?_
    rotate_left
    · (intro w' hSw; (try dsimp only at hSw); go_simp; try with_reducible rfl)
    try simp only [Act.put, List.setIfInBounds_toArray, List.set_cons_zero, List.set_cons_succ]
    refine tkLoad (i := 2) 100 (.tmp 1) g 0 (wdC u) _ rfl rfl (by kernel_rfl) (by kernel_rfl) (by kernel_rfl) (fun _ _ _ h => h) (by rfl) rfl rfl (fun w hw => hw) Tryz.underlying100 rfl infoWide (by assumption) ?_
    try simp only [Act.put, List.setIfInBounds_toArray, List.set_cons_zero, List.set_cons_succ]
    refine wpAnyH_ready (rs := [1]) (by kernel_rfl) (by simp) ?_
    refine AllReadyH.cons rfl (fun K hK => ?_) AllReadyH.nil
    go_simp
    refine (of_any n hin.out _).mono ?_; rintro _ w3 ⟨rfl, hk⟩; replace HX := Lib.hid (HX.out.kept hk (by simp)); replace K0 := Lib.hid (K0.out.trans hk); clear hk
    go_wp2_with fail
    refine hK.out _ _ ?_ (fun hHeld => ?_)
    · exact HX.out.cell2
    clear hK K
    try simp only [Act.put, List.setIfInBounds_toArray, List.set_cons_zero, List.set_cons_succ]
    refine tkYes (i := 3) (v := ?_) rfl rfl (by kernel_rfl) (by kernel_rfl) (by kernel_rfl) (fun _ _ _ h => h) (by rfl) ?_ (by assumption) ?_
    rotate_left
    · (intro w' hSw; (try dsimp only at hSw); go_simp; try with_reducible rfl)
    try simp only [Act.put, List.setIfInBounds_toArray, List.set_cons_zero, List.set_cons_succ]
    refine wpAnyH_done (by kernel_rfl) ?_ _
    go_wp2_with fail
    refine bodyPost_ret (results_tmp2 rfl _ _ _) rfl ?_
    exact ⟨rfl, K0.out⟩
theorem ringNarrow_any (r : Int) (u : Wd) (hu : WdOk u) (w : World) : Calls Tryz.prog 37 #[.int .i64 r, wdV u] w fun e w' => e = .returned (.tuple #[.int .i64 (wNarrow u).1, .bool (wNarrow u).2]) ∧ Kept [] w w' := by
  have HX := Lib.hid (Blk.new w 100 (wdC u))
  have K0 := Lib.hid ((Kept.refl [] w).alloc (.cells (wdC u).toArray 100))
  have HU := Lib.hid hu
  clear hu
  go_enter Tryz.func37, Tryz.ntmps37
  go_wp2_with (first | (refine wpList_loadBlk rfl 100 (.tmp 3) rfl w.heap.size (wdC u) _ HX.out rfl Tryz.underlying100 rfl infoWide ?_))
  refine (narrow_any u HU.out _).mono ?_
  rintro _ w3 ⟨rfl, hk⟩
  have K := Lib.hid (K0.out.trans hk)
  clear hk
  go_wp2_with fail
  refine bodyPost_ret (results_tmp2 rfl _ _ _) rfl ?_
  exact ⟨rfl, K.out⟩
theorem wOf_sgn {n : Nat} (h : n < 18446744073709551616) : (wOf (sgn n)).2 = n := by
  unfold wOf sgn; dsimp only; split <;> omega
theorem wNarrow_cases (a : Int) (n : Nat) (h : n < 18446744073709551616) : wNarrow (a, n) = if (a = 0 ∧ 0 ≤ sgn n) ∨ (a = -1 ∧ sgn n < 0) then (sgn n, true) else (0, false) := by
  unfold wNarrow
  have h2 := wOf_sgn h
  have e : wOf (sgn n) = (a, n) ↔ ((a = 0 ∧ 0 ≤ sgn n) ∨ (a = -1 ∧ sgn n < 0)) := by
    constructor
    · intro hq
      have h1 := congrArg Prod.fst hq
      unfold wOf at h1
      dsimp only at h1
      split at h1 <;> omega
    · intro hq
      refine Prod.ext ?_ h2
      unfold wOf
      dsimp only
      split <;> omega
  simp only [e]
theorem refNarrow_any (u : Wd) (hu : WdOk u) (w : World) : Calls Tryz.prog 83 #[wdV u] w fun e w' => e = .returned (.tuple #[.int .i64 (wNarrow u).1, .bool (wNarrow u).2]) ∧ Kept [] w w' := by
  obtain ⟨a, m⟩ := u
  rw [wNarrow_cases a m hu.2]
  have hw := sgn_wrap hu.2
  obtain ⟨n, hn⟩ : ∃ n, n = sgn m := ⟨_, rfl⟩
  rw [← hn] at hw ⊢
  clear hn hu
  by_cases h1 : a = 0
  · subst h1
    by_cases h2 : 0 ≤ n
    · rw [if_pos (.inl ⟨rfl, h2⟩)]
      go_enter Tryz.func83, Tryz.ntmps83
      go_wp2_with fail
      refine bodyPost_ret (results_tmp2 rfl _ _ _) rfl ?_
      exact ⟨rfl, (Kept.refl _ _).alloc _⟩
    · rw [if_neg (by omega)]
      have h3 : n < 0 := by omega
      go_enter Tryz.func83, Tryz.ntmps83
      go_wp2_with fail
      refine bodyPost_ret (results_tmp2 rfl _ _ _) rfl ?_
      exact ⟨rfl, (Kept.refl _ _).alloc _⟩
  · by_cases h4 : a = -1
    · subst h4
      by_cases h2 : n < 0
      · rw [if_pos (.inr ⟨rfl, h2⟩)]
        go_enter Tryz.func83, Tryz.ntmps83
        go_wp2_with fail
        refine bodyPost_ret (results_tmp2 rfl _ _ _) rfl ?_
        exact ⟨rfl, (Kept.refl _ _).alloc _⟩
      · rw [if_neg (by omega)]
        go_enter Tryz.func83, Tryz.ntmps83
        go_wp2_with fail
        refine bodyPost_ret (results_tmp2 rfl _ _ _) rfl ?_
        exact ⟨rfl, (Kept.refl _ _).alloc _⟩
    · rw [if_neg (by omega)]
      go_enter Tryz.func83, Tryz.ntmps83
      go_wp2_with fail
      refine bodyPost_ret (results_tmp2 rfl _ _ _) rfl ?_
      exact ⟨rfl, (Kept.refl _ _).alloc _⟩
theorem w64_wrap (n : Int) : wrap64 n = (n + 9223372036854775808) % 18446744073709551616 - 9223372036854775808 := by first | (unfold wrap64; rfl) | (simp [wrap64]) | (unfold RowKit.wrap64; omega)
/-- The sum of two wide numbers. -/
def wAdd (a b : Wd) : Wd := (IntKind.i64.wrap (a.1 + b.1 + if (a.2 + b.2) % 18446744073709551616 < b.2 then 1 else 0), (a.2 + b.2) % 18446744073709551616)
theorem wAdd_ok (a b : Wd) : WdOk (wAdd a b) := by
  unfold WdOk wAdd In64
  dsimp only
  rw [i64_wrap]
  refine ⟨by omega, Nat.mod_lt _ (by decide)⟩
theorem carry_any (b : Bool) (w : World) : Calls Tryz.prog 106 #[.bool b] w fun e w' => e = .returned (.int .u64 (if b then 1 else 0)) ∧ w' = w := by
  cases b
  · go_enter Tryz.func106, Tryz.ntmps106
    go_wp2
    go_ret
    exact ⟨rfl, rfl⟩
  · go_enter Tryz.func106, Tryz.ntmps106
    go_wp2
    go_ret
    exact ⟨rfl, rfl⟩
set_option maxRecDepth 100000 in
theorem wideAdd_any (a b : Wd) (ha : WdOk a) (hb : WdOk b) (w : World) : Calls Tryz.prog 70 #[wdV a, wdV b] w fun e w' => e = .returned (wdV (wAdd a b)) ∧ Kept [] w w' := by
  obtain ⟨a1, a2⟩ := a
  obtain ⟨b1, b2⟩ := b
  obtain ⟨l, hl⟩ : ∃ l, l = (a2 + b2) % 18446744073709551616 := ⟨_, rfl⟩
  have hL : IntKind.u64.wrap ((a2 : Int) + (b2 : Int)) = (l : Int) := by rw [u64_wrap]; omega
  have hlb := Nat.mod_lt (a2 + b2) (show 0 < 18446744073709551616 by decide)
  rw [← hl] at hlb
  have HR0 := Lib.hid (show wAdd (a1, a2) (b1, b2) = (IntKind.i64.wrap (a1 + b1 + if l < b2 then 1 else 0), l) by unfold wAdd; rw [hl])
  clear hl ha hb
  have HA := Blk.new (((w.alloc (.cells (wdC (a1, a2)).toArray 100))).alloc (.cells (wdC (b1, b2)).toArray 100)) 100 (wdC (0, 0))
  rw [show (((w.alloc (.cells (wdC (a1, a2)).toArray 100))).alloc (.cells (wdC (b1, b2)).toArray 100)).heap.size = w.heap.size + 2 by simp] at HA
  have HZ := Lib.hid HA
  clear HA
  have HX := Lib.hid (((Blk.new w 100 (wdC (a1, a2))).alloc (.cells (wdC (b1, b2)).toArray 100)).alloc (.cells (wdC (0, 0)).toArray 100))
  have HY := Lib.hid ((Blk.new1F w (.cells (wdC (a1, a2)).toArray 100) 100 (wdC (b1, b2))).alloc (.cells (wdC (0, 0)).toArray 100))
  have K0 := Lib.hid ((((Kept.refl [] w).alloc (.cells (wdC (a1, a2)).toArray 100)).alloc (.cells (wdC (b1, b2)).toArray 100)).alloc (.cells (wdC (0, 0)).toArray 100))
  by_cases hc : l < b2
  · have HR0 := Lib.hid (show wAdd (a1, a2) (b1, b2) = (IntKind.i64.wrap (a1 + b1 + 1), l) by rw [HR0.out, if_pos hc])
    go_enter Tryz.func70, Tryz.ntmps70
    go_upto_region 2 with (fail)
    refine wp_region_still_tail 16 (by kernel_rfl) (by kernel_rfl) ?_
    simp only [List.take_succ_cons, List.take_zero, List.drop_succ_cons, List.drop_zero]
    change wpStill _ _ (World.drew (((w.alloc (.cells (wdC (a1, a2)).toArray 100)).alloc (.cells (wdC (b1, b2)).toArray 100)).alloc (.cells (wdC (0, 0)).toArray 100))) (fun a' => wpList _ _ _ _ a' (World.drew (((w.alloc (.cells (wdC (a1, a2)).toArray 100)).alloc (.cells (wdC (b1, b2)).toArray 100)).alloc (.cells (wdC (0, 0)).toArray 100)))) _ _
    replace HX := Lib.hid HX.out.drew
    replace HY := Lib.hid HY.out.drew
    replace HZ := Lib.hid HZ.out.drew
    replace K0 := Lib.hid K0.out.drew
    generalize World.drew (((w.alloc (.cells (wdC (a1, a2)).toArray 100)).alloc (.cells (wdC (b1, b2)).toArray 100)).alloc (.cells (wdC (0, 0)).toArray 100)) = w2 at *
    have HGE := Lib.hid (show w.heap.size ≤ w.heap.size + 2 by omega)
    generalize w.heap.size + 2 = g3 at HZ HGE ⊢
    generalize w.heap.size + 1 = g2 at HY ⊢
    generalize hg1 : w.heap.size = g1 at HX ⊢
    clear hg1
    have x0 := HX.out.cell 0
    have x1 := HX.out.cell 1
    have y0 := HY.out.cell 0
    have y1 := HY.out.cell 1
    simp only [List.getElem?_cons_zero, List.getElem?_cons_succ] at x0 x1 y0 y1
    repeat still_step
    still_call (carry_any _ _)
    repeat still_step
    refine wpStill_nil ?_
    clear x0 x1 y0 y1
    go_wp2_with (first | (refine wpList_storeBlk rfl 100 (.tmp 4) (.tmp 26) rfl g3 _ [.int .i64 (IntKind.i64.wrap (IntKind.u64.wrap (IntKind.u64.wrap (IntKind.u64.wrap a1 + IntKind.u64.wrap b1) + 1))), .int .u64 (l : Int)] HZ.out rfl rfl rfl infoWide (by simp [Value.oneCell']) ?_; intro w8 hb8 hk8))
    have e0 := hb8.cell 0
    have e1 := hb8.cell 1
    simp only [List.getElem?_cons_zero, List.getElem?_cons_succ] at e0 e1
    refine bodyPost_ret (v := .agg #[.int .i64 (IntKind.i64.wrap (IntKind.u64.wrap (IntKind.u64.wrap (IntKind.u64.wrap a1 + IntKind.u64.wrap b1) + 1))), .int .u64 (l : Int)]) (by simp [results, Tryz.results70, go_sem, e0, e1]) rfl ?_
    refine ⟨?_, K0.out.then hk8 (fun m hm => by simp at hm; subst hm; exact .inr HGE.out)⟩
    rw [HR0.out]
    have e : (IntKind.i64.wrap (IntKind.u64.wrap (IntKind.u64.wrap (IntKind.u64.wrap a1 + IntKind.u64.wrap b1) + 1))) = IntKind.i64.wrap (a1 + b1 + 1) := by
      simp only [i64_wrap, u64_wrap]
      omega
    rw [e]
  · have HR0 := Lib.hid (show wAdd (a1, a2) (b1, b2) = (IntKind.i64.wrap (a1 + b1 + 0), l) by rw [HR0.out, if_neg hc])
    go_enter Tryz.func70, Tryz.ntmps70
    go_upto_region 2 with (fail)
    refine wp_region_still_tail 16 (by kernel_rfl) (by kernel_rfl) ?_
    simp only [List.take_succ_cons, List.take_zero, List.drop_succ_cons, List.drop_zero]
    change wpStill _ _ (World.drew (((w.alloc (.cells (wdC (a1, a2)).toArray 100)).alloc (.cells (wdC (b1, b2)).toArray 100)).alloc (.cells (wdC (0, 0)).toArray 100))) (fun a' => wpList _ _ _ _ a' (World.drew (((w.alloc (.cells (wdC (a1, a2)).toArray 100)).alloc (.cells (wdC (b1, b2)).toArray 100)).alloc (.cells (wdC (0, 0)).toArray 100)))) _ _
    replace HX := Lib.hid HX.out.drew
    replace HY := Lib.hid HY.out.drew
    replace HZ := Lib.hid HZ.out.drew
    replace K0 := Lib.hid K0.out.drew
    generalize World.drew (((w.alloc (.cells (wdC (a1, a2)).toArray 100)).alloc (.cells (wdC (b1, b2)).toArray 100)).alloc (.cells (wdC (0, 0)).toArray 100)) = w2 at *
    have HGE := Lib.hid (show w.heap.size ≤ w.heap.size + 2 by omega)
    generalize w.heap.size + 2 = g3 at HZ HGE ⊢
    generalize w.heap.size + 1 = g2 at HY ⊢
    generalize hg1 : w.heap.size = g1 at HX ⊢
    clear hg1
    have x0 := HX.out.cell 0
    have x1 := HX.out.cell 1
    have y0 := HY.out.cell 0
    have y1 := HY.out.cell 1
    simp only [List.getElem?_cons_zero, List.getElem?_cons_succ] at x0 x1 y0 y1
    repeat still_step
    still_call (carry_any _ _)
    repeat still_step
    refine wpStill_nil ?_
    clear x0 x1 y0 y1
    go_wp2_with (first | (refine wpList_storeBlk rfl 100 (.tmp 4) (.tmp 26) rfl g3 _ [.int .i64 (IntKind.i64.wrap (IntKind.u64.wrap (IntKind.u64.wrap (IntKind.u64.wrap a1 + IntKind.u64.wrap b1)))), .int .u64 (l : Int)] HZ.out rfl rfl rfl infoWide (by simp [Value.oneCell']) ?_; intro w8 hb8 hk8))
    have e0 := hb8.cell 0
    have e1 := hb8.cell 1
    simp only [List.getElem?_cons_zero, List.getElem?_cons_succ] at e0 e1
    refine bodyPost_ret (v := .agg #[.int .i64 (IntKind.i64.wrap (IntKind.u64.wrap (IntKind.u64.wrap (IntKind.u64.wrap a1 + IntKind.u64.wrap b1)))), .int .u64 (l : Int)]) (by simp [results, Tryz.results70, go_sem, e0, e1]) rfl ?_
    refine ⟨?_, K0.out.then hk8 (fun m hm => by simp at hm; subst hm; exact .inr HGE.out)⟩
    rw [HR0.out]
    have e : (IntKind.i64.wrap (IntKind.u64.wrap (IntKind.u64.wrap (IntKind.u64.wrap a1 + IntKind.u64.wrap b1)))) = IntKind.i64.wrap (a1 + b1 + 0) := by
      simp only [i64_wrap, u64_wrap]
      omega
    rw [e]
set_option maxRecDepth 100000 in
theorem refAdd_any (a b : Wd) (ha : WdOk a) (hb : WdOk b) (w : World) : Calls Tryz.prog 125 #[wdV a, wdV b] w fun e w' => e = .returned (wdV (wAdd a b)) ∧ Kept [] w w' := by
  obtain ⟨a1, a2⟩ := a
  obtain ⟨b1, b2⟩ := b
  have ha2 : a2 < 18446744073709551616 := ha.2
  have hb2 : b2 < 18446744073709551616 := hb.2
  obtain ⟨l, hl⟩ : ∃ l, l = (a2 + b2) % 18446744073709551616 := ⟨_, rfl⟩
  have hL : IntKind.u64.wrap ((a2 : Int) + (b2 : Int)) = (l : Int) := by rw [u64_wrap]; omega
  have hiff : l < b2 ↔ l < a2 := by omega
  have HR0' : wAdd (a1, a2) (b1, b2) = (IntKind.i64.wrap (a1 + b1 + if l < a2 then 1 else 0), l) := by
    unfold wAdd
    dsimp only
    rw [← hl]
    simp only [hiff]
  clear hl ha hb ha2 hb2 hiff
  have HA := Blk.new (((w.alloc (.cells (wdC (a1, a2)).toArray 100))).alloc (.cells (wdC (b1, b2)).toArray 100)) 100 (wdC (0, 0))
  rw [show (((w.alloc (.cells (wdC (a1, a2)).toArray 100))).alloc (.cells (wdC (b1, b2)).toArray 100)).heap.size = w.heap.size + 1 + 1 by simp] at HA
  have HZ := Lib.hid HA
  clear HA
  have K0 := Lib.hid ((((Kept.refl [] w).alloc (.cells (wdC (a1, a2)).toArray 100)).alloc (.cells (wdC (b1, b2)).toArray 100)).alloc (.cells (wdC (0, 0)).toArray 100))
  by_cases hc : l < a2
  · have HR0 := Lib.hid (show wAdd (a1, a2) (b1, b2) = (IntKind.i64.wrap (a1 + b1 + 1), l) by rw [HR0', if_pos hc])
    clear HR0'
    go_enter Tryz.func125, Tryz.ntmps125
    go_wp2_with fail
    refine bodyPost_ret (v := .agg #[.int .i64 (wrap64 (wrap64 (a1 + b1) + 1)), .int .u64 (l : Int)]) (by simp [results, Tryz.results125, go_sem]) rfl ?_
    refine ⟨?_, (((Kept.refl [] w).alloc _).alloc _).alloc _⟩
    rw [HR0.out]
    have e : (wrap64 (wrap64 (a1 + b1) + 1)) = IntKind.i64.wrap (a1 + b1 + 1) := by
      simp only [i64_wrap, w64_wrap]
      omega
    rw [e]
  · have HR0 := Lib.hid (show wAdd (a1, a2) (b1, b2) = (IntKind.i64.wrap (a1 + b1 + 0), l) by rw [HR0', if_neg hc])
    clear HR0'
    go_enter Tryz.func125, Tryz.ntmps125
    go_wp2_with fail
    refine bodyPost_ret (v := .agg #[.int .i64 (wrap64 (a1 + b1)), .int .u64 (l : Int)]) (by simp [results, Tryz.results125, go_sem]) rfl ?_
    refine ⟨?_, (((Kept.refl [] w).alloc _).alloc _).alloc _⟩
    rw [HR0.out]
    have e : (wrap64 (a1 + b1)) = IntKind.i64.wrap (a1 + b1 + 0) := by
      simp only [i64_wrap, w64_wrap]
      omega
    rw [e]
end Go.Proofs.YtblfingmdipopaaGreat
