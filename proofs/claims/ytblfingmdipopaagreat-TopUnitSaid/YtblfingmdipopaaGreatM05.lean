/- Edges in order; wide numbers compared. -/
import Derived.Test.YtblfingmdipopaaGreatM04
namespace Go.Proofs.YtblfingmdipopaaGreat
set_option linter.unusedSimpArgs false
set_option linter.unusedVariables false
open Go.ChangeShapes Go.WideShapes Go.ChangeAt Go.RowKit
open Go.RowKit (wrap32 wrap64)
open Go.Sort (grow grow_grow alloc_eq_grow)
set_option maxHeartbeats 4000000
theorem infoEdge : (Tryz.prog.info? 107).map (·.size) = some 3 := by kernel_rfl
theorem infoWide : (Tryz.prog.info? 100).map (·.size) = some 2 := by kernel_rfl
/-- A wide number's cells. -/
abbrev wdC (u : Wd) : List Value := [.int .i64 u.1, .int .u64 (u.2 : Int)]
/-- Which wide number is less. -/
def wCmp (a b : Wd) : Int := orI (cmpI a.1 b.1) (cmpI a.2 b.2)
set_option maxRecDepth 100000 in
theorem wCompare_any (a b : Wd) (w : World) :
    Calls Tryz.prog 105 #[wdV a, wdV b] w fun e w' => e = .returned (.int .i64 (wCmp a b)) ∧ Kept [] w w' := by
  obtain ⟨a1, a2⟩ := a
  obtain ⟨b1, b2⟩ := b
  have HX := Lib.hid ((Blk.new w 100 (wdC (a1, a2))).alloc (.cells (wdC (b1, b2)).toArray 100))
  have HY := Lib.hid (Blk.new1F w (.cells (wdC (a1, a2)).toArray 100) 100 (wdC (b1, b2)))
  have G := Lib.hid (((Grown.refl w).alloc (.cells (wdC (a1, a2)).toArray 100)).alloc (.cells (wdC (b1, b2)).toArray 100))
  go_enter Tryz.func105, Tryz.ntmps105
  go_upto_region 1 with (fail)
  refine wp_region_still_tail 10 (by kernel_rfl) (by kernel_rfl) ?_
  simp only [List.take_succ_cons, List.take_zero, List.drop_succ_cons, List.drop_zero]
  change wpStill _ _ (World.drew ((w.alloc (.cells (wdC (a1, a2)).toArray 100)).alloc (.cells (wdC (b1, b2)).toArray 100))) (fun a' => wpList _ _ _ _ a' (World.drew ((w.alloc (.cells (wdC (a1, a2)).toArray 100)).alloc (.cells (wdC (b1, b2)).toArray 100)))) _ _
  replace HX := Lib.hid HX.out.drew
  replace HY := Lib.hid HY.out.drew
  replace G := Lib.hid G.out.drew
  generalize World.drew ((w.alloc (.cells (wdC (a1, a2)).toArray 100)).alloc (.cells (wdC (b1, b2)).toArray 100)) = w2 at *
  generalize w.heap.size + 1 = g2 at HY ⊢
  generalize w.heap.size = g1 at HX ⊢
  have x0 := HX.out.cell 0
  have y0 := HY.out.cell 0
  have x1 := HX.out.cell 1
  have y1 := HY.out.cell 1
  simp only [edV, List.getElem?_cons_zero, List.getElem?_cons_succ] at x0 y0 x1 y1
  repeat still_step
  still_call (compare_int64 a1 b1 _)
  repeat still_step
  still_call (compare_uint64 a2 b2 _)
  refine wpStill_nil ?_
  clear x0 x1 y0 y1
  have HO := Lib.hid (Blk.new w2 3 [.int .i64 (cmpI a1 b1), .int .i64 (cmpI a2 b2)])
  go_wp2_with fail
  refine (or2_any (cmpI a1 b1) (cmpI a2 b2) _ _ _ HO.out).mono ?_
  rintro _ w3 ⟨rfl, rfl⟩
  go_wp2_with fail
  go_ret
  exact ⟨rfl, (G.out.alloc _).kept⟩
set_option maxRecDepth 100000 in
theorem order_any (a b : Ed) (w : World) :
    Calls Tryz.prog 199 #[.agg (edV a).toArray, .agg (edV b).toArray] w fun e w' => e = .returned (.int .i64 (orderI a b)) ∧ Grown w w' := by
  have HX := Lib.hid ((Blk.new w 107 (edV a)).alloc (.cells (edV b).toArray 107))
  have HY := Lib.hid (Blk.new1F w (.cells (edV a).toArray 107) 107 (edV b))
  have G := Lib.hid (((Grown.refl w).alloc (.cells (edV a).toArray 107)).alloc (.cells (edV b).toArray 107))
  go_enter Tryz.func199, Tryz.ntmps199
  go_upto_region 1 with (fail)
  generalize ((w.alloc (.cells (edV a).toArray 107)).alloc (.cells (edV b).toArray 107)) = w2 at *
  generalize w.heap.size + 1 = g2 at HY ⊢
  generalize w.heap.size = g1 at HX ⊢
  refine wp_region_held_drew (S := (fun w' => w'.rangeAt g1 0 (edV a) ∧ w'.rangeAt g2 0 (edV b) ∧ w'.cell? ⟨g1, 2, none⟩ = some (.int .i64 a.2.2) ∧ w'.cell? ⟨g2, 2, none⟩ = some (.int .i64 b.2.2))) (by kernel_rfl) ?_ (fun hHeld => ?_)
  · exact ⟨HX.out.cell2, HY.out.cell2, HX.out.cell 2, HY.out.cell 2⟩
  replace HX := Lib.hid HX.out.drew
  replace HY := Lib.hid HY.out.drew
  replace G := Lib.hid G.out.drew
  refine tkLoad (i := 0) 107 (.tmp 2) g1 0 (edV a) _ rfl rfl (by kernel_rfl) (by kernel_rfl) (by kernel_rfl) (fun _ _ _ h => h) (by rfl) rfl rfl (fun w hw => hw.1) Tryz.underlying107 rfl infoEdge (by assumption) ?_
  try simp only [Act.put, List.setIfInBounds_toArray, List.set_cons_zero, List.set_cons_succ]
  refine tkLoad (i := 1) 107 (.tmp 3) g2 0 (edV b) _ rfl rfl (by kernel_rfl) (by kernel_rfl) (by kernel_rfl) (fun _ _ _ h => h) (by rfl) rfl rfl (fun w hw => hw.2.1) Tryz.underlying107 rfl infoEdge (by assumption) ?_
  try simp only [Act.put, List.setIfInBounds_toArray, List.set_cons_zero, List.set_cons_succ]
  refine tkYes (i := 3) (v := ?_) rfl rfl (by kernel_rfl) (by kernel_rfl) (by kernel_rfl) (fun _ _ _ h => h) (by rfl) ?_ (by assumption) ?_
  rotate_left
  · (intro w' hSw; (try dsimp only at hSw); go_simp; try with_reducible rfl)
  try simp only [Act.put, List.setIfInBounds_toArray, List.set_cons_zero, List.set_cons_succ]
  refine tkYes (i := 4) (v := ?_) rfl rfl (by kernel_rfl) (by kernel_rfl) (by kernel_rfl) (fun _ _ _ h => h) (by rfl) ?_ (by assumption) ?_
  rotate_left
  · (intro w' hSw; (try dsimp only at hSw); go_simp; try with_reducible rfl)
  try simp only [Act.put, List.setIfInBounds_toArray, List.set_cons_zero, List.set_cons_succ]
  refine tkYes (i := 5) (v := ?_) rfl rfl (by kernel_rfl) (by kernel_rfl) (by kernel_rfl) (fun _ _ _ h => h) (by rfl) ?_ (by assumption) ?_
  rotate_left
  · (intro w' hSw; (try dsimp only at hSw); go_simp; try with_reducible rfl)
  try simp only [Act.put, List.setIfInBounds_toArray, List.set_cons_zero, List.set_cons_succ]
  refine tkYes (i := 6) (v := ?_) rfl rfl (by kernel_rfl) (by kernel_rfl) (by kernel_rfl) (fun _ _ _ h => h) (by rfl) ?_ (by assumption) ?_
  rotate_left
  · (intro w' hSw; (try dsimp only at hSw); go_simp; try with_reducible rfl)
  try simp only [Act.put, List.setIfInBounds_toArray, List.set_cons_zero, List.set_cons_succ]
  refine wpAnyH_ready (rs := [2]) (by kernel_rfl) (by simp) ?_
  refine AllReadyH.cons rfl (fun K hK => ?_) AllReadyH.nil
  go_simp
  refine (ends_any a b _).mono ?_; rintro _ w3 ⟨rfl, hg⟩; replace HX := Lib.hid (HX.out.kept hg.kept (by simp)); replace HY := Lib.hid (HY.out.kept hg.kept (by simp)); replace G := Lib.hid (G.out.trans hg); clear hg
  go_wp2_with fail
  refine hK.out _ _ ?_ (fun hHeld => ?_)
  · exact ⟨HX.out.cell2, HY.out.cell2, HX.out.cell 2, HY.out.cell 2⟩
  clear hK K
  try simp only [Act.put, List.setIfInBounds_toArray, List.set_cons_zero, List.set_cons_succ]
  refine wpAnyH_ready (rs := [7]) (by kernel_rfl) (by simp) ?_
  refine AllReadyH.cons rfl (fun K hK => ?_) AllReadyH.nil
  go_simp
  refine (compare_int64 a.2.2 b.2.2 _).mono ?_; rintro _ w4 ⟨rfl, rfl⟩
  go_wp2_with fail
  refine hK.out _ _ ?_ (fun hHeld => ?_)
  · exact ⟨HX.out.cell2, HY.out.cell2, HX.out.cell 2, HY.out.cell 2⟩
  clear hK K
  try simp only [Act.put, List.setIfInBounds_toArray, List.set_cons_zero, List.set_cons_succ]
  refine wpAnyH_ready (rs := [8]) (by kernel_rfl) (by simp) ?_
  refine AllReadyH.cons rfl (fun K hK => ?_) AllReadyH.nil
  go_simp
  have HO := Lib.hid (Blk.new w4 3 [.int .i64 (endsI a b), .int .i64 (cmpI a.2.2 b.2.2)])
  replace HX := Lib.hid (HX.out.alloc (.cells #[.int .i64 (endsI a b), .int .i64 (cmpI a.2.2 b.2.2)] 3))
  replace HY := Lib.hid (HY.out.alloc (.cells #[.int .i64 (endsI a b), .int .i64 (cmpI a.2.2 b.2.2)] 3))
  replace G := Lib.hid (G.out.alloc (.cells #[.int .i64 (endsI a b), .int .i64 (cmpI a.2.2 b.2.2)] 3))
  refine hK.out _ _ ?_ (fun hHeld => ?_)
  · exact ⟨HX.out.cell2, HY.out.cell2, HX.out.cell 2, HY.out.cell 2⟩
  clear hK K
  refine wpAnyH_ready (rs := [9]) (by kernel_rfl) (by simp) ?_
  refine AllReadyH.cons rfl (fun K hK => ?_) AllReadyH.nil
  go_simp
  refine (or2_any (endsI a b) (cmpI a.2.2 b.2.2) _ _ _ HO.out).mono ?_; rintro _ w5 ⟨rfl, rfl⟩
  go_wp2_with fail
  refine hK.out _ _ ?_ (fun hHeld => ?_)
  · exact ⟨HX.out.cell2, HY.out.cell2, HX.out.cell 2, HY.out.cell 2⟩
  clear hK K
  try simp only [Act.put, List.setIfInBounds_toArray, List.set_cons_zero, List.set_cons_succ]
  refine tkYes (i := 10) (v := ?_) rfl rfl (by kernel_rfl) (by kernel_rfl) (by kernel_rfl) (fun _ _ _ h => h) (by rfl) ?_ (by assumption) ?_
  rotate_left
  · (intro w' hSw; (try dsimp only at hSw); go_simp; try with_reducible rfl)
  try simp only [Act.put, List.setIfInBounds_toArray, List.set_cons_zero, List.set_cons_succ]
  refine wpAnyH_done (by kernel_rfl) ?_ _
  go_wp2_with fail
  go_ret
  exact ⟨rfl, G.out⟩
end Go.Proofs.YtblfingmdipopaaGreat

/- Wide numbers; rings: the program's and the reference's. -/
namespace Go.Proofs.YtblfingmdipopaaGreat
set_option linter.unusedSimpArgs false
set_option linter.unusedVariables false
open Go.ChangeShapes Go.WideShapes Go.ChangeAt Go.RowKit
open Go.RowKit (wrap32 wrap64)
set_option maxHeartbeats 4000000
/-- A number as a wide one. -/
def wOf (n : Int) : Wd := (if n < 0 then -1 else 0, (n % 18446744073709551616).toNat)
def WdOk (u : Wd) : Prop := In64 u.1 ∧ u.2 < 18446744073709551616
theorem u64_wrap (n : Int) : IntKind.u64.wrap n = n % 18446744073709551616 := by simp [IntKind.wrap, IntKind.signed, IntKind.bits]
theorem i64_wrap (n : Int) : IntKind.i64.wrap n = (n + 9223372036854775808) % 18446744073709551616 - 9223372036854775808 := by simp [IntKind.wrap, IntKind.signed, IntKind.bits]; omega
theorem wOf_ok (n : Int) : WdOk (wOf n) := by
  unfold WdOk wOf In64
  dsimp only
  refine ⟨?_, by omega⟩
  split <;> omega
theorem wOf_val {n : Int} (hn : In64 n) : wdV (wOf n) = .agg #[.int .i64 (n / 9223372036854775808), .int .u64 (IntKind.u64.wrap n)] := by
  unfold In64 at hn
  rw [u64_wrap]
  have h1 : (if n < 0 then (-1 : Int) else 0) = n / 9223372036854775808 := by split <;> omega
  have h2 : (((n % 18446744073709551616).toNat : Nat) : Int) = n % 18446744073709551616 := by omega
  simp only [wdV, wOf, h1, h2]
theorem of_any (n : Int) (hn : In64 n) (w : World) : Calls Tryz.prog 35 #[.int .i64 n] w fun e w' => e = .returned (wdV (wOf n)) ∧ Kept [] w w' := by
  rw [wOf_val hn]
  clear hn
  go_enter Tryz.func35, Tryz.ntmps35
  go_wp2_with fail
  refine bodyPost_ret (v := .agg #[.int .i64 (n / 9223372036854775808), .int .u64 (IntKind.u64.wrap n)]) (by simp [results, Tryz.results35, go_sem]) rfl ?_
  exact ⟨rfl, (Kept.refl _ _).alloc _⟩
theorem refOf_any (n : Int) (hn : In64 n) (w : World) : Calls Tryz.prog 81 #[.int .i64 n] w fun e w' => e = .returned (wdV (wOf n)) ∧ Kept [] w w' := by
  rw [wOf_val hn]
  by_cases h : n < 0
  · rw [show n / 9223372036854775808 = -1 by unfold In64 at hn; omega]
    clear hn
    go_enter Tryz.func81, Tryz.ntmps81
    go_wp2_with fail
    refine bodyPost_ret (v := .agg #[.int .i64 (-1), .int .u64 (IntKind.u64.wrap n)]) (by simp [results, Tryz.results81, go_sem]) rfl ?_
    exact ⟨rfl, (Kept.refl _ _).alloc _⟩
  · rw [show n / 9223372036854775808 = 0 by unfold In64 at hn; omega]
    clear hn
    go_enter Tryz.func81, Tryz.ntmps81
    go_wp2_with fail
    refine bodyPost_ret (v := .agg #[.int .i64 0, .int .u64 (IntKind.u64.wrap n)]) (by simp [results, Tryz.results81, go_sem]) rfl ?_
    exact ⟨rfl, (Kept.refl _ _).alloc _⟩
theorem fieldsWide : Tryz.prog.underlying 100 = some (.struct (Tryz.prog.fieldsOf 100)) := by kernel_rfl
theorem stoodWide : Tryz.prog.stoodInHeld 100 = false := by kernel_rfl
theorem neqWide (x y : Wd) (w : World) : (binOp .neq 100 (.agg #[.int .i64 x.1, .int .u64 (x.2 : Int)]) (.agg #[.int .i64 y.1, .int .u64 (y.2 : Int)])).run Tryz.prog w = .ok (.bool (!decide (x = y))) w := by
  have u0 := Tryz.underlying2
  have a0 := Tryz.isAgg2
  have z0 := Tryz.sizeOf2
  have u1 := Tryz.underlying98
  have a1 := Tryz.isAgg98
  have z1 := Tryz.sizeOf98
  obtain ⟨a, b⟩ := x
  obtain ⟨d, e⟩ := y
  rw [run_neq_struct, show (10000 : Nat) = 9999 + 1 from rfl, run_equalIn_agg w 9999 100 _ _ fieldsWide stoodWide]
  simp only [Program.fieldsOf, Tryz.underlying100]
  go_simp
  by_cases h0 : a = d <;> by_cases h1 : b = e <;> simp [h0, h1, Int.natCast_inj]
theorem eqlWide (x y : Wd) (w : World) : (binOp .eql 100 (.agg #[.int .i64 x.1, .int .u64 (x.2 : Int)]) (.agg #[.int .i64 y.1, .int .u64 (y.2 : Int)])).run Tryz.prog w = .ok (.bool (decide (x = y))) w := by
  have u0 := Tryz.underlying2
  have a0 := Tryz.isAgg2
  have z0 := Tryz.sizeOf2
  have u1 := Tryz.underlying98
  have a1 := Tryz.isAgg98
  have z1 := Tryz.sizeOf98
  obtain ⟨a, b⟩ := x
  obtain ⟨d, e⟩ := y
  rw [run_eql_struct, show (10000 : Nat) = 9999 + 1 from rfl, run_equalIn_agg w 9999 100 _ _ fieldsWide stoodWide]
  simp only [Program.fieldsOf, Tryz.underlying100]
  go_simp
  by_cases h0 : a = d <;> by_cases h1 : b = e <;> simp [h0, h1, Int.natCast_inj]
theorem guardWide : Tryz.prog.eqGuardType Tryz.prog.depth 100 = false := by kernel_rfl
/-- Is there such a ring? -/
def ringIs (r : Int) : Bool := decide (0 < r) && decide (r < 6)
theorem ringIs_any (r : Int) (w : World) : Calls Tryz.prog 32 #[.int .i64 r] w fun e w' => e = .returned (.bool (ringIs r)) ∧ w' = w := by
  by_cases h1 : 0 < r
  · go_enter Tryz.func32, Tryz.ntmps32
    go_wp2_with fail
    go_ret
    exact ⟨ret_bool (by simp [ringIs, h1]), rfl⟩
  · go_enter Tryz.func32, Tryz.ntmps32
    go_wp2_with fail
    go_ret
    exact ⟨ret_bool (by unfold ringIs; rw [decide_eq_false (show ¬ 0 < r by omega)]; simp), rfl⟩
theorem refIs_any (r : Int) (w : World) : Calls Tryz.prog 45 #[.int .i64 r] w fun e w' => e = .returned (.bool (ringIs r)) ∧ w' = w := by
  by_cases h1 : 1 ≤ r
  · go_enter Tryz.func45, Tryz.ntmps45
    go_wp2_with fail
    go_ret
    exact ⟨ret_bool (by unfold ringIs; rw [decide_eq_true (show 0 < r by omega)]; simp; omega), rfl⟩
  · go_enter Tryz.func45, Tryz.ntmps45
    go_wp2_with fail
    go_ret
    exact ⟨ret_bool (by unfold ringIs; rw [decide_eq_false (show ¬ 0 < r by omega)]; simp), rfl⟩
/-- The lower half as a number with a sign. -/
def sgn (n : Nat) : Int := if n < 9223372036854775808 then n else (n : Int) - 18446744073709551616
theorem sgn_wrap {n : Nat} (h : n < 18446744073709551616) : IntKind.i64.wrap (n : Int) = sgn n := by
  rw [i64_wrap]; unfold sgn; split <;> omega
theorem sgn_in {n : Nat} (h : n < 18446744073709551616) : In64 (sgn n) := by unfold In64 sgn; split <;> omega
/-- A wide number as a number, if it is one. -/
def wNarrow (u : Wd) : Int × Bool := if wOf (sgn u.2) = u then (sgn u.2, true) else (0, false)
theorem wNarrow_of {n : Int} (h : In64 n) : wNarrow (wOf n) = (n, true) := by
  unfold In64 at h
  have e : sgn (wOf n).2 = n := by unfold sgn wOf; dsimp only; split <;> omega
  unfold wNarrow
  rw [e, if_pos rfl]
end Go.Proofs.YtblfingmdipopaaGreat
