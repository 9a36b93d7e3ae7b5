/- Edges in order; wide numbers compared. -/
import Derived.Test.YtibjpjpbmkdddaaE3
namespace Go.Proofs.Ytibjpjpbmkdddaa
set_option linter.unusedSimpArgs false
set_option linter.unusedVariables false
open Go.ChangeShapes Go.WideShapes Go.ChangeAt Go.RowKit
open Go.RowKit (wrap32 wrap64)
open Go.Sort (grow grow_grow alloc_eq_grow)
set_option maxHeartbeats 4000000

theorem infoEdge : (Try.prog.info? 28).map (·.size) = some 3 := by kernel_rfl
theorem infoWide : (Try.prog.info? 124).map (·.size) = some 2 := by kernel_rfl
/-- A wide number's cells. -/
abbrev wdC (u : Wd) : List Value := [.int .i64 u.1, .int .u64 (u.2 : Int)]
/-- Which wide number is less. -/
def wCmp (a b : Wd) : Int := orI (cmpI a.1 b.1) (cmpI a.2 b.2)

set_option maxRecDepth 100000 in
theorem wCompare_any (a b : Wd) (w : World) :
    Calls Try.prog 135 #[wdV a, wdV b] w fun e w' => e = .returned (.int .i64 (wCmp a b)) ∧ Kept [] w w' := by
  obtain ⟨a1, a2⟩ := a
  obtain ⟨b1, b2⟩ := b
  have HX := Lib.hid ((Blk.new w 124 (wdC (a1, a2))).alloc (.cells (wdC (b1, b2)).toArray 124))
  have HY := Lib.hid (Blk.new1F w (.cells (wdC (a1, a2)).toArray 124) 124 (wdC (b1, b2)))
  have G := Lib.hid (((Grown.refl w).alloc (.cells (wdC (a1, a2)).toArray 124)).alloc (.cells (wdC (b1, b2)).toArray 124))
  go_enter Try.func135, Try.ntmps135
  go_upto_region 1 with (fail)
  refine wp_region_still_tail 10 (by kernel_rfl) (by kernel_rfl) ?_
  simp only [List.take_succ_cons, List.take_zero, List.drop_succ_cons, List.drop_zero]
  change wpStill _ _ (World.drew ((w.alloc (.cells (wdC (a1, a2)).toArray 124)).alloc (.cells (wdC (b1, b2)).toArray 124))) (fun a' => wpList _ _ _ _ a' (World.drew ((w.alloc (.cells (wdC (a1, a2)).toArray 124)).alloc (.cells (wdC (b1, b2)).toArray 124)))) _ _
  replace HX := Lib.hid HX.out.drew
  replace HY := Lib.hid HY.out.drew
  replace G := Lib.hid G.out.drew
  generalize World.drew ((w.alloc (.cells (wdC (a1, a2)).toArray 124)).alloc (.cells (wdC (b1, b2)).toArray 124)) = w2 at *
  generalize w.heap.size + 1 = g2 at HY ⊢
  generalize w.heap.size = g1 at HX ⊢
  have x0 := HX.out.cell 0
  have y0 := HY.out.cell 0
  have x1 := HX.out.cell 1
  have y1 := HY.out.cell 1
  simp only [edV, List.getElem?_cons_zero, List.getElem?_cons_succ] at x0 y0 x1 y1
  repeat still_step
  still_call (compare_int64 a1 b1 _)
  repeat still_step
  still_call (compare_uint64 a2 b2 _)
  refine wpStill_nil ?_
  clear x0 x1 y0 y1
  have HO := Lib.hid (Blk.new w2 3 [.int .i64 (cmpI a1 b1), .int .i64 (cmpI a2 b2)])
  go_wp2_with fail
  refine (or2_any (cmpI a1 b1) (cmpI a2 b2) _ _ _ HO.out).mono ?_
  rintro _ w3 ⟨rfl, rfl⟩
  go_wp2_with fail
  go_ret
  exact ⟨rfl, (G.out.alloc _).kept⟩

set_option maxRecDepth 100000 in
theorem order_any (a b : Ed) (w : World) :
    Calls Try.prog 83 #[.agg (edV a).toArray, .agg (edV b).toArray] w fun e w' => e = .returned (.int .i64 (orderI a b)) ∧ Grown w w' := by
  have HX := Lib.hid ((Blk.new w 28 (edV a)).alloc (.cells (edV b).toArray 28))
  have HY := Lib.hid (Blk.new1F w (.cells (edV a).toArray 28) 28 (edV b))
  have G := Lib.hid (((Grown.refl w).alloc (.cells (edV a).toArray 28)).alloc (.cells (edV b).toArray 28))
  go_enter Try.func83, Try.ntmps83
  go_upto_region 1 with (fail)
  generalize ((w.alloc (.cells (edV a).toArray 28)).alloc (.cells (edV b).toArray 28)) = w2 at *
  generalize w.heap.size + 1 = g2 at HY ⊢
  generalize w.heap.size = g1 at HX ⊢
  refine wp_region_held_drew (S := (fun w' => w'.rangeAt g1 0 (edV a) ∧ w'.rangeAt g2 0 (edV b) ∧ w'.cell? ⟨g1, 2, none⟩ = some (.int .i64 a.2.2) ∧ w'.cell? ⟨g2, 2, none⟩ = some (.int .i64 b.2.2))) (by kernel_rfl) ?_ (fun hHeld => ?_)
  · exact ⟨HX.out.cell2, HY.out.cell2, HX.out.cell 2, HY.out.cell 2⟩
  replace HX := Lib.hid HX.out.drew
  replace HY := Lib.hid HY.out.drew
  replace G := Lib.hid G.out.drew
  refine tkLoad (i := 0) 28 (.tmp 2) g1 0 (edV a) _ rfl rfl (by kernel_rfl) (by kernel_rfl) (by kernel_rfl) (fun _ _ _ h => h) (by rfl) rfl rfl (fun w hw => hw.1) Try.underlying28 rfl infoEdge (by assumption) ?_
  try simp only [Act.put, List.setIfInBounds_toArray, List.set_cons_zero, List.set_cons_succ]
  refine tkLoad (i := 1) 28 (.tmp 3) g2 0 (edV b) _ rfl rfl (by kernel_rfl) (by kernel_rfl) (by kernel_rfl) (fun _ _ _ h => h) (by rfl) rfl rfl (fun w hw => hw.2.1) Try.underlying28 rfl infoEdge (by assumption) ?_
  try simp only [Act.put, List.setIfInBounds_toArray, List.set_cons_zero, List.set_cons_succ]
  refine tkYes (i := 3) (v := ?_) rfl rfl (by kernel_rfl) (by kernel_rfl) (by kernel_rfl) (fun _ _ _ h => h) (by rfl) ?_ (by assumption) ?_
  rotate_left
  · (intro w' hSw; (try dsimp only at hSw); go_simp; try with_reducible rfl)
  try simp only [Act.put, List.setIfInBounds_toArray, List.set_cons_zero, List.set_cons_succ]
  refine tkYes (i := 4) (v := ?_) rfl rfl (by kernel_rfl) (by kernel_rfl) (by kernel_rfl) (fun _ _ _ h => h) (by rfl) ?_ (by assumption) ?_
  rotate_left
  · (intro w' hSw; (try dsimp only at hSw); go_simp; try with_reducible rfl)
  try simp only [Act.put, List.setIfInBounds_toArray, List.set_cons_zero, List.set_cons_succ]
  refine tkYes (i := 5) (v := ?_) rfl rfl (by kernel_rfl) (by kernel_rfl) (by kernel_rfl) (fun _ _ _ h => h) (by rfl) ?_ (by assumption) ?_
  rotate_left
  · (intro w' hSw; (try dsimp only at hSw); go_simp; try with_reducible rfl)
  try simp only [Act.put, List.setIfInBounds_toArray, List.set_cons_zero, List.set_cons_succ]
  refine tkYes (i := 6) (v := ?_) rfl rfl (by kernel_rfl) (by kernel_rfl) (by kernel_rfl) (fun _ _ _ h => h) (by rfl) ?_ (by assumption) ?_
  rotate_left
  · (intro w' hSw; (try dsimp only at hSw); go_simp; try with_reducible rfl)
  try simp only [Act.put, List.setIfInBounds_toArray, List.set_cons_zero, List.set_cons_succ]
  refine wpAnyH_ready (rs := [2]) (by kernel_rfl) (by simp) ?_
  refine AllReadyH.cons rfl (fun K hK => ?_) AllReadyH.nil
  go_simp
  refine (ends_any a b _).mono ?_; rintro _ w3 ⟨rfl, hg⟩; replace HX := Lib.hid (HX.out.kept hg.kept (by simp)); replace HY := Lib.hid (HY.out.kept hg.kept (by simp)); replace G := Lib.hid (G.out.trans hg); clear hg
  go_wp2_with fail
  refine hK.out _ _ ?_ (fun hHeld => ?_)
  · exact ⟨HX.out.cell2, HY.out.cell2, HX.out.cell 2, HY.out.cell 2⟩
  clear hK K
  try simp only [Act.put, List.setIfInBounds_toArray, List.set_cons_zero, List.set_cons_succ]
  refine wpAnyH_ready (rs := [7]) (by kernel_rfl) (by simp) ?_
  refine AllReadyH.cons rfl (fun K hK => ?_) AllReadyH.nil
  go_simp
  refine (compare_int64 a.2.2 b.2.2 _).mono ?_; rintro _ w4 ⟨rfl, rfl⟩
  go_wp2_with fail
  refine hK.out _ _ ?_ (fun hHeld => ?_)
  · exact ⟨HX.out.cell2, HY.out.cell2, HX.out.cell 2, HY.out.cell 2⟩
  clear hK K
  try simp only [Act.put, List.setIfInBounds_toArray, List.set_cons_zero, List.set_cons_succ]
  refine wpAnyH_ready (rs := [8]) (by kernel_rfl) (by simp) ?_
  refine AllReadyH.cons rfl (fun K hK => ?_) AllReadyH.nil
  go_simp
  have HO := Lib.hid (Blk.new w4 3 [.int .i64 (endsI a b), .int .i64 (cmpI a.2.2 b.2.2)])
  replace HX := Lib.hid (HX.out.alloc (.cells #[.int .i64 (endsI a b), .int .i64 (cmpI a.2.2 b.2.2)] 3))
  replace HY := Lib.hid (HY.out.alloc (.cells #[.int .i64 (endsI a b), .int .i64 (cmpI a.2.2 b.2.2)] 3))
  replace G := Lib.hid (G.out.alloc (.cells #[.int .i64 (endsI a b), .int .i64 (cmpI a.2.2 b.2.2)] 3))
  refine hK.out _ _ ?_ (fun hHeld => ?_)
  · exact ⟨HX.out.cell2, HY.out.cell2, HX.out.cell 2, HY.out.cell 2⟩
  clear hK K
  refine wpAnyH_ready (rs := [9]) (by kernel_rfl) (by simp) ?_
  refine AllReadyH.cons rfl (fun K hK => ?_) AllReadyH.nil
  go_simp
  refine (or2_any (endsI a b) (cmpI a.2.2 b.2.2) _ _ _ HO.out).mono ?_; rintro _ w5 ⟨rfl, rfl⟩
  go_wp2_with fail
  refine hK.out _ _ ?_ (fun hHeld => ?_)
  · exact ⟨HX.out.cell2, HY.out.cell2, HX.out.cell 2, HY.out.cell 2⟩
  clear hK K
  try simp only [Act.put, List.setIfInBounds_toArray, List.set_cons_zero, List.set_cons_succ]
  refine tkYes (i := 10) (v := ?_) rfl rfl (by kernel_rfl) (by kernel_rfl) (by kernel_rfl) (fun _ _ _ h => h) (by rfl) ?_ (by assumption) ?_
  rotate_left
  · (intro w' hSw; (try dsimp only at hSw); go_simp; try with_reducible rfl)
  try simp only [Act.put, List.setIfInBounds_toArray, List.set_cons_zero, List.set_cons_succ]
  refine wpAnyH_done (by kernel_rfl) ?_ _
  go_wp2_with fail
  go_ret
  exact ⟨rfl, G.out⟩
end Go.Proofs.Ytibjpjpbmkdddaa
