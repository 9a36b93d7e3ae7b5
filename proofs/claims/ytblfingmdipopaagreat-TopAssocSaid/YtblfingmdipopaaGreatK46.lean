/- gemm.Cells: what each place of a third matrix comes to. Conditions: values of the ring; the matrices fit. -/
import Derived.Test.YtblfingmdipopaaGreatK45
namespace Go.Proofs.YtblfingmdipopaaGreat
set_option linter.unusedSimpArgs false
set_option linter.unusedVariables false
open Go.ChangeShapes Go.WideShapes Go.ChangeAt Go.RowKit
open Go.RowKit (wrap32 wrap64)
set_option maxHeartbeats 8000000

theorem MapB.keptB {w w' : World} {base : Nat} {T : List TypeId} {b c : Nat} {l : List (Int × Value × Nat)} (h : MapB w b l c) (hk : KeptB base T w w') : MapB w' b l c :=
  (hk.block b h.lt (.inr fun cs t fr hc => by unfold MapB at h; rw [hc] at h; cases h)).trans h
theorem SumM.keptB {w w' : World} {base b : Nat} {T : List TypeId} {f : Int → Option Int} (h : SumM w b f) (hk : KeptB base T w w') : SumM w' b f := by
  obtain ⟨l, c, h1, h2⟩ := h
  exact ⟨l, c, h1.keptB hk, h2⟩
/-- The cells of one row. -/
def cellsT (r : Int) (T : List (Int × Int)) (i : Nat) (l : List Ed) : List Ed := l.filterMap (fun e => (cellR r T e.2.1).map (fun s => ((i : Int), e.2.1, s)))
theorem cellsT_len (r : Int) (T : List (Int × Int)) (i : Nat) (l : List Ed) : (cellsT r T i l).length ≤ l.length := List.length_filterMap_le _ _
theorem cellsT_snoc (r : Int) (T : List (Int × Int)) (i : Nat) (l : List Ed) (e : Ed) : cellsT r T i (l ++ [e]) = match cellR r T e.2.1 with | none => cellsT r T i l | some s => cellsT r T i l ++ [((i : Int), e.2.1, s)] := by
  unfold cellsT
  rw [List.filterMap_append]
  cases h : cellR r T e.2.1 with
  | none => simp [h]
  | some s => simp [h]
theorem cells_row (r : Int) (LA LB : List Ed) {LM : List Ed} (i : Nat) : cellsR r LA LB (rowL LM i) = cellsT r (pairsR r LB (rowL LA i)) i (rowL LM i) := by
  unfold cellsR cellsT
  refine filterMap_same (fun e he => ?_)
  have h1 := (mem_rowL.1 he).2
  rw [h1, Int.toNat_natCast]
theorem cells_acc (r : Int) (LA LB : List Ed) {LM : List Ed} (h : SortR LM) (i : Nat) : cellsR r LA LB (accL LM (i + 1)) = cellsR r LA LB (accL LM i) ++ cellsT r (pairsR r LB (rowL LA i)) i (rowL LM i) := by
  rw [accL_succ h, ← cells_row]
  unfold cellsR
  rw [List.filterMap_append]
theorem cellsR_len (r : Int) (LA LB LM : List Ed) : (cellsR r LA LB LM).length ≤ LM.length := List.length_filterMap_le _ _

set_option maxRecDepth 100000 in
theorem gCells_any (r : Int) (hr : RingV r) (n k j base base2 base3 : Nat) (LA LB LM : List Ed) (v1 v2 v3 u1 u2 u3 t1 t2 t3 : Value) (w : World) (hoA : MtOkM n k LA) (hmA : MtAt w base v1 v2 v3 n LA) (hoB : MtOkM k j LB) (hmB : MtAt w base2 u1 u2 u3 k LB) (hoM : MtOkM n j LM) (hmM : MtAt w base3 t1 t2 t3 n LM) (hvA : ∀ e ∈ LA, OkV r e.2.2) (hvB : ∀ e ∈ LB, OkV r e.2.2) :
    Calls Tryz.prog 22 #[.int .i64 r, .agg #[.int .i64 n, .int .i64 k, v1, v2, v3], .agg #[.int .i64 k, .int .i64 j, u1, u2, u3], .agg #[.int .i64 n, .int .i64 j, t1, t2, t3]] w (fun e w' => ∃ v, e = .returned (.tuple #[v, .int .i64 0]) ∧ w'.ownsRow w.heap.size 124 4 v (cellsR r LA LB LM).length ((cellsR r LA LB LM).flatMap ceV) ∧ Kept [] w w') := by
  obtain ⟨b1, c1, A2, c2, A3, c3, rfl, rfl, rfl, _, _⟩ := hmA.form
  obtain ⟨e1, f1, E2, f2, E3, f3, rfl, rfl, rfl, _, _⟩ := hmB.form
  obtain ⟨h1, d1, D2, d2, D3, d3, rfl, rfl, rfl, _, _⟩ := hmM.form
  have hmm : ∀ (t : TypeId) (wx : World), (Instr.makeMap t none).run Tryz.prog wx = .ok (.map (some wx.heap.size)) (wx.alloc (.map #[] 0)) := fun _ _ => rfl
  have HRV := Lib.hid hr
  have HOA := Lib.hid hoA
  have HMA := Lib.hid hmA
  have HOB := Lib.hid hoB
  have HMB := Lib.hid hmB
  have HOM := Lib.hid hoM
  have HMM := Lib.hid hmM
  have HVA := Lib.hid hvA
  have HVB := Lib.hid hvB
  clear hr hoA hmA hoB hmB hoM hmM hvA hvB
  obtain ⟨post, hpost⟩ : ∃ post : Ending → World → Prop, post = (fun e w' => ∃ v, e = .returned (.tuple #[v, .int .i64 0]) ∧ w'.ownsRow w.heap.size 124 4 v (cellsR r LA LB LM).length ((cellsR r LA LB LM).flatMap ceV) ∧ Kept [] w w') := ⟨_, rfl⟩
  rw [← hpost]
  have HPOST := Lib.hid hpost
  clear hpost
  have HX := Lib.hid (((Blk.new w 31 [.int .i64 n, .int .i64 k, .slice (some ⟨b1, 0, none⟩) (n + 1) c1, .slice A2 LA.length c2, .slice A3 LA.length c3]).alloc (.cells #[.int .i64 k, .int .i64 j, .slice (some ⟨e1, 0, none⟩) (k + 1) f1, .slice E2 LB.length f2, .slice E3 LB.length f3] 31)).alloc (.cells #[.int .i64 n, .int .i64 j, .slice (some ⟨h1, 0, none⟩) (n + 1) d1, .slice D2 LM.length d2, .slice D3 LM.length d3] 31))
  have HY := Lib.hid ((Blk.new1F w (.cells #[.int .i64 n, .int .i64 k, .slice (some ⟨b1, 0, none⟩) (n + 1) c1, .slice A2 LA.length c2, .slice A3 LA.length c3] 31) 31 [.int .i64 k, .int .i64 j, .slice (some ⟨e1, 0, none⟩) (k + 1) f1, .slice E2 LB.length f2, .slice E3 LB.length f3]).alloc (.cells #[.int .i64 n, .int .i64 j, .slice (some ⟨h1, 0, none⟩) (n + 1) d1, .slice D2 LM.length d2, .slice D3 LM.length d3] 31))
  have HZ0 := Blk.new ((w.alloc (.cells #[.int .i64 n, .int .i64 k, .slice (some ⟨b1, 0, none⟩) (n + 1) c1, .slice A2 LA.length c2, .slice A3 LA.length c3] 31)).alloc (.cells #[.int .i64 k, .int .i64 j, .slice (some ⟨e1, 0, none⟩) (k + 1) f1, .slice E2 LB.length f2, .slice E3 LB.length f3] 31)) 31 [.int .i64 n, .int .i64 j, .slice (some ⟨h1, 0, none⟩) (n + 1) d1, .slice D2 LM.length d2, .slice D3 LM.length d3]
  rw [show ((w.alloc (.cells #[.int .i64 n, .int .i64 k, .slice (some ⟨b1, 0, none⟩) (n + 1) c1, .slice A2 LA.length c2, .slice A3 LA.length c3] 31)).alloc (.cells #[.int .i64 k, .int .i64 j, .slice (some ⟨e1, 0, none⟩) (k + 1) f1, .slice E2 LB.length f2, .slice E3 LB.length f3] 31)).heap.size = w.heap.size + 1 + 1 by simp] at HZ0
  have HZ := Lib.hid HZ0
  have K0 := Lib.hid ((((Kept.refl [] w).alloc (.cells #[.int .i64 n, .int .i64 k, .slice (some ⟨b1, 0, none⟩) (n + 1) c1, .slice A2 LA.length c2, .slice A3 LA.length c3] 31)).alloc (.cells #[.int .i64 k, .int .i64 j, .slice (some ⟨e1, 0, none⟩) (k + 1) f1, .slice E2 LB.length f2, .slice E3 LB.length f3] 31)).alloc (.cells #[.int .i64 n, .int .i64 j, .slice (some ⟨h1, 0, none⟩) (n + 1) d1, .slice D2 LM.length d2, .slice D3 LM.length d3] 31))
  have HNE0 := Lib.hid (show w.heap.size < w.heap.size + 1 ∧ w.heap.size + 1 < w.heap.size + 1 + 1 ∧ w.heap.size ≤ w.heap.size from ⟨by omega, by omega, by omega⟩)
  clear HZ0
  go_enter Tryz.func22, Tryz.ntmps22
  go_upto_region 1 with (fail)
  generalize (((w.alloc (.cells #[.int .i64 n, .int .i64 k, .slice (some ⟨b1, 0, none⟩) (n + 1) c1, .slice A2 LA.length c2, .slice A3 LA.length c3] 31)).alloc (.cells #[.int .i64 k, .int .i64 j, .slice (some ⟨e1, 0, none⟩) (k + 1) f1, .slice E2 LB.length f2, .slice E3 LB.length f3] 31)).alloc (.cells #[.int .i64 n, .int .i64 j, .slice (some ⟨h1, 0, none⟩) (n + 1) d1, .slice D2 LM.length d2, .slice D3 LM.length d3] 31)) = w1 at *
  generalize w.heap.size + 1 + 1 = gm at HZ HNE0 ⊢
  generalize w.heap.size + 1 = gb at HY HNE0 ⊢
  generalize hga : w.heap.size = ga at HX ⊢
  have HNE := Lib.hid (show ga < gb ∧ gb < gm ∧ w.heap.size ≤ ga by have := HNE0.out; omega)
  clear HNE0 hga
  go_wp2_with (first | (refine wpList_loadBlk rfl 31 (.tmp 5) rfl ga [.int .i64 n, .int .i64 k, .slice (some ⟨b1, 0, none⟩) (n + 1) c1, .slice A2 LA.length c2, .slice A3 LA.length c3] _ HX.out rfl Tryz.underlying31 rfl infoRows ?_) | (refine wpList_loadBlk rfl 31 (.tmp 6) rfl gb [.int .i64 k, .int .i64 j, .slice (some ⟨e1, 0, none⟩) (k + 1) f1, .slice E2 LB.length f2, .slice E3 LB.length f3] _ HY.out rfl Tryz.underlying31 rfl infoRows ?_) | (refine wpList_loadBlk rfl 31 (.tmp 7) rfl gm [.int .i64 n, .int .i64 j, .slice (some ⟨h1, 0, none⟩) (n + 1) d1, .slice D2 LM.length d2, .slice D3 LM.length d3] _ HZ.out rfl Tryz.underlying31 rfl infoRows ?_))
  refine (gSure_any [⟨n, k, base, LA, .slice (some ⟨b1, 0, none⟩) (n + 1) c1, .slice A2 LA.length c2, .slice A3 LA.length c3⟩, ⟨k, j, base2, LB, .slice (some ⟨e1, 0, none⟩) (k + 1) f1, .slice E2 LB.length f2, .slice E3 LB.length f3⟩, ⟨n, j, base3, LM, .slice (some ⟨h1, 0, none⟩) (n + 1) d1, .slice D2 LM.length d2, .slice D3 LM.length d3⟩] (some ⟨_, 0, none⟩) 3 _ (by simp) (fun x hx => ?_) (Reads.of_blk (Blk.new _ _ _) (fun _ _ h => h))).mono ?_
  · simp only [List.mem_cons, List.not_mem_nil, or_false] at hx
    rcases hx with rfl | rfl | rfl
    · exact ⟨HOA.out, HMA.out.kept0 (K0.out.trans ((Kept.refl [] w1).alloc _))⟩
    · exact ⟨HOB.out, HMB.out.kept0 (K0.out.trans ((Kept.refl [] w1).alloc _))⟩
    · exact ⟨HOM.out, HMM.out.kept0 (K0.out.trans ((Kept.refl [] w1).alloc _))⟩
  rintro _ w6 ⟨v, rfl, ho, hk⟩
  have hk2 := ((Kept.refl [] w1).alloc _).trans hk
  have hsz1 := K0.out.size
  have hz1 := HZ.out.lt
  have HV := Lib.hid ho
  obtain ⟨gq, cq, rfl, hgb, hgl, hcc, _⟩ := own_ptr ho (by simp)
  have HGQ := Lib.hid (show gm < gq by have := hk2.size; have : (w1.alloc _).heap.size ≤ gq := hgb; simp at this; omega)
  replace HX := Lib.hid (HX.out.kept hk2 (by simp))
  replace HY := Lib.hid (HY.out.kept hk2 (by simp))
  replace HZ := Lib.hid (HZ.out.kept hk2 (by simp))
  replace K0 := Lib.hid (K0.out.trans hk2)
  clear hk hk2 ho hgb hgl hcc hsz1 hz1
  go_upto_region 2 with (fail)
  refine wp_region_held_drew (S := (fun w' => w'.rangeAt gq 0 [.int .i64 n, .int .i64 k, .slice (some ⟨b1, 0, none⟩) (n + 1) c1, .slice A2 LA.length c2, .slice A3 LA.length c3] ∧ w'.rangeAt gq 5 [.int .i64 k, .int .i64 j, .slice (some ⟨e1, 0, none⟩) (k + 1) f1, .slice E2 LB.length f2, .slice E3 LB.length f3] ∧ w'.rangeAt gq 10 [.int .i64 n, .int .i64 j, .slice (some ⟨h1, 0, none⟩) (n + 1) d1, .slice D2 LM.length d2, .slice D3 LM.length d3])) (by kernel_rfl) ?_ (fun hHeld => ?_)
  · exact ⟨own_range (f := Mx.cells) (fun _ => rfl) (by decide) (own_kept0 HV.out (Kept.refl [] w6).drew) (i := 0) (by simp), own_range (f := Mx.cells) (fun _ => rfl) (by decide) (own_kept0 HV.out (Kept.refl [] w6).drew) (i := 1) (by simp), own_range (f := Mx.cells) (fun _ => rfl) (by decide) (own_kept0 HV.out (Kept.refl [] w6).drew) (i := 2) (by simp)⟩
  replace HX := Lib.hid HX.out.drew
  replace HY := Lib.hid HY.out.drew
  replace HZ := Lib.hid HZ.out.drew
  replace HV := Lib.hid (own_kept0 HV.out (Kept.refl [] w6).drew)
  replace K0 := Lib.hid K0.out.drew
  generalize w6.drew = w7 at *
  refine tkYes (i := 0) (v := ?_) rfl rfl (by kernel_rfl) (by kernel_rfl) (by kernel_rfl) (fun _ _ _ h => h) (by rfl) ?_ (by assumption) ?_
  rotate_left
  · (intro w' hSw; (try dsimp only at hSw); go_simp; try with_reducible rfl)
  try simp only [Act.put, List.setIfInBounds_toArray, List.set_cons_zero, List.set_cons_succ]
  refine tkYes (i := 1) (v := .pointer (some ⟨gq, 0, none⟩)) rfl rfl (by kernel_rfl) (by kernel_rfl) (by kernel_rfl) (fun _ _ _ h => h) (by rfl) ?_ (by assumption) ?_
  skip
  · (intro w' hSw; (try dsimp only at hSw); go_simp; first | done | (simp; done) | (intro hbad; omega) | rfl)
  try simp only [Act.put, List.setIfInBounds_toArray, List.set_cons_zero, List.set_cons_succ]
  refine tkLoad (i := 2) 31 (.tmp 29) gq (0) [.int .i64 n, .int .i64 k, .slice (some ⟨b1, 0, none⟩) (n + 1) c1, .slice A2 LA.length c2, .slice A3 LA.length c3] _ rfl rfl (by kernel_rfl) (by kernel_rfl) (by kernel_rfl) (fun _ _ _ h => h) (by rfl) rfl rfl (fun w hw => hw.1) Tryz.underlying31 rfl infoRows (by assumption) ?_
  try simp only [Act.put, List.setIfInBounds_toArray, List.set_cons_zero, List.set_cons_succ]
  refine tkYes (i := 3) (v := ?_) rfl rfl (by kernel_rfl) (by kernel_rfl) (by kernel_rfl) (fun _ _ _ h => h) (by rfl) ?_ (by assumption) ?_
  rotate_left
  · (intro w' hSw; (try dsimp only at hSw); go_simp; try with_reducible rfl)
  try simp only [Act.put, List.setIfInBounds_toArray, List.set_cons_zero, List.set_cons_succ]
  refine tkYes (i := 4) (v := .pointer (some ⟨gq, 5, none⟩)) rfl rfl (by kernel_rfl) (by kernel_rfl) (by kernel_rfl) (fun _ _ _ h => h) (by rfl) ?_ (by assumption) ?_
  skip
  · (intro w' hSw; (try dsimp only at hSw); go_simp; first | done | (simp; done) | (intro hbad; omega) | rfl)
  try simp only [Act.put, List.setIfInBounds_toArray, List.set_cons_zero, List.set_cons_succ]
  refine tkLoad (i := 5) 31 (.tmp 32) gq (5) [.int .i64 k, .int .i64 j, .slice (some ⟨e1, 0, none⟩) (k + 1) f1, .slice E2 LB.length f2, .slice E3 LB.length f3] _ rfl rfl (by kernel_rfl) (by kernel_rfl) (by kernel_rfl) (fun _ _ _ h => h) (by rfl) rfl rfl (fun w hw => hw.2.1) Tryz.underlying31 rfl infoRows (by assumption) ?_
  try simp only [Act.put, List.setIfInBounds_toArray, List.set_cons_zero, List.set_cons_succ]
  refine tkYes (i := 6) (v := ?_) rfl rfl (by kernel_rfl) (by kernel_rfl) (by kernel_rfl) (fun _ _ _ h => h) (by rfl) ?_ (by assumption) ?_
  rotate_left
  · (intro w' hSw; (try dsimp only at hSw); go_simp; try with_reducible rfl)
  try simp only [Act.put, List.setIfInBounds_toArray, List.set_cons_zero, List.set_cons_succ]
  refine tkYes (i := 7) (v := .pointer (some ⟨gq, 10, none⟩)) rfl rfl (by kernel_rfl) (by kernel_rfl) (by kernel_rfl) (fun _ _ _ h => h) (by rfl) ?_ (by assumption) ?_
  skip
  · (intro w' hSw; (try dsimp only at hSw); go_simp; first | done | (simp; done) | (intro hbad; omega) | rfl)
  try simp only [Act.put, List.setIfInBounds_toArray, List.set_cons_zero, List.set_cons_succ]
  refine tkLoad (i := 8) 31 (.tmp 35) gq (10) [.int .i64 n, .int .i64 j, .slice (some ⟨h1, 0, none⟩) (n + 1) d1, .slice D2 LM.length d2, .slice D3 LM.length d3] _ rfl rfl (by kernel_rfl) (by kernel_rfl) (by kernel_rfl) (fun _ _ _ h => h) (by rfl) rfl rfl (fun w hw => hw.2.2) Tryz.underlying31 rfl infoRows (by assumption) ?_
  try simp only [Act.put, List.setIfInBounds_toArray, List.set_cons_zero, List.set_cons_succ]
  refine wpAnyH_ready (rs := [9]) (by kernel_rfl) (by simp) ?_
  refine AllReadyH.cons rfl (fun K hK => ?_) AllReadyH.nil
  refine stpBlk rfl 31 (.tmp 5) (.tmp 30) rfl ga _ [.int .i64 n, .int .i64 k, .slice (some ⟨b1, 0, none⟩) (n + 1) c1, .slice A2 LA.length c2, .slice A3 LA.length c3] HX.out rfl rfl rfl infoRows (by simp [Value.oneCell']) ?_
  intro q9 hb9 hk9
  replace HY := Lib.hid (HY.out.kept hk9 (by simp; have := HNE.out; omega))
  replace HZ := Lib.hid (HZ.out.kept hk9 (by simp; have := HNE.out; omega))
  replace HX := Lib.hid hb9
  replace HV := Lib.hid (own_kept HV.out hk9 (fun u hu => by simp [Value.ownBlock] at hu; subst hu; have := HGQ.out; have := HNE.out; simp; omega))
  replace K0 := Lib.hid (K0.out.then hk9 (fun u hu => by simp at hu; subst hu; exact .inr (by have := HNE.out; omega)))
  clear hb9 hk9
  go_simp
  refine hK.out _ _ ?_ (fun hHeld => ?_)
  · exact ⟨own_range (f := Mx.cells) (fun _ => rfl) (by decide) HV.out (i := 0) (by simp), own_range (f := Mx.cells) (fun _ => rfl) (by decide) HV.out (i := 1) (by simp), own_range (f := Mx.cells) (fun _ => rfl) (by decide) HV.out (i := 2) (by simp)⟩
  clear hK K
  try simp only [Act.put, List.setIfInBounds_toArray, List.set_cons_zero, List.set_cons_succ]
  refine wpAnyH_ready (rs := [10]) (by kernel_rfl) (by simp) ?_
  refine AllReadyH.cons rfl (fun K hK => ?_) AllReadyH.nil
  refine stpBlk rfl 31 (.tmp 6) (.tmp 33) rfl gb _ [.int .i64 k, .int .i64 j, .slice (some ⟨e1, 0, none⟩) (k + 1) f1, .slice E2 LB.length f2, .slice E3 LB.length f3] HY.out rfl rfl rfl infoRows (by simp [Value.oneCell']) ?_
  intro q10 hb10 hk10
  replace HX := Lib.hid (HX.out.kept hk10 (by simp; have := HNE.out; omega))
  replace HZ := Lib.hid (HZ.out.kept hk10 (by simp; have := HNE.out; omega))
  replace HY := Lib.hid hb10
  replace HV := Lib.hid (own_kept HV.out hk10 (fun u hu => by simp [Value.ownBlock] at hu; subst hu; have := HGQ.out; have := HNE.out; simp; omega))
  replace K0 := Lib.hid (K0.out.then hk10 (fun u hu => by simp at hu; subst hu; exact .inr (by have := HNE.out; omega)))
  clear hb10 hk10
  go_simp
  refine hK.out _ _ ?_ (fun hHeld => ?_)
  · exact ⟨own_range (f := Mx.cells) (fun _ => rfl) (by decide) HV.out (i := 0) (by simp), own_range (f := Mx.cells) (fun _ => rfl) (by decide) HV.out (i := 1) (by simp), own_range (f := Mx.cells) (fun _ => rfl) (by decide) HV.out (i := 2) (by simp)⟩
  clear hK K
  try simp only [Act.put, List.setIfInBounds_toArray, List.set_cons_zero, List.set_cons_succ]
  refine wpAnyH_ready (rs := [11]) (by kernel_rfl) (by simp) ?_
  refine AllReadyH.cons rfl (fun K hK => ?_) AllReadyH.nil
  refine stpBlk rfl 31 (.tmp 7) (.tmp 36) rfl gm _ [.int .i64 n, .int .i64 j, .slice (some ⟨h1, 0, none⟩) (n + 1) d1, .slice D2 LM.length d2, .slice D3 LM.length d3] HZ.out rfl rfl rfl infoRows (by simp [Value.oneCell']) ?_
  intro q11 hb11 hk11
  replace HX := Lib.hid (HX.out.kept hk11 (by simp; have := HNE.out; omega))
  replace HY := Lib.hid (HY.out.kept hk11 (by simp; have := HNE.out; omega))
  replace HZ := Lib.hid hb11
  replace HV := Lib.hid (own_kept HV.out hk11 (fun u hu => by simp [Value.ownBlock] at hu; subst hu; have := HGQ.out; have := HNE.out; simp; omega))
  replace K0 := Lib.hid (K0.out.then hk11 (fun u hu => by simp at hu; subst hu; exact .inr (by have := HNE.out; omega)))
  clear hb11 hk11
  go_simp
  refine hK.out _ _ ?_ (fun hHeld => ?_)
  · exact ⟨own_range (f := Mx.cells) (fun _ => rfl) (by decide) HV.out (i := 0) (by simp), own_range (f := Mx.cells) (fun _ => rfl) (by decide) HV.out (i := 1) (by simp), own_range (f := Mx.cells) (fun _ => rfl) (by decide) HV.out (i := 2) (by simp)⟩
  clear hK K
  try simp only [Act.put, List.setIfInBounds_toArray, List.set_cons_zero, List.set_cons_succ]
  refine wpAnyH_done (by kernel_rfl) ?_ _
  go_wp2_with fail
  refine (ringIs_any r _).mono ?_
  rintro _ w8 ⟨rfl, hw8⟩
  subst hw8
  have ri : ringIs r = true := by rcases HRV.out with rfl | rfl | rfl <;> rfl
  rw [ri]
  have x0 := HX.out.cell 0
  have x1 := HX.out.cell 1
  simp only [List.getElem?_cons_zero, List.getElem?_cons_succ] at x0 x1
  have y0 := HY.out.cell 0
  have y1 := HY.out.cell 1
  simp only [List.getElem?_cons_zero, List.getElem?_cons_succ] at y0 y1
  have z0 := HZ.out.cell 0
  have z1 := HZ.out.cell 1
  simp only [List.getElem?_cons_zero, List.getElem?_cons_succ] at z0 z1
  go_wp2_with fail
  clear x0 x1 y0 y1 z0 z1 ri HV
  have hnn := HOM.out.num
  go_loopw [11, 59] (fun v x wq => ∃ i : Nat, i ≤ n ∧ x = .int .i64 i ∧ Hid (wq.ownsRow w.heap.size 124 4 v (cellsR r LA LB (accL LM i)).length ((cellsR r LA LB (accL LM i)).flatMap ceV)) ∧ Hid (Blk wq ga 31 [.int .i64 n, .int .i64 k, .slice (some ⟨b1, 0, none⟩) (n + 1) c1, .slice A2 LA.length c2, .slice A3 LA.length c3]) ∧ Hid (Blk wq gb 31 [.int .i64 k, .int .i64 j, .slice (some ⟨e1, 0, none⟩) (k + 1) f1, .slice E2 LB.length f2, .slice E3 LB.length f3]) ∧ Hid (Blk wq gm 31 [.int .i64 n, .int .i64 j, .slice (some ⟨h1, 0, none⟩) (n + 1) d1, .slice D2 LM.length d2, .slice D3 LM.length d3]) ∧ Hid (Kept [] w wq)) (fun _ x _ => n - (intOf x).toNat)
  case atStart => exact ⟨0, Nat.zero_le _, rfl, Lib.hid (by rw [accL_zero (fun e he => (HOM.out.inn e he).1.1)]; exact World.ownsRow_nil _ _ _ _), HX, HY, HZ, K0⟩
  case round =>
    clear HX HY HZ K0
    obtain ⟨i, hi, rfl, HO, HX, HY, HZ, K0⟩ := hrel
    obtain ⟨v, hv⟩ : ∃ v, v = u11 := ⟨_, rfl⟩
    subst hv
    by_cases hlt : i < n
    · have HAC := Lib.hid (cells_acc r LA LB (risesL_sortR HOM.out.rises) i)
      have hfl : (cellsR r LA LB (accL LM i)).length ≤ 65536 := Nat.le_trans (cellsR_len r LA LB _) (Nat.le_trans (List.length_filter_le _ _) HOM.out.len)
      have HPO := Lib.hid (pairs_ok (LB := LB) (A := rowL LA i) (fun e he => HVA.out e (mem_rowL.1 he).1) HVB.out)
      obtain ⟨F, hF⟩ : ∃ F, F = cellsR r LA LB (accL LM i) := ⟨_, rfl⟩
      rw [← hF] at HO HAC hfl
      clear hF
      obtain ⟨A7, c7, rfl⟩ := own_n HO.out
      go_upto_region 13 with (fail)
      go_wp2_with (first | (refine wpList_loadBlk rfl 31 (.tmp 7) rfl gm [.int .i64 n, .int .i64 j, .slice (some ⟨h1, 0, none⟩) (n + 1) d1, .slice D2 LM.length d2, .slice D3 LM.length d3] _ HZ.out rfl Tryz.underlying31 rfl infoRows ?_))
      refine (gpart_anyM n j base3 i LM _ _ _ _ hlt HOM.out (HMM.out.kept0 K0.out)).mono ?_
      rintro _ w3 ⟨B, D, rfl, hp, hk⟩
      have HPM := Lib.hid (hp w HMM.out)
      replace HX := Lib.hid (HX.out.kept hk (by simp))
      replace HY := Lib.hid (HY.out.kept hk (by simp))
      replace HZ := Lib.hid (HZ.out.kept hk (by simp))
      replace HO := Lib.hid (own_kept0 HO.out hk)
      replace K0 := Lib.hid (K0.out.trans hk)
      clear hk hp
      have hrm : (rowL LM i).length ≤ 65536 := Nat.le_trans (List.length_filter_le _ _) HOM.out.len
      have HRM1 := Lib.hid (fun e he => (mem_rowL.1 he).2 : ∀ e ∈ rowL LM i, e.1 = (i : Int))
      obtain ⟨RM, hRM⟩ : ∃ RM, RM = rowL LM i := ⟨_, rfl⟩
      rw [← hRM] at HPM hrm HAC HRM1 ⊢
      clear hRM
      go_upto_region 15 with (fail)
      have HK := Lib.hid (AskM.new w3)
      have HGK := Lib.hid K0.out.size
      replace HX := Lib.hid (HX.out.kept ((Kept.refl [] w3).alloc (.map #[] 0)) (by simp))
      replace HY := Lib.hid (HY.out.kept ((Kept.refl [] w3).alloc (.map #[] 0)) (by simp))
      replace HZ := Lib.hid (HZ.out.kept ((Kept.refl [] w3).alloc (.map #[] 0)) (by simp))
      replace HO := Lib.hid (own_kept0 HO.out ((Kept.refl [] w3).alloc (.map #[] 0)))
      replace K0 := Lib.hid (K0.out.trans ((Kept.refl [] w3).alloc (.map #[] 0)))
      generalize w3.alloc (.map #[] 0) = w4 at *
      generalize w3.heap.size = gk at HK HGK ⊢
      go_wp2_with fail
      go_loopw [71] (fun x wr => ∃ p : Nat, p ≤ RM.length ∧ x = .int .i64 p ∧ Hid (AskM wr gk ((RM.take p).map (fun e => e.2.1))) ∧ Hid (wr.ownsRow w.heap.size 124 4 (.slice A7 F.length c7) F.length (F.flatMap ceV)) ∧ Hid (Blk wr ga 31 [.int .i64 n, .int .i64 k, .slice (some ⟨b1, 0, none⟩) (n + 1) c1, .slice A2 LA.length c2, .slice A3 LA.length c3]) ∧ Hid (Blk wr gb 31 [.int .i64 k, .int .i64 j, .slice (some ⟨e1, 0, none⟩) (k + 1) f1, .slice E2 LB.length f2, .slice E3 LB.length f3]) ∧ Hid (Blk wr gm 31 [.int .i64 n, .int .i64 j, .slice (some ⟨h1, 0, none⟩) (n + 1) d1, .slice D2 LM.length d2, .slice D3 LM.length d3]) ∧ Hid (Kept [] w wr)) (fun x _ => RM.length - (intOf x).toNat)
      case atStart => exact ⟨0, Nat.zero_le _, rfl, HK, HO, HX, HY, HZ, K0⟩
      case round =>
        clear HK HO HX HY HZ K0
        obtain ⟨p, hp, rfl, HK, HO, HX, HY, HZ, K0⟩ := hrel
        by_cases hlp : p < RM.length
        · have HTK := Lib.hid (List.take_succ_eq_append_getElem hlp)
          obtain ⟨bC, oC, rfl, hbC, cC⟩ := cols_at HPM.out.1 hlp
          obtain ⟨y, hy⟩ : ∃ y, y = RM[p] := ⟨_, rfl⟩
          rw [← hy] at cC HTK
          clear hy
          obtain ⟨y1, y2, y3⟩ := y
          dsimp only at cC HTK
          have cC' := K0.out.cell_lt cC
          clear hbC cC
          go_wp2_with (first | (refine ask_set rfl (.tmp 75) (.tmp 76) _ rfl HK.out rfl y2 rfl rfl ?_; intro w8 hm8 hk8))
          have N1 := HK.out.ne_blk HX.out
          have N2 := HK.out.ne_blk HY.out
          have N3 := HK.out.ne_blk HZ.out
          have N4 := HK.out.ne_own HO.out
          replace HX := Lib.hid (HX.out.kept hk8 (by simpa using N1))
          replace HY := Lib.hid (HY.out.kept hk8 (by simpa using N2))
          replace HZ := Lib.hid (HZ.out.kept hk8 (by simpa using N3))
          replace HO := Lib.hid (own_kept HO.out hk8 (fun u hu => by simp; rintro rfl; exact N4 hu))
          replace HK := Lib.hid (show AskM w8 gk ((RM.take (p + 1)).map (fun e => e.2.1)) by rw [HTK.out, List.map_append]; exact hm8)
          replace K0 := Lib.hid (K0.out.then hk8 (fun u hu => by simp at hu; subst hu; exact .inr HGK.out))
          clear hm8 hk8 N1 N2 N3 N4
          go_roundw
          case rel => exact ⟨p + 1, by omega, by go_num, HK, HO, HX, HY, HZ, K0⟩
          case measure => simp [intOf]; omega
        · obtain rfl : p = RM.length := by omega
          rw [List.take_length] at HK
          go_wp2_with (first | (refine wpList_loadBlk rfl 31 (.tmp 5) rfl ga [.int .i64 n, .int .i64 k, .slice (some ⟨b1, 0, none⟩) (n + 1) c1, .slice A2 LA.length c2, .slice A3 LA.length c3] _ HX.out rfl Tryz.underlying31 rfl infoRows ?_) | (refine wpList_loadBlk rfl 31 (.tmp 6) rfl gb [.int .i64 k, .int .i64 j, .slice (some ⟨e1, 0, none⟩) (k + 1) f1, .slice E2 LB.length f2, .slice E3 LB.length f3] _ HY.out rfl Tryz.underlying31 rfl infoRows ?_))
          refine (gRow_any r HRV.out n k j base base2 i gk LA LB (RM.map (fun e => e.2.1)) _ _ _ _ _ _ _ hlt HOA.out (HMA.out.kept0 K0.out) HOB.out (HMB.out.kept0 K0.out) HVA.out HVB.out HK.out).mono ?_
          rintro _ w5 ⟨gs, rfl, hsm, hk⟩
          have HS := Lib.hid hsm
          replace HX := Lib.hid (HX.out.kept hk (by simp))
          replace HY := Lib.hid (HY.out.kept hk (by simp))
          replace HZ := Lib.hid (HZ.out.kept hk (by simp))
          replace HO := Lib.hid (own_kept0 HO.out hk)
          replace K0 := Lib.hid (K0.out.trans hk)
          clear hsm hk HK
          obtain ⟨T, hT⟩ : ∃ T, T = pairsR r LB (rowL LA i) := ⟨_, rfl⟩
          rw [← hT] at HS HAC HPO
          clear hT
          go_wp2_with fail
          go_loopw [11, 86] (fun v x wr => ∃ p : Nat, p ≤ RM.length ∧ x = .int .i64 p ∧ Hid (wr.ownsRow w.heap.size 124 4 v (F ++ cellsT r T i (RM.take p)).length ((F ++ cellsT r T i (RM.take p)).flatMap ceV)) ∧ Hid (SumM wr gs (sumF r (RM.map (fun e => e.2.1)) T)) ∧ Hid (Blk wr ga 31 [.int .i64 n, .int .i64 k, .slice (some ⟨b1, 0, none⟩) (n + 1) c1, .slice A2 LA.length c2, .slice A3 LA.length c3]) ∧ Hid (Blk wr gb 31 [.int .i64 k, .int .i64 j, .slice (some ⟨e1, 0, none⟩) (k + 1) f1, .slice E2 LB.length f2, .slice E3 LB.length f3]) ∧ Hid (Blk wr gm 31 [.int .i64 n, .int .i64 j, .slice (some ⟨h1, 0, none⟩) (n + 1) d1, .slice D2 LM.length d2, .slice D3 LM.length d3]) ∧ Hid (Kept [] w wr)) (fun _ x _ => RM.length - (intOf x).toNat)
          case atStart => exact ⟨0, Nat.zero_le _, rfl, Lib.hid (by have := HO.out; simpa [cellsT] using this), HS, HX, HY, HZ, K0⟩
          case round =>
            clear HO HS HX HY HZ K0
            obtain ⟨p, hp, rfl, HO, HS, HX, HY, HZ, K0⟩ := hrel
            obtain ⟨v, hv⟩ : ∃ v, v = u11 := ⟨_, rfl⟩
            subst hv
            by_cases hlp : p < RM.length
            · have HTK := Lib.hid (List.take_succ_eq_append_getElem hlp)
              have HSF := Lib.hid (show sumF r (RM.map (fun e => e.2.1)) T RM[p].2.1 = cellR r T RM[p].2.1 from if_pos (List.mem_map.2 ⟨_, List.getElem_mem hlp, rfl⟩))
              obtain ⟨bC, oC, rfl, hbC, cC⟩ := cols_at HPM.out.1 hlp
              have hgl : (F ++ cellsT r T i (RM.take p)).length ≤ 131072 := by
                have h1 := cellsT_len r T i (RM.take p)
                rw [List.length_take] at h1
                rw [List.length_append]
                omega
              obtain ⟨y, hy⟩ : ∃ y, y = RM[p] := ⟨_, rfl⟩
              rw [← hy] at cC HTK HSF
              clear hy
              obtain ⟨y1, y2, y3⟩ := y
              dsimp only at cC HTK HSF
              have HCS := Lib.hid (cellsT_snoc r T i (RM.take p) (y1, y2, y3))
              rw [← HTK.out] at HCS
              dsimp only at HCS
              obtain ⟨G, hG⟩ : ∃ G, G = F ++ cellsT r T i (RM.take p) := ⟨_, rfl⟩
              rw [← hG] at HO hgl
              have HGE := Lib.hid hG
              clear hG
              obtain ⟨A8, c8, rfl⟩ := own_n HO.out
              have cC' := K0.out.cell_lt cC
              clear hbC cC
              cases hf : cellR r T y2 with
              | none =>
                rw [hf] at HSF HCS
                dsimp only at HCS
                have HF := Lib.hid hf
                clear hf
                go_wp2_with (first | (refine sum_get rfl (.tmp 91) (.tmp 92) rfl HS.out rfl y2 rfl ?_; rw [HSF.out]; simp only [oW, Option.isSome_none]))
                replace HX := Lib.hid (HX.out.kept ((Kept.refl [] wr).alloc (.cells (wdC (0, 0)).toArray 100)) (by simp))
                replace HY := Lib.hid (HY.out.kept ((Kept.refl [] wr).alloc (.cells (wdC (0, 0)).toArray 100)) (by simp))
                replace HZ := Lib.hid (HZ.out.kept ((Kept.refl [] wr).alloc (.cells (wdC (0, 0)).toArray 100)) (by simp))
                replace HS := Lib.hid (HS.out.kept ((Kept.refl [] wr).alloc (.cells (wdC (0, 0)).toArray 100)) (by simp))
                replace HO := Lib.hid (own_kept0 HO.out ((Kept.refl [] wr).alloc (.cells (wdC (0, 0)).toArray 100)))
                replace K0 := Lib.hid (K0.out.trans ((Kept.refl [] wr).alloc (.cells (wdC (0, 0)).toArray 100)))
                go_roundw
                case rel => exact ⟨p + 1, by omega, by go_num, by rw [HCS.out, ← HGE.out]; exact HO, HS, HX, HY, HZ, K0⟩
                case measure => simp [intOf]; omega
              | some s =>
                rw [hf] at HSF HCS
                dsimp only at HCS
                have HF := Lib.hid hf
                clear hf
                go_upto_region 25 with (first | (refine sum_get rfl (.tmp 91) (.tmp 92) rfl HS.out rfl y2 rfl ?_; rw [HSF.out]; simp only [oW, Option.isSome_some]))
                have HW := Lib.hid (Blk.new wr 100 (wdC (wOf s)))
                replace HX := Lib.hid (HX.out.kept ((Kept.refl [] wr).alloc (.cells (wdC (wOf s)).toArray 100)) (by simp))
                replace HY := Lib.hid (HY.out.kept ((Kept.refl [] wr).alloc (.cells (wdC (wOf s)).toArray 100)) (by simp))
                replace HZ := Lib.hid (HZ.out.kept ((Kept.refl [] wr).alloc (.cells (wdC (wOf s)).toArray 100)) (by simp))
                replace HS := Lib.hid (HS.out.kept ((Kept.refl [] wr).alloc (.cells (wdC (wOf s)).toArray 100)) (by simp))
                replace HO := Lib.hid (own_kept0 HO.out ((Kept.refl [] wr).alloc (.cells (wdC (wOf s)).toArray 100)))
                replace K0 := Lib.hid (K0.out.trans ((Kept.refl [] wr).alloc (.cells (wdC (wOf s)).toArray 100)))
                generalize wr.alloc (.cells (wdC (wOf s)).toArray 100) = w7 at *
                generalize wr.heap.size = g21 at HW ⊢
                have hsz := K0.out.size
                go_wp2_with (first | (refine wpList_loadBlk rfl 100 (.tmp 21) rfl g21 (wdC (wOf s)) _ HW.out rfl Tryz.underlying100 rfl infoWide ?_) | (at_builtin; refine wpList_app _ rfl (.tmp 97) (.tmp 102) _ rfl 124 (.agg #[.int .i64 0, .int .i64 0, .int .i64 0, .int .u64 0]) 4 32 Tryz.underlying77 infoCell rfl (by decide) w.heap.size (.slice A8 G.length c8) G.length _ rfl (HO.out.alloc _) (some ⟨_, 0, none⟩) 1 1 (ceV ((i : Int), y2, s)) rfl rfl (Reads.of_blk (Blk.new _ _ _) (fun _ _ h => h)) (by simp [Value.oneCell']) (by omega) (by unfold maxLen; omega) (by simp; omega) ?_; intro va wa howna hka hba; have HOa := Lib.hid howna; have Fa := Lib.hid (((KeptB.refl w.heap.size [124] w7).alloc _).app hka (HO.out.alloc _) (by decide)); clear howna hka hba))
                clear hsz
                go_roundw
                case rel =>
                  refine ⟨p + 1, by omega, by go_num, Lib.hid ?_, Lib.hid (HS.out.keptB Fa.out), Lib.hid (HX.out.keptB Fa.out (by decide)), Lib.hid (HY.out.keptB Fa.out (by decide)), Lib.hid (HZ.out.keptB Fa.out (by decide)), Lib.hid (K0.out.thenB Fa.out (Nat.le_refl _))⟩
                  have := HOa.out
                  rw [HCS.out, ← List.append_assoc, ← HGE.out, List.length_append, List.flatMap_append]
                  simpa using this
                case measure => simp [intOf]; omega
            · obtain rfl : p = RM.length := by omega
              rw [List.take_length, ← HAC.out] at HO
              go_wp2_with fail
              go_roundw
              case rel => exact ⟨i + 1, by omega, by go_num, HO, HX, HY, HZ, K0⟩
              case measure => simp [intOf]; omega
    · obtain rfl : i = n := by omega
      rw [accL_all (fun e he => (HOM.out.inn e he).1.2)] at HO
      obtain ⟨A7, c7, rfl⟩ := own_n HO.out
      go_wp2_with fail
      show post (.returned (.tuple #[.slice A7 (cellsR r LA LB LM).length c7, .int .i64 0])) _
      rw [HPOST.out]
      exact ⟨_, rfl, HO.out, K0.out⟩
end Go.Proofs.YtblfingmdipopaaGreat
