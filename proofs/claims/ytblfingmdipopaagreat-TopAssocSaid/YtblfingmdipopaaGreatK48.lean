/- gemm.Times, pull.Times: a matrix times a matrix, and times a vector. Conditions: values of the ring; what is multiplied fits. -/
import Derived.Test.YtblfingmdipopaaGreatK46
import Derived.Test.YtblfingmdipopaaGreatK47
namespace Go.Proofs.YtblfingmdipopaaGreat
set_option linter.unusedSimpArgs false
set_option linter.unusedVariables false
open Go.ChangeShapes Go.WideShapes Go.ChangeAt Go.RowKit
open Go.RowKit (wrap32 wrap64)
set_option maxHeartbeats 8000000

theorem mult_nzL (r : Int) (LA LB LM : List Ed) : multR r LA LB LM = nzL r (cellsR r LA LB LM) := rfl
theorem cells_okM {r : Int} {n k j : Nat} {LA LB LM : List Ed} (h : MtOkM n j LM) : MtOkM n j (cellsR r LA LB LM) :=
  ⟨cells_rises r LA LB h.rises, fun e he => by
    obtain ⟨⟨m, hm, h1, h2⟩, _⟩ := cells_mem he
    rw [← h1, ← h2]
    exact h.inn m hm, Nat.le_trans (cellsR_len r LA LB LM) h.len, h.num, h.mum⟩
set_option maxRecDepth 100000 in
theorem gTimes_any (r : Int) (hr : RingV r) (n k j base base2 base3 : Nat) (LA LB LM : List Ed) (v1 v2 v3 u1 u2 u3 t1 t2 t3 : Value) (w : World) (hoA : MtOkM n k LA) (hmA : MtAt w base v1 v2 v3 n LA) (hoB : MtOkM k j LB) (hmB : MtAt w base2 u1 u2 u3 k LB) (hoM : MtOkM n j LM) (hmM : MtAt w base3 t1 t2 t3 n LM) (hvA : ∀ e ∈ LA, OkV r e.2.2) (hvB : ∀ e ∈ LB, OkV r e.2.2) :
    Calls Tryz.prog 8 #[.int .i64 r, .agg #[.int .i64 n, .int .i64 k, v1, v2, v3], .agg #[.int .i64 k, .int .i64 j, u1, u2, u3], .agg #[.int .i64 n, .int .i64 j, t1, t2, t3]] w (fun e w' => ∃ v, e = .returned (.tuple #[v, .int .i64 0]) ∧ MtPost w n j (multR r LA LB LM) (.returned v) w') := by
  obtain ⟨b1, c1, A2, c2, A3, c3, rfl, rfl, rfl, _, _⟩ := hmA.form
  obtain ⟨e1, f1, E2, f2, E3, f3, rfl, rfl, rfl, _, _⟩ := hmB.form
  obtain ⟨h1, d1, D2, d2, D3, d3, rfl, rfl, rfl, _, _⟩ := hmM.form
  have HRV := Lib.hid hr
  have HOA := Lib.hid hoA
  have HMA := Lib.hid hmA
  have HOB := Lib.hid hoB
  have HMB := Lib.hid hmB
  have HOM := Lib.hid hoM
  have HMM := Lib.hid hmM
  have HVA := Lib.hid hvA
  have HVB := Lib.hid hvB
  have HOC := Lib.hid (cells_okM (r := r) (k := k) (LA := LA) (LB := LB) hoM)
  have HVC := Lib.hid (cells_ok (LM := LM) hvA hvB)
  have HEQ := Lib.hid (mult_nzL r LA LB LM)
  clear hr hoA hmA hoB hmB hoM hmM hvA hvB
  obtain ⟨post, hpost⟩ : ∃ post : Ending → World → Prop, post = (fun e w' => ∃ v, e = .returned (.tuple #[v, .int .i64 0]) ∧ MtPost w n j (multR r LA LB LM) (.returned v) w') := ⟨_, rfl⟩
  rw [← hpost]
  have HPOST := Lib.hid hpost
  clear hpost
  have HX := Lib.hid ((((Blk.new w 31 [.int .i64 n, .int .i64 k, .slice (some ⟨b1, 0, none⟩) (n + 1) c1, .slice A2 LA.length c2, .slice A3 LA.length c3]).alloc (.cells #[.int .i64 k, .int .i64 j, .slice (some ⟨e1, 0, none⟩) (k + 1) f1, .slice E2 LB.length f2, .slice E3 LB.length f3] 31)).alloc (.cells #[.int .i64 n, .int .i64 j, .slice (some ⟨h1, 0, none⟩) (n + 1) d1, .slice D2 LM.length d2, .slice D3 LM.length d3] 31)).alloc (.cells #[.int .i64 0, .int .i64 0, .slice none 0 0, .slice none 0 0, .slice none 0 0] 31))
  have HY := Lib.hid (((Blk.new1F w (.cells #[.int .i64 n, .int .i64 k, .slice (some ⟨b1, 0, none⟩) (n + 1) c1, .slice A2 LA.length c2, .slice A3 LA.length c3] 31) 31 [.int .i64 k, .int .i64 j, .slice (some ⟨e1, 0, none⟩) (k + 1) f1, .slice E2 LB.length f2, .slice E3 LB.length f3]).alloc (.cells #[.int .i64 n, .int .i64 j, .slice (some ⟨h1, 0, none⟩) (n + 1) d1, .slice D2 LM.length d2, .slice D3 LM.length d3] 31)).alloc (.cells #[.int .i64 0, .int .i64 0, .slice none 0 0, .slice none 0 0, .slice none 0 0] 31))
  have HZ0 := (Blk.new ((w.alloc (.cells #[.int .i64 n, .int .i64 k, .slice (some ⟨b1, 0, none⟩) (n + 1) c1, .slice A2 LA.length c2, .slice A3 LA.length c3] 31)).alloc (.cells #[.int .i64 k, .int .i64 j, .slice (some ⟨e1, 0, none⟩) (k + 1) f1, .slice E2 LB.length f2, .slice E3 LB.length f3] 31)) 31 [.int .i64 n, .int .i64 j, .slice (some ⟨h1, 0, none⟩) (n + 1) d1, .slice D2 LM.length d2, .slice D3 LM.length d3]).alloc (.cells #[.int .i64 0, .int .i64 0, .slice none 0 0, .slice none 0 0, .slice none 0 0] 31)
  rw [show ((w.alloc (.cells #[.int .i64 n, .int .i64 k, .slice (some ⟨b1, 0, none⟩) (n + 1) c1, .slice A2 LA.length c2, .slice A3 LA.length c3] 31)).alloc (.cells #[.int .i64 k, .int .i64 j, .slice (some ⟨e1, 0, none⟩) (k + 1) f1, .slice E2 LB.length f2, .slice E3 LB.length f3] 31)).heap.size = w.heap.size + 1 + 1 by simp] at HZ0
  have HZ := Lib.hid HZ0
  have HR0 := Blk.new (((w.alloc (.cells #[.int .i64 n, .int .i64 k, .slice (some ⟨b1, 0, none⟩) (n + 1) c1, .slice A2 LA.length c2, .slice A3 LA.length c3] 31)).alloc (.cells #[.int .i64 k, .int .i64 j, .slice (some ⟨e1, 0, none⟩) (k + 1) f1, .slice E2 LB.length f2, .slice E3 LB.length f3] 31)).alloc (.cells #[.int .i64 n, .int .i64 j, .slice (some ⟨h1, 0, none⟩) (n + 1) d1, .slice D2 LM.length d2, .slice D3 LM.length d3] 31)) 31 [.int .i64 0, .int .i64 0, .slice none 0 0, .slice none 0 0, .slice none 0 0]
  rw [show (((w.alloc (.cells #[.int .i64 n, .int .i64 k, .slice (some ⟨b1, 0, none⟩) (n + 1) c1, .slice A2 LA.length c2, .slice A3 LA.length c3] 31)).alloc (.cells #[.int .i64 k, .int .i64 j, .slice (some ⟨e1, 0, none⟩) (k + 1) f1, .slice E2 LB.length f2, .slice E3 LB.length f3] 31)).alloc (.cells #[.int .i64 n, .int .i64 j, .slice (some ⟨h1, 0, none⟩) (n + 1) d1, .slice D2 LM.length d2, .slice D3 LM.length d3] 31)).heap.size = w.heap.size + 1 + 1 + 1 by simp] at HR0
  have HR := Lib.hid HR0
  have K0 := Lib.hid (((((Kept.refl [] w).alloc (.cells #[.int .i64 n, .int .i64 k, .slice (some ⟨b1, 0, none⟩) (n + 1) c1, .slice A2 LA.length c2, .slice A3 LA.length c3] 31)).alloc (.cells #[.int .i64 k, .int .i64 j, .slice (some ⟨e1, 0, none⟩) (k + 1) f1, .slice E2 LB.length f2, .slice E3 LB.length f3] 31)).alloc (.cells #[.int .i64 n, .int .i64 j, .slice (some ⟨h1, 0, none⟩) (n + 1) d1, .slice D2 LM.length d2, .slice D3 LM.length d3] 31)).alloc (.cells #[.int .i64 0, .int .i64 0, .slice none 0 0, .slice none 0 0, .slice none 0 0] 31))
  have HNE0 := Lib.hid (show w.heap.size < w.heap.size + 1 ∧ w.heap.size + 1 < w.heap.size + 1 + 1 ∧ w.heap.size + 1 + 1 < w.heap.size + 1 + 1 + 1 ∧ w.heap.size ≤ w.heap.size from ⟨by omega, by omega, by omega, by omega⟩)
  clear HZ0 HR0
  go_enter Tryz.func8, Tryz.ntmps8
  go_upto_region 1 with (fail)
  generalize ((((w.alloc (.cells #[.int .i64 n, .int .i64 k, .slice (some ⟨b1, 0, none⟩) (n + 1) c1, .slice A2 LA.length c2, .slice A3 LA.length c3] 31)).alloc (.cells #[.int .i64 k, .int .i64 j, .slice (some ⟨e1, 0, none⟩) (k + 1) f1, .slice E2 LB.length f2, .slice E3 LB.length f3] 31)).alloc (.cells #[.int .i64 n, .int .i64 j, .slice (some ⟨h1, 0, none⟩) (n + 1) d1, .slice D2 LM.length d2, .slice D3 LM.length d3] 31)).alloc (.cells #[.int .i64 0, .int .i64 0, .slice none 0 0, .slice none 0 0, .slice none 0 0] 31)) = w1 at *
  generalize w.heap.size + 1 + 1 + 1 = gr at HR HNE0 ⊢
  generalize w.heap.size + 1 + 1 = gm at HZ HNE0 ⊢
  generalize w.heap.size + 1 = gb at HY HNE0 ⊢
  generalize hga : w.heap.size = ga at HX ⊢
  have HNE := Lib.hid (show ga < gb ∧ gb < gm ∧ gm < gr ∧ w.heap.size ≤ gr by have := HNE0.out; omega)
  clear HNE0 hga
  go_wp2_with (first | (refine wpList_loadBlk rfl 31 (.tmp 5) rfl ga [.int .i64 n, .int .i64 k, .slice (some ⟨b1, 0, none⟩) (n + 1) c1, .slice A2 LA.length c2, .slice A3 LA.length c3] _ HX.out rfl Tryz.underlying31 rfl infoRows ?_) | (refine wpList_loadBlk rfl 31 (.tmp 6) rfl gb [.int .i64 k, .int .i64 j, .slice (some ⟨e1, 0, none⟩) (k + 1) f1, .slice E2 LB.length f2, .slice E3 LB.length f3] _ HY.out rfl Tryz.underlying31 rfl infoRows ?_) | (refine wpList_loadBlk rfl 31 (.tmp 7) rfl gm [.int .i64 n, .int .i64 j, .slice (some ⟨h1, 0, none⟩) (n + 1) d1, .slice D2 LM.length d2, .slice D3 LM.length d3] _ HZ.out rfl Tryz.underlying31 rfl infoRows ?_))
  refine (gCells_any r HRV.out n k j base base2 base3 LA LB LM _ _ _ _ _ _ _ _ _ _ HOA.out (HMA.out.kept0 K0.out) HOB.out (HMB.out.kept0 K0.out) HOM.out (HMM.out.kept0 K0.out) HVA.out HVB.out).mono ?_
  rintro _ w3 ⟨vc, rfl, hoc, hk⟩
  have HC := Lib.hid (own_base hoc K0.out.size)
  replace HX := Lib.hid (HX.out.kept hk (by simp))
  replace HY := Lib.hid (HY.out.kept hk (by simp))
  replace HZ := Lib.hid (HZ.out.kept hk (by simp))
  replace HR := Lib.hid (HR.out.kept hk (by simp))
  replace K0 := Lib.hid (K0.out.trans hk)
  clear hk hoc
  obtain ⟨C, hC⟩ : ∃ C, C = cellsR r LA LB LM := ⟨_, rfl⟩
  rw [← hC] at HC HOC HVC HEQ
  clear hC
  obtain ⟨Ac, cc, rfl⟩ := own_n HC.out
  go_wp2_with (first | (refine wpList_loadBlk rfl 31 (.tmp 5) rfl ga [.int .i64 n, .int .i64 k, .slice (some ⟨b1, 0, none⟩) (n + 1) c1, .slice A2 LA.length c2, .slice A3 LA.length c3] _ HX.out rfl Tryz.underlying31 rfl infoRows ?_) | (refine wpList_loadBlk rfl 31 (.tmp 6) rfl gb [.int .i64 k, .int .i64 j, .slice (some ⟨e1, 0, none⟩) (k + 1) f1, .slice E2 LB.length f2, .slice E3 LB.length f3] _ HY.out rfl Tryz.underlying31 rfl infoRows ?_) | (refine wpList_loadBlk rfl 31 (.tmp 7) rfl gm [.int .i64 n, .int .i64 j, .slice (some ⟨h1, 0, none⟩) (n + 1) d1, .slice D2 LM.length d2, .slice D3 LM.length d3] _ HZ.out rfl Tryz.underlying31 rfl infoRows ?_))
  refine (gSure_any [⟨n, k, base, LA, .slice (some ⟨b1, 0, none⟩) (n + 1) c1, .slice A2 LA.length c2, .slice A3 LA.length c3⟩, ⟨k, j, base2, LB, .slice (some ⟨e1, 0, none⟩) (k + 1) f1, .slice E2 LB.length f2, .slice E3 LB.length f3⟩] (some ⟨_, 0, none⟩) 2 _ (by simp) (fun x hx => ?_) (Reads.of_blk (Blk.new _ _ _) (fun _ _ h => h))).mono ?_
  · simp only [List.mem_cons, List.not_mem_nil, or_false] at hx
    rcases hx with rfl | rfl
    · exact ⟨HOA.out, HMA.out.kept0 (K0.out.trans ((Kept.refl [] w3).alloc _))⟩
    · exact ⟨HOB.out, HMB.out.kept0 (K0.out.trans ((Kept.refl [] w3).alloc _))⟩
  rintro _ w6 ⟨v, rfl, ho, hk⟩
  have hk2 := ((Kept.refl [] w3).alloc _).trans hk
  have hsz1 := K0.out.size
  have hz1 := HR.out.lt
  have HV := Lib.hid ho
  obtain ⟨gq, cq, rfl, hgb, hgl, hcc, _⟩ := own_ptr ho (by simp)
  have HGQ := Lib.hid (show gr < gq by have := hk2.size; have : (w3.alloc _).heap.size ≤ gq := hgb; simp at this; omega)
  replace HR := Lib.hid (HR.out.kept hk2 (by simp))
  replace HC := Lib.hid (own_kept0 HC.out hk2)
  replace K0 := Lib.hid (K0.out.trans hk2)
  clear hk hk2 ho hgb hgl hcc hsz1 hz1 HX HY HZ
  go_upto_region 5 with (fail)
  refine wp_region_held_drew (S := (fun w' => w'.cell? ⟨gq, 0, none⟩ = some (.int .i64 n) ∧ w'.cell? ⟨gq, 6, none⟩ = some (.int .i64 j))) (by kernel_rfl) ?_ (fun hHeld => ?_)
  · exact ⟨own_range (f := Mx.cells) (fun _ => rfl) (by decide) (own_kept0 HV.out (Kept.refl [] w6).drew) (i := 0) (by simp) 0 _ rfl, own_range (f := Mx.cells) (fun _ => rfl) (by decide) (own_kept0 HV.out (Kept.refl [] w6).drew) (i := 1) (by simp) 1 _ rfl⟩
  replace HR := Lib.hid (HR.out.kept (Kept.refl [] w6).drew (by simp))
  replace HV := Lib.hid (own_kept0 HV.out (Kept.refl [] w6).drew)
  replace HC := Lib.hid (own_kept0 HC.out (Kept.refl [] w6).drew)
  replace K0 := Lib.hid (K0.out.trans (Kept.refl [] w6).drew)
  generalize w6.drew = w7 at *
  refine tkYes (i := 0) (v := ?_) rfl rfl (by kernel_rfl) (by kernel_rfl) (by kernel_rfl) (fun _ _ _ h => h) (by rfl) ?_ (by assumption) ?_
  rotate_left
  · (intro w' hSw; (try dsimp only at hSw); go_simp; try with_reducible rfl)
  try simp only [Act.put, List.setIfInBounds_toArray, List.set_cons_zero, List.set_cons_succ]
  refine tkYes (i := 1) (v := ?_) rfl rfl (by kernel_rfl) (by kernel_rfl) (by kernel_rfl) (fun _ _ _ h => h) (by rfl) ?_ (by assumption) ?_
  rotate_left
  · (intro w' hSw; (try dsimp only at hSw); go_simp; try with_reducible rfl)
  try simp only [Act.put, List.setIfInBounds_toArray, List.set_cons_zero, List.set_cons_succ]
  refine tkYes (i := 2) (v := .pointer (some ⟨gq, 0, none⟩)) rfl rfl (by kernel_rfl) (by kernel_rfl) (by kernel_rfl) (fun _ _ _ h => h) (by rfl) ?_ (by assumption) ?_
  skip
  · (intro w' hSw; (try dsimp only at hSw); go_simp; first | done | (simp; done) | (intro hbad; omega) | rfl)
  try simp only [Act.put, List.setIfInBounds_toArray, List.set_cons_zero, List.set_cons_succ]
  refine tkYes (i := 3) (v := ?_) rfl rfl (by kernel_rfl) (by kernel_rfl) (by kernel_rfl) (fun _ _ _ h => h) (by rfl) ?_ (by assumption) ?_
  rotate_left
  · (intro w' hSw; (try dsimp only at hSw); go_simp; try with_reducible rfl)
  try simp only [Act.put, List.setIfInBounds_toArray, List.set_cons_zero, List.set_cons_succ]
  refine tkYes (i := 4) (v := ?_) rfl rfl (by kernel_rfl) (by kernel_rfl) (by kernel_rfl) (fun _ _ _ h => h) (by rfl) ?_ (by assumption) ?_
  rotate_left
  · (intro w' hSw; (try dsimp only at hSw); go_simp; try with_reducible rfl)
  try simp only [Act.put, List.setIfInBounds_toArray, List.set_cons_zero, List.set_cons_succ]
  refine tkYes (i := 5) (v := ?_) rfl rfl (by kernel_rfl) (by kernel_rfl) (by kernel_rfl) (fun _ _ _ h => h) (by rfl) ?_ (by assumption) ?_
  rotate_left
  · (intro w' hSw; (try dsimp only at hSw); go_simp; try with_reducible rfl)
  try simp only [Act.put, List.setIfInBounds_toArray, List.set_cons_zero, List.set_cons_succ]
  refine tkYes (i := 6) (v := .pointer (some ⟨gq, 5, none⟩)) rfl rfl (by kernel_rfl) (by kernel_rfl) (by kernel_rfl) (fun _ _ _ h => h) (by rfl) ?_ (by assumption) ?_
  skip
  · (intro w' hSw; (try dsimp only at hSw); go_simp; first | done | (simp; done) | (intro hbad; omega) | rfl)
  try simp only [Act.put, List.setIfInBounds_toArray, List.set_cons_zero, List.set_cons_succ]
  refine tkYes (i := 7) (v := ?_) rfl rfl (by kernel_rfl) (by kernel_rfl) (by kernel_rfl) (fun _ _ _ h => h) (by rfl) ?_ (by assumption) ?_
  rotate_left
  · (intro w' hSw; (try dsimp only at hSw); go_simp; try with_reducible rfl)
  try simp only [Act.put, List.setIfInBounds_toArray, List.set_cons_zero, List.set_cons_succ]
  refine tkYes (i := 8) (v := ?_) rfl rfl (by kernel_rfl) (by kernel_rfl) (by kernel_rfl) (fun _ _ _ h => h) (by rfl) ?_ (by assumption) ?_
  rotate_left
  · (intro w' hSw; (try dsimp only at hSw); go_simp; try with_reducible rfl)
  try simp only [Act.put, List.setIfInBounds_toArray, List.set_cons_zero, List.set_cons_succ]
  refine tkYes (i := 9) (v := ?_) rfl rfl (by kernel_rfl) (by kernel_rfl) (by kernel_rfl) (fun _ _ _ h => h) (by rfl) ?_ (by assumption) ?_
  rotate_left
  · (intro w' hSw; (try dsimp only at hSw); go_simp; try with_reducible rfl)
  try simp only [Act.put, List.setIfInBounds_toArray, List.set_cons_zero, List.set_cons_succ]
  refine wpAnyH_ready (rs := [10]) (by kernel_rfl) (by simp) ?_
  refine AllReadyH.cons rfl (fun K hK => ?_) AllReadyH.nil
  go_simp
  refine (gDone_any r HRV.out n j C Ac cc _ HOC.out HVC.out (Reads.of_own HC.out)).mono ?_
  rintro _ w8 ⟨v, rfl, v1, v2, v3, hqq, hmt, hk⟩
  injection hqq with hqq
  subst hqq
  have HMT := Lib.hid (hmt.le K0.out.size)
  replace HR := Lib.hid (HR.out.kept hk (by simp))
  replace HV := Lib.hid (own_kept0 HV.out hk)
  replace K0 := Lib.hid (K0.out.trans hk)
  clear hk hmt
  rw [← HEQ.out] at HMT

  obtain ⟨M, hM⟩ : ∃ M, M = multR r LA LB LM := ⟨_, rfl⟩
  rw [← hM] at HMT HPOST HEQ
  obtain ⟨p1, q1, P2, q2, P3, q3, rfl, rfl, rfl, _, _⟩ := HMT.out.form
  clear hM
  go_wp2_with fail
  refine hK.out _ _ ?_ (fun hHeld => ?_)
  · exact ⟨own_range (f := Mx.cells) (fun _ => rfl) (by decide) HV.out (i := 0) (by simp) 0 _ rfl, own_range (f := Mx.cells) (fun _ => rfl) (by decide) HV.out (i := 1) (by simp) 1 _ rfl⟩
  clear hK K
  try simp only [Act.put, List.setIfInBounds_toArray, List.set_cons_zero, List.set_cons_succ]
  refine tkYes (i := 11) (v := ?_) rfl rfl (by kernel_rfl) (by kernel_rfl) (by kernel_rfl) (fun _ _ _ h => h) (by rfl) ?_ (by assumption) ?_
  rotate_left
  · (intro w' hSw; (try dsimp only at hSw); go_simp; try with_reducible rfl)
  try simp only [Act.put, List.setIfInBounds_toArray, List.set_cons_zero, List.set_cons_succ]
  refine tkYes (i := 12) (v := ?_) rfl rfl (by kernel_rfl) (by kernel_rfl) (by kernel_rfl) (fun _ _ _ h => h) (by rfl) ?_ (by assumption) ?_
  rotate_left
  · (intro w' hSw; (try dsimp only at hSw); go_simp; try with_reducible rfl)
  try simp only [Act.put, List.setIfInBounds_toArray, List.set_cons_zero, List.set_cons_succ]
  refine wpAnyH_ready (rs := [13]) (by kernel_rfl) (by simp) ?_
  refine AllReadyH.cons rfl (fun K hK => ?_) AllReadyH.nil
  refine stpBlk rfl 31 (.tmp 8) (.tmp 40) rfl gr _ [.int .i64 n, .int .i64 j, .slice (some ⟨p1, 0, none⟩) (n + 1) q1, .slice P2 M.length q2, .slice P3 M.length q3] HR.out rfl rfl rfl infoRows (by simp [Value.oneCell']) ?_
  intro w9 hb9 hk9
  have f9 : KeptB w.heap.size [31] w8 w9 := (KeptB.refl _ _ w8).step (L := [gr]) hk9 (fun u hu => by simp at hu; subst hu; exact ⟨HNE.out.2.2.2, _, _, _, HR.out, by simp⟩)
  replace HR := Lib.hid hb9
  replace HMT := Lib.hid (HMT.out.keptB f9 (by decide) (by decide))
  replace HV := Lib.hid (own_kept HV.out hk9 (fun u hu => by simp [Value.ownBlock] at hu; subst hu; have := HGQ.out; have := HNE.out; simp; omega))
  replace K0 := Lib.hid (K0.out.thenB f9 (Nat.le_refl _))
  clear f9 hk9 hb9
  go_simp
  refine hK.out _ _ ?_ (fun hHeld => ?_)
  · exact ⟨own_range (f := Mx.cells) (fun _ => rfl) (by decide) HV.out (i := 0) (by simp) 0 _ rfl, own_range (f := Mx.cells) (fun _ => rfl) (by decide) HV.out (i := 1) (by simp) 1 _ rfl⟩
  clear hK K
  try simp only [Act.put, List.setIfInBounds_toArray, List.set_cons_zero, List.set_cons_succ]
  refine tkYes (i := 14) (v := ?_) rfl rfl (by kernel_rfl) (by kernel_rfl) (by kernel_rfl) (fun _ _ _ h => h) (by rfl) ?_ (by assumption) ?_
  rotate_left
  · (intro w' hSw; (try dsimp only at hSw); go_simp; try with_reducible rfl)
  try simp only [Act.put, List.setIfInBounds_toArray, List.set_cons_zero, List.set_cons_succ]
  refine wpAnyH_done (by kernel_rfl) ?_ _
  go_wp2_with fail
  have e0 := HR.out.cell 0
  have e1 := HR.out.cell 1
  have e2 := HR.out.cell 2
  have e3 := HR.out.cell 3
  have e4 := HR.out.cell 4
  simp only [List.getElem?_cons_zero, List.getElem?_cons_succ] at e0 e1 e2 e3 e4
  refine bodyPost_ret (v := .tuple #[.agg #[.int .i64 n, .int .i64 j, .slice (some ⟨p1, 0, none⟩) (n + 1) q1, .slice P2 M.length q2, .slice P3 M.length q3], .int .i64 0]) (by simp [results, Tryz.results8, go_sem, e0, e1, e2, e3, e4]) rfl ?_
  rw [HPOST.out]
  exact ⟨_, rfl, _, _, _, rfl, HMT.out, K0.out⟩

set_option maxRecDepth 100000 in
theorem pTimes_any (r : Int) (hr : RingV r) (n m N b base base' : Nat) (l X : List Ed) (V : List Int) (v1 v2 v3 vh vv : Value) (w : World) (hN : N ≤ 60) (hmN : m = N) (hmo : MtOkM n m l) (hm : MtAt w base v1 v2 v3 n l) (hok : DnOk N X b V) (hd : DnAt w base' vh vv N b V) (hv : ∀ e ∈ l, OkV r e.2.2) (hvv : OkVec r b V) (hn : n ≤ 60) :
    Calls Tryz.prog 10 #[.int .i64 r, .agg #[.int .i64 n, .int .i64 m, v1, v2, v3], .agg #[.int .i64 N, vh, vv], .slice none 0 0, .bool true] w (fun e w' => ∃ v, e = .returned (.tuple #[v, .int .i64 0]) ∧ VcPost w n (itemsR r (sumsR r b V l (askN n (fun _ => false) true))) (.returned v) w') := by
  obtain ⟨b1, c1, A2, c2, A3, c3, rfl, rfl, rfl, _, _⟩ := hm.form
  obtain ⟨Ah, ch, rfl⟩ := own_n hd.o1
  obtain ⟨Av, cv, rfl⟩ := own_n hd.o2
  have HRV := Lib.hid hr
  have HMO := Lib.hid hmo
  have HM := Lib.hid hm
  have HOK := Lib.hid hok
  have HD := Lib.hid hd
  have HV := Lib.hid hv
  have HVV := Lib.hid hvv
  have HMN := Lib.hid hmN
  have HN6 := Lib.hid hN
  have HNN := Lib.hid hn
  have HS1 := Lib.hid (fun x hx => askN_lt (sumsR_mem hx).1 : ∀ x ∈ sumsR r b V l (askN n (fun _ => false) true), x.1 < n)
  have HS2 := Lib.hid (sumsR_rise r b V l _ (askN_rise n (fun _ => false) true))
  have HS3 := Lib.hid (fun x hx => by
    have h1 := rowR_ok (N := N) hok.lt hok.len hvv (rowL l x.1) (fun e he => hv e (List.mem_filter.1 he).1)
    rw [(sumsR_mem hx).2] at h1
    exact h1 : ∀ x ∈ sumsR r b V l (askN n (fun _ => false) true), OkV r x.2)
  have HS4 := Lib.hid (show (sumsR r b V l (askN n (fun _ => false) true)).length ≤ 65536 by
    refine Nat.le_trans (sumsR_len r b V l _) ?_
    unfold askN
    refine Nat.le_trans (List.length_filter_le _ _) ?_
    simp
    omega)
  clear hr hmo hm hok hd hv hvv hmN hN hn
  obtain ⟨post, hpost⟩ : ∃ post : Ending → World → Prop, post = (fun e w' => ∃ v, e = .returned (.tuple #[v, .int .i64 0]) ∧ VcPost w n (itemsR r (sumsR r b V l (askN n (fun _ => false) true))) (.returned v) w') := ⟨_, rfl⟩
  rw [← hpost]
  have HPOST := Lib.hid hpost
  clear hpost
  have HX := Lib.hid (((Blk.new w 31 [.int .i64 n, .int .i64 m, .slice (some ⟨b1, 0, none⟩) (n + 1) c1, .slice A2 l.length c2, .slice A3 l.length c3]).alloc (.cells #[.int .i64 N, .slice Ah (wordsN N) ch, .slice Av N cv] 48)).alloc (.cells #[.int .i64 0, .slice none 0 0] 35))
  have HY := Lib.hid ((Blk.new1F w (.cells #[.int .i64 n, .int .i64 m, .slice (some ⟨b1, 0, none⟩) (n + 1) c1, .slice A2 l.length c2, .slice A3 l.length c3] 31) 48 [.int .i64 N, .slice Ah (wordsN N) ch, .slice Av N cv]).alloc (.cells #[.int .i64 0, .slice none 0 0] 35))
  have HR0 := Blk.new ((w.alloc (.cells #[.int .i64 n, .int .i64 m, .slice (some ⟨b1, 0, none⟩) (n + 1) c1, .slice A2 l.length c2, .slice A3 l.length c3] 31)).alloc (.cells #[.int .i64 N, .slice Ah (wordsN N) ch, .slice Av N cv] 48)) 35 [.int .i64 0, .slice none 0 0]
  rw [show ((w.alloc (.cells #[.int .i64 n, .int .i64 m, .slice (some ⟨b1, 0, none⟩) (n + 1) c1, .slice A2 l.length c2, .slice A3 l.length c3] 31)).alloc (.cells #[.int .i64 N, .slice Ah (wordsN N) ch, .slice Av N cv] 48)).heap.size = w.heap.size + 1 + 1 by simp] at HR0
  have HR := Lib.hid HR0
  have K0 := Lib.hid ((((Kept.refl [] w).alloc (.cells #[.int .i64 n, .int .i64 m, .slice (some ⟨b1, 0, none⟩) (n + 1) c1, .slice A2 l.length c2, .slice A3 l.length c3] 31)).alloc (.cells #[.int .i64 N, .slice Ah (wordsN N) ch, .slice Av N cv] 48)).alloc (.cells #[.int .i64 0, .slice none 0 0] 35))
  have HNE0 := Lib.hid (show w.heap.size < w.heap.size + 1 ∧ w.heap.size + 1 < w.heap.size + 1 + 1 ∧ w.heap.size ≤ w.heap.size from ⟨by omega, by omega, by omega⟩)
  clear HR0
  go_enter Tryz.func10, Tryz.ntmps10
  go_upto_region 1 with (fail)
  generalize (((w.alloc (.cells #[.int .i64 n, .int .i64 m, .slice (some ⟨b1, 0, none⟩) (n + 1) c1, .slice A2 l.length c2, .slice A3 l.length c3] 31)).alloc (.cells #[.int .i64 N, .slice Ah (wordsN N) ch, .slice Av N cv] 48)).alloc (.cells #[.int .i64 0, .slice none 0 0] 35)) = w1 at *
  generalize w.heap.size + 1 + 1 = gr at HR HNE0 ⊢
  generalize w.heap.size + 1 = gb at HY HNE0 ⊢
  generalize hga : w.heap.size = ga at HX ⊢
  have HNE := Lib.hid (show ga < gb ∧ gb < gr ∧ w.heap.size ≤ ga by have := HNE0.out; omega)
  clear HNE0 hga
  go_wp2_with (first | (refine wpList_loadBlk rfl 31 (.tmp 6) rfl ga [.int .i64 n, .int .i64 m, .slice (some ⟨b1, 0, none⟩) (n + 1) c1, .slice A2 l.length c2, .slice A3 l.length c3] _ HX.out rfl Tryz.underlying31 rfl infoRows ?_) | (refine wpList_loadBlk rfl 48 (.tmp 7) rfl gb [.int .i64 N, .slice Ah (wordsN N) ch, .slice Av N cv] _ HY.out rfl Tryz.underlying48 rfl infoDense ?_))
  refine (pSums_any r HRV.out n m N b base base' 0 0 none (fun _ => false) true l X V _ _ _ _ _ _ HN6.out HMN.out HMO.out (HM.out.kept0 K0.out) HOK.out (HD.out.kept0 K0.out) HV.out HVV.out (by have := HNN.out; omega) (askB_nil _ _ 0 n (by have := HNN.out; omega))).mono ?_
  rintro _ w3 ⟨v, rfl, ho, hk⟩
  have HC := Lib.hid (own_base ho K0.out.size)
  replace HX := Lib.hid (HX.out.kept hk (by simp))
  replace HY := Lib.hid (HY.out.kept hk (by simp))
  replace HR := Lib.hid (HR.out.kept hk (by simp))
  replace K0 := Lib.hid (K0.out.trans hk)
  clear hk ho
  obtain ⟨C, hC⟩ : ∃ C, C = sumsR r b V l (askN n (fun _ => false) true) := ⟨_, rfl⟩
  rw [← hC] at HC HS1 HS2 HS3 HS4 HPOST
  clear hC
  obtain ⟨Ac, cc, rfl⟩ := own_n HC.out
  go_wp2_with (first | (refine wpList_loadBlk rfl 31 (.tmp 6) rfl ga [.int .i64 n, .int .i64 m, .slice (some ⟨b1, 0, none⟩) (n + 1) c1, .slice A2 l.length c2, .slice A3 l.length c3] _ HX.out rfl Tryz.underlying31 rfl infoRows ?_) | (refine wpList_loadBlk rfl 48 (.tmp 7) rfl gb [.int .i64 N, .slice Ah (wordsN N) ch, .slice Av N cv] _ HY.out rfl Tryz.underlying48 rfl infoDense ?_))
  refine (pSure_any n m N b base base' l X V _ _ _ _ _ w3 HN6.out HMO.out (HM.out.kept0 K0.out) HOK.out (HD.out.kept0 K0.out)).mono ?_
  rintro _ w4 ⟨rfl, hk⟩
  replace HX := Lib.hid (HX.out.kept hk (by simp))
  replace HY := Lib.hid (HY.out.kept hk (by simp))
  replace HR := Lib.hid (HR.out.kept hk (by simp))
  replace HC := Lib.hid (own_kept0 HC.out hk)
  replace K0 := Lib.hid (K0.out.trans hk)
  clear hk
  go_upto_region 5 with (first | (refine wpList_storeBlk rfl 31 (.tmp 6) (.tmp 31) rfl ga _ [.int .i64 n, .int .i64 m, .slice (some ⟨b1, 0, none⟩) (n + 1) c1, .slice A2 l.length c2, .slice A3 l.length c3] HX.out rfl rfl rfl infoRows (by simp [Value.oneCell']) ?_; intro w5 hb5 hk5))
  replace HR := Lib.hid (HR.out.kept hk5 (by have := HNE.out; simp; omega))
  replace HC := Lib.hid (own_kept HC.out hk5 (fun u hu => by simp; rintro rfl; exact own_ne_blk HC.out HX.out (by decide) hu))
  replace HX := Lib.hid hb5
  replace K0 := Lib.hid (K0.out.then hk5 (fun u hu => by simp at hu; subst hu; exact .inr HNE.out.2.2))
  clear hb5 hk5
  have x0 := HX.out.cell 0
  simp only [List.getElem?_cons_zero] at x0
  go_wp2_with fail
  refine (pDone_any r HRV.out n cc C Ac _ (by have := HNN.out; omega) HS4.out HS1.out HS2.out HS3.out (Reads.of_own HC.out)).mono ?_
  rintro _ w6 ⟨v, rfl, v2, hqq, ho, hk⟩
  injection hqq with hqq
  subst hqq
  have HI := Lib.hid (own_base ho K0.out.size)
  replace HR := Lib.hid (HR.out.kept hk (by simp))
  replace K0 := Lib.hid (K0.out.trans hk)
  clear hk ho x0 HX
  obtain ⟨Ai, ci, rfl⟩ := own_n HI.out
  go_wp2_with (first | (refine wpList_storeBlk rfl 35 (.tmp 10) (.tmp 38) rfl gr _ [.int .i64 n, .slice Ai (itemsR r C).length ci] HR.out rfl rfl rfl infoVec (by simp [Value.oneCell']) ?_; intro w8 hb8 hk8))
  have e0 := hb8.cell 0
  have e1 := hb8.cell 1
  simp only [List.getElem?_cons_zero, List.getElem?_cons_succ] at e0 e1
  refine bodyPost_ret (v := .tuple #[.agg #[.int .i64 n, .slice Ai (itemsR r C).length ci], .int .i64 0]) (by simp [results, Tryz.results10, go_sem, e0, e1]) rfl ?_
  rw [HPOST.out]
  have f8 : KeptB w.heap.size [35] w6 w8 := (KeptB.refl _ _ w6).step (L := [gr]) hk8 (fun u hu => by simp at hu; subst hu; exact ⟨by have := HNE.out; omega, _, _, _, HR.out, by simp⟩)
  exact ⟨_, rfl, _, rfl, own_keptB HI.out f8 (by decide), K0.out.thenB f8 (Nat.le_refl _)⟩
end Go.Proofs.YtblfingmdipopaaGreat
