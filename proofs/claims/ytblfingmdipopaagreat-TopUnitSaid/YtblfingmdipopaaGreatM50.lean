/- model.Step. Conditions: a plan of levels or paths of at most 60 vertices, a state of all of them, a matrix of values that fit. -/
import Derived.Test.YtblfingmdipopaaGreatM44
import Derived.Test.YtblfingmdipopaaGreatM49
namespace Go.Proofs.YtblfingmdipopaaGreat
set_option linter.unusedSimpArgs false
set_option linter.unusedVariables false
open Go.ChangeShapes Go.WideShapes Go.ChangeAt Go.RowKit
open Go.RowKit (wrap32 wrap64)
set_option maxHeartbeats 8000000
set_option maxRecDepth 100000 in
theorem step_any (κ : Int) (n s base : Nat) (Aa Ab Ao : Option Addr) (ca cb co b : Nat) (A B : List Int) (round : Int) (l : List Ed) (v1 v2 v3 : Value) (w : World) (h : PlOk κ n s) (hb : b < 2 ^ n) (hla : A.length = n) (hlb : B.length = n) (hr : StRd w n Aa Ab Ao A B b) (hmo : MtOkM n n l) (hm : MtAt w base v1 v2 v3 n l) (hv : ∀ e ∈ l, OkV (ringP κ) e.2.2) (hvv : ∀ i : Nat, b.testBit i = true → OkV (ringP κ) (tellV κ i (A.getD i 0))) :
    Calls Tryz.prog 76 #[.agg (plC κ n s).toArray, .agg #[.int .i64 n, .int .i64 n, v1, v2, v3], .agg (stS n Aa Ab Ao ca cb co).toArray, .int .i64 round] w (fun e w' => ∃ v, e = .returned (.tuple #[v, .int .i64 0]) ∧ StPost w n ((List.range n).map (fun (i : Nat) => newA κ round (A.getD i 0) ((getP (gotP κ A b n l) (i : Int)).getD 0) (getP (gotP κ A b n l) (i : Int)).isSome)) ((List.range n).map (fun (i : Nat) => newC κ (A.getD i 0) (B.getD i 0) ((getP (gotP κ A b n l) (i : Int)).getD 0) (getP (gotP κ A b n l) (i : Int)).isSome)) (onP (fun (i : Nat) => newB κ (A.getD i 0) ((getP (gotP κ A b n l) (i : Int)).getD 0) (getP (gotP κ A b n l) (i : Int)).isSome) n) (.returned v) w') := by
  obtain ⟨b1, c1, A2, c2, A3, c3, rfl, rfl, rfl, _, _⟩ := hm.form
  have HB := Lib.hid hb
  have HNN := Lib.hid h.num
  have HPL := Lib.hid h
  have HR0 := Lib.hid hr
  have HLA := Lib.hid hla
  have HLB := Lib.hid hlb
  have HMO := Lib.hid hmo
  have HM := Lib.hid hm
  have HV := Lib.hid hv
  have HOK := Lib.hid (outL_ok κ A b h.num)
  have HDK := Lib.hid (dn_ok HOK.out)
  have HDV := Lib.hid (dn_vec HDK.out (fun e he => by obtain ⟨i, _, hi, rfl⟩ := outL_mem he; exact hvv i hi))
  have HGO := Lib.hid (gotP_ok κ A b l h.num)
  have H40 := Blk.new w 68 (plC κ n s)
  have H4 := Lib.hid (((H40.alloc (.cells ([.int .i64 n, .int .i64 n, .slice (some ⟨b1, 0, none⟩) (n + 1) c1, .slice A2 l.length c2, .slice A3 l.length c3]).toArray 31)).alloc (.cells ((stS n Aa Ab Ao ca cb co)).toArray 61)).alloc (.cells ([.int .i64 0, .int .i64 0, .slice none 0 0, .slice none 0 0, .slice none 0 0]).toArray 61))
  clear H40
  have H50 := Blk.new (w.alloc (.cells (plC κ n s).toArray 68)) 31 ([.int .i64 n, .int .i64 n, .slice (some ⟨b1, 0, none⟩) (n + 1) c1, .slice A2 l.length c2, .slice A3 l.length c3])
  rw [show (w.alloc (.cells (plC κ n s).toArray 68)).heap.size = w.heap.size + 1 by simp] at H50
  have H5 := Lib.hid ((H50.alloc (.cells ((stS n Aa Ab Ao ca cb co)).toArray 61)).alloc (.cells ([.int .i64 0, .int .i64 0, .slice none 0 0, .slice none 0 0, .slice none 0 0]).toArray 61))
  clear H50
  have H60 := Blk.new ((w.alloc (.cells (plC κ n s).toArray 68)).alloc (.cells ([.int .i64 n, .int .i64 n, .slice (some ⟨b1, 0, none⟩) (n + 1) c1, .slice A2 l.length c2, .slice A3 l.length c3]).toArray 31)) 61 ((stS n Aa Ab Ao ca cb co))
  rw [show ((w.alloc (.cells (plC κ n s).toArray 68)).alloc (.cells ([.int .i64 n, .int .i64 n, .slice (some ⟨b1, 0, none⟩) (n + 1) c1, .slice A2 l.length c2, .slice A3 l.length c3]).toArray 31)).heap.size = w.heap.size + 2 by simp] at H60
  have H6 := Lib.hid (H60.alloc (.cells ([.int .i64 0, .int .i64 0, .slice none 0 0, .slice none 0 0, .slice none 0 0]).toArray 61))
  clear H60
  have HZ80 := Blk.new (((w.alloc (.cells (plC κ n s).toArray 68)).alloc (.cells ([.int .i64 n, .int .i64 n, .slice (some ⟨b1, 0, none⟩) (n + 1) c1, .slice A2 l.length c2, .slice A3 l.length c3]).toArray 31)).alloc (.cells ((stS n Aa Ab Ao ca cb co)).toArray 61)) 61 ([.int .i64 0, .int .i64 0, .slice none 0 0, .slice none 0 0, .slice none 0 0])
  rw [show (((w.alloc (.cells (plC κ n s).toArray 68)).alloc (.cells ([.int .i64 n, .int .i64 n, .slice (some ⟨b1, 0, none⟩) (n + 1) c1, .slice A2 l.length c2, .slice A3 l.length c3]).toArray 31)).alloc (.cells ((stS n Aa Ab Ao ca cb co)).toArray 61)).heap.size = w.heap.size + 3 by simp] at HZ80
  have HZ8 := Lib.hid HZ80
  clear HZ80
  have K0 := Lib.hid (((((Kept.refl [] w).alloc (.cells (plC κ n s).toArray 68)).alloc (.cells ([.int .i64 n, .int .i64 n, .slice (some ⟨b1, 0, none⟩) (n + 1) c1, .slice A2 l.length c2, .slice A3 l.length c3]).toArray 31)).alloc (.cells ((stS n Aa Ab Ao ca cb co)).toArray 61)).alloc (.cells ([.int .i64 0, .int .i64 0, .slice none 0 0, .slice none 0 0, .slice none 0 0]).toArray 61))
  have HGE := Lib.hid (show w.heap.size ≤ w.heap.size + 3 ∧ w.heap.size ≤ w.heap.size + 2 by omega)
  clear h hb hr hla hlb hmo hm hv hvv
  obtain ⟨post, hpost⟩ : ∃ post : Ending → World → Prop, post = (fun e w' => ∃ v, e = .returned (.tuple #[v, .int .i64 0]) ∧ StPost w n ((List.range n).map (fun (i : Nat) => newA κ round (A.getD i 0) ((getP (gotP κ A b n l) (i : Int)).getD 0) (getP (gotP κ A b n l) (i : Int)).isSome)) ((List.range n).map (fun (i : Nat) => newC κ (A.getD i 0) (B.getD i 0) ((getP (gotP κ A b n l) (i : Int)).getD 0) (getP (gotP κ A b n l) (i : Int)).isSome)) (onP (fun (i : Nat) => newB κ (A.getD i 0) ((getP (gotP κ A b n l) (i : Int)).getD 0) (getP (gotP κ A b n l) (i : Int)).isSome) n) (.returned v) w') := ⟨_, rfl⟩
  rw [← hpost]
  have HPOST := Lib.hid hpost
  clear hpost
  go_enter Tryz.func76, Tryz.ntmps76
  go_upto_region 1 with (fail)
  generalize ((((w.alloc (.cells (plC κ n s).toArray 68)).alloc (.cells ([.int .i64 n, .int .i64 n, .slice (some ⟨b1, 0, none⟩) (n + 1) c1, .slice A2 l.length c2, .slice A3 l.length c3]).toArray 31)).alloc (.cells ((stS n Aa Ab Ao ca cb co)).toArray 61)).alloc (.cells ([.int .i64 0, .int .i64 0, .slice none 0 0, .slice none 0 0, .slice none 0 0]).toArray 61)) = w1 at *
  generalize w.heap.size + 3 = gz at HZ8 HGE ⊢
  generalize w.heap.size + 2 = g6 at H6 HGE ⊢
  generalize w.heap.size + 1 = g5 at H5 ⊢
  generalize hg4 : w.heap.size = g4 at H4 ⊢
  rw [hg4] at HGE
  have HG4 := Lib.hid hg4
  clear hg4
  go_wp2_with (first | (refine wpList_loadBlk rfl 68 (.tmp 4) rfl g4 (plC κ n s) _ H4.out rfl Tryz.underlying68 rfl infoPlan ?_))
  refine (pRight_any κ n s _ HPL.out).mono ?_
  rintro _ w2 ⟨rfl, hk1⟩
  replace H4 := Lib.hid (H4.out.kept hk1 (by simp))
  replace H5 := Lib.hid (H5.out.kept hk1 (by simp))
  replace H6 := Lib.hid (H6.out.kept hk1 (by simp))
  replace HZ8 := Lib.hid (HZ8.out.kept hk1 (by simp))
  replace K0 := Lib.hid (K0.out.trans hk1)
  clear hk1
  go_wp2_with (first | (refine wpList_loadBlk rfl 31 (.tmp 5) rfl g5 [.int .i64 n, .int .i64 n, .slice (some ⟨b1, 0, none⟩) (n + 1) c1, .slice A2 l.length c2, .slice A3 l.length c3] _ H5.out rfl Tryz.underlying31 rfl infoRows ?_))
  refine (right_trueM n n base l _ _ _ _ HMO.out (HM.out.kept0 K0.out)).mono ?_
  rintro _ w3 ⟨rfl, hk1⟩
  replace H4 := Lib.hid (H4.out.kept hk1 (by simp))
  replace H5 := Lib.hid (H5.out.kept hk1 (by simp))
  replace H6 := Lib.hid (H6.out.kept hk1 (by simp))
  replace HZ8 := Lib.hid (HZ8.out.kept hk1 (by simp))
  replace K0 := Lib.hid (K0.out.trans hk1)
  clear hk1
  have p1 := H4.out.cell 1
  simp only [List.getElem?_cons_zero, List.getElem?_cons_succ] at p1
  have y0 := H5.out.cell 0
  have y1 := H5.out.cell 1
  simp only [List.getElem?_cons_zero, List.getElem?_cons_succ] at y0 y1
  go_wp2_with (first | (refine wpList_loadBlkG 68 (.tmp 4) rfl g4 (plC κ n s) _ (by first | rfl | kernel_rfl) H4.out rfl Tryz.underlying68 rfl infoPlan ?_) | (refine wpList_loadBlkG 61 (.tmp 6) rfl g6 (stS n Aa Ab Ao ca cb co) _ (by first | rfl | kernel_rfl) H6.out rfl Tryz.underlying61 rfl infoState ?_))
  refine (whole_any κ n s Aa Ab Ao ca cb co b A B _ HPL.out HB.out HLA.out (HR0.out.kept0 K0.out)).mono ?_
  rintro _ w4 ⟨rfl, hk1⟩
  clear p1 y0 y1
  replace H4 := Lib.hid (H4.out.kept hk1 (by simp))
  replace H5 := Lib.hid (H5.out.kept hk1 (by simp))
  replace H6 := Lib.hid (H6.out.kept hk1 (by simp))
  replace HZ8 := Lib.hid (HZ8.out.kept hk1 (by simp))
  replace K0 := Lib.hid (K0.out.trans hk1)
  clear hk1
  go_wp2_with (first | (refine wpList_loadBlk rfl 68 (.tmp 4) rfl g4 (plC κ n s) _ H4.out rfl Tryz.underlying68 rfl infoPlan ?_) | (refine wpList_loadBlk rfl 61 (.tmp 6) rfl g6 (stS n Aa Ab Ao ca cb co) _ H6.out rfl Tryz.underlying61 rfl infoState ?_))
  refine (pAsked_any κ n s Aa Ab Ao ca cb co b A B round _ HPL.out HB.out HLA.out (HR0.out.kept0 K0.out)).mono ?_
  rintro _ wr ⟨Af, kf, cf, rfl, hf, hk1⟩
  have HF := Lib.hid hf
  clear hf
  replace H4 := Lib.hid (H4.out.kept hk1 (by simp))
  replace H5 := Lib.hid (H5.out.kept hk1 (by simp))
  replace H6 := Lib.hid (H6.out.kept hk1 (by simp))
  replace HZ8 := Lib.hid (HZ8.out.kept hk1 (by simp))
  replace K0 := Lib.hid (K0.out.trans hk1)
  clear hk1
  have z0 := H4.out.cell 0
  simp only [List.getElem?_cons_zero] at z0
  go_upto_region 9 with (fail)
  have K1 := Lib.hid (Kept.refl [] wr)
  go_cut [13, 14] (fun v e wx => ∃ gq Ai ci, v = .pointer (some ⟨gq, 0, none⟩) ∧ e = .int .i64 0 ∧ Hid (Blk wx gq 35 [.int .i64 n, .slice Ai (gotP κ A b n l).length ci]) ∧ Hid (wx.ownsRow w.heap.size 38 2 (.slice Ai (gotP κ A b n l).length ci) (gotP κ A b n l).length ((gotP κ A b n l).flatMap itV)) ∧ Hid (Kept [] wr wx))
  case first =>
    refine wp_region_held_drew (S := (fun w' => Kept [] wr w' ∧ w'.cell? ⟨g4, 0, none⟩ = some (.int .i64 κ))) (by kernel_rfl) ?_ (fun hHeld => ?_)
    · exact ⟨(K1.out.drew), ((K1.out.drew)).cell_lt z0⟩
    replace K1 := Lib.hid K1.out.drew
    generalize wr.drew = wd0 at *
    refine tkYes (i := 0) (v := ?_) rfl rfl (by kernel_rfl) (by kernel_rfl) (by kernel_rfl) (fun _ _ _ h => h) (by rfl) ?_ (by assumption) ?_
    rotate_left
    · (intro w' hSw; (try dsimp only at hSw); go_simp; try with_reducible rfl)
    try simp only [Act.put, List.setIfInBounds_toArray, List.set_cons_zero, List.set_cons_succ]
    refine tkYes (i := 1) (v := ?_) rfl rfl (by kernel_rfl) (by kernel_rfl) (by kernel_rfl) (fun _ _ _ h => h) (by rfl) ?_ (by assumption) ?_
    rotate_left
    · (intro w' hSw; (try dsimp only at hSw); go_simp; try with_reducible rfl)
    try simp only [Act.put, List.setIfInBounds_toArray, List.set_cons_zero, List.set_cons_succ]
    refine tkYes (i := 2) (v := ?_) rfl rfl (by kernel_rfl) (by kernel_rfl) (by kernel_rfl) (fun _ _ _ h => h) (by rfl) ?_ (by assumption) ?_
    rotate_left
    · (intro w' hSw; (try dsimp only at hSw); go_simp; try with_reducible rfl)
    try simp only [Act.put, List.setIfInBounds_toArray, List.set_cons_zero, List.set_cons_succ]
    refine tkLoad (i := 4) 31 (.tmp 5) g5 (0) [.int .i64 n, .int .i64 n, .slice (some ⟨b1, 0, none⟩) (n + 1) c1, .slice A2 l.length c2, .slice A3 l.length c3] _ rfl rfl (by kernel_rfl) (by kernel_rfl) (by kernel_rfl) (fun _ _ _ h => h) (by rfl) rfl rfl (fun w hw => (H5.out.kept hw.1 (by simp)).cell2) Tryz.underlying31 rfl infoRows (by assumption) ?_
    try simp only [Act.put, List.setIfInBounds_toArray, List.set_cons_zero, List.set_cons_succ]
    refine tkLoad (i := 5) 68 (.tmp 4) g4 (0) (plC κ n s) _ rfl rfl (by kernel_rfl) (by kernel_rfl) (by kernel_rfl) (fun _ _ _ h => h) (by rfl) rfl rfl (fun w hw => (H4.out.kept hw.1 (by simp)).cell2) Tryz.underlying68 rfl infoPlan (by assumption) ?_
    try simp only [Act.put, List.setIfInBounds_toArray, List.set_cons_zero, List.set_cons_succ]
    refine tkLoad (i := 6) 61 (.tmp 6) g6 (0) (stS n Aa Ab Ao ca cb co) _ rfl rfl (by kernel_rfl) (by kernel_rfl) (by kernel_rfl) (fun _ _ _ h => h) (by rfl) rfl rfl (fun w hw => (H6.out.kept hw.1 (by simp)).cell2) Tryz.underlying61 rfl infoState (by assumption) ?_
    try simp only [Act.put, List.setIfInBounds_toArray, List.set_cons_zero, List.set_cons_succ]
    refine tkYes (i := 7) (v := ?_) rfl rfl (by kernel_rfl) (by kernel_rfl) (by kernel_rfl) (fun _ _ _ h => h) (by rfl) ?_ (by assumption) ?_
    rotate_left
    · (intro w' hSw; (try dsimp only at hSw); go_simp; try with_reducible rfl)
    try simp only [Act.put, List.setIfInBounds_toArray, List.set_cons_zero, List.set_cons_succ]
    refine tkYes (i := 10) (v := ?_) rfl rfl (by kernel_rfl) (by kernel_rfl) (by kernel_rfl) (fun _ _ _ h => h) (by rfl) ?_ (by assumption) ?_
    rotate_left
    · (intro w' hSw; (try dsimp only at hSw); go_simp; try with_reducible rfl)
    try simp only [Act.put, List.setIfInBounds_toArray, List.set_cons_zero, List.set_cons_succ]
    refine tkYes (i := 11) (v := ?_) rfl rfl (by kernel_rfl) (by kernel_rfl) (by kernel_rfl) (fun _ _ _ h => h) (by rfl) ?_ (by assumption) ?_
    rotate_left
    · (intro w' hSw; (try dsimp only at hSw); go_simp; try with_reducible rfl)
    try simp only [Act.put, List.setIfInBounds_toArray, List.set_cons_zero, List.set_cons_succ]
    refine wpAnyH_ready (rs := [3, 16]) (by kernel_rfl) (by simp) ?_
    refine AllReadyH.cons rfl (fun K hK => ?_) (AllReadyH.cons rfl (fun K hK => ?_) AllReadyH.nil)
    · go_simp
      refine (pRing_any κ round _ HPL.out.kind).mono ?_
      rintro _ wd1 ⟨rfl, hw⟩
      have hk : Kept [] wd0 wd1 := by rw [hw]; exact Kept.refl [] _
      clear hw
      replace K1 := Lib.hid (K1.out.trans hk)
      clear hk
      go_wp2_with fail
      refine hK.out _ _ ?_ (fun hHeld => ?_)
      · exact ⟨K1.out, (K1.out).cell_lt z0⟩
      clear hK K
      try simp only [Act.put, List.setIfInBounds_toArray, List.set_cons_zero, List.set_cons_succ]
      refine wpAnyH_ready (rs := [8, 16]) (by kernel_rfl) (by simp) ?_
      refine AllReadyH.cons rfl (fun K hK => ?_) (AllReadyH.cons rfl (fun K hK => ?_) AllReadyH.nil)
      · go_simp
        refine (out_any κ n s Aa Ab Ao ca cb co b A B round _ HPL.out HB.out HLA.out (HR0.out.kept0 (K0.out.trans K1.out))).mono ?_
        rintro _ wd2 ⟨v, rfl, ho, hk⟩
        have HO := Lib.hid ho
        clear ho
        replace K1 := Lib.hid (K1.out.trans hk)
        clear hk
        obtain ⟨Ax, cx, rfl⟩ := own_n HO.out
        go_wp2_with fail
        refine hK.out _ _ ?_ (fun hHeld => ?_)
        · exact ⟨K1.out, (K1.out).cell_lt z0⟩
        clear hK K
        try simp only [Act.put, List.setIfInBounds_toArray, List.set_cons_zero, List.set_cons_succ]
        refine wpAnyH_ready (rs := [9, 16]) (by kernel_rfl) (by simp) ?_
        refine AllReadyH.cons rfl (fun K hK => ?_) (AllReadyH.cons rfl (fun K hK => ?_) AllReadyH.nil)
        · go_simp
          refine (dOf_any n HNN.out (outL κ A b n) Ax cx _ HOK.out (Reads.of_own HO.out)).mono ?_
          rintro _ wd3 ⟨vh, vv, rfl, hdn, hk⟩
          have HDN := Lib.hid hdn
          clear hdn
          replace K1 := Lib.hid (K1.out.trans hk)
          replace HO := Lib.hid (own_kept0 HO.out hk)
          clear hk
          go_wp2_with fail
          refine hK.out _ _ ?_ (fun hHeld => ?_)
          · exact ⟨K1.out, (K1.out).cell_lt z0⟩
          clear hK K
          try simp only [Act.put, List.setIfInBounds_toArray, List.set_cons_zero, List.set_cons_succ]
          refine wpAnyH_ready (rs := [12, 16]) (by kernel_rfl) (by simp) ?_
          refine AllReadyH.cons rfl (fun K hK => ?_) (AllReadyH.cons rfl (fun K hK => ?_) AllReadyH.nil)
          · go_simp
            refine (pTimesQ_any (ringP κ) (ringP_ok HPL.out.kind) n n n _ base _ l (outL κ A b n) (valsP n (outL κ A b n)) _ _ _ vh vv _ HNN.out rfl HMO.out (HM.out.kept0 (K0.out.trans K1.out)) HDK.out HDN.out HV.out HDV.out HNN.out Af kf cf (qP κ A n) (oP κ) (fun w1 hk => HF.out w1 (K1.out.trans hk))).mono ?_
            rintro _ wd4 ⟨v, rfl, v2, hqq, ho, hk⟩
            injection hqq with hqq
            subst hqq
            have HIT := Lib.hid (show wd4.ownsRow _ 38 2 v2 (gotP κ A b n l).length ((gotP κ A b n l).flatMap itV) from own_base ho (Nat.le_trans K0.out.size K1.out.size))
            clear ho
            replace K1 := Lib.hid (K1.out.trans hk)
            replace HO := Lib.hid (own_kept0 HO.out hk)
            replace HDN := Lib.hid (HDN.out.kept0 hk)
            clear hk
            obtain ⟨Ai, ci, rfl⟩ := own_n HIT.out
            go_wp2_with fail
            refine hK.out _ _ ?_ (fun hHeld => ?_)
            · exact ⟨K1.out, (K1.out).cell_lt z0⟩
            clear hK K
            try simp only [Act.put, List.setIfInBounds_toArray, List.set_cons_zero, List.set_cons_succ]
            refine tkYes (i := 13) (v := ?_) rfl rfl (by kernel_rfl) (by kernel_rfl) (by kernel_rfl) (fun _ _ _ h => h) (by rfl) ?_ (by assumption) ?_
            rotate_left
            · (intro w' hSw; (try dsimp only at hSw); go_simp; try with_reducible rfl)
            try simp only [Act.put, List.setIfInBounds_toArray, List.set_cons_zero, List.set_cons_succ]
            refine tkYes (i := 14) (v := ?_) rfl rfl (by kernel_rfl) (by kernel_rfl) (by kernel_rfl) (fun _ _ _ h => h) (by rfl) ?_ (by assumption) ?_
            rotate_left
            · (intro w' hSw; (try dsimp only at hSw); go_simp; try with_reducible rfl)
            try simp only [Act.put, List.setIfInBounds_toArray, List.set_cons_zero, List.set_cons_succ]
            refine tkYes (i := 15) (v := ?_) rfl rfl (by kernel_rfl) (by kernel_rfl) (by kernel_rfl) (fun _ _ _ h => h) (by rfl) ?_ (by assumption) ?_
            rotate_left
            · (intro w' hSw; (try dsimp only at hSw); go_simp; try with_reducible rfl)
            try simp only [Act.put, List.setIfInBounds_toArray, List.set_cons_zero, List.set_cons_succ]
            refine wpAnyH_ready (rs := [16]) (by kernel_rfl) (by simp) ?_
            refine AllReadyH.cons rfl (fun K hK => ?_) AllReadyH.nil
            go_simp
            have HZ := Lib.hid (Blk.new wd4 35 [.int .i64 0, .slice none 0 0])
            have HGZ := Lib.hid K1.out.size
            replace K1 := Lib.hid (K1.out.trans ((Kept.refl [] wd4).alloc (.cells #[.int .i64 0, .slice none 0 0] 35)))
            replace HO := Lib.hid (own_kept0 HO.out ((Kept.refl [] wd4).alloc (.cells #[.int .i64 0, .slice none 0 0] 35)))
            replace HDN := Lib.hid (HDN.out.kept0 ((Kept.refl [] wd4).alloc (.cells #[.int .i64 0, .slice none 0 0] 35)))
            replace HIT := Lib.hid (own_kept0 HIT.out ((Kept.refl [] wd4).alloc (.cells #[.int .i64 0, .slice none 0 0] 35)))
            generalize wd4.alloc (.cells #[.int .i64 0, .slice none 0 0] 35) = wd5 at *
            generalize wd4.heap.size = gq at HZ HGZ ⊢
            refine hK.out _ _ ?_ (fun hHeld => ?_)
            · exact ⟨K1.out, (K1.out).cell_lt z0⟩
            clear hK K
            try simp only [Act.put, List.setIfInBounds_toArray, List.set_cons_zero, List.set_cons_succ]
            refine wpAnyH_ready (rs := [17]) (by kernel_rfl) (by simp) ?_
            refine AllReadyH.cons rfl (fun K hK => ?_) AllReadyH.nil
            refine stpBlk rfl 35 (.tmp 13) (.tmp 65) rfl gq _ [.int .i64 n, .slice Ai (gotP κ A b n l).length ci] HZ.out rfl rfl rfl infoVec (by simp [Value.oneCell']) ?_
            intro w8 hb8 hk8
            have f8 : KeptB wr.heap.size [35] wd5 w8 := (KeptB.refl _ _ wd5).step (L := [gq]) hk8 (fun u hu => by simp at hu; subst hu; exact ⟨HGZ.out, _, _, _, HZ.out, by simp⟩)
            replace HIT := Lib.hid (own_keptB HIT.out f8 (by decide))
            replace HZ := Lib.hid hb8
            replace K1 := Lib.hid (K1.out.thenB f8 (Nat.le_refl _))
            clear f8 hk8 hb8
            go_simp
            refine hK.out _ _ ?_ (fun hHeld => ?_)
            · exact ⟨K1.out, (K1.out).cell_lt z0⟩
            clear hK K
            try simp only [Act.put, List.setIfInBounds_toArray, List.set_cons_zero, List.set_cons_succ]
            refine tkYes (i := 18) (v := ?_) rfl rfl (by kernel_rfl) (by kernel_rfl) (by kernel_rfl) (fun _ _ _ h => h) (by rfl) ?_ (by assumption) ?_
            rotate_left
            · (intro w' hSw; (try dsimp only at hSw); go_simp; try with_reducible rfl)
            try simp only [Act.put, List.setIfInBounds_toArray, List.set_cons_zero, List.set_cons_succ]
            refine wpAnyH_done (by kernel_rfl) ?_ _
            go_wp2_with fail
            go_meet
            exact ⟨gq, Ai, ci, rfl, rfl, HZ, HIT, K1⟩
          · go_simp
            have HZ := Lib.hid (Blk.new wd3 35 [.int .i64 0, .slice none 0 0])
            have HGZ := Lib.hid K1.out.size
            replace K1 := Lib.hid (K1.out.trans ((Kept.refl [] wd3).alloc (.cells #[.int .i64 0, .slice none 0 0] 35)))
            replace HO := Lib.hid (own_kept0 HO.out ((Kept.refl [] wd3).alloc (.cells #[.int .i64 0, .slice none 0 0] 35)))
            replace HDN := Lib.hid (HDN.out.kept0 ((Kept.refl [] wd3).alloc (.cells #[.int .i64 0, .slice none 0 0] 35)))
            generalize wd3.alloc (.cells #[.int .i64 0, .slice none 0 0] 35) = wd6 at *
            generalize wd3.heap.size = gq at HZ HGZ ⊢
            refine hK.out _ _ ?_ (fun hHeld => ?_)
            · exact ⟨K1.out, (K1.out).cell_lt z0⟩
            clear hK K
            try simp only [Act.put, List.setIfInBounds_toArray, List.set_cons_zero, List.set_cons_succ]
            refine wpAnyH_ready (rs := [12]) (by kernel_rfl) (by simp) ?_
            refine AllReadyH.cons rfl (fun K hK => ?_) AllReadyH.nil
            go_simp
            refine (pTimesQ_any (ringP κ) (ringP_ok HPL.out.kind) n n n _ base _ l (outL κ A b n) (valsP n (outL κ A b n)) _ _ _ vh vv _ HNN.out rfl HMO.out (HM.out.kept0 (K0.out.trans K1.out)) HDK.out HDN.out HV.out HDV.out HNN.out Af kf cf (qP κ A n) (oP κ) (fun w1 hk => HF.out w1 (K1.out.trans hk))).mono ?_
            rintro _ wd7 ⟨v, rfl, v2, hqq, ho, hk⟩
            injection hqq with hqq
            subst hqq
            have HIT := Lib.hid (show wd7.ownsRow _ 38 2 v2 (gotP κ A b n l).length ((gotP κ A b n l).flatMap itV) from own_base ho (Nat.le_trans K0.out.size K1.out.size))
            clear ho
            replace K1 := Lib.hid (K1.out.trans hk)
            replace HO := Lib.hid (own_kept0 HO.out hk)
            replace HDN := Lib.hid (HDN.out.kept0 hk)
            replace HZ := Lib.hid (HZ.out.kept hk (by simp))
            clear hk
            obtain ⟨Ai, ci, rfl⟩ := own_n HIT.out
            go_wp2_with fail
            refine hK.out _ _ ?_ (fun hHeld => ?_)
            · exact ⟨K1.out, (K1.out).cell_lt z0⟩
            clear hK K
            try simp only [Act.put, List.setIfInBounds_toArray, List.set_cons_zero, List.set_cons_succ]
            refine tkYes (i := 13) (v := ?_) rfl rfl (by kernel_rfl) (by kernel_rfl) (by kernel_rfl) (fun _ _ _ h => h) (by rfl) ?_ (by assumption) ?_
            rotate_left
            · (intro w' hSw; (try dsimp only at hSw); go_simp; try with_reducible rfl)
            try simp only [Act.put, List.setIfInBounds_toArray, List.set_cons_zero, List.set_cons_succ]
            refine tkYes (i := 14) (v := ?_) rfl rfl (by kernel_rfl) (by kernel_rfl) (by kernel_rfl) (fun _ _ _ h => h) (by rfl) ?_ (by assumption) ?_
            rotate_left
            · (intro w' hSw; (try dsimp only at hSw); go_simp; try with_reducible rfl)
            try simp only [Act.put, List.setIfInBounds_toArray, List.set_cons_zero, List.set_cons_succ]
            refine tkYes (i := 15) (v := ?_) rfl rfl (by kernel_rfl) (by kernel_rfl) (by kernel_rfl) (fun _ _ _ h => h) (by rfl) ?_ (by assumption) ?_
            rotate_left
            · (intro w' hSw; (try dsimp only at hSw); go_simp; try with_reducible rfl)
            try simp only [Act.put, List.setIfInBounds_toArray, List.set_cons_zero, List.set_cons_succ]
            refine wpAnyH_ready (rs := [17]) (by kernel_rfl) (by simp) ?_
            refine AllReadyH.cons rfl (fun K hK => ?_) AllReadyH.nil
            refine stpBlk rfl 35 (.tmp 13) (.tmp 65) rfl gq _ [.int .i64 n, .slice Ai (gotP κ A b n l).length ci] HZ.out rfl rfl rfl infoVec (by simp [Value.oneCell']) ?_
            intro w8 hb8 hk8
            have f8 : KeptB wr.heap.size [35] wd7 w8 := (KeptB.refl _ _ wd7).step (L := [gq]) hk8 (fun u hu => by simp at hu; subst hu; exact ⟨HGZ.out, _, _, _, HZ.out, by simp⟩)
            replace HIT := Lib.hid (own_keptB HIT.out f8 (by decide))
            replace HZ := Lib.hid hb8
            replace K1 := Lib.hid (K1.out.thenB f8 (Nat.le_refl _))
            clear f8 hk8 hb8
            go_simp
            refine hK.out _ _ ?_ (fun hHeld => ?_)
            · exact ⟨K1.out, (K1.out).cell_lt z0⟩
            clear hK K
            try simp only [Act.put, List.setIfInBounds_toArray, List.set_cons_zero, List.set_cons_succ]
            refine tkYes (i := 18) (v := ?_) rfl rfl (by kernel_rfl) (by kernel_rfl) (by kernel_rfl) (fun _ _ _ h => h) (by rfl) ?_ (by assumption) ?_
            rotate_left
            · (intro w' hSw; (try dsimp only at hSw); go_simp; try with_reducible rfl)
            try simp only [Act.put, List.setIfInBounds_toArray, List.set_cons_zero, List.set_cons_succ]
            refine wpAnyH_done (by kernel_rfl) ?_ _
            go_wp2_with fail
            go_meet
            exact ⟨gq, Ai, ci, rfl, rfl, HZ, HIT, K1⟩
        · go_simp
          have HZ := Lib.hid (Blk.new wd2 35 [.int .i64 0, .slice none 0 0])
          have HGZ := Lib.hid K1.out.size
          replace K1 := Lib.hid (K1.out.trans ((Kept.refl [] wd2).alloc (.cells #[.int .i64 0, .slice none 0 0] 35)))
          replace HO := Lib.hid (own_kept0 HO.out ((Kept.refl [] wd2).alloc (.cells #[.int .i64 0, .slice none 0 0] 35)))
          generalize wd2.alloc (.cells #[.int .i64 0, .slice none 0 0] 35) = wd8 at *
          generalize wd2.heap.size = gq at HZ HGZ ⊢
          refine hK.out _ _ ?_ (fun hHeld => ?_)
          · exact ⟨K1.out, (K1.out).cell_lt z0⟩
          clear hK K
          try simp only [Act.put, List.setIfInBounds_toArray, List.set_cons_zero, List.set_cons_succ]
          refine wpAnyH_ready (rs := [9]) (by kernel_rfl) (by simp) ?_
          refine AllReadyH.cons rfl (fun K hK => ?_) AllReadyH.nil
          go_simp
          refine (dOf_any n HNN.out (outL κ A b n) Ax cx _ HOK.out (Reads.of_own HO.out)).mono ?_
          rintro _ wd9 ⟨vh, vv, rfl, hdn, hk⟩
          have HDN := Lib.hid hdn
          clear hdn
          replace K1 := Lib.hid (K1.out.trans hk)
          replace HO := Lib.hid (own_kept0 HO.out hk)
          replace HZ := Lib.hid (HZ.out.kept hk (by simp))
          clear hk
          go_wp2_with fail
          refine hK.out _ _ ?_ (fun hHeld => ?_)
          · exact ⟨K1.out, (K1.out).cell_lt z0⟩
          clear hK K
          try simp only [Act.put, List.setIfInBounds_toArray, List.set_cons_zero, List.set_cons_succ]
          refine wpAnyH_ready (rs := [12]) (by kernel_rfl) (by simp) ?_
          refine AllReadyH.cons rfl (fun K hK => ?_) AllReadyH.nil
          go_simp
          refine (pTimesQ_any (ringP κ) (ringP_ok HPL.out.kind) n n n _ base _ l (outL κ A b n) (valsP n (outL κ A b n)) _ _ _ vh vv _ HNN.out rfl HMO.out (HM.out.kept0 (K0.out.trans K1.out)) HDK.out HDN.out HV.out HDV.out HNN.out Af kf cf (qP κ A n) (oP κ) (fun w1 hk => HF.out w1 (K1.out.trans hk))).mono ?_
          rintro _ wd10 ⟨v, rfl, v2, hqq, ho, hk⟩
          injection hqq with hqq
          subst hqq
          have HIT := Lib.hid (show wd10.ownsRow _ 38 2 v2 (gotP κ A b n l).length ((gotP κ A b n l).flatMap itV) from own_base ho (Nat.le_trans K0.out.size K1.out.size))
          clear ho
          replace K1 := Lib.hid (K1.out.trans hk)
          replace HO := Lib.hid (own_kept0 HO.out hk)
          replace HDN := Lib.hid (HDN.out.kept0 hk)
          replace HZ := Lib.hid (HZ.out.kept hk (by simp))
          clear hk
          obtain ⟨Ai, ci, rfl⟩ := own_n HIT.out
          go_wp2_with fail
          refine hK.out _ _ ?_ (fun hHeld => ?_)
          · exact ⟨K1.out, (K1.out).cell_lt z0⟩
          clear hK K
          try simp only [Act.put, List.setIfInBounds_toArray, List.set_cons_zero, List.set_cons_succ]
          refine tkYes (i := 13) (v := ?_) rfl rfl (by kernel_rfl) (by kernel_rfl) (by kernel_rfl) (fun _ _ _ h => h) (by rfl) ?_ (by assumption) ?_
          rotate_left
          · (intro w' hSw; (try dsimp only at hSw); go_simp; try with_reducible rfl)
          try simp only [Act.put, List.setIfInBounds_toArray, List.set_cons_zero, List.set_cons_succ]
          refine tkYes (i := 14) (v := ?_) rfl rfl (by kernel_rfl) (by kernel_rfl) (by kernel_rfl) (fun _ _ _ h => h) (by rfl) ?_ (by assumption) ?_
          rotate_left
          · (intro w' hSw; (try dsimp only at hSw); go_simp; try with_reducible rfl)
          try simp only [Act.put, List.setIfInBounds_toArray, List.set_cons_zero, List.set_cons_succ]
          refine tkYes (i := 15) (v := ?_) rfl rfl (by kernel_rfl) (by kernel_rfl) (by kernel_rfl) (fun _ _ _ h => h) (by rfl) ?_ (by assumption) ?_
          rotate_left
          · (intro w' hSw; (try dsimp only at hSw); go_simp; try with_reducible rfl)
          try simp only [Act.put, List.setIfInBounds_toArray, List.set_cons_zero, List.set_cons_succ]
          refine wpAnyH_ready (rs := [17]) (by kernel_rfl) (by simp) ?_
          refine AllReadyH.cons rfl (fun K hK => ?_) AllReadyH.nil
          refine stpBlk rfl 35 (.tmp 13) (.tmp 65) rfl gq _ [.int .i64 n, .slice Ai (gotP κ A b n l).length ci] HZ.out rfl rfl rfl infoVec (by simp [Value.oneCell']) ?_
          intro w8 hb8 hk8
          have f8 : KeptB wr.heap.size [35] wd10 w8 := (KeptB.refl _ _ wd10).step (L := [gq]) hk8 (fun u hu => by simp at hu; subst hu; exact ⟨HGZ.out, _, _, _, HZ.out, by simp⟩)
          replace HIT := Lib.hid (own_keptB HIT.out f8 (by decide))
          replace HZ := Lib.hid hb8
          replace K1 := Lib.hid (K1.out.thenB f8 (Nat.le_refl _))
          clear f8 hk8 hb8
          go_simp
          refine hK.out _ _ ?_ (fun hHeld => ?_)
          · exact ⟨K1.out, (K1.out).cell_lt z0⟩
          clear hK K
          try simp only [Act.put, List.setIfInBounds_toArray, List.set_cons_zero, List.set_cons_succ]
          refine tkYes (i := 18) (v := ?_) rfl rfl (by kernel_rfl) (by kernel_rfl) (by kernel_rfl) (fun _ _ _ h => h) (by rfl) ?_ (by assumption) ?_
          rotate_left
          · (intro w' hSw; (try dsimp only at hSw); go_simp; try with_reducible rfl)
          try simp only [Act.put, List.setIfInBounds_toArray, List.set_cons_zero, List.set_cons_succ]
          refine wpAnyH_done (by kernel_rfl) ?_ _
          go_wp2_with fail
          go_meet
          exact ⟨gq, Ai, ci, rfl, rfl, HZ, HIT, K1⟩
      · go_simp
        have HZ := Lib.hid (Blk.new wd1 35 [.int .i64 0, .slice none 0 0])
        have HGZ := Lib.hid K1.out.size
        replace K1 := Lib.hid (K1.out.trans ((Kept.refl [] wd1).alloc (.cells #[.int .i64 0, .slice none 0 0] 35)))
        generalize wd1.alloc (.cells #[.int .i64 0, .slice none 0 0] 35) = wd11 at *
        generalize wd1.heap.size = gq at HZ HGZ ⊢
        refine hK.out _ _ ?_ (fun hHeld => ?_)
        · exact ⟨K1.out, (K1.out).cell_lt z0⟩
        clear hK K
        try simp only [Act.put, List.setIfInBounds_toArray, List.set_cons_zero, List.set_cons_succ]
        refine wpAnyH_ready (rs := [8]) (by kernel_rfl) (by simp) ?_
        refine AllReadyH.cons rfl (fun K hK => ?_) AllReadyH.nil
        go_simp
        refine (out_any κ n s Aa Ab Ao ca cb co b A B round _ HPL.out HB.out HLA.out (HR0.out.kept0 (K0.out.trans K1.out))).mono ?_
        rintro _ wd12 ⟨v, rfl, ho, hk⟩
        have HO := Lib.hid ho
        clear ho
        replace K1 := Lib.hid (K1.out.trans hk)
        replace HZ := Lib.hid (HZ.out.kept hk (by simp))
        clear hk
        obtain ⟨Ax, cx, rfl⟩ := own_n HO.out
        go_wp2_with fail
        refine hK.out _ _ ?_ (fun hHeld => ?_)
        · exact ⟨K1.out, (K1.out).cell_lt z0⟩
        clear hK K
        try simp only [Act.put, List.setIfInBounds_toArray, List.set_cons_zero, List.set_cons_succ]
        refine wpAnyH_ready (rs := [9]) (by kernel_rfl) (by simp) ?_
        refine AllReadyH.cons rfl (fun K hK => ?_) AllReadyH.nil
        go_simp
        refine (dOf_any n HNN.out (outL κ A b n) Ax cx _ HOK.out (Reads.of_own HO.out)).mono ?_
        rintro _ wd13 ⟨vh, vv, rfl, hdn, hk⟩
        have HDN := Lib.hid hdn
        clear hdn
        replace K1 := Lib.hid (K1.out.trans hk)
        replace HO := Lib.hid (own_kept0 HO.out hk)
        replace HZ := Lib.hid (HZ.out.kept hk (by simp))
        clear hk
        go_wp2_with fail
        refine hK.out _ _ ?_ (fun hHeld => ?_)
        · exact ⟨K1.out, (K1.out).cell_lt z0⟩
        clear hK K
        try simp only [Act.put, List.setIfInBounds_toArray, List.set_cons_zero, List.set_cons_succ]
        refine wpAnyH_ready (rs := [12]) (by kernel_rfl) (by simp) ?_
        refine AllReadyH.cons rfl (fun K hK => ?_) AllReadyH.nil
        go_simp
        refine (pTimesQ_any (ringP κ) (ringP_ok HPL.out.kind) n n n _ base _ l (outL κ A b n) (valsP n (outL κ A b n)) _ _ _ vh vv _ HNN.out rfl HMO.out (HM.out.kept0 (K0.out.trans K1.out)) HDK.out HDN.out HV.out HDV.out HNN.out Af kf cf (qP κ A n) (oP κ) (fun w1 hk => HF.out w1 (K1.out.trans hk))).mono ?_
        rintro _ wd14 ⟨v, rfl, v2, hqq, ho, hk⟩
        injection hqq with hqq
        subst hqq
        have HIT := Lib.hid (show wd14.ownsRow _ 38 2 v2 (gotP κ A b n l).length ((gotP κ A b n l).flatMap itV) from own_base ho (Nat.le_trans K0.out.size K1.out.size))
        clear ho
        replace K1 := Lib.hid (K1.out.trans hk)
        replace HO := Lib.hid (own_kept0 HO.out hk)
        replace HDN := Lib.hid (HDN.out.kept0 hk)
        replace HZ := Lib.hid (HZ.out.kept hk (by simp))
        clear hk
        obtain ⟨Ai, ci, rfl⟩ := own_n HIT.out
        go_wp2_with fail
        refine hK.out _ _ ?_ (fun hHeld => ?_)
        · exact ⟨K1.out, (K1.out).cell_lt z0⟩
        clear hK K
        try simp only [Act.put, List.setIfInBounds_toArray, List.set_cons_zero, List.set_cons_succ]
        refine tkYes (i := 13) (v := ?_) rfl rfl (by kernel_rfl) (by kernel_rfl) (by kernel_rfl) (fun _ _ _ h => h) (by rfl) ?_ (by assumption) ?_
        rotate_left
        · (intro w' hSw; (try dsimp only at hSw); go_simp; try with_reducible rfl)
        try simp only [Act.put, List.setIfInBounds_toArray, List.set_cons_zero, List.set_cons_succ]
        refine tkYes (i := 14) (v := ?_) rfl rfl (by kernel_rfl) (by kernel_rfl) (by kernel_rfl) (fun _ _ _ h => h) (by rfl) ?_ (by assumption) ?_
        rotate_left
        · (intro w' hSw; (try dsimp only at hSw); go_simp; try with_reducible rfl)
        try simp only [Act.put, List.setIfInBounds_toArray, List.set_cons_zero, List.set_cons_succ]
        refine tkYes (i := 15) (v := ?_) rfl rfl (by kernel_rfl) (by kernel_rfl) (by kernel_rfl) (fun _ _ _ h => h) (by rfl) ?_ (by assumption) ?_
        rotate_left
        · (intro w' hSw; (try dsimp only at hSw); go_simp; try with_reducible rfl)
        try simp only [Act.put, List.setIfInBounds_toArray, List.set_cons_zero, List.set_cons_succ]
        refine wpAnyH_ready (rs := [17]) (by kernel_rfl) (by simp) ?_
        refine AllReadyH.cons rfl (fun K hK => ?_) AllReadyH.nil
        refine stpBlk rfl 35 (.tmp 13) (.tmp 65) rfl gq _ [.int .i64 n, .slice Ai (gotP κ A b n l).length ci] HZ.out rfl rfl rfl infoVec (by simp [Value.oneCell']) ?_
        intro w8 hb8 hk8
        have f8 : KeptB wr.heap.size [35] wd14 w8 := (KeptB.refl _ _ wd14).step (L := [gq]) hk8 (fun u hu => by simp at hu; subst hu; exact ⟨HGZ.out, _, _, _, HZ.out, by simp⟩)
        replace HIT := Lib.hid (own_keptB HIT.out f8 (by decide))
        replace HZ := Lib.hid hb8
        replace K1 := Lib.hid (K1.out.thenB f8 (Nat.le_refl _))
        clear f8 hk8 hb8
        go_simp
        refine hK.out _ _ ?_ (fun hHeld => ?_)
        · exact ⟨K1.out, (K1.out).cell_lt z0⟩
        clear hK K
        try simp only [Act.put, List.setIfInBounds_toArray, List.set_cons_zero, List.set_cons_succ]
        refine tkYes (i := 18) (v := ?_) rfl rfl (by kernel_rfl) (by kernel_rfl) (by kernel_rfl) (fun _ _ _ h => h) (by rfl) ?_ (by assumption) ?_
        rotate_left
        · (intro w' hSw; (try dsimp only at hSw); go_simp; try with_reducible rfl)
        try simp only [Act.put, List.setIfInBounds_toArray, List.set_cons_zero, List.set_cons_succ]
        refine wpAnyH_done (by kernel_rfl) ?_ _
        go_wp2_with fail
        go_meet
        exact ⟨gq, Ai, ci, rfl, rfl, HZ, HIT, K1⟩
    · go_simp
      have HZ := Lib.hid (Blk.new wd0 35 [.int .i64 0, .slice none 0 0])
      have HGZ := Lib.hid K1.out.size
      replace K1 := Lib.hid (K1.out.trans ((Kept.refl [] wd0).alloc (.cells #[.int .i64 0, .slice none 0 0] 35)))
      generalize wd0.alloc (.cells #[.int .i64 0, .slice none 0 0] 35) = wd15 at *
      generalize wd0.heap.size = gq at HZ HGZ ⊢
      refine hK.out _ _ ?_ (fun hHeld => ?_)
      · exact ⟨K1.out, (K1.out).cell_lt z0⟩
      clear hK K
      try simp only [Act.put, List.setIfInBounds_toArray, List.set_cons_zero, List.set_cons_succ]
      refine wpAnyH_ready (rs := [3]) (by kernel_rfl) (by simp) ?_
      refine AllReadyH.cons rfl (fun K hK => ?_) AllReadyH.nil
      go_simp
      refine (pRing_any κ round _ HPL.out.kind).mono ?_
      rintro _ wd16 ⟨rfl, hw⟩
      have hk : Kept [] wd15 wd16 := by rw [hw]; exact Kept.refl [] _
      clear hw
      replace K1 := Lib.hid (K1.out.trans hk)
      replace HZ := Lib.hid (HZ.out.kept hk (by simp))
      clear hk
      go_wp2_with fail
      refine hK.out _ _ ?_ (fun hHeld => ?_)
      · exact ⟨K1.out, (K1.out).cell_lt z0⟩
      clear hK K
      try simp only [Act.put, List.setIfInBounds_toArray, List.set_cons_zero, List.set_cons_succ]
      refine wpAnyH_ready (rs := [8]) (by kernel_rfl) (by simp) ?_
      refine AllReadyH.cons rfl (fun K hK => ?_) AllReadyH.nil
      go_simp
      refine (out_any κ n s Aa Ab Ao ca cb co b A B round _ HPL.out HB.out HLA.out (HR0.out.kept0 (K0.out.trans K1.out))).mono ?_
      rintro _ wd17 ⟨v, rfl, ho, hk⟩
      have HO := Lib.hid ho
      clear ho
      replace K1 := Lib.hid (K1.out.trans hk)
      replace HZ := Lib.hid (HZ.out.kept hk (by simp))
      clear hk
      obtain ⟨Ax, cx, rfl⟩ := own_n HO.out
      go_wp2_with fail
      refine hK.out _ _ ?_ (fun hHeld => ?_)
      · exact ⟨K1.out, (K1.out).cell_lt z0⟩
      clear hK K
      try simp only [Act.put, List.setIfInBounds_toArray, List.set_cons_zero, List.set_cons_succ]
      refine wpAnyH_ready (rs := [9]) (by kernel_rfl) (by simp) ?_
      refine AllReadyH.cons rfl (fun K hK => ?_) AllReadyH.nil
      go_simp
      refine (dOf_any n HNN.out (outL κ A b n) Ax cx _ HOK.out (Reads.of_own HO.out)).mono ?_
      rintro _ wd18 ⟨vh, vv, rfl, hdn, hk⟩
      have HDN := Lib.hid hdn
      clear hdn
      replace K1 := Lib.hid (K1.out.trans hk)
      replace HO := Lib.hid (own_kept0 HO.out hk)
      replace HZ := Lib.hid (HZ.out.kept hk (by simp))
      clear hk
      go_wp2_with fail
      refine hK.out _ _ ?_ (fun hHeld => ?_)
      · exact ⟨K1.out, (K1.out).cell_lt z0⟩
      clear hK K
      try simp only [Act.put, List.setIfInBounds_toArray, List.set_cons_zero, List.set_cons_succ]
      refine wpAnyH_ready (rs := [12]) (by kernel_rfl) (by simp) ?_
      refine AllReadyH.cons rfl (fun K hK => ?_) AllReadyH.nil
      go_simp
      refine (pTimesQ_any (ringP κ) (ringP_ok HPL.out.kind) n n n _ base _ l (outL κ A b n) (valsP n (outL κ A b n)) _ _ _ vh vv _ HNN.out rfl HMO.out (HM.out.kept0 (K0.out.trans K1.out)) HDK.out HDN.out HV.out HDV.out HNN.out Af kf cf (qP κ A n) (oP κ) (fun w1 hk => HF.out w1 (K1.out.trans hk))).mono ?_
      rintro _ wd19 ⟨v, rfl, v2, hqq, ho, hk⟩
      injection hqq with hqq
      subst hqq
      have HIT := Lib.hid (show wd19.ownsRow _ 38 2 v2 (gotP κ A b n l).length ((gotP κ A b n l).flatMap itV) from own_base ho (Nat.le_trans K0.out.size K1.out.size))
      clear ho
      replace K1 := Lib.hid (K1.out.trans hk)
      replace HO := Lib.hid (own_kept0 HO.out hk)
      replace HDN := Lib.hid (HDN.out.kept0 hk)
      replace HZ := Lib.hid (HZ.out.kept hk (by simp))
      clear hk
      obtain ⟨Ai, ci, rfl⟩ := own_n HIT.out
      go_wp2_with fail
      refine hK.out _ _ ?_ (fun hHeld => ?_)
      · exact ⟨K1.out, (K1.out).cell_lt z0⟩
      clear hK K
      try simp only [Act.put, List.setIfInBounds_toArray, List.set_cons_zero, List.set_cons_succ]
      refine tkYes (i := 13) (v := ?_) rfl rfl (by kernel_rfl) (by kernel_rfl) (by kernel_rfl) (fun _ _ _ h => h) (by rfl) ?_ (by assumption) ?_
      rotate_left
      · (intro w' hSw; (try dsimp only at hSw); go_simp; try with_reducible rfl)
      try simp only [Act.put, List.setIfInBounds_toArray, List.set_cons_zero, List.set_cons_succ]
      refine tkYes (i := 14) (v := ?_) rfl rfl (by kernel_rfl) (by kernel_rfl) (by kernel_rfl) (fun _ _ _ h => h) (by rfl) ?_ (by assumption) ?_
      rotate_left
      · (intro w' hSw; (try dsimp only at hSw); go_simp; try with_reducible rfl)
      try simp only [Act.put, List.setIfInBounds_toArray, List.set_cons_zero, List.set_cons_succ]
      refine tkYes (i := 15) (v := ?_) rfl rfl (by kernel_rfl) (by kernel_rfl) (by kernel_rfl) (fun _ _ _ h => h) (by rfl) ?_ (by assumption) ?_
      rotate_left
      · (intro w' hSw; (try dsimp only at hSw); go_simp; try with_reducible rfl)
      try simp only [Act.put, List.setIfInBounds_toArray, List.set_cons_zero, List.set_cons_succ]
      refine wpAnyH_ready (rs := [17]) (by kernel_rfl) (by simp) ?_
      refine AllReadyH.cons rfl (fun K hK => ?_) AllReadyH.nil
      refine stpBlk rfl 35 (.tmp 13) (.tmp 65) rfl gq _ [.int .i64 n, .slice Ai (gotP κ A b n l).length ci] HZ.out rfl rfl rfl infoVec (by simp [Value.oneCell']) ?_
      intro w8 hb8 hk8
      have f8 : KeptB wr.heap.size [35] wd19 w8 := (KeptB.refl _ _ wd19).step (L := [gq]) hk8 (fun u hu => by simp at hu; subst hu; exact ⟨HGZ.out, _, _, _, HZ.out, by simp⟩)
      replace HIT := Lib.hid (own_keptB HIT.out f8 (by decide))
      replace HZ := Lib.hid hb8
      replace K1 := Lib.hid (K1.out.thenB f8 (Nat.le_refl _))
      clear f8 hk8 hb8
      go_simp
      refine hK.out _ _ ?_ (fun hHeld => ?_)
      · exact ⟨K1.out, (K1.out).cell_lt z0⟩
      clear hK K
      try simp only [Act.put, List.setIfInBounds_toArray, List.set_cons_zero, List.set_cons_succ]
      refine tkYes (i := 18) (v := ?_) rfl rfl (by kernel_rfl) (by kernel_rfl) (by kernel_rfl) (fun _ _ _ h => h) (by rfl) ?_ (by assumption) ?_
      rotate_left
      · (intro w' hSw; (try dsimp only at hSw); go_simp; try with_reducible rfl)
      try simp only [Act.put, List.setIfInBounds_toArray, List.set_cons_zero, List.set_cons_succ]
      refine wpAnyH_done (by kernel_rfl) ?_ _
      go_wp2_with fail
      go_meet
      exact ⟨gq, Ai, ci, rfl, rfl, HZ, HIT, K1⟩
  case rest =>
    clear K1 z0
    obtain ⟨g13, Ai, ci, hv, he, H13, HIT, K1⟩ := hcut
    subst hv he
    replace H4 := Lib.hid (H4.out.kept K1.out (by simp))
    replace H5 := Lib.hid (H5.out.kept K1.out (by simp))
    replace H6 := Lib.hid (H6.out.kept K1.out (by simp))
    replace HZ8 := Lib.hid (HZ8.out.kept K1.out (by simp))
    replace K0 := Lib.hid (K0.out.trans K1.out)
    clear K1
    obtain ⟨Y, hY⟩ : ∃ Y, Y = gotP κ A b n l := ⟨_, rfl⟩
    rw [← hY] at HIT H13 HGO HPOST
    clear hY
    go_wp2_with (first | (refine wpList_loadBlk rfl 68 (.tmp 4) rfl g4 (plC κ n s) _ H4.out rfl Tryz.underlying68 rfl infoPlan ?_) | (refine wpList_loadBlk rfl 61 (.tmp 6) rfl g6 (stS n Aa Ab Ao ca cb co) _ H6.out rfl Tryz.underlying61 rfl infoState ?_) | (refine wpList_loadBlk rfl 35 (.tmp 13) rfl g13 [.int .i64 (n : Int), .slice Ai Y.length ci] _ H13.out rfl Tryz.underlying35 rfl infoVec ?_))
    refine (update_any κ n s Aa Ab Ao Ai ca cb co ci b A B Y round _ HPL.out HB.out HGO.out HLA.out HLB.out (HR0.out.kept0 K0.out) (Reads.of_own HIT.out)).mono ?_
    rintro _ w5 ⟨vA, vB, vO, rfl, hst, hk5⟩
    have HS := Lib.hid (hst.le K0.out.size)
    have HZ5 := Lib.hid (HZ8.out.kept hk5 (by simp))
    replace K0 := Lib.hid (K0.out.trans hk5)
    clear hst hk5 HZ8 H4 H5 H6 H13 HIT
    obtain ⟨Aa', ca', rfl⟩ := own_n HS.out.o1
    obtain ⟨Ab', cb', rfl⟩ := own_n HS.out.o2
    obtain ⟨Ao', co', rfl⟩ := own_n HS.out.o3
    go_wp2_with (first | (refine wpList_storeBlk rfl 61 (.tmp 8) (.tmp 75) rfl gz _ (stC n (.slice Aa' n ca') (.slice Ab' n cb') (.slice Ao' (wordsN n) co')) HZ5.out rfl rfl rfl infoState (by simp [stC, Value.oneCell']) ?_; intro w8 hb8 hk8))
    have e0 := hb8.cell 0
    have e1 := hb8.cell 1
    have e2 := hb8.cell 2
    have e3 := hb8.cell 3
    have e4 := hb8.cell 4
    simp only [List.getElem?_cons_zero, List.getElem?_cons_succ] at e0 e1 e2 e3 e4
    refine bodyPost_ret (v := .tuple #[.agg (stC n (.slice Aa' n ca') (.slice Ab' n cb') (.slice Ao' (wordsN n) co')).toArray, .int .i64 0]) (by simp [results, Tryz.results76, go_sem, e0, e1, e2, e3, e4]) rfl ?_
    rw [HPOST.out]
    have f8 : KeptB w.heap.size [61] w5 w8 := (KeptB.refl _ _ w5).step (L := [gz]) hk8 (fun u hu => by simp at hu; subst hu; exact ⟨by rw [HG4.out]; exact HGE.out.1, _, _, _, HZ5.out, by simp⟩)
    exact ⟨_, rfl, _, _, _, rfl, HS.out.keptB f8 (by decide) (by decide), K0.out.thenB f8 (Nat.le_refl _)⟩
end Go.Proofs.YtblfingmdipopaaGreat
