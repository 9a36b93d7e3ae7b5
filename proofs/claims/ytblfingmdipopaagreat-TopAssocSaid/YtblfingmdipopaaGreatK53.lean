/- gemm.Total of a matrix of ones: how many there are. Conditions: there are some. -/
import Derived.Test.YtblfingmdipopaaGreatK43
import Derived.Test.YtblfingmdipopaaGreatK26
namespace Go.Proofs.YtblfingmdipopaaGreat
set_option linter.unusedSimpArgs false
set_option linter.unusedVariables false
open Go.ChangeShapes Go.WideShapes Go.ChangeAt Go.RowKit
open Go.RowKit (wrap32 wrap64)
set_option maxHeartbeats 8000000

theorem infoTriple3 : (Tryz.prog.info? 84).map (·.size) = some 3 := by kernel_rfl
set_option maxRecDepth 100000 in
theorem total_any (n m base : Nat) (l : List Ed) (v1 v2 v3 : Value) (w : World) (hok : MtOkM n m l) (hm : MtAt w base v1 v2 v3 n l) (h1 : ∀ e ∈ l, e.2.2 = 1) (hl : 2 ≤ l.length) :
    Calls Tryz.prog 12 #[.int .i64 5, .agg #[.int .i64 n, .int .i64 m, v1, v2, v3]] w fun e w' => e = .returned (.tuple #[.int .i64 l.length, .int .i64 0]) ∧ Kept [] w w' := by
  obtain ⟨b1, c1, B2, d2, B3, d3, rfl, rfl, rfl, _, _⟩ := hm.form
  have H1 := Lib.hid h1
  have hll := hok.len
  have HX := Lib.hid (Blk.new w 31 [.int .i64 n, .int .i64 m, .slice (some ⟨b1, 0, none⟩) (n + 1) c1, .slice B2 l.length d2, .slice B3 l.length d3])
  have K0 := Lib.hid ((Kept.refl [] w).alloc (.cells #[.int .i64 n, .int .i64 m, .slice (some ⟨b1, 0, none⟩) (n + 1) c1, .slice B2 l.length d2, .slice B3 l.length d3] 31))
  have HM := Lib.hid (hm.kept0 K0.out)
  have HOK := Lib.hid hok
  clear hm hok h1
  obtain ⟨post, hpost⟩ : ∃ post : Ending → World → Prop, post = (fun e w' => e = .returned (.tuple #[.int .i64 l.length, .int .i64 0]) ∧ Kept [] w w') := ⟨_, rfl⟩
  rw [← hpost]
  have HPOST := Lib.hid hpost
  clear hpost
  go_enter Tryz.func12, Tryz.ntmps12
  go_upto_region 1 with (fail)
  generalize w.alloc (.cells #[.int .i64 n, .int .i64 m, .slice (some ⟨b1, 0, none⟩) (n + 1) c1, .slice B2 l.length d2, .slice B3 l.length d3] 31) = w1 at *
  generalize hgq : w.heap.size = g1 at HX ⊢
  clear hgq
  go_wp2_with fail
  refine (ringIs_any _ _).mono ?_
  rintro _ w2 ⟨rfl, rfl⟩
  rw [show ringIs 5 = true from by decide]
  go_wp2_with (first | (refine wpList_loadBlk rfl 31 (.tmp 3) rfl g1 [.int .i64 n, .int .i64 m, .slice (some ⟨b1, 0, none⟩) (n + 1) c1, .slice B2 l.length d2, .slice B3 l.length d3] _ HX.out rfl Tryz.underlying31 rfl infoRows ?_))
  refine (triples_anyM n m base l _ _ _ _ HOK.out HM.out).mono ?_
  rintro _ w3 ⟨v, rfl, ho, hk3⟩
  replace K0 := Lib.hid (K0.out.trans hk3)
  obtain ⟨g, c, rfl, hgb, hgl, hcc, _⟩ := own_ptr ho (by omega)
  have HO := Lib.hid (own_base ho (Nat.zero_le _))
  clear ho hk3 HX HM HOK hgb hgl
  have hsl : ∀ w : World, (Instr.sliceAt 24 (.slice (some ⟨g, 0, none⟩) l.length c) (some (.int .i64 1)) none none).run Tryz.prog w = .ok (.slice (some ⟨g, 3, none⟩) (l.length - 1) (c - 1)) w := fun w => by
    rw [run_sliceAt_slice _ _ _ _ _ _ (by kernel_rfl), run_slice_l _ _ _ _ _ (by kernel_rfl) _ _ (by omega) (by omega)]
    rw [show ((sizeOf (Tryz.prog.elem 24)).run Tryz.prog w) = .ok 3 w by kernel_rfl]
    simp only [Result.andThen, sliced]
    rw [if_neg (by simp; omega)]
    rfl
  have HL1 := Lib.hid (fun i hi => by
    have h1 := own_range (f := edV) (fun _ => rfl) (by decide) HO.out (i := i) hi
    exact h1 : ∀ i (hi : i < l.length), w3.rangeAt g (i * 3) (edV l[i]))
  have hne : ((l.length : Int) == 0) = false := beq_false_of_ne (by omega)
  have hz0 := HL1.out 0 (by omega) 2 _ rfl
  rw [H1.out _ (List.getElem_mem _)] at hz0
  rw [Nat.zero_mul, Nat.zero_add] at hz0
  go_wp2_with fail
  refine (of_any 1 (by unfold In64; decide) _).mono ?_
  rintro _ w4 ⟨rfl, hk4⟩
  replace K0 := Lib.hid (K0.out.trans hk4)
  replace HO := Lib.hid (own_kept0 HO.out hk4)
  clear hk4 hz0 hne HL1
  go_upto_region 7 with (first | (refine wpList_storeBlk rfl 100 (.tmp 7) (.tmp 26) rfl w4.heap.size (wdC (0, 0)) (wdC (wOf 1)) (Blk.new _ _ _) rfl rfl rfl infoWide (by simp [Value.oneCell']) ?_; intro w5 hb5 hk5))
  have k5 : Kept [] w4 w5 := ((Kept.refl [] w4).alloc _).then hk5 (fun q hq => by simp at hq; subst hq; exact .inr (Nat.le_refl _))
  have HV := Lib.hid hb5
  have HG7 := Lib.hid K0.out.size
  replace HO := Lib.hid (own_kept0 HO.out k5)
  replace K0 := Lib.hid (K0.out.trans k5)
  clear k5 hk5 hb5
  generalize w4.heap.size = g7 at HV HG7 ⊢
  go_wp2_with fail
  go_loopw [30] (fun x wr => ∃ k : Nat, k + 1 ≤ l.length ∧ x = .int .i64 k ∧ Hid (Blk wr g7 100 (wdC (wOf ((k : Int) + 1)))) ∧ Hid (wr.ownsRow 0 84 3 (.slice (some ⟨g, 0, none⟩) l.length c) l.length (l.flatMap edV)) ∧ Hid (Kept [] w wr)) (fun x _ => l.length - (intOf x).toNat)
  case atStart => exact ⟨0, by omega, rfl, HV, HO, K0⟩
  case round =>
    clear HV HO K0
    obtain ⟨k, hk, rfl, HV, HO, K0⟩ := hrel
    by_cases hlt : k + 1 < l.length
    · have HRG := Lib.hid (own_range (f := edV) (fun _ => rfl) (by decide) HO.out (i := k + 1) hlt)
      have hone := H1.out l[k + 1] (List.getElem_mem _)
      obtain ⟨x, hx⟩ : ∃ x, x = l[k + 1] := ⟨_, rfl⟩
      rw [← hx] at HRG hone
      clear hx
      obtain ⟨x1, x2, x3⟩ := x
      dsimp only at hone
      subst hone
      rw [show (k + 1) * 3 = 3 + k * 3 by omega] at HRG
      have HAD := Lib.hid (show rAdd 5 (wOf ((k : Int) + 1)) (wOf 1) = wOf ((k : Int) + 1 + 1) from wAdd_pos (by unfold infV; omega) (by unfold infV; omega))
      have hki : k < l.length - 1 := by omega
      go_upto_region 10 with (first | (refine wpList_load_mid rfl 84 (.tmp 32) rfl g (3 + k * 3) rfl [.int .i64 x1, .int .i64 x2, .int .i64 1] _ HRG.out Tryz.underlying84 rfl infoTriple3 ?_))
      have kd := (Kept.refl [] wr).alloc (.cells #[.int .i64 x1, .int .i64 x2, .int .i64 1] 84)
      have HT := Lib.hid (Blk.new wr 84 [.int .i64 x1, .int .i64 x2, .int .i64 1])
      replace HO := Lib.hid (own_kept0 HO.out kd)
      replace HV := Lib.hid (HV.out.kept kd (by simp))
      replace K0 := Lib.hid (K0.out.trans kd)
      clear kd HRG
      generalize wr.alloc (.cells #[.int .i64 x1, .int .i64 x2, .int .i64 1] 84) = w7 at *
      generalize wr.heap.size = g9 at HT ⊢
      have z2 := HT.out.cell 2
      simp only [List.getElem?_cons_zero, List.getElem?_cons_succ] at z2
      refine wp_region_held_drew (S := (fun w' => w'.cell? ⟨g9, 2, none⟩ = some (.int .i64 1))) (by kernel_rfl) ?_ (fun hHeld => ?_)
      · exact HT.out.cell 2
      replace HT := Lib.hid (HT.out.kept (Kept.refl [] w7).drew (by simp))
      replace HV := Lib.hid (HV.out.kept (Kept.refl [] w7).drew (by simp))
      replace HO := Lib.hid (own_kept0 HO.out (Kept.refl [] w7).drew)
      replace K0 := Lib.hid (K0.out.trans (Kept.refl [] w7).drew)
      generalize w7.drew = w6 at *
      have z2 := HT.out.cell 2
      simp only [List.getElem?_cons_zero, List.getElem?_cons_succ] at z2
      refine tkYes (i := 0) (v := ?_) rfl rfl (by kernel_rfl) (by kernel_rfl) (by kernel_rfl) (fun _ _ _ h => h) (by rfl) ?_ (by assumption) ?_
      rotate_left
      · (intro w' hSw; (try dsimp only at hSw); go_simp; try with_reducible rfl)
      try simp only [Act.put, List.setIfInBounds_toArray, List.set_cons_zero, List.set_cons_succ]
      refine tkYes (i := 2) (v := ?_) rfl rfl (by kernel_rfl) (by kernel_rfl) (by kernel_rfl) (fun _ _ _ h => h) (by rfl) ?_ (by assumption) ?_
      rotate_left
      · (intro w' hSw; (try dsimp only at hSw); go_simp; try with_reducible rfl)
      try simp only [Act.put, List.setIfInBounds_toArray, List.set_cons_zero, List.set_cons_succ]
      refine tkYes (i := 3) (v := ?_) rfl rfl (by kernel_rfl) (by kernel_rfl) (by kernel_rfl) (fun _ _ _ h => h) (by rfl) ?_ (by assumption) ?_
      rotate_left
      · (intro w' hSw; (try dsimp only at hSw); go_simp; try with_reducible rfl)
      try simp only [Act.put, List.setIfInBounds_toArray, List.set_cons_zero, List.set_cons_succ]
      refine wpAnyH_ready (rs := [1, 4]) (by kernel_rfl) (by simp) ?_
      refine AllReadyH.cons rfl (fun K hK => ?_) (AllReadyH.cons rfl (fun K hK => ?_) AllReadyH.nil)
      · refine ldBlk rfl 100 (.tmp 7) rfl (g7) ((wdC (wOf ((k : Int) + 1)))) _ HV.out rfl Tryz.underlying100 rfl infoWide ?_
        go_simp
        refine hK.out _ _ ?_ (fun hHeld => ?_)
        · exact HT.out.cell 2
        clear hK K
        try simp only [Act.put, List.setIfInBounds_toArray, List.set_cons_zero, List.set_cons_succ]
        refine wpAnyH_ready (rs := [4]) (by kernel_rfl) (by simp) ?_
        refine AllReadyH.cons rfl (fun K hK => ?_) AllReadyH.nil
        go_simp
        refine (of_any 1 (by unfold In64; decide) _).mono ?_
        rintro _ y1 ⟨rfl, hk⟩
        replace HT := Lib.hid (HT.out.kept hk (by simp))
        replace HV := Lib.hid (HV.out.kept hk (by simp))
        replace HO := Lib.hid (own_kept0 HO.out hk)
        replace K0 := Lib.hid (K0.out.trans hk)
        clear hk
        go_wp2_with fail
        refine hK.out _ _ ?_ (fun hHeld => ?_)
        · exact HT.out.cell 2
        clear hK K
        try simp only [Act.put, List.setIfInBounds_toArray, List.set_cons_zero, List.set_cons_succ]
        refine wpAnyH_ready (rs := [5]) (by kernel_rfl) (by simp) ?_
        refine AllReadyH.cons rfl (fun K hK => ?_) AllReadyH.nil
        go_simp
        refine (ringAdd_any 5 (wOf ((k : Int) + 1)) (wOf 1) (wOf_ok _) (wOf_ok _) _).mono ?_
        rw [HAD.out]
        rintro _ y2 ⟨rfl, hk⟩
        replace HT := Lib.hid (HT.out.kept hk (by simp))
        replace HV := Lib.hid (HV.out.kept hk (by simp))
        replace HO := Lib.hid (own_kept0 HO.out hk)
        replace K0 := Lib.hid (K0.out.trans hk)
        clear hk
        go_wp2_with fail
        refine hK.out _ _ ?_ (fun hHeld => ?_)
        · exact HT.out.cell 2
        clear hK K
        try simp only [Act.put, List.setIfInBounds_toArray, List.set_cons_zero, List.set_cons_succ]
        refine wpAnyH_ready (rs := [6]) (by kernel_rfl) (by simp) ?_
        refine AllReadyH.cons rfl (fun K hK => ?_) AllReadyH.nil
        refine stpBlk rfl 100 (.tmp 7) (.tmp 39) rfl g7 _ (wdC (wOf ((k : Int) + 1 + 1))) HV.out rfl rfl rfl infoWide (by simp [Value.oneCell']) ?_
        intro w8 hb8 hk8
        have f8 : KeptB w.heap.size [100] y2 w8 := (KeptB.refl _ _ y2).step (L := [g7]) hk8 (fun u hu => by simp at hu; subst hu; exact ⟨HG7.out, _, _, _, HV.out, by simp⟩)
        replace HV := Lib.hid hb8
        replace HT := Lib.hid (HT.out.keptB f8 (by decide))
        replace HO := Lib.hid (own_keptB HO.out f8 (by decide))
        replace K0 := Lib.hid (K0.out.thenB f8 (Nat.le_refl _))
        clear f8 hk8 hb8
        go_simp
        refine hK.out _ _ ?_ (fun hHeld => ?_)
        · exact HT.out.cell 2
        clear hK K
        try simp only [Act.put, List.setIfInBounds_toArray, List.set_cons_zero, List.set_cons_succ]
        refine wpAnyH_done (by kernel_rfl) ?_ _
        go_wp2_with fail
        go_roundw
        case rel => exact ⟨k + 1, by omega, by go_num, Lib.hid (by have := HV.out; simpa using this), HO, K0⟩
        case measure => simp [intOf]; omega
      · go_simp
        refine (of_any 1 (by unfold In64; decide) _).mono ?_
        rintro _ y1 ⟨rfl, hk⟩
        replace HT := Lib.hid (HT.out.kept hk (by simp))
        replace HV := Lib.hid (HV.out.kept hk (by simp))
        replace HO := Lib.hid (own_kept0 HO.out hk)
        replace K0 := Lib.hid (K0.out.trans hk)
        clear hk
        go_wp2_with fail
        refine hK.out _ _ ?_ (fun hHeld => ?_)
        · exact HT.out.cell 2
        clear hK K
        try simp only [Act.put, List.setIfInBounds_toArray, List.set_cons_zero, List.set_cons_succ]
        refine wpAnyH_ready (rs := [1]) (by kernel_rfl) (by simp) ?_
        refine AllReadyH.cons rfl (fun K hK => ?_) AllReadyH.nil
        refine ldBlk rfl 100 (.tmp 7) rfl (g7) ((wdC (wOf ((k : Int) + 1)))) _ HV.out rfl Tryz.underlying100 rfl infoWide ?_
        go_simp
        refine hK.out _ _ ?_ (fun hHeld => ?_)
        · exact HT.out.cell 2
        clear hK K
        try simp only [Act.put, List.setIfInBounds_toArray, List.set_cons_zero, List.set_cons_succ]
        refine wpAnyH_ready (rs := [5]) (by kernel_rfl) (by simp) ?_
        refine AllReadyH.cons rfl (fun K hK => ?_) AllReadyH.nil
        go_simp
        refine (ringAdd_any 5 (wOf ((k : Int) + 1)) (wOf 1) (wOf_ok _) (wOf_ok _) _).mono ?_
        rw [HAD.out]
        rintro _ y2 ⟨rfl, hk⟩
        replace HT := Lib.hid (HT.out.kept hk (by simp))
        replace HV := Lib.hid (HV.out.kept hk (by simp))
        replace HO := Lib.hid (own_kept0 HO.out hk)
        replace K0 := Lib.hid (K0.out.trans hk)
        clear hk
        go_wp2_with fail
        refine hK.out _ _ ?_ (fun hHeld => ?_)
        · exact HT.out.cell 2
        clear hK K
        try simp only [Act.put, List.setIfInBounds_toArray, List.set_cons_zero, List.set_cons_succ]
        refine wpAnyH_ready (rs := [6]) (by kernel_rfl) (by simp) ?_
        refine AllReadyH.cons rfl (fun K hK => ?_) AllReadyH.nil
        refine stpBlk rfl 100 (.tmp 7) (.tmp 39) rfl g7 _ (wdC (wOf ((k : Int) + 1 + 1))) HV.out rfl rfl rfl infoWide (by simp [Value.oneCell']) ?_
        intro w8 hb8 hk8
        have f8 : KeptB w.heap.size [100] y2 w8 := (KeptB.refl _ _ y2).step (L := [g7]) hk8 (fun u hu => by simp at hu; subst hu; exact ⟨HG7.out, _, _, _, HV.out, by simp⟩)
        replace HV := Lib.hid hb8
        replace HT := Lib.hid (HT.out.keptB f8 (by decide))
        replace HO := Lib.hid (own_keptB HO.out f8 (by decide))
        replace K0 := Lib.hid (K0.out.thenB f8 (Nat.le_refl _))
        clear f8 hk8 hb8
        go_simp
        refine hK.out _ _ ?_ (fun hHeld => ?_)
        · exact HT.out.cell 2
        clear hK K
        try simp only [Act.put, List.setIfInBounds_toArray, List.set_cons_zero, List.set_cons_succ]
        refine wpAnyH_done (by kernel_rfl) ?_ _
        go_wp2_with fail
        go_roundw
        case rel => exact ⟨k + 1, by omega, by go_num, Lib.hid (by have := HV.out; simpa using this), HO, K0⟩
        case measure => simp [intOf]; omega
    · have hkq : k + 1 = l.length := by omega
      have hki : ¬ k < l.length - 1 := by omega
      go_wp2_with (first | (refine wpList_loadBlk rfl 100 (.tmp 7) rfl g7 (wdC (wOf ((k : Int) + 1))) _ HV.out rfl Tryz.underlying100 rfl infoWide ?_))
      refine (ringNarrow_any 5 (wOf ((k : Int) + 1)) (wOf_ok _) _).mono ?_
      rw [wNarrow_of (show In64 ((k : Int) + 1) by unfold In64; omega)]
      rintro _ w8 ⟨rfl, hk8⟩
      replace K0 := Lib.hid (K0.out.trans hk8)
      clear hk8
      have HQ := Lib.hid (show ((k : Int) + 1) = (l.length : Int) by omega)
      go_wp2_with fail
      rw [HPOST.out, ← HQ.out]
      exact ⟨rfl, K0.out⟩
end Go.Proofs.YtblfingmdipopaaGreat
