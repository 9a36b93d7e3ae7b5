/- The reference's Simple, Plain, Lower. -/
import Derived.Test.YtblfingmdipopaaGreatM16
import Derived.Test.YtblfingmdipopaaGreatM14
namespace Go.Proofs.YtblfingmdipopaaGreat
set_option linter.unusedSimpArgs false
set_option linter.unusedVariables false
open Go.ChangeShapes Go.WideShapes Go.ChangeAt Go.RowKit
open Go.RowKit (wrap32 wrap64)
set_option maxHeartbeats 8000000
set_option maxRecDepth 100000 in
theorem refPlain_any (n : Int) (l : List Ed) (A : Option Addr) (c : Nat) (w : World) (hl : l.length ≤ 1048576) (hA : Reads w A (l.flatMap edV)) (hw : ∀ e ∈ l, In64 e.2.2) :
    Calls Tryz.prog 14 #[.agg #[.int .i64 n, .slice A l.length c]] w (GrPost w n (canonP (madeP oneE allE l))) := by
  have HA := Lib.hid hA
  have HW := Lib.hid (madeP_in (f := oneE) (p := allE) (fun e h => by unfold In64 oneE; dsimp only; omega) hw)
  have HB := Lib.hid (((Blk.new w 56 (grV n A l.length c)).alloc (.cells #[.int .i64 0, .slice none 0 0] 56)).alloc (.cells #[.int .i64 n, .slice none 0 0] 56))
  have HZ := Lib.hid ((Blk.new1F w (.cells #[.int .i64 n, .slice A l.length c] 56) 56 [.int .i64 0, .slice none 0 0]).alloc (.cells #[.int .i64 n, .slice none 0 0] 56))
  have HG0 := Blk.new ((w.alloc (.cells #[.int .i64 n, .slice A l.length c] 56)).alloc (.cells #[.int .i64 0, .slice none 0 0] 56)) 56 [.int .i64 n, .slice none 0 0]
  rw [show ((w.alloc (.cells #[.int .i64 n, .slice A l.length c] 56)).alloc (.cells #[.int .i64 0, .slice none 0 0] 56)).heap.size = w.heap.size + 1 + 1 by simp] at HG0
  have HG := Lib.hid HG0
  have K0 := Lib.hid ((((Kept.refl [] w).alloc (.cells #[.int .i64 n, .slice A l.length c] 56)).alloc (.cells #[.int .i64 0, .slice none 0 0] 56)).alloc (.cells #[.int .i64 n, .slice none 0 0] 56))
  have HGZ := Lib.hid (show w.heap.size ≤ w.heap.size + 1 by omega)
  have HG3 := Lib.hid (show w.heap.size ≤ w.heap.size + 1 + 1 ∧ w.heap.size ≠ w.heap.size + 1 + 1 ∧ w.heap.size + 1 ≠ w.heap.size + 1 + 1 by omega)
  clear hA hw HG0
  obtain ⟨post, hpost⟩ : ∃ post : Ending → World → Prop, post = GrPost w n (canonP (madeP oneE allE l)) := ⟨_, rfl⟩
  rw [← hpost]
  have HPOST := Lib.hid hpost
  clear hpost
  go_enter Tryz.func14, Tryz.ntmps14
  go_upto_region 2 with (fail)
  generalize (((w.alloc (.cells #[.int .i64 n, .slice A l.length c] 56)).alloc (.cells #[.int .i64 0, .slice none 0 0] 56)).alloc (.cells #[.int .i64 n, .slice none 0 0] 56)) = w2 at *
  generalize w.heap.size + 1 + 1 = g3 at HG HG3 ⊢
  generalize w.heap.size + 1 = gz at HZ HGZ HG3 ⊢
  generalize hgq : w.heap.size = g at HB ⊢
  rw [hgq] at HG3
  have HGE := Lib.hid (show w.heap.size ≤ g from by rw [hgq]; exact Nat.le_refl _)
  clear hgq
  go_wp2_with fail
  go_loopw [4] (fun i wr => ∃ (k : Nat) (v : Value), k ≤ l.length ∧ i = .int .i64 k ∧ Hid (wr.ownsRow w.heap.size 107 3 v (madeP oneE allE (l.take k)).length ((madeP oneE allE (l.take k)).flatMap edV)) ∧ Hid (Blk wr g 56 (grV n A l.length c)) ∧ Hid (Blk wr gz 56 [.int .i64 0, .slice none 0 0]) ∧ Hid (Blk wr g3 56 [.int .i64 n, v]) ∧ Hid (Kept [] w wr)) (fun i _ => l.length - (intOf i).toNat)
  case atStart => exact ⟨0, _, Nat.zero_le _, rfl, Lib.hid (World.ownsRow_nil _ _ _ _), HB, HZ, HG, K0⟩
  case round =>
    clear HB HZ HG K0
    obtain ⟨k, v, hk, rfl, HO, HB, HZ, HG, K0⟩ := hrel
    have hml := Nat.le_trans (madeP_length oneE allE (l.take k)) (List.length_take_le' k l)
    have y1 := HB.out.cell 1
    have hgl := HB.out.lt
    simp only [List.getElem?_cons_zero, List.getElem?_cons_succ] at y1
    by_cases hlt : k < l.length
    · have HS := Lib.hid (madeP_succ oneE allE l hlt)
      obtain ⟨b, off, rfl, hbl, cw⟩ := edge_at HA.out hlt
      obtain ⟨x, hx⟩ : ∃ x, x = l[k] := ⟨_, rfl⟩
      rw [← hx] at cw HS
      clear hx
      generalize hmq : madeP oneE allE (l.take k) = M at HO HS hml
      clear hmq
      obtain ⟨x1, x2, x3⟩ := x
      dsimp only at cw
      have c0 := K0.out.cell_lt cw.1
      have c1 := K0.out.cell_lt cw.2.1
      have c2 := K0.out.cell_lt cw.2.2
      have CW := Lib.hid cw
      clear cw
      obtain ⟨A5, c5, rfl⟩ := own_n HO.out
      have d0 := HG.out.cell 1
      have hg3l := HG.out.lt
      have hsz := K0.out.size
      simp only [List.getElem?_cons_zero, List.getElem?_cons_succ] at d0
      have HPP := Lib.hid (show allE (x1, x2, x3) = true from rfl)
      go_upto_region 5 with (fail)
      refine wp_region_held_drew (S := (fun w' => w'.cell? ⟨g, 1, none⟩ = some (.slice (some ⟨b, off, none⟩) l.length c) ∧ w'.cell? ⟨b, off + k * 3, none⟩ = some (.int .i64 x1) ∧ w'.cell? ⟨b, off + k * 3 + 1, none⟩ = some (.int .i64 x2))) (by kernel_rfl) ?_ (fun hHeld => ?_)
      · exact ⟨y1, c0, c1⟩
      refine tkYes (i := 0) (v := ?_) rfl rfl (by kernel_rfl) (by kernel_rfl) (by kernel_rfl) (fun _ _ _ h => h) (by rfl) ?_ (by assumption) ?_
      rotate_left
      · (intro w' hSw; (try dsimp only at hSw); go_simp; try with_reducible rfl)
      try simp only [Act.put, List.setIfInBounds_toArray, List.set_cons_zero, List.set_cons_succ]
      refine tkYes (i := 2) (v := ?_) rfl rfl (by kernel_rfl) (by kernel_rfl) (by kernel_rfl) (fun _ _ _ h => h) (by rfl) ?_ (by assumption) ?_
      rotate_left
      · (intro w' hSw; (try dsimp only at hSw); go_simp; try with_reducible rfl)
      try simp only [Act.put, List.setIfInBounds_toArray, List.set_cons_zero, List.set_cons_succ]
      refine tkYes (i := 3) (v := ?_) rfl rfl (by kernel_rfl) (by kernel_rfl) (by kernel_rfl) (fun _ _ _ h => h) (by rfl) ?_ (by assumption) ?_
      rotate_left
      · (intro w' hSw; (try dsimp only at hSw); go_simp; try with_reducible rfl)
      try simp only [Act.put, List.setIfInBounds_toArray, List.set_cons_zero, List.set_cons_succ]
      refine tkYes (i := 4) (v := ?_) rfl rfl (by kernel_rfl) (by kernel_rfl) (by kernel_rfl) (fun _ _ _ h => h) (by rfl) ?_ (by assumption) ?_
      rotate_left
      · (intro w' hSw; (try dsimp only at hSw); go_simp; try with_reducible rfl)
      try simp only [Act.put, List.setIfInBounds_toArray, List.set_cons_zero, List.set_cons_succ]
      refine tkYes (i := 5) (v := .pointer (some ⟨b, off + k * 3, none⟩)) rfl rfl (by kernel_rfl) (by kernel_rfl) (by kernel_rfl) (fun _ _ _ h => h) (by rfl) ?_ (by assumption) ?_
      skip
      · (intro w' hSw; (try dsimp only at hSw); go_simp; try (simp; done))
      try simp only [Act.put, List.setIfInBounds_toArray, List.set_cons_zero, List.set_cons_succ]
      refine tkYes (i := 6) (v := ?_) rfl rfl (by kernel_rfl) (by kernel_rfl) (by kernel_rfl) (fun _ _ _ h => h) (by rfl) ?_ (by assumption) ?_
      rotate_left
      · (intro w' hSw; (try dsimp only at hSw); go_simp; try with_reducible rfl)
      try simp only [Act.put, List.setIfInBounds_toArray, List.set_cons_zero, List.set_cons_succ]
      refine tkYes (i := 7) (v := ?_) rfl rfl (by kernel_rfl) (by kernel_rfl) (by kernel_rfl) (fun _ _ _ h => h) (by rfl) ?_ (by assumption) ?_
      rotate_left
      · (intro w' hSw; (try dsimp only at hSw); go_simp; try with_reducible rfl)
      try simp only [Act.put, List.setIfInBounds_toArray, List.set_cons_zero, List.set_cons_succ]
      refine tkYes (i := 8) (v := ?_) rfl rfl (by kernel_rfl) (by kernel_rfl) (by kernel_rfl) (fun _ _ _ h => h) (by rfl) ?_ (by assumption) ?_
      rotate_left
      · (intro w' hSw; (try dsimp only at hSw); go_simp; try with_reducible rfl)
      try simp only [Act.put, List.setIfInBounds_toArray, List.set_cons_zero, List.set_cons_succ]
      refine tkYes (i := 9) (v := ?_) rfl rfl (by kernel_rfl) (by kernel_rfl) (by kernel_rfl) (fun _ _ _ h => h) (by rfl) ?_ (by assumption) ?_
      rotate_left
      · (intro w' hSw; (try dsimp only at hSw); go_simp; try with_reducible rfl)
      try simp only [Act.put, List.setIfInBounds_toArray, List.set_cons_zero, List.set_cons_succ]
      refine tkYes (i := 10) (v := ?_) rfl rfl (by kernel_rfl) (by kernel_rfl) (by kernel_rfl) (fun _ _ _ h => h) (by rfl) ?_ (by assumption) ?_
      rotate_left
      · (intro w' hSw; (try dsimp only at hSw); go_simp; try with_reducible rfl)
      try simp only [Act.put, List.setIfInBounds_toArray, List.set_cons_zero, List.set_cons_succ]
      refine tkYes (i := 11) (v := .pointer (some ⟨b, off + k * 3, none⟩)) rfl rfl (by kernel_rfl) (by kernel_rfl) (by kernel_rfl) (fun _ _ _ h => h) (by rfl) ?_ (by assumption) ?_
      skip
      · (intro w' hSw; (try dsimp only at hSw); go_simp; try (simp; done))
      try simp only [Act.put, List.setIfInBounds_toArray, List.set_cons_zero, List.set_cons_succ]
      refine tkYes (i := 12) (v := ?_) rfl rfl (by kernel_rfl) (by kernel_rfl) (by kernel_rfl) (fun _ _ _ h => h) (by rfl) ?_ (by assumption) ?_
      rotate_left
      · (intro w' hSw; (try dsimp only at hSw); go_simp; try with_reducible rfl)
      try simp only [Act.put, List.setIfInBounds_toArray, List.set_cons_zero, List.set_cons_succ]
      refine tkYes (i := 13) (v := ?_) rfl rfl (by kernel_rfl) (by kernel_rfl) (by kernel_rfl) (fun _ _ _ h => h) (by rfl) ?_ (by assumption) ?_
      rotate_left
      · (intro w' hSw; (try dsimp only at hSw); go_simp; try with_reducible rfl)
      try simp only [Act.put, List.setIfInBounds_toArray, List.set_cons_zero, List.set_cons_succ]
      refine tkYes (i := 14) (v := ?_) rfl rfl (by kernel_rfl) (by kernel_rfl) (by kernel_rfl) (fun _ _ _ h => h) (by rfl) ?_ (by assumption) ?_
      rotate_left
      · (intro w' hSw; (try dsimp only at hSw); go_simp; try with_reducible rfl)
      try simp only [Act.put, List.setIfInBounds_toArray, List.set_cons_zero, List.set_cons_succ]
      refine wpAnyH_ready (rs := [1, 15]) (by kernel_rfl) (by simp) ?_
      refine AllReadyH.cons rfl (fun K hK => ?_) (AllReadyH.cons rfl (fun K hK => ?_) AllReadyH.nil)
      · go_simp
        refine hK.out _ _ ?_ (fun hHeld => ?_)
        · exact ⟨y1, c0, c1⟩
        clear hK K
        try simp only [Act.put, List.setIfInBounds_toArray, List.set_cons_zero, List.set_cons_succ]
        refine wpAnyH_ready (rs := [15]) (by kernel_rfl) (by simp) ?_
        refine AllReadyH.cons rfl (fun K hK => ?_) AllReadyH.nil
        go_simp
        have kd := Lib.hid (((Kept.refl [] wr).alloc (.cells (edV (x1, x2, 1)).toArray 107)).drew)
        have H5 := Lib.hid (Blk.new wr 107 (edV (x1, x2, 1))).drew
        replace HO := Lib.hid (own_kept0 HO.out kd.out)
        replace HB := Lib.hid (HB.out.kept kd.out (by simp))
        replace HZ := Lib.hid (HZ.out.kept kd.out (by simp))
        replace HG := Lib.hid (HG.out.kept kd.out (by simp))
        replace K0 := Lib.hid (K0.out.trans kd.out)
        clear kd d0 y1 c0 c1 c2 hsz hg3l
        simp only [edV] at H5 HO HB HZ HG K0 ⊢
        generalize (wr.alloc (.cells #[.int .i64 x1, .int .i64 x2, .int .i64 1] 107)).drew = w3 at *
        generalize wr.heap.size = g5 at H5 ⊢
        have d0 := HG.out.cell 1
        have y1 := HB.out.cell 1
        have hg3l := HG.out.lt
        have hsz := K0.out.size
        simp only [List.getElem?_cons_zero, List.getElem?_cons_succ] at d0 y1
        refine hK.out _ _ ?_ (fun hHeld => ?_)
        · exact ⟨y1, K0.out.cell_lt CW.out.1, K0.out.cell_lt CW.out.2.1⟩
        clear hK K
        try simp only [Act.put, List.setIfInBounds_toArray, List.set_cons_zero, List.set_cons_succ]
        refine wpAnyH_ready (rs := [16]) (by kernel_rfl) (by simp) ?_
        refine AllReadyH.cons rfl (fun K hK => ?_) AllReadyH.nil
        refine step_app _ rfl (.tmp 16) (.tmp 30) _ rfl 107 (.agg #[.int .i64 0, .int .i64 0, .int .i64 0]) 3 24 Tryz.underlying54 infoEd rfl (by decide) w.heap.size (.slice A5 M.length c5) _ _ rfl HO.out (some ⟨_, 0, none⟩) 1 1 (edV (x1, x2, 1)) rfl rfl (Reads.of_blk H5.out (fun _ _ h => h)) (by simp [edV, Value.oneCell']) (by omega) (by unfold maxLen; omega) (by omega) ?_
        intro va wa howna hka hba
        obtain ⟨A6, c6, rfl⟩ := own_n howna
        have Fa := Lib.hid ((KeptB.refl w.heap.size [107] w3).app hka HO.out (by decide))
        have HOa := Lib.hid howna
        have HGa := Lib.hid (HG.out.keptB Fa.out (by decide))
        replace HB := Lib.hid (HB.out.keptB Fa.out (by decide))
        replace HZ := Lib.hid (HZ.out.keptB Fa.out (by decide))
        replace K0 := Lib.hid (K0.out.thenB Fa.out (Nat.le_refl _))
        have d1 := HGa.out.cell 1
        have f1 := HGa.out.frozen 1
        have ll := HGa.out.lt
        have y2 := HB.out.cell 1
        simp only [List.getElem?_cons_zero, List.getElem?_cons_succ] at d1 y2
        clear howna hka hba d0 y1 HG HO H5 hsz hg3l
        refine hK.out _ _ ?_ (fun hHeld => ?_)
        · exact ⟨y2, K0.out.cell_lt CW.out.1, K0.out.cell_lt CW.out.2.1⟩
        clear hK K
        try simp only [Act.put, List.setIfInBounds_toArray, List.set_cons_zero, List.set_cons_succ]
        refine tkYes (i := 17) (v := ?_) rfl rfl (by kernel_rfl) (by kernel_rfl) (by kernel_rfl) (fun _ _ _ h => h) (by rfl) ?_ (by assumption) ?_
        rotate_left
        · (intro w' hSw; (try dsimp only at hSw); go_simp; try with_reducible rfl)
        try simp only [Act.put, List.setIfInBounds_toArray, List.set_cons_zero, List.set_cons_succ]
        refine wpAnyH_ready (rs := [18]) (by kernel_rfl) (by simp) ?_
        refine AllReadyH.cons rfl (fun K hK => ?_) AllReadyH.nil
        go_simp
        have ko := (Kept.refl [g3] wa).setCell (p := ⟨g3, 1, none⟩) (.inl (by simp)) (.slice A6 (M.length + 1) c6)
        have HOb := Lib.hid (own_kept HOa.out ko (fun q hq => by have := own_ne_blk HOa.out HGa.out (by decide); simp; rintro rfl; exact this hq))
        replace HB := Lib.hid (HB.out.kept ko (by simp; exact HG3.out.2.1))
        replace HZ := Lib.hid (HZ.out.kept ko (by simp; exact HG3.out.2.2))
        have HGb := Lib.hid (HGa.out.set 1 (.slice A6 (M.length + 1) c6))
        simp only [List.set_cons_zero, List.set_cons_succ] at HGb
        replace K0 := Lib.hid (K0.out.then ko (fun m hm => by simp at hm; subst hm; exact .inr (Nat.le_trans HGE.out HG3.out.1)))
        clear ko Fa HOa HGa d1 f1 ll y2
        generalize wa.setCell ⟨g3, 1, none⟩ (.slice A6 (M.length + 1) c6) = wb at *
        have y1 := HB.out.cell 1
        simp only [List.getElem?_cons_zero, List.getElem?_cons_succ] at y1
        refine hK.out _ _ ?_ (fun hHeld => ?_)
        · exact ⟨y1, K0.out.cell_lt CW.out.1, K0.out.cell_lt CW.out.2.1⟩
        clear hK K
        try simp only [Act.put, List.setIfInBounds_toArray, List.set_cons_zero, List.set_cons_succ]
        refine wpAnyH_done (by kernel_rfl) ?_ _
        go_wp2_with fail
        go_roundw
        case rel =>
          refine ⟨k + 1, .slice A6 (M.length + 1) c6, by omega, by go_num, Lib.hid ?_, HB, HZ, HGb, K0⟩
          rw [HS.out]
          have := HOb.out
          simpa [HPP.out, oneE] using this
        case measure => simp [intOf]; omega
      · go_simp
        have kd := Lib.hid (((Kept.refl [] wr).alloc (.cells (edV (x1, x2, 1)).toArray 107)).drew)
        have H5 := Lib.hid (Blk.new wr 107 (edV (x1, x2, 1))).drew
        replace HO := Lib.hid (own_kept0 HO.out kd.out)
        replace HB := Lib.hid (HB.out.kept kd.out (by simp))
        replace HZ := Lib.hid (HZ.out.kept kd.out (by simp))
        replace HG := Lib.hid (HG.out.kept kd.out (by simp))
        replace K0 := Lib.hid (K0.out.trans kd.out)
        clear kd d0 y1 c0 c1 c2 hsz hg3l
        simp only [edV] at H5 HO HB HZ HG K0 ⊢
        generalize (wr.alloc (.cells #[.int .i64 x1, .int .i64 x2, .int .i64 1] 107)).drew = w3 at *
        generalize wr.heap.size = g5 at H5 ⊢
        have d0 := HG.out.cell 1
        have y1 := HB.out.cell 1
        have hg3l := HG.out.lt
        have hsz := K0.out.size
        simp only [List.getElem?_cons_zero, List.getElem?_cons_succ] at d0 y1
        refine hK.out _ _ ?_ (fun hHeld => ?_)
        · exact ⟨y1, K0.out.cell_lt CW.out.1, K0.out.cell_lt CW.out.2.1⟩
        clear hK K
        try simp only [Act.put, List.setIfInBounds_toArray, List.set_cons_zero, List.set_cons_succ]
        refine wpAnyH_ready (rs := [1]) (by kernel_rfl) (by simp) ?_
        refine AllReadyH.cons rfl (fun K hK => ?_) AllReadyH.nil
        go_simp
        refine hK.out _ _ ?_ (fun hHeld => ?_)
        · exact ⟨y1, K0.out.cell_lt CW.out.1, K0.out.cell_lt CW.out.2.1⟩
        clear hK K
        try simp only [Act.put, List.setIfInBounds_toArray, List.set_cons_zero, List.set_cons_succ]
        refine wpAnyH_ready (rs := [16]) (by kernel_rfl) (by simp) ?_
        refine AllReadyH.cons rfl (fun K hK => ?_) AllReadyH.nil
        refine step_app _ rfl (.tmp 16) (.tmp 30) _ rfl 107 (.agg #[.int .i64 0, .int .i64 0, .int .i64 0]) 3 24 Tryz.underlying54 infoEd rfl (by decide) w.heap.size (.slice A5 M.length c5) _ _ rfl HO.out (some ⟨_, 0, none⟩) 1 1 (edV (x1, x2, 1)) rfl rfl (Reads.of_blk H5.out (fun _ _ h => h)) (by simp [edV, Value.oneCell']) (by omega) (by unfold maxLen; omega) (by omega) ?_
        intro va wa howna hka hba
        obtain ⟨A6, c6, rfl⟩ := own_n howna
        have Fa := Lib.hid ((KeptB.refl w.heap.size [107] w3).app hka HO.out (by decide))
        have HOa := Lib.hid howna
        have HGa := Lib.hid (HG.out.keptB Fa.out (by decide))
        replace HB := Lib.hid (HB.out.keptB Fa.out (by decide))
        replace HZ := Lib.hid (HZ.out.keptB Fa.out (by decide))
        replace K0 := Lib.hid (K0.out.thenB Fa.out (Nat.le_refl _))
        have d1 := HGa.out.cell 1
        have f1 := HGa.out.frozen 1
        have ll := HGa.out.lt
        have y2 := HB.out.cell 1
        simp only [List.getElem?_cons_zero, List.getElem?_cons_succ] at d1 y2
        clear howna hka hba d0 y1 HG HO H5 hsz hg3l
        refine hK.out _ _ ?_ (fun hHeld => ?_)
        · exact ⟨y2, K0.out.cell_lt CW.out.1, K0.out.cell_lt CW.out.2.1⟩
        clear hK K
        try simp only [Act.put, List.setIfInBounds_toArray, List.set_cons_zero, List.set_cons_succ]
        refine tkYes (i := 17) (v := ?_) rfl rfl (by kernel_rfl) (by kernel_rfl) (by kernel_rfl) (fun _ _ _ h => h) (by rfl) ?_ (by assumption) ?_
        rotate_left
        · (intro w' hSw; (try dsimp only at hSw); go_simp; try with_reducible rfl)
        try simp only [Act.put, List.setIfInBounds_toArray, List.set_cons_zero, List.set_cons_succ]
        refine wpAnyH_ready (rs := [18]) (by kernel_rfl) (by simp) ?_
        refine AllReadyH.cons rfl (fun K hK => ?_) AllReadyH.nil
        go_simp
        have ko := (Kept.refl [g3] wa).setCell (p := ⟨g3, 1, none⟩) (.inl (by simp)) (.slice A6 (M.length + 1) c6)
        have HOb := Lib.hid (own_kept HOa.out ko (fun q hq => by have := own_ne_blk HOa.out HGa.out (by decide); simp; rintro rfl; exact this hq))
        replace HB := Lib.hid (HB.out.kept ko (by simp; exact HG3.out.2.1))
        replace HZ := Lib.hid (HZ.out.kept ko (by simp; exact HG3.out.2.2))
        have HGb := Lib.hid (HGa.out.set 1 (.slice A6 (M.length + 1) c6))
        simp only [List.set_cons_zero, List.set_cons_succ] at HGb
        replace K0 := Lib.hid (K0.out.then ko (fun m hm => by simp at hm; subst hm; exact .inr (Nat.le_trans HGE.out HG3.out.1)))
        clear ko Fa HOa HGa d1 f1 ll y2
        generalize wa.setCell ⟨g3, 1, none⟩ (.slice A6 (M.length + 1) c6) = wb at *
        have y1 := HB.out.cell 1
        simp only [List.getElem?_cons_zero, List.getElem?_cons_succ] at y1
        refine hK.out _ _ ?_ (fun hHeld => ?_)
        · exact ⟨y1, K0.out.cell_lt CW.out.1, K0.out.cell_lt CW.out.2.1⟩
        clear hK K
        try simp only [Act.put, List.setIfInBounds_toArray, List.set_cons_zero, List.set_cons_succ]
        refine wpAnyH_done (by kernel_rfl) ?_ _
        go_wp2_with fail
        go_roundw
        case rel =>
          refine ⟨k + 1, .slice A6 (M.length + 1) c6, by omega, by go_num, Lib.hid ?_, HB, HZ, HGb, K0⟩
          rw [HS.out]
          have := HOb.out
          simpa [HPP.out, oneE] using this
        case measure => simp [intOf]; omega
    · obtain rfl : k = l.length := by omega
      rw [List.take_length] at HO
      obtain ⟨A5, c5, rfl⟩ := own_n HO.out
      have HML := Lib.hid (Nat.le_trans (madeP_length oneE allE l) hl)
      rw [List.take_length] at *
      clear hml
      go_wp2_with (first | (refine wpList_loadBlk rfl 56 (.tmp 3) rfl g3 [.int .i64 n, .slice A5 (madeP oneE allE l).length c5] _ HG.out rfl Tryz.underlying56 rfl infoGraph ?_))
      refine (refCanon_any n (madeP oneE allE l) A5 c5 _ HML.out (Reads.of_own HO.out) HW.out).mono ?_
      rintro _ w5 ⟨vr, rfl, ho5, hk5⟩
      obtain ⟨A6, c6, rfl⟩ := own_n ho5
      have HO5 := Lib.hid (own_le (base' := w.heap.size) ho5 K0.out.size)
      replace HZ := Lib.hid (HZ.out.kept hk5 (by simp))
      replace K0 := Lib.hid (K0.out.trans hk5)
      clear ho5 hk5
      go_wp2_with (first | (refine wpList_storeBlk rfl 56 (.tmp 2) (.tmp 34) rfl gz _ [.int .i64 n, .slice A6 (canonP (madeP oneE allE l)).length c6] HZ.out rfl rfl rfl infoGraph (by simp [Value.oneCell']) ?_; intro w8 hb8 hk8))
      have e0 := hb8.cell 0
      have e1 := hb8.cell 1
      simp only [List.getElem?_cons_zero, List.getElem?_cons_succ] at e0 e1
      refine bodyPost_ret (v := .agg #[.int .i64 n, .slice A6 (canonP (madeP oneE allE l)).length c6]) (by simp [results, Tryz.results14, go_sem, e0, e1]) rfl ?_
      rw [HPOST.out]
      have f8 : KeptB w.heap.size [56] w5 w8 := (KeptB.refl _ _ w5).step (L := [gz]) hk8 (fun m hm => by simp at hm; subst hm; exact ⟨HGZ.out, _, _, _, HZ.out, by simp⟩)
      exact ⟨_, rfl, own_keptB HO5.out f8 (by decide), K0.out.thenB f8 (Nat.le_refl _)⟩
end Go.Proofs.YtblfingmdipopaaGreat
