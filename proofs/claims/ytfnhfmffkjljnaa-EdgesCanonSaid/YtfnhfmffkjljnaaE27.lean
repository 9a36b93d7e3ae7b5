/- The reference's Both. -/
import Derived.Test.YtfnhfmffkjljnaaE26
import Derived.Test.YtfnhfmffkjljnaaLib2
namespace Go.Proofs.Ytfnhfmffkjljnaa
set_option linter.unusedSimpArgs false
set_option linter.unusedVariables false
open Go.ChangeShapes Go.WideShapes Go.ChangeAt Go.RowKit
open Go.RowKit (wrap32 wrap64)
set_option maxHeartbeats 8000000

theorem edV_ones (l : List Ed) : ∀ u ∈ l.flatMap edV, u.oneCell' = true := fun u hu => by
  obtain ⟨e, _, h⟩ := List.mem_flatMap.1 hu
  simp [edV] at h
  rcases h with rfl | rfl | rfl <;> rfl
theorem edV_len (l : List Ed) : (l.flatMap edV).length = l.length * 3 := flatMap_length _ _ 3 (fun _ _ => rfl)
set_option maxRecDepth 100000 in
theorem refBoth_any (n : Int) (l : List Ed) (A : Option Addr) (c : Nat) (w : World) (hl : l.length ≤ 524288) (hA : Reads w A (l.flatMap edV)) (hw : ∀ e ∈ l, In64 e.2.2) :
    Calls Try.prog 25 #[.agg #[.int .i64 n, .slice A l.length c]] w (GrPost w n (bothP l)) := by
  have HA := Lib.hid hA
  have HW := Lib.hid hw
  have HLT := Lib.hid (show l.length ≤ 1048576 by omega)
  have HB := Lib.hid ((Blk.new w 24 (grV n A l.length c)).alloc (.cells #[.int .i64 0, .slice none 0 0] 24))
  have HZ := Lib.hid (Blk.new1F w (.cells #[.int .i64 n, .slice A l.length c] 24) 24 [.int .i64 0, .slice none 0 0])
  have K0 := Lib.hid (((Kept.refl [] w).alloc (.cells #[.int .i64 n, .slice A l.length c] 24)).alloc (.cells #[.int .i64 0, .slice none 0 0] 24))
  have HGZ := Lib.hid (show w.heap.size ≤ w.heap.size + 1 by omega)
  clear hA hw
  obtain ⟨post, hpost⟩ : ∃ post : Ending → World → Prop, post = GrPost w n (bothP l) := ⟨_, rfl⟩
  rw [← hpost]
  have HPOST := Lib.hid hpost
  clear hpost
  go_enter Try.func25, Try.ntmps25
  go_upto_region 1 with (fail)
  generalize (w.alloc (.cells #[.int .i64 n, .slice A l.length c] 24)).alloc (.cells #[.int .i64 0, .slice none 0 0] 24) = w2 at *
  generalize w.heap.size + 1 = gz at HZ HGZ ⊢
  generalize hgq : w.heap.size = g at HB ⊢
  have HGE := Lib.hid (show w.heap.size ≤ g from by rw [hgq]; exact Nat.le_refl _)
  clear hgq
  go_wp2_with (first | (refine wpList_loadBlk rfl 24 (.tmp 1) rfl g [.int .i64 n, .slice A l.length c] _ HB.out rfl Try.underlying24 rfl infoGraph ?_))
  refine (refTurn_any n l A c _ HLT.out (HA.out.kept0 K0.out) HW.out).mono ?_
  rintro _ w3 ⟨vr, rfl, ho3, hk3⟩
  obtain ⟨A5, c5, rfl⟩ := own_n ho3
  have HML := Lib.hid (Nat.le_trans (canonP_length (madeP turnE allE l)) (madeP_length turnE allE l))
  have HMW := Lib.hid (canonP_in (turnL_in HW.out))
  have HMB := Lib.hid (show canonP (canonP (madeP turnE allE l) ++ l) = bothP l from bothP_ref HW.out)
  generalize canonP (madeP turnE allE l) = M at *
  have hg1 := HB.out.lt
  have hg2 := HZ.out.lt
  have hg4 := hk3.size
  have HO := Lib.hid ((own_le (base' := w.heap.size) ho3 K0.out.size).alloc (.cells #[.int .i64 n, .slice A5 M.length c5] 24))
  replace HB := Lib.hid ((HB.out.kept hk3 (by simp)).alloc (.cells #[.int .i64 n, .slice A5 M.length c5] 24))
  replace HZ := Lib.hid ((HZ.out.kept hk3 (by simp)).alloc (.cells #[.int .i64 n, .slice A5 M.length c5] 24))
  have HG := Lib.hid (Blk.new w3 24 [.int .i64 n, .slice A5 M.length c5])
  have HG3 := Lib.hid (show w.heap.size ≤ w3.heap.size ∧ g ≠ w3.heap.size ∧ gz ≠ w3.heap.size from ⟨Nat.le_trans K0.out.size hk3.size, by omega, by omega⟩)
  replace K0 := Lib.hid ((K0.out.trans hk3).alloc (.cells #[.int .i64 n, .slice A5 M.length c5] 24))
  clear ho3 hk3 hg1 hg2 hg4
  go_upto_region 2 with (fail)
  generalize w3.alloc (.cells #[.int .i64 n, .slice A5 M.length c5] 24) = w4 at *
  generalize w3.heap.size = g3 at HG HG3 ⊢
  have hml := HML.out
  have y1 := HB.out.cell 1
  have d0 := HG.out.cell 1
  have hgl := HB.out.lt
  have hg3l := HG.out.lt
  have hsz := K0.out.size
  simp only [List.getElem?_cons_zero, List.getElem?_cons_succ] at y1 d0
  go_upto_region 3 with (first | (at_builtin; refine wpList_app _ rfl (.tmp 7) (.tmp 9) _ rfl 41 (.agg #[.int .i64 0, .int .i64 0, .int .i64 0]) 3 24 Try.underlying22 infoEd rfl (by decide) w.heap.size (.slice A5 M.length c5) _ _ rfl HO.out A l.length c (l.flatMap edV) rfl (edV_len l) (HA.out.kept0 K0.out) (edV_ones l) (by omega) (by unfold maxLen; omega) (by omega) ?_; intro va wa howna hka hba; obtain ⟨A6, c6, rfl⟩ := own_n howna; have Fa := Lib.hid ((KeptB.refl w.heap.size [41] w4).app hka HO.out (by decide)); have HOa := Lib.hid howna; have HGa := Lib.hid (HG.out.keptB Fa.out (by decide)); have d1 := HGa.out.cell 1; have f1 := HGa.out.frozen 1; have ll := HGa.out.lt; simp only [List.getElem?_cons_zero, List.getElem?_cons_succ] at d1; clear howna hka hba))
  have ko := (Kept.refl [g3] wa).setCell (p := ⟨g3, 1, none⟩) (.inl (by simp)) (.slice A6 (M.length + l.length) c6)
  have HOb := Lib.hid (own_kept HOa.out ko (fun q hq => by have := own_ne_blk HOa.out HGa.out (by decide); simp; rintro rfl; exact this hq))
  replace HZ := Lib.hid ((HZ.out.keptB Fa.out (by decide)).kept ko (by simp; exact HG3.out.2.2))
  have HGb := Lib.hid (HGa.out.set 1 (.slice A6 (M.length + l.length) c6))
  simp only [List.set_cons_zero, List.set_cons_succ] at HGb
  replace K0 := Lib.hid ((K0.out.thenB Fa.out (Nat.le_refl _)).then ko (fun m hm => by simp at hm; subst hm; exact .inr HG3.out.1))
  clear ko Fa HOa HGa d1 f1 ll HG d0 y1 hg3l hsz HO HB hgl
  generalize wa.setCell ⟨g3, 1, none⟩ (.slice A6 (M.length + l.length) c6) = wb at *
  rw [← List.length_append] at *
  rw [← List.flatMap_append] at HOb
  have HIN := Lib.hid (app_in HMW.out HW.out)
  have HLN := Lib.hid (show (M ++ l).length ≤ 1048576 by rw [List.length_append]; omega)
  generalize M ++ l = N at *
  go_wp2_with (first | (refine wpList_loadBlk rfl 24 (.tmp 3) rfl g3 [.int .i64 n, .slice A6 N.length c6] _ HGb.out rfl Try.underlying24 rfl infoGraph ?_))
  refine (refCanon_any n N A6 c6 _ HLN.out (Reads.of_own HOb.out) HIN.out).mono ?_
  rintro _ w5 ⟨vr, rfl, ho5, hk5⟩
  rw [HMB.out] at ho5
  obtain ⟨A7, c7, rfl⟩ := own_n ho5
  have HO5 := Lib.hid (own_le (base' := w.heap.size) ho5 K0.out.size)
  replace HZ := Lib.hid (HZ.out.kept hk5 (by simp))
  replace K0 := Lib.hid (K0.out.trans hk5)
  clear ho5 hk5
  go_wp2_with (first | (refine wpList_storeBlk rfl 24 (.tmp 2) (.tmp 13) rfl gz _ [.int .i64 n, .slice A7 (bothP l).length c7] HZ.out rfl rfl rfl infoGraph (by simp [Value.oneCell']) ?_; intro w8 hb8 hk8))
  have e0 := hb8.cell 0
  have e1 := hb8.cell 1
  simp only [List.getElem?_cons_zero, List.getElem?_cons_succ] at e0 e1
  refine bodyPost_ret (v := .agg #[.int .i64 n, .slice A7 (bothP l).length c7]) (by simp [results, Try.results25, go_sem, e0, e1]) rfl ?_
  rw [HPOST.out]
  have f8 : KeptB w.heap.size [24] w5 w8 := (KeptB.refl _ _ w5).step (L := [gz]) hk8 (fun m hm => by simp at hm; subst hm; exact ⟨HGZ.out, _, _, _, HZ.out, by simp⟩)
  exact ⟨_, rfl, own_keptB HO5.out f8 (by decide), K0.out.thenB f8 (Nat.le_refl _)⟩
end Go.Proofs.Ytfnhfmffkjljnaa
