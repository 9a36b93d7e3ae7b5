/- csr.Row, csr.Count, csr.Same of matrices. -/
import Derived.Test.YtibjpjpbmkdddaaC4
namespace Go.Proofs.Ytibjpjpbmkdddaa
set_option linter.unusedSimpArgs false
set_option linter.unusedVariables false
open Go.ChangeShapes Go.WideShapes Go.ChangeAt Go.RowKit
open Go.RowKit (wrap32 wrap64)
set_option maxHeartbeats 8000000

/-- An item's cells. -/
abbrev itV (e : Ed) : List Value := [vI e.2.1, vI e.2.2]
theorem infoItem : Info Try.prog 102 (.agg #[.int .i64 0, .int .i64 0]) 2 16 := by unfold Info; kernel_rfl
set_option maxRecDepth 100000 in
theorem row_any (n base i : Nat) (l : List Ed) (v1 v2 v3 : Value) (w : World) (hi : i < n) (hok : MtOk n l) (hm : MtAt w base v1 v2 v3 n l) :
    Calls Try.prog 19 #[.agg #[.int .i64 n, .int .i64 n, v1, v2, v3], .int .i64 i] w fun e w' => ∃ v, e = .returned v ∧ w'.ownsRow w.heap.size 102 2 v (rowL l i).length ((rowL l i).flatMap itV) ∧ Kept [] w w' := by
  obtain ⟨b1, c1, A2, c2, A3, c3, rfl, rfl, rfl, _, _⟩ := hm.form
  have HX := Lib.hid (Blk.new w 44 [.int .i64 n, .int .i64 n, .slice (some ⟨b1, 0, none⟩) (n + 1) c1, .slice A2 l.length c2, .slice A3 l.length c3])
  have K0 := Lib.hid ((Kept.refl [] w).alloc (.cells #[.int .i64 n, .int .i64 n, .slice (some ⟨b1, 0, none⟩) (n + 1) c1, .slice A2 l.length c2, .slice A3 l.length c3] 44))
  have HM := Lib.hid (hm.kept0 K0.out)
  have HOK := Lib.hid hok
  have hnn := hok.num
  have hll := hok.len
  have HD := Lib.hid (show (decide ((0 : Int) ≤ (i : Int)) && decide ((i : Int) ≤ (n : Int) - 1)) = true by simp; omega)
  have HB := Lib.hid (Blk.new w 44 [.int .i64 n, .int .i64 n, .slice (some ⟨b1, 0, none⟩) (n + 1) c1, .slice A2 l.length c2, .slice A3 l.length c3])
  obtain ⟨post, hpost⟩ : ∃ post : Ending → World → Prop, post = (fun e w' => ∃ v, e = .returned v ∧ w'.ownsRow w.heap.size 102 2 v (rowL l i).length ((rowL l i).flatMap itV) ∧ Kept [] w w') := ⟨_, rfl⟩
  rw [← hpost]
  have HPOST := Lib.hid hpost
  have HRL := Lib.hid (show (rowL l i).length ≤ 65536 from Nat.le_trans (List.length_filter_le _ _) hll)
  clear hpost hm hok HB
  go_enter Try.func19, Try.ntmps19
  go_upto_region 1 with (fail)
  generalize w.alloc (.cells #[.int .i64 n, .int .i64 n, .slice (some ⟨b1, 0, none⟩) (n + 1) c1, .slice A2 l.length c2, .slice A3 l.length c3] 44) = w1 at *
  generalize hgq : w.heap.size = g1 at HX ⊢
  have HGE := Lib.hid (show w.heap.size ≤ g1 by omega)
  clear hgq
  go_wp2_with (first | (refine wpList_loadBlk rfl 44 (.tmp 2) rfl g1 [.int .i64 n, .int .i64 n, .slice (some ⟨b1, 0, none⟩) (n + 1) c1, .slice A2 l.length c2, .slice A3 l.length c3] _ HX.out rfl Try.underlying44 rfl infoRows ?_))
  refine (sure_same n base l _ _ _ w1 HOK.out HM.out).mono ?_
  rintro _ w2 ⟨rfl, hk2⟩
  replace HX := Lib.hid (HX.out.kept hk2 (by simp))
  replace HM := Lib.hid (HM.out.kept0 hk2)
  replace K0 := Lib.hid (K0.out.trans hk2)
  clear hk2
  go_upto_region 2 with (first | (refine wpList_storeBlk rfl 44 (.tmp 2) (.tmp 11) rfl g1 _ [.int .i64 n, .int .i64 n, .slice (some ⟨b1, 0, none⟩) (n + 1) c1, .slice A2 l.length c2, .slice A3 l.length c3] HX.out rfl rfl rfl infoRows (by simp [Value.oneCell']) ?_; intro w3 hb3 hk3))
  have f8 : KeptB w.heap.size [44] w2 w3 := (KeptB.refl _ _ w2).step (L := [g1]) hk3 (fun u hu => by simp at hu; subst hu; exact ⟨HGE.out, _, _, _, HX.out, by simp⟩)
  replace HM := Lib.hid (HM.out.keptB f8 (by decide) (by decide))
  replace K0 := Lib.hid (K0.out.thenB f8 (Nat.le_refl _))
  replace HX := Lib.hid hb3
  clear f8 hb3 hk3
  have y0 := HX.out.cell 0
  simp only [List.getElem?_cons_zero, List.getElem?_cons_succ] at y0
  go_wp2_with fail
  refine (within_c i (n - 1) _).mono ?_
  rintro _ wn ⟨rfl, rfl⟩
  rw [HD.out]
  go_wp2_with (first | (refine wpList_loadBlk rfl 44 (.tmp 2) rfl g1 [.int .i64 n, .int .i64 n, .slice (some ⟨b1, 0, none⟩) (n + 1) c1, .slice A2 l.length c2, .slice A3 l.length c3] _ HX.out rfl Try.underlying44 rfl infoRows ?_))
  refine (part_any n base i l _ _ _ wn hi HOK.out HM.out).mono ?_
  rintro _ w4 ⟨B, D, rfl, hp, hk4⟩
  replace HM := Lib.hid (HM.out.kept0 hk4)
  replace K0 := Lib.hid (K0.out.trans hk4)
  have HP := Lib.hid hp
  clear hp hk4 y0 HX
  go_wp2_with fail
  go_loopw [5, 26] (fun v x wr => ∃ j : Nat, j ≤ (rowL l i).length ∧ x = .int .i64 j ∧ Hid (wr.ownsRow w.heap.size 102 2 v j (((rowL l i).take j).flatMap itV)) ∧ Hid (MtAt wr base (.slice (some ⟨b1, 0, none⟩) (n + 1) c1) (.slice A2 l.length c2) (.slice A3 l.length c3) n l) ∧ Hid (Kept [] w wr)) (fun _ x _ => (rowL l i).length - (intOf x).toNat)
  case atStart => exact ⟨0, Nat.zero_le _, rfl, Lib.hid (World.ownsRow_nil _ _ _ _), HM, K0⟩
  case round =>
    clear HM K0
    obtain ⟨j, hj, rfl, HO, HM, K0⟩ := hrel
    obtain ⟨v, hv⟩ : ∃ v, v = u5 := ⟨_, rfl⟩
    subst hv
    obtain ⟨A6, c6, rfl⟩ := own_n HO.out
    by_cases hjl : j < (rowL l i).length
    · have HTK := Lib.hid (List.take_succ_eq_append_getElem hjl)
      have hrl := HRL.out
      obtain ⟨bB, oB, hB, hbB, cB⟩ := cols_at (HP.out _ HM.out).1 hjl
      obtain ⟨bD, oD, hD, hbD, cD⟩ := vals_at (HP.out _ HM.out).2 hjl
      subst hB hD
      obtain ⟨x, hx⟩ : ∃ x, x = (rowL l i)[j] := ⟨_, rfl⟩
      rw [← hx] at cB cD HTK
      clear hx
      obtain ⟨x1, x2, x3⟩ := x
      dsimp only at cB cD
      have hsz := K0.out.size
      go_wp2_with (first | (at_builtin; refine wpList_app _ rfl (.tmp 31) (.tmp 38) _ rfl 102 (.agg #[.int .i64 0, .int .i64 0]) 2 16 Try.underlying53 infoItem rfl (by decide) w.heap.size (.slice A6 j c6) j _ rfl (HO.out.alloc _) (some ⟨_, 0, none⟩) 1 1 (itV (x1, x2, x3)) rfl rfl (Reads.of_blk (Blk.new _ _ _) (fun _ _ h => h)) (by simp [itV, Value.oneCell']) (by omega) (by unfold maxLen; omega) (by simp; omega) ?_; intro va wa howna hka hba; have HOa := Lib.hid howna; have Fa := Lib.hid (((KeptB.refl w.heap.size [102] wr).alloc _).app hka (HO.out.alloc _) (by decide)); clear howna hka hba))
      go_roundw
      case rel =>
        refine ⟨j + 1, by omega, by go_num, Lib.hid ?_, Lib.hid (HM.out.keptB Fa.out (by decide) (by decide)), Lib.hid (K0.out.thenB Fa.out (Nat.le_refl _))⟩
        have := HOa.out
        rw [HTK.out, List.flatMap_append]
        simpa [itV] using this
      case measure => simp [intOf]; omega
    · obtain rfl : j = (rowL l i).length := by omega
      rw [List.take_length] at HO
      go_wp2_with fail
      rw [HPOST.out]
      exact ⟨_, rfl, HO.out, K0.out⟩
theorem fieldRows3 (n m : Int) (a b c : Value) : ∀ w : World, (Instr.field 44 (.agg #[.int .i64 n, .int .i64 m, a, b, c]) 3).run Try.prog w = .ok b w := fun w => by kernel_rfl
set_option maxRecDepth 100000 in
theorem count_any (n base : Nat) (l : List Ed) (v1 v2 v3 : Value) (w : World) (hok : MtOk n l) (hm : MtAt w base v1 v2 v3 n l) :
    Calls Try.prog 20 #[.agg #[.int .i64 n, .int .i64 n, v1, v2, v3]] w fun e w' => e = .returned (.int .i64 (l.length : Int)) ∧ Kept [] w w' := by
  obtain ⟨b1, c1, A2, c2, A3, c3, rfl, rfl, rfl, _, _⟩ := hm.form
  have HX := Lib.hid (Blk.new w 44 [.int .i64 n, .int .i64 n, .slice (some ⟨b1, 0, none⟩) (n + 1) c1, .slice A2 l.length c2, .slice A3 l.length c3])
  have K0 := Lib.hid ((Kept.refl [] w).alloc (.cells #[.int .i64 n, .int .i64 n, .slice (some ⟨b1, 0, none⟩) (n + 1) c1, .slice A2 l.length c2, .slice A3 l.length c3] 44))
  have HM := Lib.hid (hm.kept0 K0.out)
  have HOK := Lib.hid hok
  have hnn := hok.num
  clear hm hok
  have hfd := fieldRows3 n n (.slice (some ⟨b1, 0, none⟩) (n + 1) c1) (.slice A2 l.length c2) (.slice A3 l.length c3)
  go_enter Try.func20, Try.ntmps20
  go_upto_region 1 with (fail)
  generalize w.alloc (.cells #[.int .i64 n, .int .i64 n, .slice (some ⟨b1, 0, none⟩) (n + 1) c1, .slice A2 l.length c2, .slice A3 l.length c3] 44) = w1 at *
  generalize hgq : w.heap.size = g1 at HX ⊢
  have HGE := Lib.hid (show w.heap.size ≤ g1 by omega)
  clear hgq
  go_wp2_with (first | (refine wpList_loadBlk rfl 44 (.tmp 1) rfl g1 [.int .i64 n, .int .i64 n, .slice (some ⟨b1, 0, none⟩) (n + 1) c1, .slice A2 l.length c2, .slice A3 l.length c3] _ HX.out rfl Try.underlying44 rfl infoRows ?_))
  refine (sure_same n base l _ _ _ w1 HOK.out HM.out).mono ?_
  rintro _ w2 ⟨rfl, hk2⟩
  replace HX := Lib.hid (HX.out.kept hk2 (by simp))
  replace HM := Lib.hid (HM.out.kept0 hk2)
  replace K0 := Lib.hid (K0.out.trans hk2)
  clear hk2
  go_wp2_with fail
  go_ret
  exact ⟨rfl, K0.out⟩
end Go.Proofs.Ytibjpjpbmkdddaa
