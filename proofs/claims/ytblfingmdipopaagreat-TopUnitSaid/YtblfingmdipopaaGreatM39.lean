/- prog.Update. Conditions: a plan of levels or paths of at most 60 vertices, a state of all of them. -/
import Derived.Test.YtblfingmdipopaaGreatM32
import Derived.Test.YtblfingmdipopaaGreatM38
namespace Go.Proofs.YtblfingmdipopaaGreat
set_option linter.unusedSimpArgs false
set_option linter.unusedVariables false
open Go.ChangeShapes Go.WideShapes Go.ChangeAt Go.RowKit
open Go.RowKit (wrap32 wrap64)
set_option maxHeartbeats 8000000
set_option maxRecDepth 100000 in
theorem update_any (κ : Int) (n s : Nat) (Aa Ab Ao Ay : Option Addr) (ca cb co cy b : Nat) (A B : List Int) (X : List Ed) (round : Int) (w : World) (h : PlOk κ n s) (hb : b < 2 ^ n) (hok : VcOk n X) (hla : A.length = n) (hlb : B.length = n) (hr : StRd w n Aa Ab Ao A B b) (hry : Reads w Ay (X.flatMap itV)) :
    Calls Tryz.prog 122 #[.agg (plC κ n s).toArray, .agg (stS n Aa Ab Ao ca cb co).toArray, .int .i64 round, .agg #[.int .i64 (n : Int), .slice Ay X.length cy]] w (StPost w n ((List.range n).map (fun (i : Nat) => newA κ round (A.getD i 0) ((getP X (i : Int)).getD 0) (getP X (i : Int)).isSome)) ((List.range n).map (fun (i : Nat) => newC κ (A.getD i 0) (B.getD i 0) ((getP X (i : Int)).getD 0) (getP X (i : Int)).isSome)) (onP (fun (i : Nat) => newB κ (A.getD i 0) ((getP X (i : Int)).getD 0) (getP X (i : Int)).isSome) n)) := by
  have HPL := Lib.hid h
  have HB := Lib.hid hb
  have HOK := Lib.hid hok
  have hn := h.num
  have HLA := Lib.hid hla
  have HLB := Lib.hid hlb
  have H40 := Blk.new w 68 (plC κ n s)
  have H4 := Lib.hid ((((H40.alloc (.cells ((stS n Aa Ab Ao ca cb co)).toArray 61)).alloc (.cells ([.int .i64 round]).toArray 3)).alloc (.cells ([.int .i64 (n : Int), .slice Ay X.length cy]).toArray 35)).alloc (.cells ([.int .i64 0, .int .i64 0, .slice none 0 0, .slice none 0 0, .slice none 0 0]).toArray 61))
  clear H40
  have H50 := Blk.new (w.alloc (.cells (plC κ n s).toArray 68)) 61 ((stS n Aa Ab Ao ca cb co))
  rw [show (w.alloc (.cells (plC κ n s).toArray 68)).heap.size = w.heap.size + 1 by simp] at H50
  have H5 := Lib.hid (((H50.alloc (.cells ([.int .i64 round]).toArray 3)).alloc (.cells ([.int .i64 (n : Int), .slice Ay X.length cy]).toArray 35)).alloc (.cells ([.int .i64 0, .int .i64 0, .slice none 0 0, .slice none 0 0, .slice none 0 0]).toArray 61))
  clear H50
  have H60 := Blk.new ((w.alloc (.cells (plC κ n s).toArray 68)).alloc (.cells ((stS n Aa Ab Ao ca cb co)).toArray 61)) 3 ([.int .i64 round])
  rw [show ((w.alloc (.cells (plC κ n s).toArray 68)).alloc (.cells ((stS n Aa Ab Ao ca cb co)).toArray 61)).heap.size = w.heap.size + 2 by simp] at H60
  have H6 := Lib.hid ((H60.alloc (.cells ([.int .i64 (n : Int), .slice Ay X.length cy]).toArray 35)).alloc (.cells ([.int .i64 0, .int .i64 0, .slice none 0 0, .slice none 0 0, .slice none 0 0]).toArray 61))
  clear H60
  have H70 := Blk.new (((w.alloc (.cells (plC κ n s).toArray 68)).alloc (.cells ((stS n Aa Ab Ao ca cb co)).toArray 61)).alloc (.cells ([.int .i64 round]).toArray 3)) 35 ([.int .i64 (n : Int), .slice Ay X.length cy])
  rw [show (((w.alloc (.cells (plC κ n s).toArray 68)).alloc (.cells ((stS n Aa Ab Ao ca cb co)).toArray 61)).alloc (.cells ([.int .i64 round]).toArray 3)).heap.size = w.heap.size + 3 by simp] at H70
  have H7 := Lib.hid (H70.alloc (.cells ([.int .i64 0, .int .i64 0, .slice none 0 0, .slice none 0 0, .slice none 0 0]).toArray 61))
  clear H70
  have HZ0 := Blk.new ((((w.alloc (.cells (plC κ n s).toArray 68)).alloc (.cells ((stS n Aa Ab Ao ca cb co)).toArray 61)).alloc (.cells ([.int .i64 round]).toArray 3)).alloc (.cells ([.int .i64 (n : Int), .slice Ay X.length cy]).toArray 35)) 61 ([.int .i64 0, .int .i64 0, .slice none 0 0, .slice none 0 0, .slice none 0 0])
  rw [show ((((w.alloc (.cells (plC κ n s).toArray 68)).alloc (.cells ((stS n Aa Ab Ao ca cb co)).toArray 61)).alloc (.cells ([.int .i64 round]).toArray 3)).alloc (.cells ([.int .i64 (n : Int), .slice Ay X.length cy]).toArray 35)).heap.size = w.heap.size + 4 by simp] at HZ0
  have HZ := Lib.hid HZ0
  clear HZ0
  have K0 := Lib.hid ((((((Kept.refl [] w).alloc (.cells (plC κ n s).toArray 68)).alloc (.cells ((stS n Aa Ab Ao ca cb co)).toArray 61)).alloc (.cells ([.int .i64 round]).toArray 3)).alloc (.cells ([.int .i64 (n : Int), .slice Ay X.length cy]).toArray 35)).alloc (.cells ([.int .i64 0, .int .i64 0, .slice none 0 0, .slice none 0 0, .slice none 0 0]).toArray 61))
  have HR := Lib.hid (hr.kept0 K0.out)
  have HRY := Lib.hid (hry.kept0 K0.out)
  have HGE := Lib.hid (show w.heap.size ≤ w.heap.size + 4 ∧ w.heap.size ≤ w.heap.size + 1 ∧ w.heap.size + 1 ≠ w.heap.size ∧ w.heap.size + 1 ≠ w.heap.size + 2 ∧ w.heap.size + 1 ≠ w.heap.size + 3 ∧ w.heap.size + 1 ≠ w.heap.size + 4 by omega)
  clear h hb hok hr hry hla hlb
  obtain ⟨post, hpost⟩ : ∃ post : Ending → World → Prop, post = (StPost w n ((List.range n).map (fun (i : Nat) => newA κ round (A.getD i 0) ((getP X (i : Int)).getD 0) (getP X (i : Int)).isSome)) ((List.range n).map (fun (i : Nat) => newC κ (A.getD i 0) (B.getD i 0) ((getP X (i : Int)).getD 0) (getP X (i : Int)).isSome)) (onP (fun (i : Nat) => newB κ (A.getD i 0) ((getP X (i : Int)).getD 0) (getP X (i : Int)).isSome) n)) := ⟨_, rfl⟩
  rw [← hpost]
  have HPOST := Lib.hid hpost
  clear hpost
  go_enter Tryz.func122, Tryz.ntmps122
  go_upto_region 1 with (fail)
  generalize (((((w.alloc (.cells (plC κ n s).toArray 68)).alloc (.cells ((stS n Aa Ab Ao ca cb co)).toArray 61)).alloc (.cells ([.int .i64 round]).toArray 3)).alloc (.cells ([.int .i64 (n : Int), .slice Ay X.length cy]).toArray 35)).alloc (.cells ([.int .i64 0, .int .i64 0, .slice none 0 0, .slice none 0 0, .slice none 0 0]).toArray 61)) = w1 at *
  generalize w.heap.size + 4 = gz at HZ HGE ⊢
  generalize w.heap.size + 3 = g7 at H7 HGE ⊢
  generalize w.heap.size + 2 = g6 at H6 HGE ⊢
  generalize w.heap.size + 1 = g5 at H5 HGE ⊢
  generalize hg4 : w.heap.size = g4 at H4 ⊢
  rw [hg4] at HGE
  have HG4 := Lib.hid hg4
  clear hg4
  go_wp2_with (first | (refine wpList_loadBlk rfl 68 (.tmp 4) rfl g4 (plC κ n s) _ H4.out rfl Tryz.underlying68 rfl infoPlan ?_) | (refine wpList_loadBlk rfl 61 (.tmp 5) rfl g5 (stS n Aa Ab Ao ca cb co) _ H5.out rfl Tryz.underlying61 rfl infoState ?_))
  refine (sure_any κ n s Aa Ab Ao ca cb co b A B _ HPL.out HB.out HR.out).mono ?_
  rintro _ w2 ⟨rfl, hk1⟩
  replace H4 := Lib.hid (H4.out.kept hk1 (by simp))
  replace H5 := Lib.hid (H5.out.kept hk1 (by simp))
  replace H6 := Lib.hid (H6.out.kept hk1 (by simp))
  replace H7 := Lib.hid (H7.out.kept hk1 (by simp))
  replace HZ := Lib.hid (HZ.out.kept hk1 (by simp))
  replace HR := Lib.hid (HR.out.kept0 hk1)
  replace HRY := Lib.hid (HRY.out.kept0 hk1)
  replace K0 := Lib.hid (K0.out.trans hk1)
  clear hk1
  go_upto_region 2 with (first | (refine wpList_storeBlk rfl 61 (.tmp 5) (.tmp 12) rfl g5 _ (stS n Aa Ab Ao ca cb co) H5.out rfl rfl rfl infoState (by simp [Value.oneCell']) ?_; intro w3 hb3 hk3))
  have f3 : KeptB w.heap.size [61] w2 w3 := (KeptB.refl _ _ w2).step (L := [g5]) hk3 (fun u hu => by simp at hu; subst hu; exact ⟨by rw [HG4.out]; exact HGE.out.2.1, _, _, _, H5.out, by simp⟩)
  have kk : Kept [] w2 w3 := hk3.same H5.out hb3
  have k3 := kk
  replace H4 := Lib.hid (H4.out.kept k3 (by simp))
  replace H6 := Lib.hid (H6.out.kept k3 (by simp))
  replace H7 := Lib.hid (H7.out.kept k3 (by simp))
  replace HZ := Lib.hid (HZ.out.kept k3 (by simp))
  replace HR := Lib.hid (HR.out.kept0 k3)
  replace HRY := Lib.hid (HRY.out.kept0 k3)
  replace K0 := Lib.hid (K0.out.trans k3)
  replace H5 := Lib.hid hb3
  clear f3 kk k3 hk3 hb3
  have y0 := H5.out.cell 0
  have y1 := H5.out.cell 1
  simp only [List.getElem?_cons_zero, List.getElem?_cons_succ] at y0 y1
  have hwn : IntKind.i64.wrap ((n : Int) - 0) = (n : Int) := by rw [IntKind.wrap_i64]; omega
  go_wp2_with (first | (refine wpList_loadBlk rfl 35 (.tmp 7) rfl g7 [.int .i64 (n : Int), .slice Ay X.length cy] _ H7.out rfl Tryz.underlying35 rfl infoVec ?_))
  refine (sRight_any n cy X Ay _ HOK.out HRY.out).mono ?_
  rintro _ w4 ⟨rfl, hk4⟩
  replace H4 := Lib.hid (H4.out.kept hk4 (by simp))
  replace H5 := Lib.hid (H5.out.kept hk4 (by simp))
  replace H6 := Lib.hid (H6.out.kept hk4 (by simp))
  replace H7 := Lib.hid (H7.out.kept hk4 (by simp))
  replace HZ := Lib.hid (HZ.out.kept hk4 (by simp))
  replace HR := Lib.hid (HR.out.kept0 hk4)
  replace HRY := Lib.hid (HRY.out.kept0 hk4)
  replace K0 := Lib.hid (K0.out.trans hk4)
  clear hk4 y0 y1
  have z0 := H7.out.cell 0
  simp only [List.getElem?_cons_zero, List.getElem?_cons_succ] at z0
  go_wp2_with (first | (refine wpList_loadBlk rfl 61 (.tmp 5) rfl g5 (stS n Aa Ab Ao ca cb co) _ H5.out rfl Tryz.underlying61 rfl infoState ?_))
  refine (changedU_any n hn (fun (i : Nat) => newA κ round (A.getD i 0) ((getP X (i : Int)).getD 0) (getP X (i : Int)).isSome) (fun (i : Nat) => newC κ (A.getD i 0) (B.getD i 0) ((getP X (i : Int)).getD 0) (getP X (i : Int)).isSome) (fun (i : Nat) => newB κ (A.getD i 0) ((getP X (i : Int)).getD 0) (getP X (i : Int)).isSome) g7 g4 g5 g6 _ _ _ _ (fun w' hk i hi => update1_any κ n s i Aa Ab Ao Ay ca cb co cy b A B X (A.getD i 0) (B.getD i 0) round g7 g4 g5 g6 w' HPL.out HOK.out hi (by have := HLA.out; rw [List.getD_eq_getElem?_getD, List.getElem?_eq_getElem (by omega)]; rfl) (by have := HLB.out; rw [List.getD_eq_getElem?_getD, List.getElem?_eq_getElem (by omega)]; rfl) (HR.out.kept0 hk) (HRY.out.kept0 hk) (H7.out.kept hk (by simp)) (H4.out.kept hk (by simp)) (H5.out.kept hk (by simp)) (H6.out.kept hk (by simp)))).mono ?_
  rintro _ w5 ⟨vA, vB, vO, rfl, hst, hk5⟩
  have HS := Lib.hid (hst.le K0.out.size)
  have HZ5 := Lib.hid (HZ.out.kept hk5 (by simp))
  replace K0 := Lib.hid (K0.out.trans hk5)
  clear hst hk5 z0 HZ H4 H5 H6 H7
  obtain ⟨Aa', ca', rfl⟩ := own_n HS.out.o1
  obtain ⟨Ab', cb', rfl⟩ := own_n HS.out.o2
  obtain ⟨Ao', co', rfl⟩ := own_n HS.out.o3
  go_wp2_with (first | (refine wpList_storeBlk rfl 61 (.tmp 8) (.tmp 44) rfl gz _ (stC n (.slice Aa' n ca') (.slice Ab' n cb') (.slice Ao' (wordsN n) co')) HZ5.out rfl rfl rfl infoState (by simp [stC, Value.oneCell']) ?_; intro w8 hb8 hk8))
  have e0 := hb8.cell 0
  have e1 := hb8.cell 1
  have e2 := hb8.cell 2
  have e3 := hb8.cell 3
  have e4 := hb8.cell 4
  simp only [List.getElem?_cons_zero, List.getElem?_cons_succ] at e0 e1 e2 e3 e4
  refine bodyPost_ret (v := .agg (stC n (.slice Aa' n ca') (.slice Ab' n cb') (.slice Ao' (wordsN n) co')).toArray) (by simp [results, Tryz.results122, go_sem, e0, e1, e2, e3, e4]) rfl ?_
  rw [HPOST.out]
  have f8 : KeptB w.heap.size [61] w5 w8 := (KeptB.refl _ _ w5).step (L := [gz]) hk8 (fun u hu => by simp at hu; subst hu; exact ⟨by rw [HG4.out]; exact HGE.out.1, _, _, _, HZ5.out, by simp⟩)
  exact ⟨_, _, _, rfl, HS.out.keptB f8 (by decide) (by decide), K0.out.thenB f8 (Nat.le_refl _)⟩
end Go.Proofs.YtblfingmdipopaaGreat
