/- csr.Graph of a graph that can be: the matrix of the turned edges. -/
import Derived.Test.YtblfingmdipopaaGreatM19
import Derived.Test.YtblfingmdipopaaGreatM46
import Derived.Test.YtblfingmdipopaaGreatM18
import Derived.Test.YtblfingmdipopaaGreatM44
import Derived.Test.YtblfingmdipopaaGreatM16
namespace Go.Proofs.YtblfingmdipopaaGreat
set_option linter.unusedSimpArgs false
set_option linter.unusedVariables false
open Go.ChangeShapes Go.WideShapes Go.ChangeAt Go.RowKit
open Go.RowKit (wrap32 wrap64)
set_option maxHeartbeats 8000000
theorem fieldGraphC (n : Int) (A : Option Addr) (k c : Nat) : ∀ w : World, (Instr.field 56 (.agg #[.int .i64 n, .slice A k c]) 1).run Tryz.prog w = .ok (.slice A k c) w := fun w => by kernel_rfl
set_option maxRecDepth 100000 in
theorem csrGraph_any (n : Nat) (l : List Ed) (A : Option Addr) (c : Nat) (w : World) (hn : n ≤ 4096) (hl : l.length ≤ 1048576) (hA : Reads w A (l.flatMap edV)) (hR : rightP n l = 0) (hw : ∀ e ∈ l, In64 e.2.2) (hr : ∀ e ∈ l, 0 ≤ e.2.1 ∧ e.2.1 < n) :
    Calls Tryz.prog 112 #[.agg #[.int .i64 n, .slice A l.length c]] w (fun e w' => ∃ v, e = .returned (.tuple #[v, .int .i64 0]) ∧ MtPost w n n (canonP (turnL l)) (.returned v) w') := by
  have HA := Lib.hid hA
  have HL := Lib.hid hl
  have HLM := Lib.hid (show l.length ≤ maxLen by unfold maxLen; omega)
  have HW := Lib.hid hw
  have HR := Lib.hid hR
  have HTR := Lib.hid (fun e he => by
    have h1 := (canonP_spec (turnL_in hw)).2.1 e he
    rw [turnL_map] at h1
    obtain ⟨y, hy, rfl⟩ := List.mem_map.1 h1
    exact hr y hy : ∀ e ∈ (canonP (turnL l)), 0 ≤ e.1 ∧ e.1 < n)
  have HTL := Lib.hid (show (canonP (turnL l)).length ≤ 1048576 from Nat.le_trans (canonP_length _) (by rw [turnL_map, List.length_map]; exact hl))
  have HX := Lib.hid ((Blk.new w 56 (grV n A l.length c)).alloc (.cells #[.int .i64 0, .int .i64 0, .slice none 0 0, .slice none 0 0, .slice none 0 0] 31))
  have HZ := Lib.hid (Blk.new1F w (.cells #[.int .i64 n, .slice A l.length c] 56) 31 [.int .i64 0, .int .i64 0, .slice none 0 0, .slice none 0 0, .slice none 0 0])
  have K0 := Lib.hid (((Kept.refl [] w).alloc (.cells #[.int .i64 n, .slice A l.length c] 56)).alloc (.cells #[.int .i64 0, .int .i64 0, .slice none 0 0, .slice none 0 0, .slice none 0 0] 31))
  have HGZ := Lib.hid (show w.heap.size ≤ w.heap.size + 1 by omega)
  clear hA hl hw hR hr
  obtain ⟨M, hM⟩ : ∃ M, M = (canonP (turnL l)) := ⟨_, rfl⟩
  rw [← hM] at HTR HTL ⊢
  have HTE := Lib.hid (show canonP (madeP turnE allE l) = M from hM.symm)
  clear hM
  obtain ⟨post, hpost⟩ : ∃ post : Ending → World → Prop, post = (fun e w' => ∃ v, e = .returned (.tuple #[v, .int .i64 0]) ∧ MtPost w n n M (.returned v) w') := ⟨_, rfl⟩
  rw [← hpost]
  have HPOST := Lib.hid hpost
  clear hpost
  go_enter Tryz.func112, Tryz.ntmps112
  go_upto_region 1 with (fail)
  generalize ((w.alloc (.cells #[.int .i64 n, .slice A l.length c] 56)).alloc (.cells #[.int .i64 0, .int .i64 0, .slice none 0 0, .slice none 0 0, .slice none 0 0] 31)) = w2 at *
  generalize w.heap.size + 1 = gz at HZ HGZ ⊢
  generalize hgq : w.heap.size = g at HX ⊢
  clear hgq
  have y0 := HX.out.cell 0
  have y1 := HX.out.cell 1
  simp only [List.getElem?_cons_zero, List.getElem?_cons_succ] at y0 y1
  go_wp2_with fail
  refine (right_any n l A c w2 HLM.out (HA.out.kept0 K0.out)).mono ?_
  rintro _ w3 ⟨rfl, hk3⟩
  rw [HR.out]
  replace HX := Lib.hid (HX.out.kept hk3 (by simp))
  replace HZ := Lib.hid (HZ.out.kept hk3 (by simp))
  replace K0 := Lib.hid (K0.out.trans hk3)
  clear hk3 y0 y1
  have y0 := HX.out.cell 0
  have y1 := HX.out.cell 1
  simp only [List.getElem?_cons_zero, List.getElem?_cons_succ] at y0 y1
  go_wp2_with fail
  refine (topT n l A c w3 HL.out (HA.out.kept0 K0.out) HW.out).mono ?_
  rintro _ w4 ⟨v4, rfl, ho4, hk4⟩
  rw [HTE.out] at ho4
  obtain ⟨A4, c4, rfl⟩ := own_n ho4
  have HSZ := Lib.hid K0.out.size
  replace HX := Lib.hid (HX.out.kept hk4 (by simp))
  replace HZ := Lib.hid (HZ.out.kept hk4 (by simp))
  have HO4 := Lib.hid (own_le (base' := w.heap.size) ho4 HSZ.out)
  replace K0 := Lib.hid (K0.out.trans hk4)
  clear ho4 hk4 y0 y1 HTE
  have hfd := fieldGraphC n A4 M.length c4
  go_wp2_with fail
  clear hfd
  go_loopw [5, 18] (fun v i wr => ∃ k : Nat, k ≤ M.length ∧ i = .int .i64 k ∧ Hid (wr.ownsRow w.heap.size 84 3 v k ((M.take k).flatMap edV)) ∧ Hid (wr.ownsRow w.heap.size 107 3 (.slice A4 M.length c4) M.length (M.flatMap edV)) ∧ Hid (Blk wr g 56 (grV n A l.length c)) ∧ Hid (Blk wr gz 31 [.int .i64 0, .int .i64 0, .slice none 0 0, .slice none 0 0, .slice none 0 0]) ∧ Hid (Kept [] w wr)) (fun _ i _ => M.length - (intOf i).toNat)
  case atStart => exact ⟨0, Nat.zero_le _, rfl, Lib.hid (World.ownsRow_nil _ _ _ _), HO4, HX, HZ, K0⟩
  case round =>
    clear HX HZ K0 HO4
    obtain ⟨k, hk, rfl, HO, HO4, HX, HZ, K0⟩ := hrel
    obtain ⟨v, hv⟩ : ∃ v, v = u5 := ⟨_, rfl⟩
    subst hv
    by_cases hlt : k < M.length
    · have HTK := Lib.hid (List.take_succ_eq_append_getElem hlt)
      have hml := HTL.out
      obtain ⟨b, off, rfl, hbl, c0, c1, c2⟩ := edge_at (Reads.of_own HO4.out) hlt
      obtain ⟨x, hx⟩ : ∃ x, x = M[k] := ⟨_, rfl⟩
      rw [← hx] at c0 c1 c2 HTK
      clear hx
      obtain ⟨x1, x2, x3⟩ := x
      dsimp only at c0 c1 c2
      obtain ⟨A5, c5, rfl⟩ := own_n HO.out
      go_upto_region 8 with (fail)
      have kd := Lib.hid ((Kept.refl [] wr).alloc (.cells #[.int .i64 x1, .int .i64 x2, .int .i64 x3] 107))
      have HE := Lib.hid (Blk.new wr 107 [.int .i64 x1, .int .i64 x2, .int .i64 x3])
      replace HO := Lib.hid (own_kept0 HO.out kd.out)
      replace HO4 := Lib.hid (own_kept0 HO4.out kd.out)
      replace HX := Lib.hid (HX.out.kept kd.out (by simp))
      replace HZ := Lib.hid (HZ.out.kept kd.out (by simp))
      replace K0 := Lib.hid (K0.out.trans kd.out)
      clear kd c0 c1 c2 hbl
      generalize wr.alloc (.cells #[.int .i64 x1, .int .i64 x2, .int .i64 x3] 107) = w5 at *
      generalize wr.heap.size = ge at HE ⊢
      have e0 := HE.out.cell 0
      have e1 := HE.out.cell 1
      have e2 := HE.out.cell 2
      simp only [List.getElem?_cons_zero, List.getElem?_cons_succ] at e0 e1 e2
      have hsz := K0.out.size
      go_wp2_with (first | (at_builtin; refine wpList_app _ rfl (.tmp 22) (.tmp 30) _ rfl 84 (.agg #[.int .i64 0, .int .i64 0, .int .i64 0]) 3 24 Tryz.underlying24 infoTrI rfl (by decide) w.heap.size (.slice A5 k c5) k _ rfl (HO.out.alloc _) (some ⟨_, 0, none⟩) 1 1 (edV (x1, x2, x3)) rfl rfl (Reads.of_blk (Blk.new _ _ _) (fun _ _ h => h)) (by simp [edV, Value.oneCell']) (by omega) (by unfold maxLen; omega) (by simp; omega) ?_; intro va wa howna hka hba; have HOa := Lib.hid howna; have Fa := Lib.hid (((KeptB.refl w.heap.size [84] w5).alloc _).app hka (HO.out.alloc _) (by decide)); clear howna hka hba))
      go_roundw
      case rel =>
        refine ⟨k + 1, by omega, by go_num, Lib.hid ?_, Lib.hid (own_keptB HO4.out Fa.out (by decide)), Lib.hid (HX.out.keptB Fa.out (by decide)), Lib.hid (HZ.out.keptB Fa.out (by decide)), Lib.hid (K0.out.thenB Fa.out (Nat.le_refl _))⟩
        rw [HTK.out, List.flatMap_append]
        simpa [edV] using HOa.out
      case measure => simp [intOf]; omega
    · obtain rfl : k = M.length := by omega
      rw [List.take_length] at HO
      obtain ⟨A5, c5, rfl⟩ := own_n HO.out
      have y0 := HX.out.cell 0
      simp only [List.getElem?_cons_zero, List.getElem?_cons_succ] at y0
      go_wp2_with fail
      refine (built_any n n M A5 c5 wr hn HTL.out (Reads.of_own HO.out) HTR.out).mono ?_
      rintro _ w6 ⟨v1, v2, v3, rfl, hm6, hk6⟩
      obtain ⟨B1, d1, rfl⟩ := own_n hm6.o1
      obtain ⟨B2, d2, rfl⟩ := own_n hm6.o2
      obtain ⟨B3, d3, rfl⟩ := own_n hm6.o3
      have HM := Lib.hid (hm6.le K0.out.size)
      replace HZ := Lib.hid (HZ.out.kept hk6 (by simp))
      replace K0 := Lib.hid (K0.out.trans hk6)
      clear hm6 hk6 y0
      go_wp2_with (first | (refine wpList_storeBlk rfl 31 (.tmp 2) (.tmp 38) rfl gz _ [.int .i64 n, .int .i64 n, .slice B1 (n + 1) d1, .slice B2 M.length d2, .slice B3 M.length d3] HZ.out rfl rfl rfl infoRows (by simp [Value.oneCell']) ?_; intro w8 hb8 hk8))
      have e0 := hb8.cell 0
      have e1 := hb8.cell 1
      have e2 := hb8.cell 2
      have e3 := hb8.cell 3
      have e4 := hb8.cell 4
      simp only [List.getElem?_cons_zero, List.getElem?_cons_succ] at e0 e1 e2 e3 e4
      refine bodyPost_ret (v := .tuple #[.agg #[.int .i64 n, .int .i64 n, .slice B1 (n + 1) d1, .slice B2 M.length d2, .slice B3 M.length d3], .int .i64 0]) (by simp [results, Tryz.results112, go_sem, e0, e1, e2, e3, e4]) rfl ?_
      rw [HPOST.out]
      have f8 : KeptB w.heap.size [31] w6 w8 := (KeptB.refl _ _ w6).step (L := [gz]) hk8 (fun u hu => by simp at hu; subst hu; exact ⟨HGZ.out, _, _, _, HZ.out, by simp⟩)
      exact ⟨_, rfl, _, _, _, rfl, HM.out.keptB f8 (by decide) (by decide), K0.out.thenB f8 (Nat.le_refl _)⟩
end Go.Proofs.YtblfingmdipopaaGreat

/- prog.Matrix, of graphs that edges.Plain keeps. Conditions: a plan of levels or paths of at most 60 vertices. -/
namespace Go.Proofs.YtblfingmdipopaaGreat
set_option linter.unusedSimpArgs false
set_option linter.unusedVariables false
open Go.ChangeShapes Go.WideShapes Go.ChangeAt Go.RowKit
open Go.RowKit (wrap32 wrap64)
set_option maxHeartbeats 8000000
set_option maxRecDepth 100000 in
theorem matrix_any (κ : Int) (n s : Nat) (l : List Ed) (Ag : Option Addr) (cg : Nat) (w : World) (h : PlOk κ n s) (hl : l.length ≤ 65536) (hA : Reads w Ag (l.flatMap edV)) (hR : rightP n l = 0) (hw : ∀ e ∈ l, In64 e.2.2) (hin : ∀ e ∈ l, 0 ≤ e.2.1 ∧ e.2.1 < n) (hcan : canonP (madeP oneE allE l) = l) :
    Calls Tryz.prog 72 #[.agg (plC κ n s).toArray, .agg #[.int .i64 n, .slice Ag l.length cg]] w (fun e w' => ∃ v, e = .returned (.tuple #[v, .int .i64 0]) ∧ MtPost w n n (canonP (turnL l)) (.returned v) w') := by
  have HNN := Lib.hid h.num
  have HPL := Lib.hid h
  have HL := Lib.hid hl
  have HRP := Lib.hid hR
  have HW := Lib.hid hw
  have HIN := Lib.hid hin
  have HCAN := Lib.hid hcan
  have H20 := Blk.new w 68 (plC κ n s)
  have H2 := Lib.hid ((H20.alloc (.cells ([.int .i64 n, .slice Ag l.length cg]).toArray 56)).alloc (.cells ([.int .i64 0, .int .i64 0, .slice none 0 0, .slice none 0 0, .slice none 0 0]).toArray 31))
  clear H20
  have H30 := Blk.new (w.alloc (.cells (plC κ n s).toArray 68)) 56 ([.int .i64 n, .slice Ag l.length cg])
  rw [show (w.alloc (.cells (plC κ n s).toArray 68)).heap.size = w.heap.size + 1 by simp] at H30
  have H3 := Lib.hid (H30.alloc (.cells ([.int .i64 0, .int .i64 0, .slice none 0 0, .slice none 0 0, .slice none 0 0]).toArray 31))
  clear H30
  have HZ0 := Blk.new ((w.alloc (.cells (plC κ n s).toArray 68)).alloc (.cells ([.int .i64 n, .slice Ag l.length cg]).toArray 56)) 31 ([.int .i64 0, .int .i64 0, .slice none 0 0, .slice none 0 0, .slice none 0 0])
  rw [show ((w.alloc (.cells (plC κ n s).toArray 68)).alloc (.cells ([.int .i64 n, .slice Ag l.length cg]).toArray 56)).heap.size = w.heap.size + 2 by simp] at HZ0
  have HZ := Lib.hid HZ0
  clear HZ0
  have K0 := Lib.hid ((((Kept.refl [] w).alloc (.cells (plC κ n s).toArray 68)).alloc (.cells ([.int .i64 n, .slice Ag l.length cg]).toArray 56)).alloc (.cells ([.int .i64 0, .int .i64 0, .slice none 0 0, .slice none 0 0, .slice none 0 0]).toArray 31))
  have HR := Lib.hid (hA.kept0 K0.out)
  have HGE := Lib.hid (show w.heap.size ≤ w.heap.size + 2 ∧ w.heap.size ≤ w.heap.size + 1 ∧ w.heap.size + 1 ≠ w.heap.size ∧ w.heap.size + 1 ≠ w.heap.size + 2 by omega)
  clear h hl hA hR hw hin hcan
  obtain ⟨post, hpost⟩ : ∃ post : Ending → World → Prop, post = (fun e w' => ∃ v, e = .returned (.tuple #[v, .int .i64 0]) ∧ MtPost w n n (canonP (turnL l)) (.returned v) w') := ⟨_, rfl⟩
  rw [← hpost]
  have HPOST := Lib.hid hpost
  clear hpost
  go_enter Tryz.func72, Tryz.ntmps72
  go_upto_region 1 with (fail)
  generalize (((w.alloc (.cells (plC κ n s).toArray 68)).alloc (.cells ([.int .i64 n, .slice Ag l.length cg]).toArray 56)).alloc (.cells ([.int .i64 0, .int .i64 0, .slice none 0 0, .slice none 0 0, .slice none 0 0]).toArray 31)) = w1 at *
  generalize w.heap.size + 2 = gz at HZ HGE ⊢
  generalize w.heap.size + 1 = g3 at H3 HGE ⊢
  generalize hg2 : w.heap.size = g2 at H2 ⊢
  have HG2 := Lib.hid hg2
  clear hg2
  go_wp2_with (first | (refine wpList_loadBlk rfl 68 (.tmp 2) rfl g2 (plC κ n s) _ H2.out rfl Tryz.underlying68 rfl infoPlan ?_))
  refine (pRight_any κ n s _ HPL.out).mono ?_
  rintro _ w2 ⟨rfl, hk1⟩
  replace H2 := Lib.hid (H2.out.kept hk1 (by simp))
  replace H3 := Lib.hid (H3.out.kept hk1 (by simp))
  replace HZ := Lib.hid (HZ.out.kept hk1 (by simp))
  replace HR := Lib.hid (HR.out.kept0 hk1)
  replace K0 := Lib.hid (K0.out.trans hk1)
  clear hk1
  have p0 := H2.out.cell 0
  have p1 := H2.out.cell 1
  simp only [List.getElem?_cons_zero, List.getElem?_cons_succ] at p0 p1
  have y0 := H3.out.cell 0
  simp only [List.getElem?_cons_zero, List.getElem?_cons_succ] at y0
  go_wp2_with (first | (refine wpList_loadBlk rfl 56 (.tmp 3) rfl g3 [.int .i64 n, .slice Ag l.length cg] _ H3.out rfl Tryz.underlying56 rfl infoGraph ?_))
  refine (right_any n l Ag cg _ (by have := HL.out; unfold maxLen; omega) HR.out).mono ?_
  rintro _ w3 ⟨rfl, hk1⟩
  rw [HRP.out]
  clear p0 p1 y0
  replace H2 := Lib.hid (H2.out.kept hk1 (by simp))
  replace H3 := Lib.hid (H3.out.kept hk1 (by simp))
  replace HZ := Lib.hid (HZ.out.kept hk1 (by simp))
  replace HR := Lib.hid (HR.out.kept0 hk1)
  replace K0 := Lib.hid (K0.out.trans hk1)
  clear hk1
  have p0 := H2.out.cell 0
  simp only [List.getElem?_cons_zero, List.getElem?_cons_succ] at p0
  rcases HPL.out.kind with rfl | rfl
  · go_wp2_with (first | (refine wpList_loadBlk rfl 56 (.tmp 3) rfl g3 [.int .i64 n, .slice Ag l.length cg] _ H3.out rfl Tryz.underlying56 rfl infoGraph ?_))
    refine (topP n l Ag cg _ (by have := HL.out; omega) HR.out HW.out).mono ?_
    rintro _ w4 ⟨v, rfl, ho, hk1⟩
    rw [HCAN.out] at ho
    have HO := Lib.hid ho
    clear ho
    replace H2 := Lib.hid (H2.out.kept hk1 (by simp))
    replace H3 := Lib.hid (H3.out.kept hk1 (by simp))
    replace HZ := Lib.hid (HZ.out.kept hk1 (by simp))
    replace K0 := Lib.hid (K0.out.trans hk1)
    clear hk1 HR
    obtain ⟨Ag2, cg2, rfl⟩ := own_n HO.out
    go_upto_region 16 with (first | (refine wpList_storeBlk rfl 56 (.tmp 3) (.tmp 39) rfl g3 _ [.int .i64 n, .slice Ag2 l.length cg2] H3.out rfl rfl rfl infoGraph (by simp [Value.oneCell']) ?_; intro w5 hb5 hk5))
    have f5 : KeptB w.heap.size [56] w4 w5 := (KeptB.refl _ _ w4).step (L := [g3]) hk5 (fun u hu => by simp at hu; subst hu; exact ⟨HGE.out.2.1, _, _, _, H3.out, by simp⟩)
    have HR := Lib.hid (Reads.of_own (own_keptB HO.out f5 (by decide)))
    replace HZ := Lib.hid (HZ.out.kept hk5 (by simp; exact fun e => HGE.out.2.2.2 e.symm))
    replace H3 := Lib.hid hb5
    replace K0 := Lib.hid (K0.out.thenB f5 (Nat.le_refl _))
    clear f5 hb5 hk5 HO H2 p0
    go_wp2_with (first | (refine wpList_loadBlk rfl 56 (.tmp 3) rfl g3 [.int .i64 n, .slice Ag2 l.length cg2] _ H3.out rfl Tryz.underlying56 rfl infoGraph ?_))
    refine (csrGraph_any n l Ag2 cg2 _ (by have := HNN.out; omega) (by have := HL.out; omega) HR.out HRP.out HW.out HIN.out).mono ?_
    rintro _ w9 ⟨v, rfl, v1, v2, v3, hqq, hmt, hk⟩
    injection hqq with hqq
    subst hqq
    have HM := Lib.hid (hmt.le K0.out.size)
    clear hmt
    replace HZ := Lib.hid (HZ.out.kept hk (by simp))
    replace K0 := Lib.hid (K0.out.trans hk)
    clear hk
    obtain ⟨L, hL⟩ : ∃ L, L = canonP (turnL l) := ⟨_, rfl⟩
    rw [← hL] at HM HPOST
    clear hL
    obtain ⟨b1, c1, A2, c2, A3, c3, rfl, rfl, rfl, _, _⟩ := HM.out.form
    go_wp2_with (first | (refine wpList_storeBlk rfl 31 (.tmp 4) (.tmp 42) rfl gz _ [.int .i64 n, .int .i64 n, .slice (some ⟨b1, 0, none⟩) (n + 1) c1, .slice A2 L.length c2, .slice A3 L.length c3] HZ.out rfl rfl rfl infoRows (by simp [Value.oneCell']) ?_; intro w8 hb8 hk8))
    have e0 := hb8.cell 0
    have e1 := hb8.cell 1
    have e2 := hb8.cell 2
    have e3 := hb8.cell 3
    have e4 := hb8.cell 4
    simp only [List.getElem?_cons_zero, List.getElem?_cons_succ] at e0 e1 e2 e3 e4
    refine bodyPost_ret (v := .tuple #[.agg #[.int .i64 n, .int .i64 n, .slice (some ⟨b1, 0, none⟩) (n + 1) c1, .slice A2 L.length c2, .slice A3 L.length c3], .int .i64 0]) (by simp [results, Tryz.results72, go_sem, e0, e1, e2, e3, e4]) rfl ?_
    rw [HPOST.out]
    have f8 : KeptB w.heap.size [31] w9 w8 := (KeptB.refl _ _ w9).step (L := [gz]) hk8 (fun u hu => by simp at hu; subst hu; exact ⟨HGE.out.1, _, _, _, HZ.out, by simp⟩)
    exact ⟨_, rfl, _, _, _, rfl, HM.out.keptB f8 (by decide) (by decide), K0.out.thenB f8 (Nat.le_refl _)⟩
  · go_wp2_with (first | (refine wpList_loadBlk rfl 56 (.tmp 3) rfl g3 [.int .i64 n, .slice Ag l.length cg] _ H3.out rfl Tryz.underlying56 rfl infoGraph ?_))
    refine (csrGraph_any n l Ag cg _ (by have := HNN.out; omega) (by have := HL.out; omega) HR.out HRP.out HW.out HIN.out).mono ?_
    rintro _ w9 ⟨v, rfl, v1, v2, v3, hqq, hmt, hk⟩
    injection hqq with hqq
    subst hqq
    have HM := Lib.hid (hmt.le K0.out.size)
    clear hmt
    replace HZ := Lib.hid (HZ.out.kept hk (by simp))
    replace K0 := Lib.hid (K0.out.trans hk)
    clear hk
    obtain ⟨L, hL⟩ : ∃ L, L = canonP (turnL l) := ⟨_, rfl⟩
    rw [← hL] at HM HPOST
    clear hL
    obtain ⟨b1, c1, A2, c2, A3, c3, rfl, rfl, rfl, _, _⟩ := HM.out.form
    go_wp2_with (first | (refine wpList_storeBlk rfl 31 (.tmp 4) (.tmp 42) rfl gz _ [.int .i64 n, .int .i64 n, .slice (some ⟨b1, 0, none⟩) (n + 1) c1, .slice A2 L.length c2, .slice A3 L.length c3] HZ.out rfl rfl rfl infoRows (by simp [Value.oneCell']) ?_; intro w8 hb8 hk8))
    have e0 := hb8.cell 0
    have e1 := hb8.cell 1
    have e2 := hb8.cell 2
    have e3 := hb8.cell 3
    have e4 := hb8.cell 4
    simp only [List.getElem?_cons_zero, List.getElem?_cons_succ] at e0 e1 e2 e3 e4
    refine bodyPost_ret (v := .tuple #[.agg #[.int .i64 n, .int .i64 n, .slice (some ⟨b1, 0, none⟩) (n + 1) c1, .slice A2 L.length c2, .slice A3 L.length c3], .int .i64 0]) (by simp [results, Tryz.results72, go_sem, e0, e1, e2, e3, e4]) rfl ?_
    rw [HPOST.out]
    have f8 : KeptB w.heap.size [31] w9 w8 := (KeptB.refl _ _ w9).step (L := [gz]) hk8 (fun u hu => by simp at hu; subst hu; exact ⟨HGE.out.1, _, _, _, HZ.out, by simp⟩)
    exact ⟨_, rfl, _, _, _, rfl, HM.out.keptB f8 (by decide) (by decide), K0.out.thenB f8 (Nat.le_refl _)⟩
theorem check_any (κ : Int) (n s : Nat) (l : List Ed) (Ag : Option Addr) (cg : Nat) (m : Nat) (w : World) (h : PlOk κ n s) (hl : l.length ≤ 65536) (hA : Reads w Ag (l.flatMap edV)) (hR : rightP n l = 0) (hw : ∀ e ∈ l, In64 e.2.2) (hin : ∀ e ∈ l, 0 ≤ e.2.1 ∧ e.2.1 < n) (hcan : canonP (madeP oneE allE l) = l) (hm : m ≤ 61) :
    Calls Tryz.prog 40 #[.agg (plC κ n s).toArray, .agg #[.int .i64 n, .slice Ag l.length cg], .int .i64 m] w (fun e w' => e = .returned (.int .i64 0) ∧ Kept [] w w') := by
  have HPL := Lib.hid h
  have HL := Lib.hid hl
  have HRP := Lib.hid hR
  have HW := Lib.hid hw
  have HIN := Lib.hid hin
  have HCAN := Lib.hid hcan
  have H30 := Blk.new w 68 (plC κ n s)
  have H3 := Lib.hid (H30.alloc (.cells ([.int .i64 n, .slice Ag l.length cg]).toArray 56))
  clear H30
  have H40 := Blk.new (w.alloc (.cells (plC κ n s).toArray 68)) 56 ([.int .i64 n, .slice Ag l.length cg])
  rw [show (w.alloc (.cells (plC κ n s).toArray 68)).heap.size = w.heap.size + 1 by simp] at H40
  have H4 := Lib.hid H40
  clear H40
  have K0 := Lib.hid (((Kept.refl [] w).alloc (.cells (plC κ n s).toArray 68)).alloc (.cells ([.int .i64 n, .slice Ag l.length cg]).toArray 56))
  have HR := Lib.hid (hA.kept0 K0.out)
  clear h hl hA hR hw hin hcan
  obtain ⟨post, hpost⟩ : ∃ post : Ending → World → Prop, post = (fun e w' => e = .returned (.int .i64 0) ∧ Kept [] w w') := ⟨_, rfl⟩
  rw [← hpost]
  have HPOST := Lib.hid hpost
  clear hpost
  go_enter Tryz.func40, Tryz.ntmps40
  go_upto_region 1 with (fail)
  generalize ((w.alloc (.cells (plC κ n s).toArray 68)).alloc (.cells ([.int .i64 n, .slice Ag l.length cg]).toArray 56)) = w1 at *
  generalize w.heap.size + 1 = g4 at H4 ⊢
  generalize w.heap.size = g3 at H3 ⊢
  go_wp2_with (first | (refine wpList_loadBlk rfl 68 (.tmp 3) rfl g3 (plC κ n s) _ H3.out rfl Tryz.underlying68 rfl infoPlan ?_) | (refine wpList_loadBlk rfl 56 (.tmp 4) rfl g4 [.int .i64 n, .slice Ag l.length cg] _ H4.out rfl Tryz.underlying56 rfl infoGraph ?_))
  refine (matrix_any κ n s l Ag cg _ HPL.out HL.out HR.out HRP.out HW.out HIN.out HCAN.out).mono ?_
  rintro _ w9 ⟨v, rfl, v1, v2, v3, hqq, hmt, hk⟩
  injection hqq with hqq
  subst hqq
  replace K0 := Lib.hid (K0.out.trans hk)
  obtain ⟨b1, c1, A2, c2, A3, c3, rfl, rfl, rfl, _, _⟩ := hmt.form
  clear hmt hk
  obtain ⟨L, hL⟩ : ∃ L, L = canonP (turnL l) := ⟨_, rfl⟩
  rw [← hL]
  clear hL
  go_wp2_with (first | (refine wpList_storeBlk rfl 31 (.tmp 7) (.tmp 13) rfl w9.heap.size [.int .i64 0, .int .i64 0, .slice none 0 0, .slice none 0 0, .slice none 0 0] [.int .i64 n, .int .i64 n, .slice (some ⟨b1, 0, none⟩) (n + 1) c1, .slice A2 L.length c2, .slice A3 L.length c3] (Blk.new _ _ _) rfl rfl rfl infoRows (by simp [Value.oneCell']) ?_; intro w4 hb4 hk4))
  have hk44 : Kept [] w9 w4 := ((Kept.refl [] w9).alloc (.cells #[.int .i64 0, .int .i64 0, .slice none 0 0, .slice none 0 0, .slice none 0 0] 31)).then hk4 (fun q hq => by simp at hq; subst hq; exact .inr (Nat.le_refl _))
  show post (.returned (.int .i64 0)) _
  rw [HPOST.out]
  exact ⟨rfl, K0.out.trans hk44⟩
end Go.Proofs.YtblfingmdipopaaGreat
