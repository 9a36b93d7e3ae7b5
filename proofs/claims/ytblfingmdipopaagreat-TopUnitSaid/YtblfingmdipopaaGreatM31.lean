/- prog.Begin, can, sure. Conditions: a plan of levels or paths of at most 60 vertices, a state of all of them. -/
import Derived.Test.YtblfingmdipopaaGreatM30
namespace Go.Proofs.YtblfingmdipopaaGreat
set_option linter.unusedSimpArgs false
set_option linter.unusedVariables false
open Go.ChangeShapes Go.WideShapes Go.ChangeAt Go.RowKit
open Go.RowKit (wrap32 wrap64)
set_option maxHeartbeats 8000000
set_option maxRecDepth 100000 in
theorem pBegin_any (κ : Int) (n s : Nat) (w : World) (h : PlOk κ n s) :
    Calls Tryz.prog 74 #[.agg (plC κ n s).toArray, .int .i64 0, .int .i64 (n : Int)] w (StPost w n ((List.range n).map (firstA κ s)) ((List.range n).map (fun _ => -1)) (onP (fun i => decide (i = s)) n)) := by
  have HKD := Lib.hid h
  have hn := h.num
  obtain ⟨post, hpost⟩ : ∃ post : Ending → World → Prop, post = (StPost w n ((List.range n).map (firstA κ s)) ((List.range n).map (fun _ => -1)) (onP (fun i => decide (i = s)) n)) := ⟨_, rfl⟩
  rw [← hpost]
  have HPOST := Lib.hid hpost
  clear hpost
  clear h
  have H3 := Lib.hid (((Blk.new w 68 (plC κ n s)).alloc (.cells #[.int .i64 0] 3)).alloc (.cells #[.int .i64 0, .int .i64 0, .slice none 0 0, .slice none 0 0, .slice none 0 0] 61))
  have H4 := Lib.hid ((Blk.new1F w (.cells (plC κ n s).toArray 68) 3 [.int .i64 0]).alloc (.cells #[.int .i64 0, .int .i64 0, .slice none 0 0, .slice none 0 0, .slice none 0 0] 61))
  have HZ0 := Blk.new ((w.alloc (.cells (plC κ n s).toArray 68)).alloc (.cells #[.int .i64 0] 3)) 61 [.int .i64 0, .int .i64 0, .slice none 0 0, .slice none 0 0, .slice none 0 0]
  rw [show ((w.alloc (.cells (plC κ n s).toArray 68)).alloc (.cells #[.int .i64 0] 3)).heap.size = w.heap.size + 2 by simp] at HZ0
  have HZ := Lib.hid HZ0
  clear HZ0
  have K0 := Lib.hid ((((Kept.refl [] w).alloc (.cells (plC κ n s).toArray 68)).alloc (.cells #[.int .i64 0] 3)).alloc (.cells #[.int .i64 0, .int .i64 0, .slice none 0 0, .slice none 0 0, .slice none 0 0] 61))
  have HGE := Lib.hid (show w.heap.size ≤ w.heap.size + 2 by omega)
  go_enter Tryz.func74, Tryz.ntmps74
  go_upto_region 1 with (fail)
  generalize (((w.alloc (.cells (plC κ n s).toArray 68)).alloc (.cells #[.int .i64 0] 3)).alloc (.cells #[.int .i64 0, .int .i64 0, .slice none 0 0, .slice none 0 0, .slice none 0 0] 61)) = w0 at *
  generalize w.heap.size + 2 = gz at HZ HGE ⊢
  generalize w.heap.size + 1 = g4 at H4 ⊢
  generalize w.heap.size = g3 at H3 ⊢
  have s0 := H4.out.cell 0
  simp only [List.getElem?_cons_zero, List.getElem?_cons_succ] at s0
  have x1 := H3.out.cell 1
  simp only [List.getElem?_cons_zero, List.getElem?_cons_succ] at x1
  go_wp2_with (first | (refine wpList_loadBlk rfl 68 (.tmp 3) rfl g3 (plC κ n s) _ H3.out rfl Tryz.underlying68 rfl infoPlan ?_))
  refine (pRight_any κ n s _ HKD.out).mono ?_
  rintro _ w1 ⟨rfl, hk1⟩
  replace H3 := Lib.hid (H3.out.kept hk1 (by simp))
  replace H4 := Lib.hid (H4.out.kept hk1 (by simp))
  replace HZ := Lib.hid (HZ.out.kept hk1 (by simp))
  replace K0 := Lib.hid (K0.out.trans hk1)
  clear hk1 s0 x1
  have s0 := H4.out.cell 0
  simp only [List.getElem?_cons_zero, List.getElem?_cons_succ] at s0
  have x1 := H3.out.cell 1
  simp only [List.getElem?_cons_zero, List.getElem?_cons_succ] at x1
  have hwn : IntKind.i64.wrap ((n : Int) - 0) = (n : Int) := by rw [IntKind.wrap_i64]; omega
  go_upto_region 4 with (first | (refine wpList_storeBlk rfl 61 (.tmp 7) (.tmp 29) rfl w1.heap.size [.int .i64 0, .int .i64 0, .slice none 0 0, .slice none 0 0, .slice none 0 0] [.int .i64 0, .int .i64 (n : Int), .slice none 0 0, .slice none 0 0, .slice none 0 0] (Blk.new _ _ _) rfl rfl rfl infoState (by simp [Value.oneCell']) ?_; intro w4 hb4 hk4))
  have k4 : Kept [] w1 w4 := ((Kept.refl [] w1).alloc (.cells #[.int .i64 0, .int .i64 0, .slice none 0 0, .slice none 0 0, .slice none 0 0] 61)).then hk4 (fun q hq => by simp at hq; subst hq; exact .inr (Nat.le_refl _))
  have H7 := Lib.hid hb4
  replace H3 := Lib.hid (H3.out.kept k4 (by simp))
  replace H4 := Lib.hid (H4.out.kept k4 (by simp))
  replace HZ := Lib.hid (HZ.out.kept k4 (by simp))
  replace K0 := Lib.hid (K0.out.trans k4)
  clear k4 hk4 hb4 s0 x1
  generalize w1.heap.size = g7 at H7 ⊢
  have s0 := H4.out.cell 0
  simp only [List.getElem?_cons_zero, List.getElem?_cons_succ] at s0
  go_wp2_with (first | (refine wpList_loadBlk rfl 61 (.tmp 7) rfl g7 [.int .i64 0, .int .i64 (n : Int), .slice none 0 0, .slice none 0 0, .slice none 0 0] _ H7.out rfl Tryz.underlying61 rfl infoState ?_))
  refine (changedB_any n hn (firstA κ s) (fun _ => -1) (fun i => decide (i = s)) g3 g4 (.slice none 0 0) (.slice none 0 0) (.slice none 0 0) _ (fun w' hk i hi => begin1_any κ n s i g3 g4 w' HKD.out.kind (by omega) (H3.out.kept hk (by simp)) (H4.out.kept hk (by simp)))).mono ?_
  rintro _ w5 ⟨vA, vB, vO, rfl, hst, hk5⟩
  have HS := Lib.hid (hst.le K0.out.size)
  have HZ5 := Lib.hid (HZ.out.kept hk5 (by simp))
  replace K0 := Lib.hid (K0.out.trans hk5)
  clear hst hk5 s0 HZ H3 H4 H7
  obtain ⟨Aa, ca, rfl⟩ := own_n HS.out.o1
  obtain ⟨Ab, cb, rfl⟩ := own_n HS.out.o2
  obtain ⟨Ao, co, rfl⟩ := own_n HS.out.o3
  go_wp2_with (first | (refine wpList_storeBlk rfl 61 (.tmp 6) (.tmp 35) rfl gz _ (stC n (.slice Aa n ca) (.slice Ab n cb) (.slice Ao (wordsN n) co)) HZ5.out rfl rfl rfl infoState (by simp [stC, Value.oneCell']) ?_; intro w8 hb8 hk8))
  have e0 := hb8.cell 0
  have e1 := hb8.cell 1
  have e2 := hb8.cell 2
  have e3 := hb8.cell 3
  have e4 := hb8.cell 4
  simp only [List.getElem?_cons_zero, List.getElem?_cons_succ] at e0 e1 e2 e3 e4
  refine bodyPost_ret (v := .agg (stC n (.slice Aa n ca) (.slice Ab n cb) (.slice Ao (wordsN n) co)).toArray) (by simp [results, Tryz.results74, go_sem, e0, e1, e2, e3, e4]) rfl ?_
  rw [HPOST.out]
  have f8 : KeptB w.heap.size [61] w5 w8 := (KeptB.refl _ _ w5).step (L := [gz]) hk8 (fun u hu => by simp at hu; subst hu; exact ⟨HGE.out, _, _, _, HZ5.out, by simp⟩)
  exact ⟨_, _, _, rfl, HS.out.keptB f8 (by decide) (by decide), K0.out.thenB f8 (Nat.le_refl _)⟩
/-- A state whose rows can be read. -/
structure StRd (w : World) (n : Nat) (Aa Ab Ao : Option Addr) (A B : List Int) (b : Nat) : Prop where
  oA : Reads w Aa (A.map vI)
  oB : Reads w Ab (B.map vI)
  oO : Reads w Ao (bitsV n b)
theorem StRd.kept0 {w w' : World} {n : Nat} {Aa Ab Ao : Option Addr} {A B : List Int} {b : Nat} (h : StRd w n Aa Ab Ao A B b) (k : Kept [] w w') : StRd w' n Aa Ab Ao A B b := ⟨h.oA.kept0 k, h.oB.kept0 k, h.oO.kept0 k⟩
theorem StAt.rd {w : World} {base n ca cb co : Nat} {Aa Ab Ao : Option Addr} {A B : List Int} {b : Nat} (h : StAt w base (.slice Aa n ca) (.slice Ab n cb) (.slice Ao (wordsN n) co) n A B b) : StRd w n Aa Ab Ao A B b := ⟨Reads.of_own h.o1, Reads.of_own h.o2, Reads.of_own h.o3⟩
abbrev stS (n : Nat) (Aa Ab Ao : Option Addr) (ca cb co : Nat) : List Value := stC n (.slice Aa n ca) (.slice Ab n cb) (.slice Ao (wordsN n) co)
set_option maxRecDepth 100000 in
theorem can_any (κ : Int) (n s : Nat) (Aa Ab Ao : Option Addr) (ca cb co b : Nat) (A B : List Int) (w : World) (h : PlOk κ n s) (hb : b < 2 ^ n) (hr : StRd w n Aa Ab Ao A B b) :
    Calls Tryz.prog 155 #[.agg (plC κ n s).toArray, .agg (stS n Aa Ab Ao ca cb co).toArray] w fun e w' => e = .returned (.bool true) ∧ Kept [] w w' := by
  have HKD := Lib.hid h
  have HB := Lib.hid hb
  have hn := h.num
  have HX := Lib.hid ((Blk.new w 68 (plC κ n s)).alloc (.cells (stS n Aa Ab Ao ca cb co).toArray 61))
  have HY := Lib.hid (Blk.new1F w (.cells (plC κ n s).toArray 68) 61 (stS n Aa Ab Ao ca cb co))
  have K0 := Lib.hid (((Kept.refl [] w).alloc (.cells (plC κ n s).toArray 68)).alloc (.cells (stS n Aa Ab Ao ca cb co).toArray 61))
  have HR := Lib.hid (hr.kept0 K0.out)
  clear h hb hr
  obtain ⟨post, hpost⟩ : ∃ post : Ending → World → Prop, post = fun e w' => e = .returned (.bool true) ∧ Kept [] w w' := ⟨_, rfl⟩
  rw [← hpost]
  have HPOST := Lib.hid hpost
  clear hpost
  go_enter Tryz.func155, Tryz.ntmps155
  go_upto_region 1 with (fail)
  generalize ((w.alloc (.cells (plC κ n s).toArray 68)).alloc (.cells (stS n Aa Ab Ao ca cb co).toArray 61)) = w1 at *
  generalize w.heap.size + 1 = g3 at HY ⊢
  generalize w.heap.size = g2 at HX ⊢
  go_wp2_with (first | (refine wpList_loadBlk rfl 68 (.tmp 2) rfl g2 (plC κ n s) _ HX.out rfl Tryz.underlying68 rfl infoPlan ?_))
  refine (pRight_any κ n s _ HKD.out).mono ?_
  rintro _ w2 ⟨rfl, hk1⟩
  replace HX := Lib.hid (HX.out.kept hk1 (by simp))
  replace HY := Lib.hid (HY.out.kept hk1 (by simp))
  replace HR := Lib.hid (HR.out.kept0 hk1)
  replace K0 := Lib.hid (K0.out.trans hk1)
  clear hk1
  have x1 := HX.out.cell 1
  simp only [List.getElem?_cons_zero, List.getElem?_cons_succ] at x1
  have y0 := HY.out.cell 0
  have y1 := HY.out.cell 1
  have y2 := HY.out.cell 2
  have y3 := HY.out.cell 3
  have y4 := HY.out.cell 4
  simp only [List.getElem?_cons_zero, List.getElem?_cons_succ] at y0 y1 y2 y3 y4
  have hwn : IntKind.i64.wrap ((n : Int) - 0) = (n : Int) := by rw [IntKind.wrap_i64]; omega
  go_wp2_with fail
  refine (fRight_any n b Ao co _ hn HB.out HR.out.oO).mono ?_
  rintro _ w3 ⟨rfl, hk3⟩
  replace K0 := Lib.hid (K0.out.trans hk3)
  clear hk3 x1 y0 y1 y2 y3 y4
  go_wp2_with fail
  show post (.returned (.bool true)) _
  rw [HPOST.out]
  exact ⟨rfl, K0.out⟩
set_option maxRecDepth 100000 in
theorem sure_any (κ : Int) (n s : Nat) (Aa Ab Ao : Option Addr) (ca cb co b : Nat) (A B : List Int) (w : World) (h : PlOk κ n s) (hb : b < 2 ^ n) (hr : StRd w n Aa Ab Ao A B b) :
    Calls Tryz.prog 116 #[.agg (plC κ n s).toArray, .agg (stS n Aa Ab Ao ca cb co).toArray] w fun e w' => e = .returned (.agg (stS n Aa Ab Ao ca cb co).toArray) ∧ Kept [] w w' := by
  have HKD := Lib.hid h
  have HB := Lib.hid hb
  have HX := Lib.hid (((Blk.new w 68 (plC κ n s)).alloc (.cells (stS n Aa Ab Ao ca cb co).toArray 61)).alloc (.cells #[.int .i64 0, .int .i64 0, .slice none 0 0, .slice none 0 0, .slice none 0 0] 61))
  have HY := Lib.hid ((Blk.new1F w (.cells (plC κ n s).toArray 68) 61 (stS n Aa Ab Ao ca cb co)).alloc (.cells #[.int .i64 0, .int .i64 0, .slice none 0 0, .slice none 0 0, .slice none 0 0] 61))
  have HZ0 := Blk.new ((w.alloc (.cells (plC κ n s).toArray 68)).alloc (.cells (stS n Aa Ab Ao ca cb co).toArray 61)) 61 [.int .i64 0, .int .i64 0, .slice none 0 0, .slice none 0 0, .slice none 0 0]
  rw [show ((w.alloc (.cells (plC κ n s).toArray 68)).alloc (.cells (stS n Aa Ab Ao ca cb co).toArray 61)).heap.size = w.heap.size + 2 by simp] at HZ0
  have HZ := Lib.hid HZ0
  clear HZ0
  have K0 := Lib.hid ((((Kept.refl [] w).alloc (.cells (plC κ n s).toArray 68)).alloc (.cells (stS n Aa Ab Ao ca cb co).toArray 61)).alloc (.cells #[.int .i64 0, .int .i64 0, .slice none 0 0, .slice none 0 0, .slice none 0 0] 61))
  have HR := Lib.hid (hr.kept0 K0.out)
  have HGE := Lib.hid (show w.heap.size ≤ w.heap.size + 2 by omega)
  clear h hb hr
  obtain ⟨post, hpost⟩ : ∃ post : Ending → World → Prop, post = fun e w' => e = .returned (.agg (stS n Aa Ab Ao ca cb co).toArray) ∧ Kept [] w w' := ⟨_, rfl⟩
  rw [← hpost]
  have HPOST := Lib.hid hpost
  clear hpost
  go_enter Tryz.func116, Tryz.ntmps116
  go_upto_region 1 with (fail)
  generalize (((w.alloc (.cells (plC κ n s).toArray 68)).alloc (.cells (stS n Aa Ab Ao ca cb co).toArray 61)).alloc (.cells #[.int .i64 0, .int .i64 0, .slice none 0 0, .slice none 0 0, .slice none 0 0] 61)) = w1 at *
  generalize w.heap.size + 2 = gz at HZ HGE ⊢
  generalize w.heap.size + 1 = g3 at HY ⊢
  generalize w.heap.size = g2 at HX ⊢
  go_wp2_with (first | (refine wpList_loadBlk rfl 68 (.tmp 2) rfl g2 (plC κ n s) _ HX.out rfl Tryz.underlying68 rfl infoPlan ?_) | (refine wpList_loadBlk rfl 61 (.tmp 3) rfl g3 (stS n Aa Ab Ao ca cb co) _ HY.out rfl Tryz.underlying61 rfl infoState ?_))
  refine (can_any κ n s Aa Ab Ao ca cb co b A B _ HKD.out HB.out HR.out).mono ?_
  rintro _ w2 ⟨rfl, hk1⟩
  replace HX := Lib.hid (HX.out.kept hk1 (by simp))
  replace HY := Lib.hid (HY.out.kept hk1 (by simp))
  replace HZ := Lib.hid (HZ.out.kept hk1 (by simp))
  replace K0 := Lib.hid (K0.out.trans hk1)
  clear hk1
  go_wp2_with (first | (refine wpList_loadBlk rfl 61 (.tmp 3) rfl g3 (stS n Aa Ab Ao ca cb co) _ HY.out rfl Tryz.underlying61 rfl infoState ?_) | (refine wpList_storeBlk rfl 61 (.tmp 4) (.tmp 8) rfl gz _ (stS n Aa Ab Ao ca cb co) HZ.out rfl rfl rfl infoState (by simp [Value.oneCell']) ?_; intro w8 hb8 hk8))
  have e0 := hb8.cell 0
  have e1 := hb8.cell 1
  have e2 := hb8.cell 2
  have e3 := hb8.cell 3
  have e4 := hb8.cell 4
  simp only [List.getElem?_cons_zero, List.getElem?_cons_succ] at e0 e1 e2 e3 e4
  refine bodyPost_ret (v := .agg (stS n Aa Ab Ao ca cb co).toArray) (by simp [results, Tryz.results116, go_sem, e0, e1, e2, e3, e4]) rfl ?_
  rw [HPOST.out]
  have f8 : KeptB w.heap.size [61] w2 w8 := (KeptB.refl _ _ w2).step (L := [gz]) hk8 (fun u hu => by simp at hu; subst hu; exact ⟨HGE.out, _, _, _, HZ.out, by simp⟩)
  exact ⟨rfl, K0.out.thenB f8 (Nat.le_refl _)⟩
/-- What a vertex tells. -/
def tellV (κ : Int) (i : Nat) (x : Int) : Int := if κ = 1 then (i : Int) else x
set_option maxRecDepth 100000 in
theorem tells_any (κ : Int) (n s i : Nat) (Aa Ab Ao : Option Addr) (ca cb co b : Nat) (A B : List Int) (x round : Int) (w : World) (h : PlOk κ n s) (hb : b < 2 ^ n) (hi : i < n) (hx : A[i]? = some x) (hr : StRd w n Aa Ab Ao A B b) :
    Calls Tryz.prog 159 #[.agg (plC κ n s).toArray, .agg (stS n Aa Ab Ao ca cb co).toArray, .int .i64 round, .int .i64 (i : Int)] w fun e w' => e = .returned (.tuple #[.int .i64 (tellV κ i x), .bool (b.testBit i)]) ∧ Kept [] w w' := by
  have HKD := Lib.hid h.kind
  have HB := Lib.hid hb
  have hn := h.num
  obtain ⟨hil, rfl⟩ := List.getElem?_eq_some_iff.1 hx
  have HX := Lib.hid ((Blk.new w 68 (plC κ n s)).alloc (.cells (stS n Aa Ab Ao ca cb co).toArray 61))
  have HY := Lib.hid (Blk.new1F w (.cells (plC κ n s).toArray 68) 61 (stS n Aa Ab Ao ca cb co))
  have K0 := Lib.hid (((Kept.refl [] w).alloc (.cells (plC κ n s).toArray 68)).alloc (.cells (stS n Aa Ab Ao ca cb co).toArray 61))
  have HR := Lib.hid (hr.kept0 K0.out)
  clear h hb hr hx
  obtain ⟨post, hpost⟩ : ∃ post : Ending → World → Prop, post = fun e w' => e = .returned (.tuple #[.int .i64 (tellV κ i A[i]), .bool (b.testBit i)]) ∧ Kept [] w w' := ⟨_, rfl⟩
  rw [← hpost]
  have HPOST := Lib.hid hpost
  clear hpost
  go_enter Tryz.func159, Tryz.ntmps159
  go_upto_region 1 with (fail)
  generalize ((w.alloc (.cells (plC κ n s).toArray 68)).alloc (.cells (stS n Aa Ab Ao ca cb co).toArray 61)) = w1 at *
  generalize w.heap.size + 1 = g3 at HY ⊢
  generalize w.heap.size = g2 at HX ⊢
  have x0 := HX.out.cell 0
  simp only [List.getElem?_cons_zero, List.getElem?_cons_succ] at x0
  have y0 := HY.out.cell 0
  have y2 := HY.out.cell 2
  have y4 := HY.out.cell 4
  simp only [List.getElem?_cons_zero, List.getElem?_cons_succ] at y0 y2 y4
  go_wp2_with fail
  refine (fHas_w n b i Ao co _ hn HB.out hi HR.out.oO).mono ?_
  rintro _ w2 ⟨rfl, nq, hw2⟩
  have hk1 : Kept [] w1 w2 := by rw [hw2]; exact (Kept.refl [] w1).drewN nq
  clear hw2 x0 y0 y2 y4
  replace HX := Lib.hid (HX.out.kept hk1 (by simp))
  replace HY := Lib.hid (HY.out.kept hk1 (by simp))
  replace HR := Lib.hid (HR.out.kept0 hk1)
  replace K0 := Lib.hid (K0.out.trans hk1)
  clear hk1
  obtain ⟨bA, oA, hAq, hbA, hcA⟩ := ints_at HR.out.oA hil
  subst hAq
  have cA := hcA i hil
  clear hcA HB
  have x0 := HX.out.cell 0
  simp only [List.getElem?_cons_zero, List.getElem?_cons_succ] at x0
  have y0 := HY.out.cell 0
  have y2 := HY.out.cell 2
  have y4 := HY.out.cell 4
  simp only [List.getElem?_cons_zero, List.getElem?_cons_succ] at y0 y2 y4
  generalize A[i] = x at *
  generalize b.testBit i = f at *
  have hwi : IntKind.i64.wrap (0 + (i : Int)) = (i : Int) := by rw [IntKind.wrap_i64]; omega
  rcases HKD.out with rfl | rfl
  · go_wp2_with fail
    show post (.returned (.tuple #[.int .i64 (i : Int), .bool f])) _
    rw [HPOST.out]
    exact ⟨by simp [tellV], K0.out⟩
  · go_wp2_with fail
    show post (.returned (.tuple #[.int .i64 x, .bool f])) _
    rw [HPOST.out]
    exact ⟨by simp [tellV], K0.out⟩
end Go.Proofs.YtblfingmdipopaaGreat
