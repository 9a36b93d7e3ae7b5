/- prog.Asked, Live. Conditions: a plan of levels or paths of at most 60 vertices, a state of all of them. -/
import Derived.Test.YtblfingmdipopaaGreatM40
namespace Go.Proofs.YtblfingmdipopaaGreat
set_option linter.unusedSimpArgs false
set_option linter.unusedVariables false
open Go.ChangeShapes Go.WideShapes Go.ChangeAt Go.RowKit
open Go.RowKit (wrap32 wrap64)
set_option maxHeartbeats 8000000
/-- Which vertices are free, of a plan of levels. -/
def frP (A : List Int) (i : Nat) : Bool := A.getD i 0 == -1
set_option maxRecDepth 100000 in
theorem live_any (κ : Int) (n s : Nat) (Aa Ab Ao : Option Addr) (ca cb co b : Nat) (A B : List Int) (round : Int) (w : World) (h : PlOk κ n s) (hb : b < 2 ^ n) (hla : A.length = n) (hr : StRd w n Aa Ab Ao A B b) :
    Calls Tryz.prog 75 #[.agg (plC κ n s).toArray, .agg (stS n Aa Ab Ao ca cb co).toArray, .int .i64 round] w (fun e w' => ∃ m : Nat, e = .returned (.int .i64 m) ∧ (m = 0 ↔ b = 0) ∧ Kept [] w w') := by
  have HB := Lib.hid hb
  have hn := h.num
  have HPL := Lib.hid h
  have HR0 := Lib.hid hr
  have H30 := Blk.new w 68 (plC κ n s)
  have H3 := Lib.hid (H30.alloc (.cells ((stS n Aa Ab Ao ca cb co)).toArray 61))
  clear H30
  have H40 := Blk.new (w.alloc (.cells (plC κ n s).toArray 68)) 61 ((stS n Aa Ab Ao ca cb co))
  rw [show (w.alloc (.cells (plC κ n s).toArray 68)).heap.size = w.heap.size + 1 by simp] at H40
  have H4 := Lib.hid H40
  clear H40
  have K0 := Lib.hid (((Kept.refl [] w).alloc (.cells (plC κ n s).toArray 68)).alloc (.cells ((stS n Aa Ab Ao ca cb co)).toArray 61))
  clear h hb hr
  obtain ⟨post, hpost⟩ : ∃ post : Ending → World → Prop, post = (fun e w' => ∃ m : Nat, e = .returned (.int .i64 m) ∧ (m = 0 ↔ b = 0) ∧ Kept [] w w') := ⟨_, rfl⟩
  rw [← hpost]
  have HPOST := Lib.hid hpost
  clear hpost
  go_enter Tryz.func75, Tryz.ntmps75
  go_upto_region 1 with (fail)
  generalize ((w.alloc (.cells (plC κ n s).toArray 68)).alloc (.cells ((stS n Aa Ab Ao ca cb co)).toArray 61)) = w1 at *
  generalize w.heap.size + 1 = g4 at H4 ⊢
  generalize w.heap.size = g3 at H3 ⊢
  go_wp2_with (first | (refine wpList_loadBlk rfl 68 (.tmp 3) rfl g3 (plC κ n s) _ H3.out rfl Tryz.underlying68 rfl infoPlan ?_) | (refine wpList_loadBlk rfl 61 (.tmp 4) rfl g4 (stS n Aa Ab Ao ca cb co) _ H4.out rfl Tryz.underlying61 rfl infoState ?_))
  refine (sure_any κ n s Aa Ab Ao ca cb co b A B _ HPL.out HB.out (HR0.out.kept0 K0.out)).mono ?_
  rintro _ w2 ⟨rfl, hk1⟩
  replace H3 := Lib.hid (H3.out.kept hk1 (by simp))
  replace H4 := Lib.hid (H4.out.kept hk1 (by simp))
  replace K0 := Lib.hid (K0.out.trans hk1)
  clear hk1
  go_upto_region 2 with (first | (refine wpList_storeBlk rfl 61 (.tmp 4) (.tmp 12) rfl g4 _ (stS n Aa Ab Ao ca cb co) H4.out rfl rfl rfl infoState (by simp [Value.oneCell']) ?_; intro w3 hb3 hk3))
  have k3 : Kept [] w2 w3 := hk3.same H4.out hb3
  replace H3 := Lib.hid (H3.out.kept k3 (by simp))
  replace K0 := Lib.hid (K0.out.trans k3)
  replace H4 := Lib.hid hb3
  clear k3 hk3 hb3
  have p0 := H3.out.cell 0
  simp only [List.getElem?_cons_zero, List.getElem?_cons_succ] at p0
  have y0 := H4.out.cell 0
  have y1 := H4.out.cell 1
  have y2 := H4.out.cell 2
  have y4 := H4.out.cell 4
  simp only [List.getElem?_cons_zero, List.getElem?_cons_succ] at y0 y1 y2 y4
  rcases HPL.out.kind with rfl | rfl
  · go_wp2_with fail
    refine (fCount_any n b hn HB.out Ao co _ (HR0.out.kept0 K0.out).oO).mono ?_
    rintro _ w4 ⟨m, rfl, hm, hw⟩
    subst hw
    have HM := Lib.hid hm
    clear hm
    go_wp2_with fail
    show post (.returned (.int .i64 (m : Int))) _
    rw [HPOST.out]
    exact ⟨m, rfl, HM.out, K0.out⟩
  · go_wp2_with fail
    refine (fCount_any n b hn HB.out Ao co _ (HR0.out.kept0 K0.out).oO).mono ?_
    rintro _ w4 ⟨m, rfl, hm, hw⟩
    subst hw
    have HM := Lib.hid hm
    clear hm
    go_wp2_with fail
    show post (.returned (.int .i64 (m : Int))) _
    rw [HPOST.out]
    exact ⟨m, rfl, HM.out, K0.out⟩
set_option maxRecDepth 100000 in
theorem asked2_any (n s : Nat) (Aa Ab Ao : Option Addr) (ca cb co b : Nat) (A B : List Int) (round : Int) (w : World) (h : PlOk 2 n s) (hb : b < 2 ^ n) (hla : A.length = n) (hr : StRd w n Aa Ab Ao A B b) :
    Calls Tryz.prog 119 #[.agg (plC 2 n s).toArray, .agg (stS n Aa Ab Ao ca cb co).toArray, .int .i64 round] w (fun e w' => e = .returned (.tuple #[.slice none 0 0, .bool true]) ∧ Kept [] w w') := by
  have HB := Lib.hid hb
  have hn := h.num
  have HPL := Lib.hid h
  have HR0 := Lib.hid hr
  have H30 := Blk.new w 68 (plC 2 n s)
  have H3 := Lib.hid (H30.alloc (.cells ((stS n Aa Ab Ao ca cb co)).toArray 61))
  clear H30
  have H40 := Blk.new (w.alloc (.cells (plC 2 n s).toArray 68)) 61 ((stS n Aa Ab Ao ca cb co))
  rw [show (w.alloc (.cells (plC 2 n s).toArray 68)).heap.size = w.heap.size + 1 by simp] at H40
  have H4 := Lib.hid H40
  clear H40
  have K0 := Lib.hid (((Kept.refl [] w).alloc (.cells (plC 2 n s).toArray 68)).alloc (.cells ((stS n Aa Ab Ao ca cb co)).toArray 61))
  clear h hb hr
  obtain ⟨post, hpost⟩ : ∃ post : Ending → World → Prop, post = (fun e w' => e = .returned (.tuple #[.slice none 0 0, .bool true]) ∧ Kept [] w w') := ⟨_, rfl⟩
  rw [← hpost]
  have HPOST := Lib.hid hpost
  clear hpost
  go_enter Tryz.func119, Tryz.ntmps119
  go_upto_region 1 with (fail)
  generalize ((w.alloc (.cells (plC 2 n s).toArray 68)).alloc (.cells ((stS n Aa Ab Ao ca cb co)).toArray 61)) = w1 at *
  generalize w.heap.size + 1 = g4 at H4 ⊢
  generalize w.heap.size = g3 at H3 ⊢
  go_wp2_with (first | (refine wpList_loadBlk rfl 68 (.tmp 3) rfl g3 (plC 2 n s) _ H3.out rfl Tryz.underlying68 rfl infoPlan ?_) | (refine wpList_loadBlk rfl 61 (.tmp 4) rfl g4 (stS n Aa Ab Ao ca cb co) _ H4.out rfl Tryz.underlying61 rfl infoState ?_))
  refine (sure_any 2 n s Aa Ab Ao ca cb co b A B _ HPL.out HB.out (HR0.out.kept0 K0.out)).mono ?_
  rintro _ w2 ⟨rfl, hk1⟩
  replace H3 := Lib.hid (H3.out.kept hk1 (by simp))
  replace H4 := Lib.hid (H4.out.kept hk1 (by simp))
  replace K0 := Lib.hid (K0.out.trans hk1)
  clear hk1
  go_upto_region 2 with (first | (refine wpList_storeBlk rfl 61 (.tmp 4) (.tmp 14) rfl g4 _ (stS n Aa Ab Ao ca cb co) H4.out rfl rfl rfl infoState (by simp [Value.oneCell']) ?_; intro w3 hb3 hk3))
  have k3 : Kept [] w2 w3 := hk3.same H4.out hb3
  replace H3 := Lib.hid (H3.out.kept k3 (by simp))
  replace K0 := Lib.hid (K0.out.trans k3)
  replace H4 := Lib.hid hb3
  clear k3 hk3 hb3
  have p0 := H3.out.cell 0
  simp only [List.getElem?_cons_zero, List.getElem?_cons_succ] at p0
  have y0 := H4.out.cell 0
  have y1 := H4.out.cell 1
  have y2 := H4.out.cell 2
  have y4 := H4.out.cell 4
  simp only [List.getElem?_cons_zero, List.getElem?_cons_succ] at y0 y1 y2 y4
  go_wp2_with fail
  show post (.returned (.tuple #[.slice none 0 0, .bool true])) _
  rw [HPOST.out]
  exact ⟨rfl, K0.out⟩
set_option maxRecDepth 100000 in
theorem asked1_any (n s : Nat) (Aa Ab Ao : Option Addr) (ca cb co b : Nat) (A B : List Int) (round : Int) (w : World) (h : PlOk 1 n s) (hb : b < 2 ^ n) (hla : A.length = n) (hr : StRd w n Aa Ab Ao A B b) :
    Calls Tryz.prog 119 #[.agg (plC 1 n s).toArray, .agg (stS n Aa Ab Ao ca cb co).toArray, .int .i64 round] w (fun e w' => ∃ v, e = .returned (.tuple #[v, .bool false]) ∧ w'.ownsRow w.heap.size 98 1 v (wordsN n) (bitsV n (onP (frP A) n)) ∧ Kept [] w w') := by
  have HLA := Lib.hid hla
  have HB := Lib.hid hb
  have hn := h.num
  have HPL := Lib.hid h
  have HR0 := Lib.hid hr
  have H30 := Blk.new w 68 (plC 1 n s)
  have H3 := Lib.hid (H30.alloc (.cells ((stS n Aa Ab Ao ca cb co)).toArray 61))
  clear H30
  have H40 := Blk.new (w.alloc (.cells (plC 1 n s).toArray 68)) 61 ((stS n Aa Ab Ao ca cb co))
  rw [show (w.alloc (.cells (plC 1 n s).toArray 68)).heap.size = w.heap.size + 1 by simp] at H40
  have H4 := Lib.hid H40
  clear H40
  have K0 := Lib.hid (((Kept.refl [] w).alloc (.cells (plC 1 n s).toArray 68)).alloc (.cells ((stS n Aa Ab Ao ca cb co)).toArray 61))
  clear h hb hr
  obtain ⟨post, hpost⟩ : ∃ post : Ending → World → Prop, post = (fun e w' => ∃ v, e = .returned (.tuple #[v, .bool false]) ∧ w'.ownsRow w.heap.size 98 1 v (wordsN n) (bitsV n (onP (frP A) n)) ∧ Kept [] w w') := ⟨_, rfl⟩
  rw [← hpost]
  have HPOST := Lib.hid hpost
  clear hpost
  go_enter Tryz.func119, Tryz.ntmps119
  go_upto_region 1 with (fail)
  generalize ((w.alloc (.cells (plC 1 n s).toArray 68)).alloc (.cells ((stS n Aa Ab Ao ca cb co)).toArray 61)) = w1 at *
  generalize w.heap.size + 1 = g4 at H4 ⊢
  generalize w.heap.size = g3 at H3 ⊢
  go_wp2_with (first | (refine wpList_loadBlk rfl 68 (.tmp 3) rfl g3 (plC 1 n s) _ H3.out rfl Tryz.underlying68 rfl infoPlan ?_) | (refine wpList_loadBlk rfl 61 (.tmp 4) rfl g4 (stS n Aa Ab Ao ca cb co) _ H4.out rfl Tryz.underlying61 rfl infoState ?_))
  refine (sure_any 1 n s Aa Ab Ao ca cb co b A B _ HPL.out HB.out (HR0.out.kept0 K0.out)).mono ?_
  rintro _ w2 ⟨rfl, hk1⟩
  replace H3 := Lib.hid (H3.out.kept hk1 (by simp))
  replace H4 := Lib.hid (H4.out.kept hk1 (by simp))
  replace K0 := Lib.hid (K0.out.trans hk1)
  clear hk1
  go_upto_region 2 with (first | (refine wpList_storeBlk rfl 61 (.tmp 4) (.tmp 14) rfl g4 _ (stS n Aa Ab Ao ca cb co) H4.out rfl rfl rfl infoState (by simp [Value.oneCell']) ?_; intro w3 hb3 hk3))
  have k3 : Kept [] w2 w3 := hk3.same H4.out hb3
  replace H3 := Lib.hid (H3.out.kept k3 (by simp))
  replace K0 := Lib.hid (K0.out.trans k3)
  replace H4 := Lib.hid hb3
  clear k3 hk3 hb3
  have p0 := H3.out.cell 0
  simp only [List.getElem?_cons_zero, List.getElem?_cons_succ] at p0
  have y0 := H4.out.cell 0
  have y1 := H4.out.cell 1
  have y2 := H4.out.cell 2
  have y4 := H4.out.cell 4
  simp only [List.getElem?_cons_zero, List.getElem?_cons_succ] at y0 y1 y2 y4
  go_wp2_with fail
  go_loopw [24, 9] (fun i l wr => ∃ k : Nat, k ≤ n ∧ i = .int .i64 k ∧ Hid (wr.ownsRow w.heap.size 3 1 l (onL (frP A) k).length ((onL (frP A) k).map vI)) ∧ Hid (Blk wr g4 61 (stS n Aa Ab Ao ca cb co)) ∧ Hid (Kept [] w wr)) (fun i _ _ => n - (intOf i).toNat)
  case atStart => exact ⟨0, Nat.zero_le _, rfl, Lib.hid (World.ownsRow_nil _ _ _ _), H4, K0⟩
  case round =>
    clear H3 H4 K0 p0 y0 y1 y2 y4
    obtain ⟨k, hk, rfl, HL, H4, K0⟩ := hrel
    have hml := onL_len (frP A) k
    obtain ⟨l, hl⟩ : ∃ l, l = u9 := ⟨_, rfl⟩
    subst hl
    obtain ⟨Al, cl, rfl⟩ := own_n HL.out
    by_cases hlt : k < n
    · have hlk : k < A.length := by have := HLA.out; omega
      have HY := Lib.hid (onL_yes (fo := (frP A)) (k := k))
      have HN := Lib.hid (onL_no (fo := (frP A)) (k := k))
      obtain ⟨bA, oA, hAq, hbA, hcA⟩ := ints_at (HR0.out.kept0 K0.out).oA hlk
      subst hAq
      have cA := hcA k hlk
      have hge : frP A k = (A[k] == -1) := by unfold frP; rw [List.getD_eq_getElem?_getD, List.getElem?_eq_getElem hlk]; rfl
      rw [hge] at HY HN
      obtain ⟨M, hM⟩ : ∃ M, M = onL (frP A) k := ⟨_, rfl⟩
      rw [← hM] at HL HY HN hml ⊢
      clear hM hcA hge
      generalize A[k] = x at *
      have hsz := K0.out.size
      by_cases hx : x = -1
      · subst hx
        have HY2 := Lib.hid (HY.out rfl)
        clear HY HN
        go_wp2_with ((at_builtin; refine wpList_app _ rfl (.tmp 32) (.tmp 34) _ rfl 3 (.int .i64 0) 1 8 Tryz.underlying28 infoInt rfl (by decide) w.heap.size (.slice Al M.length cl) M.length _ rfl (HL.out.alloc _) (some ⟨_, 0, none⟩) 1 1 [vI (k : Int)] rfl rfl (Reads.of_blk (Blk.new _ _ _) (fun _ _ h => h)) (by simp [Value.oneCell']) (by omega) (by unfold maxLen; omega) (by simp; omega) ?_; intro va wa howna hka hba; have HOa := Lib.hid howna; have Fa := Lib.hid (((KeptB.refl w.heap.size [3] wr).alloc _).app hka (HL.out.alloc _) (by decide)); clear howna hka hba))
        go_roundw
        case rel =>
          refine ⟨k + 1, by omega, by go_num, Lib.hid ?_, Lib.hid (H4.out.keptB Fa.out (by decide)), Lib.hid (K0.out.thenB Fa.out (Nat.le_refl _))⟩
          rw [HY2.out, List.length_append, List.map_append]
          exact HOa.out
        case measure => simp [intOf]; omega
      · have hbf : (x == -1) = false := beq_false_of_ne hx
        have HY2 := Lib.hid (HN.out hbf)
        clear HY HN hx
        go_wp2_with fail
        go_roundw
        case rel => exact ⟨k + 1, by omega, by go_num, by rw [HY2.out]; exact HL, H4, K0⟩
        case measure => simp [intOf]; omega
    · obtain rfl : k = n := by omega
      have y0 := H4.out.cell 0
      have y1 := H4.out.cell 1
      simp only [List.getElem?_cons_zero, List.getElem?_cons_succ] at y0 y1
      have hwn : IntKind.i64.wrap ((k : Int) - 0) = (k : Int) := by rw [IntKind.wrap_i64]; omega
      obtain ⟨M, hM⟩ : ∃ M, M = onL (frP A) k := ⟨_, rfl⟩
      have HIN := Lib.hid (show ∀ i ∈ M, 0 ≤ i ∧ i < (k : Int) by rw [hM]; exact onL_in _ k)
      have HBP := Lib.hid (show onP (frP A) k = bitsP M by unfold onP; rw [hM])
      rw [← hM] at HL hml ⊢
      clear hM
      go_wp2_with fail
      refine (fOf_any k hn M Al cl _ (by omega) HIN.out (Reads.of_own HL.out)).mono ?_
      rintro _ w5 ⟨vO, rfl, ho, hk5⟩
      have HO := Lib.hid (own_base ho K0.out.size)
      replace K0 := Lib.hid (K0.out.trans hk5)
      clear ho hk5 y0 y1
      go_wp2_with fail
      show post (.returned (.tuple #[vO, .bool false])) _
      rw [HPOST.out]
      exact ⟨vO, rfl, by rw [HBP.out]; exact HO.out, K0.out⟩
end Go.Proofs.YtblfingmdipopaaGreat
