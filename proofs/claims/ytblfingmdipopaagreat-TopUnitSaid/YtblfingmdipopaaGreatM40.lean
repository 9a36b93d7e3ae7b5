/- prog.Out. Conditions: a plan of levels or paths of at most 60 vertices, a state of all of them. -/
import Derived.Test.YtblfingmdipopaaGreatM39
namespace Go.Proofs.YtblfingmdipopaaGreat
set_option linter.unusedSimpArgs false
set_option linter.unusedVariables false
open Go.ChangeShapes Go.WideShapes Go.ChangeAt Go.RowKit
open Go.RowKit (wrap32 wrap64)
set_option maxHeartbeats 8000000
/-- What vertices tell. -/
def outL (κ : Int) (A : List Int) (b k : Nat) : List Ed := (List.range k).filterMap (fun i => if b.testBit i then some ((0 : Int), (i : Int), tellV κ i (A.getD i 0)) else none)
theorem outL_yes (κ : Int) (A : List Int) (b k : Nat) (h : b.testBit k = true) : outL κ A b (k + 1) = outL κ A b k ++ [(0, (k : Int), tellV κ k (A.getD k 0))] := by
  simp [outL, List.range_succ, List.filterMap_append, h]
theorem outL_no (κ : Int) (A : List Int) (b k : Nat) (h : b.testBit k = false) : outL κ A b (k + 1) = outL κ A b k := by
  simp [outL, List.range_succ, List.filterMap_append, h]
theorem outL_len (κ : Int) (A : List Int) (b k : Nat) : (outL κ A b k).length ≤ k := by
  unfold outL
  exact Nat.le_trans (List.length_filterMap_le _ _) (by simp)
set_option maxRecDepth 100000 in
theorem out_any (κ : Int) (n s : Nat) (Aa Ab Ao : Option Addr) (ca cb co b : Nat) (A B : List Int) (round : Int) (w : World) (h : PlOk κ n s) (hb : b < 2 ^ n) (hla : A.length = n) (hr : StRd w n Aa Ab Ao A B b) :
    Calls Tryz.prog 121 #[.agg (plC κ n s).toArray, .agg (stS n Aa Ab Ao ca cb co).toArray, .int .i64 round] w (VcPost w n (outL κ A b n)) := by
  have HPL := Lib.hid h
  have HB := Lib.hid hb
  have hn := h.num
  have HLA := Lib.hid hla
  have HR0 := Lib.hid hr
  have H30 := Blk.new w 68 (plC κ n s)
  have H3 := Lib.hid ((H30.alloc (.cells ((stS n Aa Ab Ao ca cb co)).toArray 61)).alloc (.cells ([.int .i64 0, .slice none 0 0]).toArray 35))
  clear H30
  have H40 := Blk.new (w.alloc (.cells (plC κ n s).toArray 68)) 61 ((stS n Aa Ab Ao ca cb co))
  rw [show (w.alloc (.cells (plC κ n s).toArray 68)).heap.size = w.heap.size + 1 by simp] at H40
  have H4 := Lib.hid (H40.alloc (.cells ([.int .i64 0, .slice none 0 0]).toArray 35))
  clear H40
  have HZ0 := Blk.new ((w.alloc (.cells (plC κ n s).toArray 68)).alloc (.cells ((stS n Aa Ab Ao ca cb co)).toArray 61)) 35 ([.int .i64 0, .slice none 0 0])
  rw [show ((w.alloc (.cells (plC κ n s).toArray 68)).alloc (.cells ((stS n Aa Ab Ao ca cb co)).toArray 61)).heap.size = w.heap.size + 2 by simp] at HZ0
  have HZ := Lib.hid HZ0
  clear HZ0
  have K0 := Lib.hid ((((Kept.refl [] w).alloc (.cells (plC κ n s).toArray 68)).alloc (.cells ((stS n Aa Ab Ao ca cb co)).toArray 61)).alloc (.cells ([.int .i64 0, .slice none 0 0]).toArray 35))
  have HGE := Lib.hid (show w.heap.size ≤ w.heap.size + 2 ∧ w.heap.size ≤ w.heap.size + 1 ∧ w.heap.size ≠ w.heap.size + 1 ∧ w.heap.size + 2 ≠ w.heap.size + 1 ∧ w.heap.size + 3 = w.heap.size + 3 by omega)
  have HS3 := Lib.hid (show (((w.alloc (.cells (plC κ n s).toArray 68)).alloc (.cells ((stS n Aa Ab Ao ca cb co)).toArray 61)).alloc (.cells ([.int .i64 0, .slice none 0 0]).toArray 35)).heap.size = w.heap.size + 3 by simp)
  clear h hb hr hla
  obtain ⟨post, hpost⟩ : ∃ post : Ending → World → Prop, post = (VcPost w n (outL κ A b n)) := ⟨_, rfl⟩
  rw [← hpost]
  have HPOST := Lib.hid hpost
  clear hpost
  go_enter Tryz.func121, Tryz.ntmps121
  go_upto_region 1 with (fail)
  generalize (((w.alloc (.cells (plC κ n s).toArray 68)).alloc (.cells ((stS n Aa Ab Ao ca cb co)).toArray 61)).alloc (.cells ([.int .i64 0, .slice none 0 0]).toArray 35)) = w1 at *
  generalize w.heap.size + 2 = gz at HZ HGE ⊢
  generalize w.heap.size + 1 = g4 at H4 HGE ⊢
  generalize hg3 : w.heap.size = g3 at H3 ⊢
  rw [hg3] at HGE
  have HG3 := Lib.hid hg3
  clear hg3
  go_wp2_with (first | (refine wpList_loadBlk rfl 68 (.tmp 3) rfl g3 (plC κ n s) _ H3.out rfl Tryz.underlying68 rfl infoPlan ?_) | (refine wpList_loadBlk rfl 61 (.tmp 4) rfl g4 (stS n Aa Ab Ao ca cb co) _ H4.out rfl Tryz.underlying61 rfl infoState ?_))
  refine (sure_any κ n s Aa Ab Ao ca cb co b A B _ HPL.out HB.out (HR0.out.kept0 K0.out)).mono ?_
  rintro _ w2 ⟨rfl, hk1⟩
  replace H3 := Lib.hid (H3.out.kept hk1 (by simp))
  replace H4 := Lib.hid (H4.out.kept hk1 (by simp))
  replace HZ := Lib.hid (HZ.out.kept hk1 (by simp))
  replace K0 := Lib.hid (K0.out.trans hk1)
  clear hk1 HS3
  go_upto_region 2 with (first | (refine wpList_storeBlk rfl 61 (.tmp 4) (.tmp 13) rfl g4 _ (stS n Aa Ab Ao ca cb co) H4.out rfl rfl rfl infoState (by simp [Value.oneCell']) ?_; intro w3 hb3 hk3))
  have k3 : Kept [] w2 w3 := hk3.same H4.out hb3
  replace H3 := Lib.hid (H3.out.kept k3 (by simp))
  replace HZ := Lib.hid (HZ.out.kept k3 (by simp))
  replace K0 := Lib.hid (K0.out.trans k3)
  replace H4 := Lib.hid hb3
  clear k3 hk3 hb3
  have y0 := H4.out.cell 0
  have y1 := H4.out.cell 1
  simp only [List.getElem?_cons_zero, List.getElem?_cons_succ] at y0 y1
  have hwn : IntKind.i64.wrap ((n : Int) - 0) = (n : Int) := by rw [IntKind.wrap_i64]; omega
  go_upto_region 3 with (first | (refine wpList_storeBlk rfl 35 (.tmp 7) (.tmp 19) rfl w3.heap.size [.int .i64 0, .slice none 0 0] [.int .i64 n, .slice none 0 0] (Blk.new _ _ _) rfl rfl rfl infoVec (by simp [Value.oneCell']) ?_; intro w4 hb4 hk4))
  have hk44 : Kept [] w3 w4 := ((Kept.refl [] w3).alloc (.cells #[.int .i64 0, .slice none 0 0] 35)).then hk4 (fun q hq => by simp at hq; subst hq; exact .inr (Nat.le_refl _))
  have HG := Lib.hid hb4
  have HG9 := Lib.hid (show w.heap.size ≤ w3.heap.size ∧ gz ≠ w3.heap.size ∧ g4 ≠ w3.heap.size ∧ g3 ≠ w3.heap.size from ⟨K0.out.size, by have := HZ.out.lt; omega, by have := H4.out.lt; omega, by have := H3.out.lt; omega⟩)
  replace H3 := Lib.hid (H3.out.kept hk44 (by simp))
  replace H4 := Lib.hid (H4.out.kept hk44 (by simp))
  replace HZ := Lib.hid (HZ.out.kept hk44 (by simp))
  replace K0 := Lib.hid (K0.out.trans hk44)
  clear hk44 hk4 hb4 y0 y1
  generalize w3.heap.size = g9 at HG HG9 ⊢
  have d0 := HG.out.cell 0
  simp only [List.getElem?_cons_zero] at d0
  go_wp2_with fail
  go_loopw [22] (fun i wr => ∃ k : Nat, k ≤ n ∧ i = .int .i64 k ∧ ∃ v, Hid (wr.ownsRow w.heap.size 38 2 v (outL κ A b k).length ((outL κ A b k).flatMap itV)) ∧ Hid (Blk wr g9 35 [.int .i64 n, v]) ∧ Hid (Blk wr gz 35 [.int .i64 0, .slice none 0 0]) ∧ Hid (Blk wr g3 68 (plC κ n s)) ∧ Hid (Blk wr g4 61 (stS n Aa Ab Ao ca cb co)) ∧ Hid (Kept [] w wr)) (fun i _ => n - (intOf i).toNat)
  case atStart => exact ⟨0, Nat.zero_le _, rfl, _, Lib.hid (World.ownsRow_nil _ _ _ _), HG, HZ, H3, H4, K0⟩
  case round =>
    clear HG HZ H3 H4 K0 d0
    obtain ⟨k, hk, rfl, v, HI, HG, HZ, H3, H4, K0⟩ := hrel
    by_cases hlt : k < n
    · have HY := Lib.hid (outL_yes κ A b k)
      have HN := Lib.hid (outL_no κ A b k)
      have hil := outL_len κ A b k
      obtain ⟨I, hI⟩ : ∃ I, I = outL κ A b k := ⟨_, rfl⟩
      rw [← hI] at HY HN HI hil
      clear hI
      obtain ⟨A7, c7, rfl⟩ := own_n HI.out
      go_wp2_with (first | (refine wpList_loadBlk rfl 68 (.tmp 3) rfl g3 (plC κ n s) _ H3.out rfl Tryz.underlying68 rfl infoPlan ?_) | (refine wpList_loadBlk rfl 61 (.tmp 4) rfl g4 (stS n Aa Ab Ao ca cb co) _ H4.out rfl Tryz.underlying61 rfl infoState ?_))
      refine (tells_any κ n s k Aa Ab Ao ca cb co b A B (A.getD k 0) round _ HPL.out HB.out hlt (by have := HLA.out; rw [List.getD_eq_getElem?_getD, List.getElem?_eq_getElem (by omega)]; rfl) (HR0.out.kept0 K0.out)).mono ?_
      rintro _ w6 ⟨rfl, hk6⟩
      replace H3 := Lib.hid (H3.out.kept hk6 (by simp))
      replace H4 := Lib.hid (H4.out.kept hk6 (by simp))
      replace HZ := Lib.hid (HZ.out.kept hk6 (by simp))
      replace HG := Lib.hid (HG.out.kept hk6 (by simp))
      replace HI := Lib.hid (own_kept0 HI.out hk6)
      replace K0 := Lib.hid (K0.out.trans hk6)
      clear hk6
      obtain ⟨x, hx⟩ : ∃ x, x = tellV κ k (A.getD k 0) := ⟨_, rfl⟩
      rw [← hx] at HY ⊢
      clear hx
      obtain ⟨f, hf⟩ : ∃ f, f = b.testBit k := ⟨_, rfl⟩
      rw [← hf] at HY HN ⊢
      clear hf
      cases f with
      | false =>
        have HY2 := Lib.hid (HN.out rfl)
        clear HY HN
        go_wp2_with fail
        go_roundw
        case rel => exact ⟨k + 1, by omega, by go_num, _, by rw [HY2.out]; exact HI, HG, HZ, H3, H4, K0⟩
        case measure => simp [intOf]; omega
      | true =>
        have HTK := Lib.hid (HY.out rfl)
        clear HY HN
        have d1 := HG.out.cell 1
        have lg := HG.out.lt
        have hsz := K0.out.size
        simp only [List.getElem?_cons_zero, List.getElem?_cons_succ] at d1
        go_wp2_with ((at_builtin; refine wpList_app _ rfl (.tmp 35) (.tmp 39) _ rfl 38 (.agg #[.int .i64 0, .int .i64 0]) 2 16 Tryz.underlying27 infoItem rfl (by decide) w.heap.size (.slice A7 I.length c7) I.length _ rfl (HI.out.alloc _) (some ⟨_, 0, none⟩) 1 1 (itV (0, (k : Int), x)) rfl rfl (Reads.of_blk (Blk.new _ _ _) (fun _ _ h => h)) (by simp [Value.oneCell']) (by omega) (by unfold maxLen; omega) (by simp; omega) ?_; intro va wa howna hka hba; have HOa := Lib.hid howna; have Fa := Lib.hid (((KeptB.refl w.heap.size [38] w6).alloc _).app hka (HI.out.alloc _) (by decide)); clear howna hka hba; obtain ⟨A8, c8, rfl⟩ := own_n HOa.out; have HGa := Lib.hid (HG.out.keptB Fa.out (by decide)); have fa := HGa.out.frozen 1; have da := HGa.out.cell 1; have la := HGa.out.lt; simp only [List.getElem?_cons_zero, List.getElem?_cons_succ] at da))
        clear fa da la d1 lg hsz
        replace HZ := Lib.hid (HZ.out.keptB Fa.out (by decide))
        replace H3 := Lib.hid (H3.out.keptB Fa.out (by decide))
        replace H4 := Lib.hid (H4.out.keptB Fa.out (by decide))
        replace K0 := Lib.hid (K0.out.thenB Fa.out (Nat.le_refl _))
        replace HG := HGa
        replace HI := HOa
        clear HGa HOa Fa
        have ko := (Kept.refl [g9] wa).setCell (p := ⟨g9, 1, none⟩) (.inl (by simp)) (.slice A8 (I.length + 1) c8)
        replace HI := Lib.hid (own_kept HI.out ko (fun u hu => by simp; rintro rfl; exact own_ne_blk HI.out HG.out (by decide) hu))
        replace HZ := Lib.hid (HZ.out.kept ko (by simp; exact HG9.out.2.1))
        replace H3 := Lib.hid (H3.out.kept ko (by simp; exact HG9.out.2.2.2))
        replace H4 := Lib.hid (H4.out.kept ko (by simp; exact HG9.out.2.2.1))
        replace HG := Lib.hid (HG.out.set 1 (.slice A8 (I.length + 1) c8))
        simp only [List.set_cons_zero, List.set_cons_succ] at HG
        replace K0 := Lib.hid (K0.out.then ko (fun u hu => by simp at hu; subst hu; exact .inr HG9.out.1))
        clear ko
        generalize wa.setCell ⟨g9, 1, none⟩ (.slice A8 (I.length + 1) c8) = wb at *
        go_wp2_with fail
        go_roundw
        case rel =>
          refine ⟨k + 1, by omega, by go_num, _, Lib.hid ?_, HG, HZ, H3, H4, K0⟩
          have := HI.out
          rw [HTK.out, List.flatMap_append]
          simpa using this
        case measure => simp [intOf]; omega
    · obtain rfl : k = n := by omega
      obtain ⟨A7, c7, rfl⟩ := own_n HI.out
      obtain ⟨I, hI⟩ : ∃ I, I = outL κ A b k := ⟨_, rfl⟩
      rw [← hI] at HI HG HPOST
      clear hI
      go_wp2_with (first | (refine wpList_loadBlk rfl 35 (.tmp 7) rfl g9 [.int .i64 k, .slice A7 I.length c7] _ HG.out rfl Tryz.underlying35 rfl infoVec ?_) | (refine wpList_storeBlk rfl 35 (.tmp 6) (.tmp 43) rfl gz _ [.int .i64 k, .slice A7 I.length c7] HZ.out rfl rfl rfl infoVec (by simp [Value.oneCell']) ?_; intro w8 hb8 hk8))
      have e0 := hb8.cell 0
      have e1 := hb8.cell 1
      simp only [List.getElem?_cons_zero, List.getElem?_cons_succ] at e0 e1
      refine bodyPost_ret (v := .agg #[.int .i64 k, .slice A7 I.length c7]) (by simp [results, Tryz.results121, go_sem, e0, e1]) rfl ?_
      rw [HPOST.out]
      have f8 : KeptB w.heap.size [35] wr w8 := (KeptB.refl _ _ wr).step (L := [gz]) hk8 (fun u hu => by simp at hu; subst hu; exact ⟨by rw [HG3.out]; exact HGE.out.1, _, _, _, HZ.out, by simp⟩)
      exact ⟨_, rfl, own_keptB HI.out f8 (by decide), K0.out.thenB f8 (Nat.le_refl _)⟩
end Go.Proofs.YtblfingmdipopaaGreat
