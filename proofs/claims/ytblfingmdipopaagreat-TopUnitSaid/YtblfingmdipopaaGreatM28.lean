/- devec.New, devec.Of: a vector as a dense one. Conditions: the vector can be, and has fewer than 61 places. -/
import Derived.Test.YtblfingmdipopaaGreatM27
namespace Go.Proofs.YtblfingmdipopaaGreat
set_option linter.unusedSimpArgs false
set_option linter.unusedVariables false
open Go.ChangeShapes Go.WideShapes Go.ChangeAt Go.RowKit
open Go.RowKit (wrap32 wrap64)
set_option maxHeartbeats 8000000
theorem fNewO_any (N : Nat) (hN : N ≤ 60) (w : World) :
    Calls Tryz.prog 100 #[.int .i64 N] w fun e w' => ∃ v, e = .returned v ∧ w'.ownsRow w.heap.size 98 1 v (wordsN N) (bitsV N 0) ∧ Kept [] w w' :=
  (fNew_any N hN w).mono fun e w' ⟨g, he, hg, hb, hk⟩ => ⟨_, he, by
    have hw1 := wordsN_le N
    have h1 : List.replicate (wordsN N) (Value.int .u64 0) = bitsV N 0 := by
      unfold wordsN bitsV
      split <;> rfl
    rw [h1] at hb
    exact own_of_blk hb hg (bitsV_len N 0) (by unfold maxLen; omega), hk⟩
set_option maxRecDepth 100000 in
theorem dNew_any (N : Nat) (hN : N ≤ 60) (w : World) : Calls Tryz.prog 60 #[.int .i64 N] w (DnPost w N 0 (List.replicate N 0)) := by
  obtain ⟨post, hpost⟩ : ∃ post : Ending → World → Prop, post = DnPost w N 0 (List.replicate N 0) := ⟨_, rfl⟩
  rw [← hpost]
  have HPOST := Lib.hid hpost
  clear hpost
  have HZ := Lib.hid (Blk.new w 48 [.int .i64 0, .slice none 0 0, .slice none 0 0])
  have K0 := Lib.hid ((Kept.refl [] w).alloc (.cells #[.int .i64 0, .slice none 0 0, .slice none 0 0] 48))
  have HGZ := Lib.hid (show w.heap.size ≤ w.heap.size from Nat.le_refl _)
  have h1 : ¬ (N : Int) < 0 := by omega
  have h2 : ¬ (4096 : Int) < (N : Int) := by omega
  go_enter Tryz.func60, Tryz.ntmps60
  go_upto_region 1 with (fail)
  generalize w.alloc (.cells #[.int .i64 0, .slice none 0 0, .slice none 0 0] 48) = w1 at *
  generalize hgq : w.heap.size = gz at HZ ⊢
  rw [hgq] at HGZ
  have HGE := Lib.hid (show w.heap.size ≤ gz by omega)
  clear hgq HGZ
  go_upto_region 3 with (fail)
  clear h1 h2
  refine wp_region_held_drew (S := (fun _ => True)) (by kernel_rfl) ?_ (fun hHeld => ?_)
  · trivial
  replace HZ := Lib.hid (HZ.out.kept (Kept.refl [] w1).drew (by simp))
  replace K0 := Lib.hid (K0.out.trans (Kept.refl [] w1).drew)
  generalize w1.drew = w6 at *
  refine tkYes (i := 0) (v := ?_) rfl rfl (by kernel_rfl) (by kernel_rfl) (by kernel_rfl) (fun _ _ _ h => h) (by rfl) ?_ (by assumption) ?_
  rotate_left
  · (intro w' hSw; (try dsimp only at hSw); go_simp; try with_reducible rfl)
  try simp only [Act.put, List.setIfInBounds_toArray, List.set_cons_zero, List.set_cons_succ]
  refine tkYes (i := 1) (v := ?_) rfl rfl (by kernel_rfl) (by kernel_rfl) (by kernel_rfl) (fun _ _ _ h => h) (by rfl) ?_ (by assumption) ?_
  rotate_left
  · (intro w' hSw; (try dsimp only at hSw); go_simp; try with_reducible rfl)
  try simp only [Act.put, List.setIfInBounds_toArray, List.set_cons_zero, List.set_cons_succ]
  refine tkYes (i := 3) (v := ?_) rfl rfl (by kernel_rfl) (by kernel_rfl) (by kernel_rfl) (fun _ _ _ h => h) (by rfl) ?_ (by assumption) ?_
  rotate_left
  · (intro w' hSw; (try dsimp only at hSw); go_simp; try with_reducible rfl)
  try simp only [Act.put, List.setIfInBounds_toArray, List.set_cons_zero, List.set_cons_succ]
  refine wpAnyH_ready (rs := [2, 4]) (by kernel_rfl) (by simp) ?_
  refine AllReadyH.cons rfl (fun K hK => ?_) (AllReadyH.cons rfl (fun K hK => ?_) AllReadyH.nil)
  · go_simp
    refine (fNewO_any N hN _).mono ?_
    rintro _ y1 ⟨vh, rfl, ho, hk⟩
    have HH := Lib.hid (own_base ho K0.out.size)
    replace HZ := Lib.hid (HZ.out.kept hk (by simp))
    replace K0 := Lib.hid (K0.out.trans hk)
    clear ho hk
    obtain ⟨Ah, ch, rfl⟩ := own_n HH.out
    go_wp2_with fail
    refine hK.out _ _ ?_ (fun hHeld => ?_)
    · trivial
    clear hK K
    try simp only [Act.put, List.setIfInBounds_toArray, List.set_cons_zero, List.set_cons_succ]
    refine wpAnyH_ready (rs := [4]) (by kernel_rfl) (by simp) ?_
    refine AllReadyH.cons rfl (fun K hK => ?_) AllReadyH.nil
    refine stpMk rfl (.tmp 12) (.tmp 12) _ rfl 2 (.int .i64 0) 8 Tryz.underlying29 infoI64 rfl .i64 .i64 _ _ N rfl rfl (by simp) (by simp) (by omega) (by unfold maxLen; omega) ?_
    intro y2 hblk hk
    have HVB := Lib.hid hblk
    have HGV := Lib.hid K0.out.size
    replace HZ := Lib.hid (HZ.out.kept hk (by simp))
    replace HH := Lib.hid (own_kept0 HH.out hk)
    replace K0 := Lib.hid (K0.out.trans hk)
    clear hblk hk
    go_simp
    refine hK.out _ _ ?_ (fun hHeld => ?_)
    · trivial
    clear hK K
    try simp only [Act.put, List.setIfInBounds_toArray, List.set_cons_zero, List.set_cons_succ]
    refine tkYes (i := 5) (v := ?_) rfl rfl (by kernel_rfl) (by kernel_rfl) (by kernel_rfl) (fun _ _ _ h => h) (by rfl) ?_ (by assumption) ?_
    rotate_left
    · (intro w' hSw; (try dsimp only at hSw); go_simp; try with_reducible rfl)
    try simp only [Act.put, List.setIfInBounds_toArray, List.set_cons_zero, List.set_cons_succ]
    refine wpAnyH_ready (rs := [6]) (by kernel_rfl) (by simp) ?_
    refine AllReadyH.cons rfl (fun K hK => ?_) AllReadyH.nil
    refine stpBlk rfl 48 (.tmp 2) (.tmp 14) rfl gz _ [.int .i64 N, .slice Ah (wordsN N) ch, .slice (some ⟨y1.heap.size, 0, none⟩) N N] HZ.out rfl rfl rfl infoDense (by simp [Value.oneCell']) ?_
    intro w8 hb8 hk8
    go_simp
    refine hK.out _ _ ?_ (fun hHeld => ?_)
    · trivial
    clear hK K
    try simp only [Act.put, List.setIfInBounds_toArray, List.set_cons_zero, List.set_cons_succ]
    refine wpAnyH_done (by kernel_rfl) ?_ _
    go_wp2_with fail
    have e0 := hb8.cell 0
    have e1 := hb8.cell 1
    have e2 := hb8.cell 2
    simp only [List.getElem?_cons_zero, List.getElem?_cons_succ] at e0 e1 e2
    refine bodyPost_ret (v := .agg #[.int .i64 N, .slice Ah (wordsN N) ch, .slice (some ⟨y1.heap.size, 0, none⟩) N N]) (by simp [results, Tryz.results60, go_sem, e0, e1, e2]) rfl ?_
    rw [HPOST.out]
    have f8 : KeptB w.heap.size [48] y2 w8 := (KeptB.refl _ _ y2).step (L := [gz]) hk8 (fun u hu => by simp at hu; subst hu; exact ⟨HGE.out, _, _, _, HZ.out, by simp⟩)
    have HV2 := own_of_blk (n := N) HVB.out HGV.out (by simp) (by unfold maxLen; omega)
    refine ⟨_, _, rfl, ⟨own_keptB HH.out f8 (by decide), ?_⟩, K0.out.thenB f8 (Nat.le_refl _)⟩
    have := own_keptB HV2 f8 (by decide)
    simpa using this
  · refine stpMk rfl (.tmp 12) (.tmp 12) _ rfl 2 (.int .i64 0) 8 Tryz.underlying29 infoI64 rfl .i64 .i64 _ _ N rfl rfl (by simp) (by simp) (by omega) (by unfold maxLen; omega) ?_
    intro y1 hblk hk
    have HVB := Lib.hid hblk
    have HGV := Lib.hid K0.out.size
    replace HZ := Lib.hid (HZ.out.kept hk (by simp))
    replace K0 := Lib.hid (K0.out.trans hk)
    clear hblk hk
    go_simp
    refine hK.out _ _ ?_ (fun hHeld => ?_)
    · trivial
    clear hK K
    try simp only [Act.put, List.setIfInBounds_toArray, List.set_cons_zero, List.set_cons_succ]
    refine wpAnyH_ready (rs := [2]) (by kernel_rfl) (by simp) ?_
    refine AllReadyH.cons rfl (fun K hK => ?_) AllReadyH.nil
    go_simp
    refine (fNewO_any N hN _).mono ?_
    rintro _ y2 ⟨vh, rfl, ho, hk⟩
    have HH := Lib.hid (own_base ho K0.out.size)
    replace HZ := Lib.hid (HZ.out.kept hk (by simp))
    replace HVB := Lib.hid (HVB.out.kept hk (by simp))
    replace K0 := Lib.hid (K0.out.trans hk)
    clear ho hk
    obtain ⟨Ah, ch, rfl⟩ := own_n HH.out
    go_wp2_with fail
    refine hK.out _ _ ?_ (fun hHeld => ?_)
    · trivial
    clear hK K
    try simp only [Act.put, List.setIfInBounds_toArray, List.set_cons_zero, List.set_cons_succ]
    refine tkYes (i := 5) (v := ?_) rfl rfl (by kernel_rfl) (by kernel_rfl) (by kernel_rfl) (fun _ _ _ h => h) (by rfl) ?_ (by assumption) ?_
    rotate_left
    · (intro w' hSw; (try dsimp only at hSw); go_simp; try with_reducible rfl)
    try simp only [Act.put, List.setIfInBounds_toArray, List.set_cons_zero, List.set_cons_succ]
    refine wpAnyH_ready (rs := [6]) (by kernel_rfl) (by simp) ?_
    refine AllReadyH.cons rfl (fun K hK => ?_) AllReadyH.nil
    refine stpBlk rfl 48 (.tmp 2) (.tmp 14) rfl gz _ [.int .i64 N, .slice Ah (wordsN N) ch, .slice (some ⟨w6.heap.size, 0, none⟩) N N] HZ.out rfl rfl rfl infoDense (by simp [Value.oneCell']) ?_
    intro w8 hb8 hk8
    go_simp
    refine hK.out _ _ ?_ (fun hHeld => ?_)
    · trivial
    clear hK K
    try simp only [Act.put, List.setIfInBounds_toArray, List.set_cons_zero, List.set_cons_succ]
    refine wpAnyH_done (by kernel_rfl) ?_ _
    go_wp2_with fail
    have e0 := hb8.cell 0
    have e1 := hb8.cell 1
    have e2 := hb8.cell 2
    simp only [List.getElem?_cons_zero, List.getElem?_cons_succ] at e0 e1 e2
    refine bodyPost_ret (v := .agg #[.int .i64 N, .slice Ah (wordsN N) ch, .slice (some ⟨w6.heap.size, 0, none⟩) N N]) (by simp [results, Tryz.results60, go_sem, e0, e1, e2]) rfl ?_
    rw [HPOST.out]
    have f8 : KeptB w.heap.size [48] y2 w8 := (KeptB.refl _ _ y2).step (L := [gz]) hk8 (fun u hu => by simp at hu; subst hu; exact ⟨HGE.out, _, _, _, HZ.out, by simp⟩)
    have HV2 := own_of_blk (n := N) HVB.out HGV.out (by simp) (by unfold maxLen; omega)
    refine ⟨_, _, rfl, ⟨own_keptB HH.out f8 (by decide), ?_⟩, K0.out.thenB f8 (Nat.le_refl _)⟩
    have := own_keptB HV2 f8 (by decide)
    simpa using this
set_option maxRecDepth 100000 in
theorem dOf_any (N : Nat) (hN : N ≤ 60) (X : List Ed) (A : Option Addr) (c : Nat) (w : World) (hok : VcOk N X) (hr : Reads w A (X.flatMap itV)) :
    Calls Tryz.prog 120 #[.agg #[.int .i64 N, .slice A X.length c]] w (DnPost w N (bitsP (atsP X)) (valsP N X)) := by
  have HR := Lib.hid hr
  have HOK := Lib.hid hok
  have hln := hok.len
  clear hr hok
  obtain ⟨post, hpost⟩ : ∃ post : Ending → World → Prop, post = DnPost w N (bitsP (atsP X)) (valsP N X) := ⟨_, rfl⟩
  rw [← hpost]
  have HPOST := Lib.hid hpost
  clear hpost
  have HX := Lib.hid ((Blk.new w 35 [.int .i64 N, .slice A X.length c]).alloc (.cells #[.int .i64 0, .slice none 0 0, .slice none 0 0] 48))
  have HZ := Lib.hid (Blk.new1F w (.cells #[.int .i64 N, .slice A X.length c] 35) 48 [.int .i64 0, .slice none 0 0, .slice none 0 0])
  have K0 := Lib.hid (((Kept.refl [] w).alloc (.cells #[.int .i64 N, .slice A X.length c] 35)).alloc (.cells #[.int .i64 0, .slice none 0 0, .slice none 0 0] 48))
  have HGE := Lib.hid (show w.heap.size ≤ w.heap.size + 1 by omega)
  go_enter Tryz.func120, Tryz.ntmps120
  go_upto_region 1 with (fail)
  generalize ((w.alloc (.cells #[.int .i64 N, .slice A X.length c] 35)).alloc (.cells #[.int .i64 0, .slice none 0 0, .slice none 0 0] 48)) = w1 at *
  generalize w.heap.size + 1 = gz at HZ HGE ⊢
  generalize w.heap.size = g1 at HX ⊢
  go_wp2_with (first | (refine wpList_loadBlk rfl 35 (.tmp 1) rfl g1 [.int .i64 N, .slice A X.length c] _ HX.out rfl Tryz.underlying35 rfl infoVec ?_))
  refine (sRight_any N c X A w1 HOK.out (HR.out.kept0 K0.out)).mono ?_
  rintro _ w2 ⟨rfl, hk2⟩
  replace HX := Lib.hid (HX.out.kept hk2 (by simp))
  replace HZ := Lib.hid (HZ.out.kept hk2 (by simp))
  replace K0 := Lib.hid (K0.out.trans hk2)
  clear hk2
  have y0 := HX.out.cell 0
  simp only [List.getElem?_cons_zero] at y0
  go_wp2_with fail
  refine (dNew_any N hN _).mono ?_
  rintro _ w4 ⟨vh, vv, rfl, hd, hk4⟩
  have HD := Lib.hid (hd.le K0.out.size)
  replace HX := Lib.hid (HX.out.kept hk4 (by simp))
  replace HZ := Lib.hid (HZ.out.kept hk4 (by simp))
  replace K0 := Lib.hid (K0.out.trans hk4)
  clear hd hk4 y0
  obtain ⟨Ah, ch, rfl⟩ := own_n HD.out.o1
  obtain ⟨Av, cv, rfl⟩ := own_n HD.out.o2
  go_upto_region 4 with (first | (refine wpList_storeBlk rfl 48 (.tmp 3) (.tmp 12) rfl w4.heap.size [.int .i64 0, .slice none 0 0, .slice none 0 0] [.int .i64 N, .slice Ah (wordsN N) ch, .slice Av N cv] (Blk.new _ _ _) rfl rfl rfl infoDense (by simp [Value.oneCell']) ?_; intro w5 hb5 hk5))
  have k5 : Kept [] w4 w5 := ((Kept.refl [] w4).alloc (.cells #[.int .i64 0, .slice none 0 0, .slice none 0 0] 48)).then hk5 (fun q hq => by simp at hq; subst hq; exact .inr (Nat.le_refl _))
  have HG := Lib.hid hb5
  have HG3 := Lib.hid (show w.heap.size ≤ w4.heap.size ∧ gz ≠ w4.heap.size from ⟨K0.out.size, by have := HZ.out.lt; omega⟩)
  replace HX := Lib.hid (HX.out.kept k5 (by simp))
  replace HZ := Lib.hid (HZ.out.kept k5 (by simp))
  replace HD := Lib.hid (HD.out.kept0 k5)
  replace K0 := Lib.hid (K0.out.trans k5)
  clear k5 hk5 hb5
  generalize w4.heap.size = g3 at HG HG3 ⊢
  have HV := Lib.hid HD.out.o2
  have hv0 : (valsP N (X.take 0)) = List.replicate N 0 := rfl
  rw [← hv0] at HV
  clear HD hv0
  have y1 := HX.out.cell 1
  simp only [List.getElem?_cons_zero, List.getElem?_cons_succ] at y1
  go_wp2_with fail
  clear y1
  go_loopw [16] (fun x wr => ∃ k : Nat, k ≤ X.length ∧ x = .int .i64 k ∧ Hid (wr.ownsRow w.heap.size 2 1 (.slice Av N cv) N ((valsP N (X.take k)).map vI)) ∧ Hid (Blk wr g3 48 [.int .i64 N, .slice Ah (wordsN N) ch, .slice Av N cv]) ∧ Hid (Blk wr g1 35 [.int .i64 N, .slice A X.length c]) ∧ Hid (Blk wr gz 48 [.int .i64 0, .slice none 0 0, .slice none 0 0]) ∧ Hid (Kept [] w wr)) (fun x _ => X.length - (intOf x).toNat)
  case atStart => exact ⟨0, Nat.zero_le _, rfl, HV, HG, HX, HZ, K0⟩
  case round =>
    clear HV HG HX HZ K0
    obtain ⟨k, hk, rfl, HV, HG, HX, HZ, K0⟩ := hrel
    by_cases hlt : k < X.length
    · have HTK := Lib.hid (List.take_succ_eq_append_getElem hlt)
      have hi := HOK.out.inn X[k] (List.getElem_mem _)
      obtain ⟨b, off, rfl, hbl, c0, c1⟩ := it_at (HR.out.kept0 K0.out) hlt
      obtain ⟨x, hx⟩ : ∃ x, x = X[k] := ⟨_, rfl⟩
      rw [← hx] at c0 c1 HTK hi
      clear hx
      obtain ⟨x1, x2, x3⟩ := x
      dsimp only at c0 c1 hi
      obtain ⟨p, rfl⟩ := Int.eq_ofNat_of_zero_le hi.2.1
      have hpN : p < N := by omega
      clear hi hbl
      go_upto_region 7 with (fail)
      have HE := Lib.hid (Blk.new wr 38 [.int .i64 (p : Int), .int .i64 x3])
      have hka := (Kept.refl [] wr).alloc (.cells #[.int .i64 (p : Int), .int .i64 x3] 38)
      replace HX := Lib.hid (HX.out.kept hka (by simp))
      replace HZ := Lib.hid (HZ.out.kept hka (by simp))
      replace HG := Lib.hid (HG.out.kept hka (by simp))
      replace HV := Lib.hid (own_kept0 HV.out hka)
      replace K0 := Lib.hid (K0.out.trans hka)
      clear hka c0 c1
      generalize wr.alloc (.cells #[.int .i64 (p : Int), .int .i64 x3] 38) = wa at *
      generalize wr.heap.size = g11 at HE ⊢
      obtain ⟨gv, hAv⟩ : ∃ gv, Av = some ⟨gv, 0, none⟩ := by
        obtain ⟨gv, cap, e, _⟩ := own_ptr HV.out (by omega)
        injection e with e
        exact ⟨gv, e⟩
      subst hAv
      have HVT := Lib.hid (show w.heap.size ≤ gv ∧ ∃ cs t fr, wa.heap[gv]? = some (.cells cs t fr) ∧ t ∈ [2] from by
        rcases HV.out.2 with ⟨h0, _⟩ | ⟨g', cap, cur, e, hb, hg, _⟩
        · cases h0
        · injection e with e
          injection e with e
          injection e with e
          subst e
          exact ⟨hb, _, _, _, hg, by simp⟩)
      have HS := Lib.hid (own_setCell HV.out p (vI x3))
      have hpl : p < (valsP N (X.take k)).length := by rw [valsP_len]; exact hpN
      obtain ⟨q, hq⟩ : ∃ q, (valsP N (X.take k))[p]? = some q := ⟨_, List.getElem?_eq_getElem hpl⟩
      have f0 := (HS.out.2.1 (vI q) (by rw [List.getElem?_map, hq]; rfl)).2
      have z0 := (HS.out.2.1 (vI q) (by rw [List.getElem?_map, hq]; rfl)).1
      clear hq
      have lv := HS.out.2.2
      have e0 := HE.out.cell 0
      have e1 := HE.out.cell 1
      have d2 := HG.out.cell 2
      simp only [List.getElem?_cons_zero, List.getElem?_cons_succ] at e0 e1 d2
      clear hpl
      go_upto_region 8 with (fail)
      have HV2 := Lib.hid HS.out.1
      have ko := (Kept.refl [gv] wa).setCell (p := ⟨gv, p, none⟩) (.inl (by simp)) (vI x3)
      have fo : KeptB w.heap.size [2] wa (wa.setCell ⟨gv, p, none⟩ (vI x3)) := (KeptB.refl _ _ wa).step ko (fun u hu => by simp at hu; subst hu; exact HVT.out)
      clear f0 z0 lv e0 e1 d2 HS
      replace HG := Lib.hid (HG.out.keptB fo (by decide))
      replace HX := Lib.hid (HX.out.keptB fo (by decide))
      replace HZ := Lib.hid (HZ.out.keptB fo (by decide))
      replace K0 := Lib.hid (K0.out.thenB fo (Nat.le_refl _))
      clear fo ko HV HVT HE
      generalize wa.setCell ⟨gv, p, none⟩ (vI x3) = wb at *
      go_wp2_with fail
      go_roundw
      case rel =>
        refine ⟨k + 1, by omega, by go_num, Lib.hid ?_, HG, HX, HZ, K0⟩
        rw [HTK.out, valsP_snoc]
        have := HV2.out
        simpa [List.map_set] using this
      case measure => simp [intOf]; omega
    · obtain rfl : k = X.length := by omega
      rw [List.take_length] at HV
      have HAI := Lib.hid (fun i hi => by
        obtain ⟨e, he, rfl⟩ := List.mem_map.1 hi
        exact (HOK.out.inn e he).2 : ∀ i ∈ atsP X, 0 ≤ i ∧ i < (N : Int))
      have HLN := Lib.hid (show (atsP X).length = X.length by simp)
      go_upto_region 9 with (fail)
      refine wp_region_held_drew (S := (fun w' => w'.cell? ⟨g1, 0, none⟩ = some (.int .i64 N) ∧ w'.rangeAt g1 0 [.int .i64 N, .slice A X.length c])) (by kernel_rfl) ?_ (fun hHeld => ?_)
      · exact ⟨HX.out.drew.cell 0, HX.out.drew.cell2⟩
      replace HX := Lib.hid (HX.out.kept (Kept.refl [] wr).drew (by simp))
      replace HZ := Lib.hid (HZ.out.kept (Kept.refl [] wr).drew (by simp))
      replace HG := Lib.hid (HG.out.kept (Kept.refl [] wr).drew (by simp))
      replace HV := Lib.hid (own_kept0 HV.out (Kept.refl [] wr).drew)
      replace K0 := Lib.hid (K0.out.trans (Kept.refl [] wr).drew)
      generalize wr.drew = w6 at *
      refine tkYes (i := 0) (v := ?_) rfl rfl (by kernel_rfl) (by kernel_rfl) (by kernel_rfl) (fun _ _ _ h => h) (by rfl) ?_ (by assumption) ?_
      rotate_left
      · (intro w' hSw; (try dsimp only at hSw); go_simp; try with_reducible rfl)
      try simp only [Act.put, List.setIfInBounds_toArray, List.set_cons_zero, List.set_cons_succ]
      refine tkYes (i := 1) (v := ?_) rfl rfl (by kernel_rfl) (by kernel_rfl) (by kernel_rfl) (fun _ _ _ h => h) (by rfl) ?_ (by assumption) ?_
      rotate_left
      · (intro w' hSw; (try dsimp only at hSw); go_simp; try with_reducible rfl)
      try simp only [Act.put, List.setIfInBounds_toArray, List.set_cons_zero, List.set_cons_succ]
      refine tkLoad (i := 2) 35 (.tmp 1) g1 (0) [.int .i64 N, .slice A X.length c] _ rfl rfl (by kernel_rfl) (by kernel_rfl) (by kernel_rfl) (fun _ _ _ h => h) (by rfl) rfl rfl (fun w hw => hw.2) Tryz.underlying35 rfl infoVec (by assumption) ?_
      try simp only [Act.put, List.setIfInBounds_toArray, List.set_cons_zero, List.set_cons_succ]
      refine wpAnyH_ready (rs := [3]) (by kernel_rfl) (by simp) ?_
      refine AllReadyH.cons rfl (fun K hK => ?_) AllReadyH.nil
      go_simp
      refine (places_any N c X A _ HOK.out (HR.out.kept0 K0.out)).mono ?_
      rintro _ q1 ⟨v6, rfl, ho, hk⟩
      have HP := Lib.hid ho
      replace HX := Lib.hid (HX.out.kept hk (by simp))
      replace HZ := Lib.hid (HZ.out.kept hk (by simp))
      replace HG := Lib.hid (HG.out.kept hk (by simp))
      replace HV := Lib.hid (own_kept0 HV.out hk)
      replace K0 := Lib.hid (K0.out.trans hk)
      clear ho hk
      obtain ⟨Ap, cp, rfl⟩ := own_n HP.out
      go_wp2_with fail
      refine hK.out _ _ ?_ (fun hHeld => ?_)
      · exact ⟨HX.out.cell 0, HX.out.cell2⟩
      clear hK K
      try simp only [Act.put, List.setIfInBounds_toArray, List.set_cons_zero, List.set_cons_succ]
      refine wpAnyH_ready (rs := [4]) (by kernel_rfl) (by simp) ?_
      refine AllReadyH.cons rfl (fun K hK => ?_) AllReadyH.nil
      go_simp
      have HOF := Lib.hid (fOf_any N hN (atsP X) Ap cp q1 (by rw [HLN.out]; exact hln) HAI.out (Reads.of_own HP.out))
      rw [HLN.out] at HOF
      refine HOF.out.mono ?_
      rintro _ q2 ⟨v7, rfl, ho, hk⟩
      have HH := Lib.hid (own_base ho K0.out.size)
      replace HX := Lib.hid (HX.out.kept hk (by simp))
      replace HZ := Lib.hid (HZ.out.kept hk (by simp))
      replace HG := Lib.hid (HG.out.kept hk (by simp))
      replace HV := Lib.hid (own_kept0 HV.out hk)
      replace K0 := Lib.hid (K0.out.trans hk)
      clear ho hk HOF HP
      obtain ⟨Ab, cb, rfl⟩ := own_n HH.out
      go_wp2_with fail
      refine hK.out _ _ ?_ (fun hHeld => ?_)
      · exact ⟨HX.out.cell 0, HX.out.cell2⟩
      clear hK K
      try simp only [Act.put, List.setIfInBounds_toArray, List.set_cons_zero, List.set_cons_succ]
      refine tkYes (i := 5) (v := ?_) rfl rfl (by kernel_rfl) (by kernel_rfl) (by kernel_rfl) (fun _ _ _ h => h) (by rfl) ?_ (by assumption) ?_
      rotate_left
      · (intro w' hSw; (try dsimp only at hSw); go_simp; try with_reducible rfl)
      try simp only [Act.put, List.setIfInBounds_toArray, List.set_cons_zero, List.set_cons_succ]
      refine wpAnyH_ready (rs := [6]) (by kernel_rfl) (by simp) ?_
      refine AllReadyH.cons rfl (fun K hK => ?_) AllReadyH.nil
      have f1 := HG.out.frozen 1
      have l3 := HG.out.lt
      have d1 := HG.out.cell 1
      simp only [List.getElem?_cons_zero, List.getElem?_cons_succ] at d1
      go_simp
      clear f1 l3 d1
      have ko := (Kept.refl [g3] q2).setCell (p := ⟨g3, 1, none⟩) (.inl (by simp)) (.slice Ab (wordsN N) cb)
      have fo : KeptB w.heap.size [48] q2 (q2.setCell ⟨g3, 1, none⟩ (.slice Ab (wordsN N) cb)) := (KeptB.refl _ _ q2).step ko (fun u hu => by simp at hu; subst hu; exact ⟨HG3.out.1, _, _, _, HG.out, by simp⟩)
      replace HX := Lib.hid (HX.out.keptB fo (by decide))
      replace HZ := Lib.hid (HZ.out.kept ko (by simp; exact HG3.out.2))
      replace HV := Lib.hid (own_keptB HV.out fo (by decide))
      replace HH := Lib.hid (own_keptB HH.out fo (by decide))
      replace HG := Lib.hid (HG.out.set 1 (.slice Ab (wordsN N) cb))
      simp only [List.set_cons_zero, List.set_cons_succ] at HG
      replace K0 := Lib.hid (K0.out.thenB fo (Nat.le_refl _))
      clear ko fo
      generalize q2.setCell ⟨g3, 1, none⟩ (.slice Ab (wordsN N) cb) = q3 at *
      refine hK.out _ _ ?_ (fun hHeld => ?_)
      · exact ⟨HX.out.cell 0, HX.out.cell2⟩
      clear hK K
      try simp only [Act.put, List.setIfInBounds_toArray, List.set_cons_zero, List.set_cons_succ]
      refine wpAnyH_done (by kernel_rfl) ?_ _
      go_wp2_with (first | (refine wpList_loadBlk rfl 48 (.tmp 3) rfl g3 [.int .i64 N, .slice Ab (wordsN N) cb, .slice Av N cv] _ HG.out rfl Tryz.underlying48 rfl infoDense ?_) | (refine wpList_storeBlk rfl 48 (.tmp 2) (.tmp 34) rfl gz _ [.int .i64 N, .slice Ab (wordsN N) cb, .slice Av N cv] HZ.out rfl rfl rfl infoDense (by simp [Value.oneCell']) ?_; intro w8 hb8 hk8))
      have e0 := hb8.cell 0
      have e1 := hb8.cell 1
      have e2 := hb8.cell 2
      simp only [List.getElem?_cons_zero, List.getElem?_cons_succ] at e0 e1 e2
      refine bodyPost_ret (v := .agg #[.int .i64 N, .slice Ab (wordsN N) cb, .slice Av N cv]) (by simp [results, Tryz.results120, go_sem, e0, e1, e2]) rfl ?_
      rw [HPOST.out]
      have f8 : KeptB w.heap.size [48] q3 w8 := (KeptB.refl _ _ q3).step (L := [gz]) hk8 (fun u hu => by simp at hu; subst hu; exact ⟨HGE.out, _, _, _, HZ.out, by simp⟩)
      exact ⟨_, _, rfl, ⟨own_keptB HH.out f8 (by decide), own_keptB HV.out f8 (by decide)⟩, K0.out.thenB f8 (Nat.le_refl _)⟩
end Go.Proofs.YtblfingmdipopaaGreat
