/- fretworkref10.Of: a vector as a dense one; what it holds. Conditions: the vector can be, and has fewer than 61 places. -/
import Derived.Test.YtblfingmdipopaaGreatK29
namespace Go.Proofs.YtblfingmdipopaaGreat
set_option linter.unusedSimpArgs false
set_option linter.unusedVariables false
open Go.ChangeShapes Go.WideShapes Go.ChangeAt Go.RowKit
open Go.RowKit (wrap32 wrap64)
set_option maxHeartbeats 8000000

/-- The places of a vector. -/
abbrev atsP (X : List Ed) : List Int := X.map (fun e => e.2.1)
/-- The bits and the values hold just the vector's items. -/
structure DnOk (N : Nat) (X : List Ed) (b : Nat) (V : List Int) : Prop where
  lt : b < 2 ^ N
  len : V.length = N
  has : ∀ i : Nat, b.testBit i = decide ((i : Int) ∈ atsP X)
  val : ∀ e ∈ X, V[e.2.1.toNat]? = some e.2.2
  non : ∀ i : Nat, i < N → (i : Int) ∉ atsP X → V[i]? = some 0
theorem vals_get (N : Nat) : ∀ (X : List Ed) (V : List Int), (∀ e ∈ X, 0 ≤ e.2.1) → (atsP X).Nodup →
    (∀ e ∈ X, e.2.1.toNat < V.length → (X.foldl (fun V e => V.set e.2.1.toNat e.2.2) V)[e.2.1.toNat]? = some e.2.2) ∧ (∀ i : Nat, (i : Int) ∉ atsP X → (X.foldl (fun V e => V.set e.2.1.toNat e.2.2) V)[i]? = V[i]?)
  | [], V, _, _ => ⟨fun e he => (by cases he), fun i _ => rfl⟩
  | x :: X, V, h0, hn => by
    have hn2 := List.nodup_cons.1 hn
    obtain ⟨h1, h2⟩ := vals_get N X (V.set x.2.1.toNat x.2.2) (fun e he => h0 e (by simp [he])) hn2.2
    have hx := h0 x (by simp)
    refine ⟨fun e he hl => ?_, fun i hi => ?_⟩
    · rw [List.foldl_cons]
      rcases List.mem_cons.1 he with rfl | he
      · rw [h2 _ (by rw [Int.toNat_of_nonneg hx]; exact hn2.1)]
        rw [List.getElem?_set_self hl]
      · exact h1 e he (by simpa using hl)
    · rw [List.foldl_cons, h2 i (fun h => hi (by simp only [atsP, List.map_cons, List.mem_cons]; exact .inr h))]
      rw [List.getElem?_set_ne]
      intro he
      apply hi
      simp only [atsP, List.map_cons, List.mem_cons]
      left
      omega
theorem ats_nodup {N : Nat} {X : List Ed} (h : VcOk N X) : (atsP X).Nodup := by
  unfold List.Nodup atsP
  rw [List.pairwise_map]
  refine List.Pairwise.imp_of_mem (fun {a b} ha hb hk => ?_) h.rises
  have h1 := (h.inn a ha).1
  have h2 := (h.inn b hb).1
  simp [keyLt] at hk
  omega
theorem dn_ok {N : Nat} {X : List Ed} (h : VcOk N X) : DnOk N X (bitsP (atsP X)) (valsP N X) := by
  have h0 : ∀ e ∈ X, 0 ≤ e.2.1 := fun e he => (h.inn e he).2.1
  have hin : ∀ i ∈ atsP X, 0 ≤ i ∧ i < N := fun i hi => by
    obtain ⟨e, he, rfl⟩ := List.mem_map.1 hi
    exact (h.inn e he).2
  obtain ⟨h1, h2⟩ := vals_get N X (List.replicate N 0) h0 (ats_nodup h)
  refine ⟨bitsP_lt N _ hin, valsP_len N X, fun i => bitsP_test i _ (fun i hi => (hin i hi).1), fun e he => h1 e he ?_, fun i hi hni => ?_⟩
  · have := (h.inn e he).2
    simp
    omega
  · exact (h2 i hni).trans (by simp [hi])

set_option maxRecDepth 100000 in
theorem refOf10_any (N : Nat) (hN : N ≤ 60) (X : List Ed) (A : Option Addr) (c : Nat) (w : World) (hok : VcOk N X) (hr : Reads w A (X.flatMap itV)) :
    Calls Tryz.prog 11 #[.agg #[.int .i64 N, .slice A X.length c]] w (DnPost w N (bitsP (atsP X)) (valsP N X)) := by
  have HR := Lib.hid hr
  have HOK := Lib.hid hok
  have hln := hok.len
  clear hr hok
  obtain ⟨post, hpost⟩ : ∃ post : Ending → World → Prop, post = DnPost w N (bitsP (atsP X)) (valsP N X) := ⟨_, rfl⟩
  rw [← hpost]
  have HPOST := Lib.hid hpost
  clear hpost
  have HX := Lib.hid ((Blk.new w 35 [.int .i64 N, .slice A X.length c]).alloc (.cells #[.int .i64 0, .slice none 0 0, .slice none 0 0] 48))
  have HZ := Lib.hid (Blk.new1F w (.cells #[.int .i64 N, .slice A X.length c] 35) 48 [.int .i64 0, .slice none 0 0, .slice none 0 0])
  have K0 := Lib.hid (((Kept.refl [] w).alloc (.cells #[.int .i64 N, .slice A X.length c] 35)).alloc (.cells #[.int .i64 0, .slice none 0 0, .slice none 0 0] 48))
  have HGE := Lib.hid (show w.heap.size ≤ w.heap.size + 1 by omega)
  have HG1 := Lib.hid (show w.heap.size ≤ w.heap.size from Nat.le_refl _)
  go_enter Tryz.func11, Tryz.ntmps11
  go_upto_region 1 with (fail)
  generalize ((w.alloc (.cells #[.int .i64 N, .slice A X.length c] 35)).alloc (.cells #[.int .i64 0, .slice none 0 0, .slice none 0 0] 48)) = w1 at *
  generalize w.heap.size + 1 = gz at HZ HGE ⊢
  generalize hgq : w.heap.size = g1 at HX ⊢
  rw [hgq] at HG1
  have HGX := Lib.hid (show w.heap.size ≤ g1 by omega)
  clear hgq HG1
  go_wp2_with (first | (refine wpList_loadBlk rfl 35 (.tmp 1) rfl g1 [.int .i64 N, .slice A X.length c] _ HX.out rfl Tryz.underlying35 rfl infoVec ?_))
  refine (refSure9_any N X A c w1 HOK.out (HR.out.kept0 K0.out)).mono ?_
  rintro _ w2 ⟨rfl, hk2⟩
  replace HX := Lib.hid (HX.out.kept hk2 (by simp))
  replace HZ := Lib.hid (HZ.out.kept hk2 (by simp))
  replace K0 := Lib.hid (K0.out.trans hk2)
  clear hk2
  go_upto_region 2 with (first | (refine wpList_storeBlk rfl 35 (.tmp 1) (.tmp 7) rfl g1 _ [.int .i64 N, .slice A X.length c] HX.out rfl rfl rfl infoVec (by simp [Value.oneCell']) ?_; intro w3 hb3 hk3))
  have f3 : KeptB w.heap.size [35] w2 w3 := (KeptB.refl _ _ w2).step (L := [g1]) hk3 (fun u hu => by simp at hu; subst hu; exact ⟨HGX.out, _, _, _, HX.out, by simp⟩)
  replace HZ := Lib.hid (HZ.out.keptB f3 (by decide))
  replace HX := Lib.hid hb3
  replace K0 := Lib.hid (K0.out.thenB f3 (Nat.le_refl _))
  clear f3 hb3 hk3
  have y0 := HX.out.cell 0
  have y1 := HX.out.cell 1
  simp only [List.getElem?_cons_zero, List.getElem?_cons_succ] at y0 y1
  go_wp2_with fail
  refine (refNew10_any N hN _).mono ?_
  rintro _ w4 ⟨vh, vv, rfl, hd, hk4⟩
  have HD := Lib.hid (hd.le K0.out.size)
  replace HX := Lib.hid (HX.out.kept hk4 (by simp))
  replace HZ := Lib.hid (HZ.out.kept hk4 (by simp))
  replace K0 := Lib.hid (K0.out.trans hk4)
  clear hd hk4 y0 y1
  obtain ⟨Ah, ch, rfl⟩ := own_n HD.out.o1
  obtain ⟨Av, cv, rfl⟩ := own_n HD.out.o2
  go_upto_region 3 with (first | (refine wpList_storeBlk rfl 48 (.tmp 3) (.tmp 10) rfl w4.heap.size [.int .i64 0, .slice none 0 0, .slice none 0 0] [.int .i64 N, .slice Ah (wordsN N) ch, .slice Av N cv] (Blk.new _ _ _) rfl rfl rfl infoDense (by simp [Value.oneCell']) ?_; intro w5 hb5 hk5))
  have k5 : Kept [] w4 w5 := ((Kept.refl [] w4).alloc _).then hk5 (fun q hq => by simp at hq; subst hq; exact .inr (Nat.le_refl _))
  have HG := Lib.hid hb5
  have HG3 := Lib.hid (show w.heap.size ≤ w4.heap.size ∧ gz ≠ w4.heap.size from ⟨K0.out.size, by have := HZ.out.lt; omega⟩)
  replace HX := Lib.hid (HX.out.kept k5 (by simp))
  replace HZ := Lib.hid (HZ.out.kept k5 (by simp))
  replace HD := Lib.hid (HD.out.kept0 k5)
  replace K0 := Lib.hid (K0.out.trans k5)
  clear k5 hk5 hb5
  generalize w4.heap.size = g3 at HG HG3 ⊢
  have HV := Lib.hid HD.out.o2
  have hv0 : (valsP N (X.take 0)) = List.replicate N 0 := rfl
  rw [← hv0] at HV
  clear HD hv0
  go_wp2_with fail
  go_loopw [4, 5] (fun v x wr => ∃ k : Nat, k ≤ X.length ∧ x = .int .i64 k ∧ Hid (wr.ownsRow w.heap.size 3 1 v k (colV (X.take k))) ∧ Hid (wr.ownsRow w.heap.size 2 1 (.slice Av N cv) N ((valsP N (X.take k)).map vI)) ∧ Hid (Blk wr g3 48 [.int .i64 N, .slice Ah (wordsN N) ch, .slice Av N cv]) ∧ Hid (Blk wr g1 35 [.int .i64 N, .slice A X.length c]) ∧ Hid (Blk wr gz 48 [.int .i64 0, .slice none 0 0, .slice none 0 0]) ∧ Hid (Kept [] w wr)) (fun _ x _ => X.length - (intOf x).toNat)
  case atStart => exact ⟨0, Nat.zero_le _, rfl, Lib.hid (World.ownsRow_nil _ _ _ _), HV, HG, HX, HZ, K0⟩
  case round =>
    clear HV HG HX HZ K0
    obtain ⟨k, hk, rfl, HO, HV, HG, HX, HZ, K0⟩ := hrel
    obtain ⟨v, hv⟩ : ∃ v, v = u4 := ⟨_, rfl⟩
    subst hv
    obtain ⟨A5, c5, rfl⟩ := own_n HO.out
    have y0 := HX.out.cell 0
    have y1 := HX.out.cell 1
    simp only [List.getElem?_cons_zero, List.getElem?_cons_succ] at y0 y1
    by_cases hlt : k < X.length
    · have HTK := Lib.hid (List.take_succ_eq_append_getElem hlt)
      have hi := HOK.out.inn X[k] (List.getElem_mem _)
      obtain ⟨b, off, rfl, hbl, cw0, cw1⟩ := it_at HR.out hlt
      obtain ⟨x, hx⟩ : ∃ x, x = X[k] := ⟨_, rfl⟩
      rw [← hx] at cw0 cw1 HTK hi
      clear hx
      obtain ⟨x1, x2, x3⟩ := x
      dsimp only at cw0 cw1 hi
      obtain ⟨p, rfl⟩ := Int.eq_ofNat_of_zero_le hi.2.1
      have hpN : p < N := by omega
      have CW := Lib.hid cw0
      have CV := Lib.hid cw1
      have HBL := Lib.hid hbl
      clear hi cw0 cw1 hbl
      have c0 := K0.out.cell_lt CW.out
      have hsz := K0.out.size
      go_upto_region 8 with (first | (at_builtin; refine wpList_app _ rfl (.tmp 18) (.tmp 25) _ rfl 3 (.int .i64 0) 1 8 Tryz.underlying28 infoInt rfl (by decide) w.heap.size (.slice A5 k c5) k _ rfl (HO.out.alloc _) (some ⟨_, 0, none⟩) 1 1 [vI (p : Int)] rfl rfl (Reads.of_blk (Blk.new _ _ _) (fun _ _ h => h)) (by simp [Value.oneCell']) (by omega) (by unfold maxLen; omega) (by simp; omega) ?_; intro va wa howna hka hba; have HOa := Lib.hid howna; have Fa := Lib.hid (((KeptB.refl w.heap.size [3] wr).alloc _).app hka (HO.out.alloc _) (by decide)); clear howna hka hba))
      clear c0 y0 y1 hsz
      replace HG := Lib.hid (HG.out.keptB Fa.out (by decide))
      replace HX := Lib.hid (HX.out.keptB Fa.out (by decide))
      replace HZ := Lib.hid (HZ.out.keptB Fa.out (by decide))
      replace HV := Lib.hid (own_keptB HV.out Fa.out (by decide))
      replace K0 := Lib.hid (K0.out.thenB Fa.out (Nat.le_refl _))
      replace HO := HOa
      clear HOa Fa
      obtain ⟨A6, c6, rfl⟩ := own_n HO.out
      obtain ⟨gv, hAv⟩ : ∃ gv, Av = some ⟨gv, 0, none⟩ := by
        obtain ⟨gv, cap, e, _⟩ := own_ptr HV.out (by omega)
        injection e with e
        exact ⟨gv, e⟩
      subst hAv
      have HVT := Lib.hid (show w.heap.size ≤ gv ∧ ∃ cs t fr, wa.heap[gv]? = some (.cells cs t fr) ∧ t ∈ [2] from by
        rcases HV.out.2 with ⟨h0, _⟩ | ⟨g', cap, cur, e, hb, hg, _⟩
        · cases h0
        · injection e with e
          injection e with e
          injection e with e
          subst e
          exact ⟨hb, _, _, _, hg, by simp⟩)
      have HS := Lib.hid (own_setCell HV.out p (vI x3))
      have hpl : p < (valsP N (X.take k)).length := by rw [valsP_len]; exact hpN
      obtain ⟨q, hq⟩ : ∃ q, (valsP N (X.take k))[p]? = some q := ⟨_, List.getElem?_eq_getElem hpl⟩
      have f0 := (HS.out.2.1 (vI q) (by rw [List.getElem?_map, hq]; rfl)).2
      have z0 := (HS.out.2.1 (vI q) (by rw [List.getElem?_map, hq]; rfl)).1
      clear hq
      have lv := HS.out.2.2
      have c0 := K0.out.cell_lt CW.out
      have c1 := K0.out.cell_lt CV.out
      have y1 := HX.out.cell 1
      simp only [List.getElem?_cons_zero, List.getElem?_cons_succ] at y1
      have d2 := HG.out.cell 2
      simp only [List.getElem?_cons_zero, List.getElem?_cons_succ] at d2
      clear hpl
      go_region_law (fail)
      all_goals
        have HV2 := Lib.hid HS.out.1
        have ko := (Kept.refl [gv] wa).setCell (p := ⟨gv, p, none⟩) (.inl (by simp)) (vI x3)
        have fo : KeptB w.heap.size [2] wa (wa.setCell ⟨gv, p, none⟩ (vI x3)) := (KeptB.refl _ _ wa).step ko (fun u hu => by simp at hu; subst hu; exact HVT.out)
        clear f0 z0 lv c0 c1 y1 d2 HS
        replace HG := Lib.hid (HG.out.keptB fo (by decide))
        replace HX := Lib.hid (HX.out.keptB fo (by decide))
        replace HZ := Lib.hid (HZ.out.keptB fo (by decide))
        replace HO := Lib.hid (own_keptB HO.out fo (by decide))
        replace K0 := Lib.hid (K0.out.thenB fo (Nat.le_refl _))
        clear fo ko HV HVT
        generalize wa.setCell ⟨gv, p, none⟩ (vI x3) = wb at *
        have kz := (Kept.refl [] wb).drew
        replace HG := Lib.hid (HG.out.kept kz (by simp))
        replace HX := Lib.hid (HX.out.kept kz (by simp))
        replace HZ := Lib.hid (HZ.out.kept kz (by simp))
        replace HO := Lib.hid (own_kept0 HO.out kz)
        replace HV2 := Lib.hid (own_kept0 HV2.out kz)
        replace K0 := Lib.hid (K0.out.trans kz)
        clear kz
        generalize wb.drew = wc at *
        go_wp2_with fail
        go_roundw
        case rel =>
          refine ⟨k + 1, by omega, by go_num, Lib.hid ?_, Lib.hid ?_, HG, HX, HZ, K0⟩
          · rw [HTK.out]
            have := HO.out
            simpa [colV] using this
          · rw [HTK.out, valsP_snoc]
            have := HV2.out
            simpa [List.map_set] using this
        case measure => simp [intOf]; omega
    · obtain rfl : k = X.length := by omega
      rw [List.take_length] at HO HV
      have HAT := Lib.hid (show colV X = (atsP X).map vI by simp [colV])
      have HAI := Lib.hid (fun i hi => by
        obtain ⟨e, he, rfl⟩ := List.mem_map.1 hi
        exact (HOK.out.inn e he).2 : ∀ i ∈ atsP X, 0 ≤ i ∧ i < (N : Int))
      have HLN := Lib.hid (show (atsP X).length = X.length by simp)
      go_wp2_with fail
      have HOF := Lib.hid (refOf3_any N hN (atsP X) HAI.out (by rw [HLN.out]; exact hln) A5 c5 wr (by have := Reads.of_own HO.out; rw [HAT.out] at this; exact this))
      rw [HLN.out] at HOF
      refine HOF.out.mono ?_
      rintro _ w6 ⟨v6, rfl, ho, hk6⟩
      have HH := Lib.hid (own_base ho K0.out.size)
      clear HOF ho
      replace HG := Lib.hid (HG.out.kept hk6 (by simp))
      replace HX := Lib.hid (HX.out.kept hk6 (by simp))
      replace HZ := Lib.hid (HZ.out.kept hk6 (by simp))
      replace HV := Lib.hid (own_kept0 HV.out hk6)
      replace K0 := Lib.hid (K0.out.trans hk6)
      clear hk6 y0 y1
      obtain ⟨Ab, cb, rfl⟩ := own_n HH.out
      have f1 := HG.out.frozen 1
      have l3 := HG.out.lt
      have d1 := HG.out.cell 1
      simp only [List.getElem?_cons_zero, List.getElem?_cons_succ] at d1
      go_upto_region 10 with (fail)
      have ko := (Kept.refl [g3] w6).setCell (p := ⟨g3, 1, none⟩) (.inl (by simp)) (.slice Ab (wordsN N) cb)
      have fo : KeptB w.heap.size [48] w6 (w6.setCell ⟨g3, 1, none⟩ (.slice Ab (wordsN N) cb)) := (KeptB.refl _ _ w6).step ko (fun u hu => by simp at hu; subst hu; exact ⟨HG3.out.1, _, _, _, HG.out, by simp⟩)
      replace HZ := Lib.hid (HZ.out.kept ko (by simp; exact HG3.out.2))
      replace HV := Lib.hid (own_keptB HV.out fo (by decide))
      replace HH := Lib.hid (own_keptB HH.out fo (by decide))
      replace K0 := Lib.hid (K0.out.thenB fo (Nat.le_refl _))
      replace HG := Lib.hid (HG.out.set 1 (.slice Ab (wordsN N) cb))
      simp only [List.set_cons_zero, List.set_cons_succ] at HG
      clear ko fo f1 l3 d1
      generalize w6.setCell ⟨g3, 1, none⟩ (.slice Ab (wordsN N) cb) = w7 at *
      go_wp2_with (first | (refine wpList_loadBlk rfl 48 (.tmp 3) rfl g3 [.int .i64 N, .slice Ab (wordsN N) cb, .slice Av N cv] _ HG.out rfl Tryz.underlying48 rfl infoDense ?_) | (refine wpList_storeBlk rfl 48 (.tmp 2) (.tmp 47) rfl gz _ [.int .i64 N, .slice Ab (wordsN N) cb, .slice Av N cv] HZ.out rfl rfl rfl infoDense (by simp [Value.oneCell']) ?_; intro w8 hb8 hk8))
      have e0 := hb8.cell 0
      have e1 := hb8.cell 1
      have e2 := hb8.cell 2
      simp only [List.getElem?_cons_zero, List.getElem?_cons_succ] at e0 e1 e2
      refine bodyPost_ret (v := .agg #[.int .i64 N, .slice Ab (wordsN N) cb, .slice Av N cv]) (by simp [results, Tryz.results11, go_sem, e0, e1, e2]) rfl ?_
      rw [HPOST.out]
      have f8 : KeptB w.heap.size [48] w7 w8 := (KeptB.refl _ _ w7).step (L := [gz]) hk8 (fun u hu => by simp at hu; subst hu; exact ⟨HGE.out, _, _, _, HZ.out, by simp⟩)
      exact ⟨_, _, rfl, ⟨own_keptB HH.out f8 (by decide), own_keptB HV.out f8 (by decide)⟩, K0.out.thenB f8 (Nat.le_refl _)⟩
end Go.Proofs.YtblfingmdipopaaGreat
