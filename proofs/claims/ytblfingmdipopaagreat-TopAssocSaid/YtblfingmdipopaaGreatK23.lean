/- csr.Right, csr.sure, csr.part, csr.Triples, gemm.part of a matrix of n rows and m columns. -/
import Derived.Test.YtblfingmdipopaaGreatK21
namespace Go.Proofs.YtblfingmdipopaaGreat
set_option linter.unusedSimpArgs false
set_option linter.unusedVariables false
open Go.ChangeShapes Go.WideShapes Go.ChangeAt Go.RowKit
open Go.RowKit (wrap32 wrap64)
set_option maxHeartbeats 8000000

/-- A list of triples that is a matrix of n rows and m columns. -/
structure MtOkM (n m : Nat) (l : List Ed) : Prop where
  rises : RisesL l
  inn : ∀ e ∈ l, (0 ≤ e.1 ∧ e.1 < n) ∧ 0 ≤ e.2.1 ∧ e.2.1 < m
  len : l.length ≤ 65536
  num : n ≤ 4096
  mum : m ≤ 4096
set_option maxRecDepth 100000 in
theorem right_trueM (n m base : Nat) (l : List Ed) (v1 v2 v3 : Value) (w : World) (hok : MtOkM n m l) (hm : MtAt w base v1 v2 v3 n l) :
    Calls Tryz.prog 49 #[.agg #[.int .i64 n, .int .i64 m, v1, v2, v3]] w fun e w' => e = .returned (.bool true) ∧ Kept [] w w' := by
  have hnn := hok.num
  have hmm := hok.mum
  have hll := hok.len
  have HOK := Lib.hid hok
  have HNN := Lib.hid (show (0 : Int) ≤ (m : Int) ∧ (m : Int) ≤ 4096 by omega)
  obtain ⟨A1, c1, rfl, hc1, _, hr1, hb1⟩ := own_form hm.o1
  obtain ⟨A2, c2, rfl, hc2, _, hr2, _⟩ := own_form hm.o2
  obtain ⟨A3, c3, rfl, hc3, _, hr3, _⟩ := own_form hm.o3
  obtain ⟨b1, o1, rfl, hb, hcs⟩ := ints_at hr1 (k := 0) (by simp [startP, stL])
  obtain ⟨q, hq, _⟩ := hb1 _ rfl
  injection hq with hq1 hq2
  subst hq1 hq2
  clear hcs hr1 hr2 hr3 hb1 hb
  have HX := Lib.hid (Blk.new w 31 [.int .i64 n, .int .i64 m, .slice (some ⟨b1, 0, none⟩) (n + 1) c1, .slice A2 l.length c2, .slice A3 l.length c3])
  have K0 := Lib.hid ((Kept.refl [] w).alloc (.cells #[.int .i64 n, .int .i64 m, .slice (some ⟨b1, 0, none⟩) (n + 1) c1, .slice A2 l.length c2, .slice A3 l.length c3] 31))
  have HM := Lib.hid (hm.kept0 K0.out)
  have HD := Lib.hid (show (decide ((0 : Int) ≤ (n : Int)) && decide ((n : Int) ≤ 4096)) = true by simp; omega)
  have HDM := Lib.hid (show (decide ((0 : Int) ≤ (m : Int)) && decide ((m : Int) ≤ 4096)) = true by simp; omega)
  clear hm hok
  go_enter Tryz.func49, Tryz.ntmps49
  go_upto_region 1 with (fail)
  generalize w.alloc (.cells #[.int .i64 n, .int .i64 m, .slice (some ⟨b1, 0, none⟩) (n + 1) c1, .slice A2 l.length c2, .slice A3 l.length c3] 31) = w1 at *
  generalize w.heap.size = g1 at HX ⊢
  have hst : ∀ (wx : World), MtAt wx base (.slice (some ⟨b1, 0, none⟩) (n + 1) c1) (.slice A2 l.length c2) (.slice A3 l.length c3) n l → ∀ j, j ≤ n → wx.cell? ⟨b1, j, none⟩ = some (.int .i64 (belI l j)) := fun wx h j hj => by
    have h1 := (Reads.of_own h.o1)
    obtain ⟨b, o, e, _, hc⟩ := ints_at h1 (k := j) (by simp [startP, stL]; omega)
    injection e with e
    injection e with e1 e2
    subst e1 e2
    have := hc j (by simp [startP, stL]; omega)
    rw [Nat.zero_add] at this
    rw [this]
    simp [startP, stL]
  have HST := Lib.hid hst
  clear hst
  have y0 := HX.out.cell 0
  have y1 := HX.out.cell 1
  have y2 := HX.out.cell 2
  have y3 := HX.out.cell 3
  have y4 := HX.out.cell 4
  simp only [List.getElem?_cons_zero, List.getElem?_cons_succ] at y0 y1 y2 y3 y4
  go_wp2_with fail
  refine (within_c n 4096 _).mono ?_
  rintro _ wn ⟨rfl, rfl⟩
  rw [HD.out]
  go_wp2_with fail
  refine (within_c m 4096 _).mono ?_
  rintro _ wn ⟨rfl, rfl⟩
  rw [HDM.out]
  have z0 := HST.out _ HM.out 0 (Nat.zero_le _)
  have zn := HST.out _ HM.out n (Nat.le_refl _)
  rw [belI_zero (fun e he => (HOK.out.inn e he).1.1)] at z0
  rw [bel_all (fun e he => (HOK.out.inn e he).1.2)] at zn
  go_wp2_with fail
  have HSR := Lib.hid (sorted_true (startP n l) (some ⟨b1, 0, none⟩) c1 wn (by simp [startP, stL]; omega) (Reads.of_own HM.out.o1) (start_mono n l))
  rw [show (startP n l).length = n + 1 by simp [startP, stL]] at HSR
  refine HSR.out.mono ?_
  rintro _ w2 ⟨rfl, hk2⟩
  clear HSR
  replace HM := Lib.hid (HM.out.kept0 hk2)
  replace HX := Lib.hid (HX.out.kept hk2 (by simp))
  replace K0 := Lib.hid (K0.out.trans hk2)
  clear hk2 y0 y1 y2 y3 y4 z0 zn
  have y0 := HX.out.cell 0
  simp only [List.getElem?_cons_zero, List.getElem?_cons_succ] at y0
  go_wp2_with fail
  clear y0
  go_loopw [61] (fun x wr => ∃ i : Nat, i ≤ n ∧ x = .int .i64 i ∧ Hid (MtAt wr base (.slice (some ⟨b1, 0, none⟩) (n + 1) c1) (.slice A2 l.length c2) (.slice A3 l.length c3) n l) ∧ Hid (Blk wr g1 31 [.int .i64 n, .int .i64 m, .slice (some ⟨b1, 0, none⟩) (n + 1) c1, .slice A2 l.length c2, .slice A3 l.length c3]) ∧ Hid (Kept [] w wr)) (fun x _ => n - (intOf x).toNat)
  case atStart => exact ⟨0, Nat.zero_le _, rfl, HM, HX, K0⟩
  case round =>
    clear HM HX K0
    obtain ⟨i, hi, rfl, HM, HX, K0⟩ := hrel
    by_cases hlt : i < n
    · have y1 := HX.out.cell 1
      have y2 := HX.out.cell 2
      have y3 := HX.out.cell 3
      simp only [List.getElem?_cons_zero, List.getElem?_cons_succ] at y1 y2 y3
      have z0 := HST.out _ HM.out i (by omega)
      have z1 := HST.out _ HM.out (i + 1) (by omega)
      have b0 := belI_in l i
      have b1' := belI_in l (i + 1)
      have b2 := bel_mono l i
      obtain ⟨s, hs⟩ : ∃ s : Nat, s = (belI l i).toNat := ⟨_, rfl⟩
      obtain ⟨e, he⟩ : ∃ e : Nat, e = (belI l (i + 1)).toNat := ⟨_, rfl⟩
      have hse : s ≤ e := by omega
      have hel : e ≤ l.length := by omega
      have hec : e ≤ c2 := by omega
      rw [show belI l i = (s : Int) by omega] at z0
      rw [show belI l (i + 1) = (e : Int) by omega] at z1
      have HPT := Lib.hid (row_part (risesL_sortR HOK.out.rises) i)
      rw [← hs, ← he] at HPT
      clear hs he b0 b1' b2
      have HRL := Lib.hid (show ((rowL l i).map (fun e => e.2.1)).length ≤ 1048576 by
        rw [List.length_map]
        exact Nat.le_trans (List.length_filter_le _ _) (by omega))
      have HRE := Lib.hid (show ((rowL l i).map (fun e => e.2.1)).length = e - s by
        rw [List.length_map, ← HPT.out]
        simp
        omega)
      obtain ⟨B, hB⟩ : ∃ B, B = (if c2 = s then A2 else A2.map (·.add (s * 1))) := ⟨_, rfl⟩
      have HRR := Lib.hid (fun wx hmx => by
        have h := (Reads.of_own (MtAt.o2 hmx)).sliced (l := s) (h := e) (m := c2) hse hec (by simp; exact hel)
        rw [← hB] at h
        have e1 : (((colV l).drop s).take (e - s)) = ((rowL l i).map (fun e => e.2.1)).map vI := by
          rw [← HPT.out]
          simp [colV, List.map_take, List.map_drop]
          rfl
        rw [e1] at h
        exact h : ∀ wx : World, MtAt wx base (.slice (some ⟨b1, 0, none⟩) (n + 1) c1) (.slice A2 l.length c2) (.slice A3 l.length c3) n l → Reads wx B (((rowL l i).map (fun e => e.2.1)).map vI))
      have HRI := Lib.hid (fun x hx => by
        obtain ⟨y, hy, rfl⟩ := List.mem_map.1 hx
        exact (HOK.out.inn y (List.mem_filter.1 hy).1).2 : ∀ x : Int, x ∈ ((rowL l i).map (fun e => e.2.1)) → 0 ≤ x ∧ x < (m : Int))
      have HRC := Lib.hid (fun j h => (List.pairwise_iff_getElem.1 (rowL_cols HOK.out.rises i)) j (j + 1) (by omega) h (by omega) : ∀ j (h : j + 1 < ((rowL l i).map (fun e => e.2.1)).length), ((rowL l i).map (fun e => e.2.1))[j] < ((rowL l i).map (fun e => e.2.1))[j + 1])
      have hsl := sl_int (s := s) (e := e) (L := l.length) (c := c2) A2 hse hec
      rw [← hB] at hsl
      clear hB HPT
      have hwk : IntKind.i64.wrap ((i : Int) + 1) = (i : Int) + 1 := by rw [IntKind.wrap_i64]; omega
      go_upto_region 9 with (fail)
      refine wp_region_held_drew (S := (fun w' => w'.cell? ⟨g1, 1, none⟩ = some (.int .i64 m) ∧ w'.cell? ⟨g1, 2, none⟩ = some (.slice (some ⟨b1, 0, none⟩) (n + 1) c1) ∧ w'.cell? ⟨g1, 3, none⟩ = some (.slice A2 l.length c2) ∧ w'.cell? ⟨b1, i, none⟩ = some (.int .i64 (s : Int)) ∧ w'.cell? ⟨b1, i + 1, none⟩ = some (.int .i64 (e : Int)))) (by kernel_rfl) ?_ (fun hHeld => ?_)
      · exact ⟨y1, y2, y3, z0, z1⟩
      replace K0 := Lib.hid K0.out.drew
      replace HM := Lib.hid (HM.out.kept0 (Kept.refl [] wr).drew)
      replace HX := Lib.hid (HX.out.kept (Kept.refl [] wr).drew (by simp))
      clear y1 y2 y3 z0 z1
      generalize wr.drew = w3 at *
      have y1 := hHeld.1
      have y2 := hHeld.2.1
      have y3 := hHeld.2.2.1
      have z0 := hHeld.2.2.2.1
      have z1 := hHeld.2.2.2.2
      refine tkYes (i := 0) (v := ?_) rfl rfl (by kernel_rfl) (by kernel_rfl) (by kernel_rfl) (fun _ _ _ h => h) (by rfl) ?_ (by assumption) ?_
      rotate_left
      · (intro w' hSw; (try dsimp only at hSw); go_simp; try with_reducible rfl)
      try simp only [Act.put, List.setIfInBounds_toArray, List.set_cons_zero, List.set_cons_succ]
      refine tkYes (i := 1) (v := ?_) rfl rfl (by kernel_rfl) (by kernel_rfl) (by kernel_rfl) (fun _ _ _ h => h) (by rfl) ?_ (by assumption) ?_
      rotate_left
      · (intro w' hSw; (try dsimp only at hSw); go_simp; try with_reducible rfl)
      try simp only [Act.put, List.setIfInBounds_toArray, List.set_cons_zero, List.set_cons_succ]
      refine tkYes (i := 2) (v := ?_) rfl rfl (by kernel_rfl) (by kernel_rfl) (by kernel_rfl) (fun _ _ _ h => h) (by rfl) ?_ (by assumption) ?_
      rotate_left
      · (intro w' hSw; (try dsimp only at hSw); go_simp; try with_reducible rfl)
      try simp only [Act.put, List.setIfInBounds_toArray, List.set_cons_zero, List.set_cons_succ]
      refine tkYes (i := 3) (v := ?_) rfl rfl (by kernel_rfl) (by kernel_rfl) (by kernel_rfl) (fun _ _ _ h => h) (by rfl) ?_ (by assumption) ?_
      rotate_left
      · (intro w' hSw; (try dsimp only at hSw); go_simp; try with_reducible rfl)
      try simp only [Act.put, List.setIfInBounds_toArray, List.set_cons_zero, List.set_cons_succ]
      refine tkYes (i := 4) (v := ?_) rfl rfl (by kernel_rfl) (by kernel_rfl) (by kernel_rfl) (fun _ _ _ h => h) (by rfl) ?_ (by assumption) ?_
      rotate_left
      · (intro w' hSw; (try dsimp only at hSw); go_simp; try with_reducible rfl)
      try simp only [Act.put, List.setIfInBounds_toArray, List.set_cons_zero, List.set_cons_succ]
      refine tkYes (i := 5) (v := .pointer (some ⟨b1, i, none⟩)) rfl rfl (by kernel_rfl) (by kernel_rfl) (by kernel_rfl) (fun _ _ _ h => h) (by rfl) ?_ (by assumption) ?_
      skip
      · (intro w' hSw; (try dsimp only at hSw); go_simp; try (intro hbad; omega))
      try simp only [Act.put, List.setIfInBounds_toArray, List.set_cons_zero, List.set_cons_succ]
      refine tkYes (i := 6) (v := ?_) rfl rfl (by kernel_rfl) (by kernel_rfl) (by kernel_rfl) (fun _ _ _ h => h) (by rfl) ?_ (by assumption) ?_
      rotate_left
      · (intro w' hSw; (try dsimp only at hSw); go_simp; try with_reducible rfl)
      try simp only [Act.put, List.setIfInBounds_toArray, List.set_cons_zero, List.set_cons_succ]
      refine tkYes (i := 7) (v := ?_) rfl rfl (by kernel_rfl) (by kernel_rfl) (by kernel_rfl) (fun _ _ _ h => h) (by rfl) ?_ (by assumption) ?_
      rotate_left
      · (intro w' hSw; (try dsimp only at hSw); go_simp; try with_reducible rfl)
      try simp only [Act.put, List.setIfInBounds_toArray, List.set_cons_zero, List.set_cons_succ]
      refine tkYes (i := 8) (v := ?_) rfl rfl (by kernel_rfl) (by kernel_rfl) (by kernel_rfl) (fun _ _ _ h => h) (by rfl) ?_ (by assumption) ?_
      rotate_left
      · (intro w' hSw; (try dsimp only at hSw); go_simp; try with_reducible rfl)
      try simp only [Act.put, List.setIfInBounds_toArray, List.set_cons_zero, List.set_cons_succ]
      refine tkYes (i := 9) (v := ?_) rfl rfl (by kernel_rfl) (by kernel_rfl) (by kernel_rfl) (fun _ _ _ h => h) (by rfl) ?_ (by assumption) ?_
      rotate_left
      · (intro w' hSw; (try dsimp only at hSw); go_simp; try with_reducible rfl)
      try simp only [Act.put, List.setIfInBounds_toArray, List.set_cons_zero, List.set_cons_succ]
      refine tkYes (i := 10) (v := .int .i64 ((i : Int) + 1)) rfl rfl (by kernel_rfl) (by kernel_rfl) (by kernel_rfl) (fun _ _ _ h => h) (by rfl) ?_ (by assumption) ?_
      skip
      · (intro w' hSw; (try dsimp only at hSw); go_simp; try (rw [hwk]))
      try simp only [Act.put, List.setIfInBounds_toArray, List.set_cons_zero, List.set_cons_succ]
      refine tkYes (i := 11) (v := .pointer (some ⟨b1, i + 1, none⟩)) rfl rfl (by kernel_rfl) (by kernel_rfl) (by kernel_rfl) (fun _ _ _ h => h) (by rfl) ?_ (by assumption) ?_
      skip
      · (intro w' hSw; (try dsimp only at hSw); go_simp; try (intro hbad; omega))
      try simp only [Act.put, List.setIfInBounds_toArray, List.set_cons_zero, List.set_cons_succ]
      refine tkYes (i := 12) (v := ?_) rfl rfl (by kernel_rfl) (by kernel_rfl) (by kernel_rfl) (fun _ _ _ h => h) (by rfl) ?_ (by assumption) ?_
      rotate_left
      · (intro w' hSw; (try dsimp only at hSw); go_simp; try with_reducible rfl)
      try simp only [Act.put, List.setIfInBounds_toArray, List.set_cons_zero, List.set_cons_succ]
      refine tkYes (i := 13) (v := .slice B (e - s) (c2 - s)) rfl rfl (by kernel_rfl) (by kernel_rfl) (by kernel_rfl) (fun _ _ _ h => h) (by rfl) ?_ (by assumption) ?_
      skip
      · (intro w' hSw; (try dsimp only at hSw); go_simp; try (rw [hsl]))
      try simp only [Act.put, List.setIfInBounds_toArray, List.set_cons_zero, List.set_cons_succ]
      refine tkYes (i := 14) (v := ?_) rfl rfl (by kernel_rfl) (by kernel_rfl) (by kernel_rfl) (fun _ _ _ h => h) (by rfl) ?_ (by assumption) ?_
      rotate_left
      · (intro w' hSw; (try dsimp only at hSw); go_simp; try with_reducible rfl)
      try simp only [Act.put, List.setIfInBounds_toArray, List.set_cons_zero, List.set_cons_succ]
      refine tkYes (i := 15) (v := ?_) rfl rfl (by kernel_rfl) (by kernel_rfl) (by kernel_rfl) (fun _ _ _ h => h) (by rfl) ?_ (by assumption) ?_
      rotate_left
      · (intro w' hSw; (try dsimp only at hSw); go_simp; try with_reducible rfl)
      try simp only [Act.put, List.setIfInBounds_toArray, List.set_cons_zero, List.set_cons_succ]
      refine wpAnyH_ready (rs := [16]) (by kernel_rfl) (by simp) ?_
      refine AllReadyH.cons rfl (fun K hK => ?_) AllReadyH.nil
      go_simp
      go_at_call 87
      have HRW := Lib.hid (row_true ((rowL l i).map (fun e => e.2.1)) m B (c2 - s) w3 HRL.out HNN.out (HRR.out w3 HM.out) HRI.out HRC.out)
      rw [HRE.out] at HRW
      refine HRW.out.mono ?_
      rintro x wn ⟨rfl, rfl⟩
      go_wp2_with fail
      refine hK.out _ _ ?_ (fun hHeld => ?_)
      · exact ⟨y1, y2, y3, z0, z1⟩
      clear hK K
      try simp only [Act.put, List.setIfInBounds_toArray, List.set_cons_zero, List.set_cons_succ]
      refine tkYes (i := 17) (v := ?_) rfl rfl (by kernel_rfl) (by kernel_rfl) (by kernel_rfl) (fun _ _ _ h => h) (by rfl) ?_ (by assumption) ?_
      rotate_left
      · (intro w' hSw; (try dsimp only at hSw); go_simp; try with_reducible rfl)
      try simp only [Act.put, List.setIfInBounds_toArray, List.set_cons_zero, List.set_cons_succ]
      refine wpAnyH_done (by kernel_rfl) ?_ _
      go_wp2_with fail
      go_roundw
      case rel => exact ⟨i + 1, by omega, by go_num, HM, HX, K0⟩
      case measure => simp [intOf]; omega
    · go_wp2_with fail
      go_ret
      exact ⟨rfl, K0.out⟩
set_option maxRecDepth 100000 in
theorem sure_sameM (n m base : Nat) (l : List Ed) (v1 v2 v3 : Value) (w : World) (hok : MtOkM n m l) (hm : MtAt w base v1 v2 v3 n l) :
    Calls Tryz.prog 66 #[.agg #[.int .i64 n, .int .i64 m, v1, v2, v3]] w fun e w' => e = .returned (.agg #[.int .i64 n, .int .i64 m, v1, v2, v3]) ∧ Kept [] w w' := by
  obtain ⟨A1, c1, e1⟩ := own_n hm.o1
  obtain ⟨A2, c2, e2⟩ := own_n hm.o2
  obtain ⟨A3, c3, e3⟩ := own_n hm.o3
  have HOK := Lib.hid hok
  have HX := Lib.hid ((Blk.new w 31 [.int .i64 n, .int .i64 m, v1, v2, v3]).alloc (.cells #[.int .i64 0, .int .i64 0, .slice none 0 0, .slice none 0 0, .slice none 0 0] 31))
  have HZ := Lib.hid (Blk.new1F w (.cells #[.int .i64 n, .int .i64 m, v1, v2, v3] 31) 31 [.int .i64 0, .int .i64 0, .slice none 0 0, .slice none 0 0, .slice none 0 0])
  have K0 := Lib.hid (((Kept.refl [] w).alloc (.cells #[.int .i64 n, .int .i64 m, v1, v2, v3] 31)).alloc (.cells #[.int .i64 0, .int .i64 0, .slice none 0 0, .slice none 0 0, .slice none 0 0] 31))
  have HM := Lib.hid (hm.kept0 K0.out)
  have HGZ := Lib.hid (show w.heap.size ≤ w.heap.size + 1 by omega)
  clear hm hok
  subst e1 e2 e3
  go_enter Tryz.func66, Tryz.ntmps66
  go_upto_region 1 with (fail)
  generalize ((w.alloc (.cells #[.int .i64 n, .int .i64 m, .slice A1 (n + 1) c1, .slice A2 l.length c2, .slice A3 l.length c3] 31)).alloc (.cells #[.int .i64 0, .int .i64 0, .slice none 0 0, .slice none 0 0, .slice none 0 0] 31)) = w1 at *
  generalize w.heap.size + 1 = gz at HZ HGZ ⊢
  generalize hgq : w.heap.size = g1 at HX ⊢
  clear hgq
  go_wp2_with (first | (refine wpList_loadBlk rfl 31 (.tmp 1) rfl g1 [.int .i64 n, .int .i64 m, .slice A1 (n + 1) c1, .slice A2 l.length c2, .slice A3 l.length c3] _ HX.out rfl Tryz.underlying31 rfl infoRows ?_))
  refine (right_trueM n m base l _ _ _ w1 HOK.out HM.out).mono ?_
  rintro _ w2 ⟨rfl, hk2⟩
  replace HX := Lib.hid (HX.out.kept hk2 (by simp))
  replace HZ := Lib.hid (HZ.out.kept hk2 (by simp))
  replace K0 := Lib.hid (K0.out.trans hk2)
  clear hk2
  go_wp2_with (first | (refine wpList_loadBlk rfl 31 (.tmp 1) rfl g1 [.int .i64 n, .int .i64 m, .slice A1 (n + 1) c1, .slice A2 l.length c2, .slice A3 l.length c3] _ HX.out rfl Tryz.underlying31 rfl infoRows ?_) | (refine wpList_storeBlk rfl 31 (.tmp 2) (.tmp 5) rfl gz _ [.int .i64 n, .int .i64 m, .slice A1 (n + 1) c1, .slice A2 l.length c2, .slice A3 l.length c3] HZ.out rfl rfl rfl infoRows (by simp [Value.oneCell']) ?_; intro w8 hb8 hk8))
  have e0 := hb8.cell 0
  have e1 := hb8.cell 1
  have e2 := hb8.cell 2
  have e3 := hb8.cell 3
  have e4 := hb8.cell 4
  simp only [List.getElem?_cons_zero, List.getElem?_cons_succ] at e0 e1 e2 e3 e4
  refine bodyPost_ret (v := .agg #[.int .i64 n, .int .i64 m, .slice A1 (n + 1) c1, .slice A2 l.length c2, .slice A3 l.length c3]) (by simp [results, Tryz.results66, go_sem, e0, e1, e2, e3, e4]) rfl ?_
  exact ⟨rfl, K0.out.then hk8 (fun u hu => by simp at hu; subst hu; exact .inr HGZ.out)⟩
set_option maxRecDepth 100000 in
theorem part_anyM (n m base i : Nat) (l : List Ed) (v1 v2 v3 : Value) (w : World) (hi : i < n) (hok : MtOkM n m l) (hm : MtAt w base v1 v2 v3 n l) :
    Calls Tryz.prog 67 #[.agg #[.int .i64 n, .int .i64 m, v1, v2, v3], .int .i64 i] w fun e w' => ∃ B D, e = .returned (.tuple #[.slice B (rowL l i).length (rowL l i).length, .slice D (rowL l i).length (rowL l i).length]) ∧ (∀ wx : World, MtAt wx base v1 v2 v3 n l → PartAt wx B D (rowL l i)) ∧ Kept [] w w' := by
  obtain ⟨b1, c1, A2, c2, A3, c3, rfl, rfl, rfl, hc2, hc3⟩ := hm.form
  have HX := Lib.hid (Blk.new w 31 [.int .i64 n, .int .i64 m, .slice (some ⟨b1, 0, none⟩) (n + 1) c1, .slice A2 l.length c2, .slice A3 l.length c3])
  have K0 := Lib.hid ((Kept.refl [] w).alloc (.cells #[.int .i64 n, .int .i64 m, .slice (some ⟨b1, 0, none⟩) (n + 1) c1, .slice A2 l.length c2, .slice A3 l.length c3] 31))
  have HM := Lib.hid (hm.kept0 K0.out)
  have hnn := hok.num
  have b0 := belI_in l i
  have b1' := belI_in l (i + 1)
  have b2 := bel_mono l i
  obtain ⟨s, hs⟩ : ∃ s : Nat, s = (belI l i).toNat := ⟨_, rfl⟩
  obtain ⟨e, he⟩ : ∃ e : Nat, e = (belI l (i + 1)).toNat := ⟨_, rfl⟩
  have hse : s ≤ e := by omega
  have hel : e ≤ l.length := by omega
  have HPT := Lib.hid (row_part (risesL_sortR hok.rises) i)
  rw [← hs, ← he] at HPT
  have HZ0 := Lib.hid (show belI l i = (s : Int) by omega)
  have HZ1 := Lib.hid (show belI l (i + 1) = (e : Int) by omega)
  have HRE := Lib.hid (show (rowL l i).length = e - s by
    rw [← HPT.out]
    simp
    omega)
  rw [HRE.out]
  clear hs he b0 b1' b2 hm
  obtain ⟨B, hB⟩ : ∃ B, B = (if e = s then A2 else A2.map (·.add (s * 1))) := ⟨_, rfl⟩
  obtain ⟨D, hD⟩ : ∃ D, D = (if e = s then A3 else A3.map (·.add (s * 1))) := ⟨_, rfl⟩
  have HPA := Lib.hid (fun wx hmx => ⟨by
      have h := (Reads.of_own (MtAt.o2 hmx)).sliced (l := s) (h := e) (m := e) hse (Nat.le_refl _) (by simp; exact hel)
      rw [← hB] at h
      have e1 : (((colV l).drop s).take (e - s)) = colV (rowL l i) := by
        rw [← HPT.out]
        simp [colV, List.map_take, List.map_drop]
      rw [e1] at h
      exact h, by
      have h := (Reads.of_own (MtAt.o3 hmx)).sliced (l := s) (h := e) (m := e) hse (Nat.le_refl _) (by simp; exact hel)
      rw [← hD] at h
      have e1 : (((valV l).drop s).take (e - s)) = valV (rowL l i) := by
        rw [← HPT.out]
        simp [valV, List.map_take, List.map_drop]
      rw [e1] at h
      exact h⟩ : ∀ wx : World, MtAt wx base (.slice (some ⟨b1, 0, none⟩) (n + 1) c1) (.slice A2 l.length c2) (.slice A3 l.length c3) n l → PartAt wx B D (rowL l i))
  have hsl := sl_int3 (s := s) (e := e) (L := l.length) (c := c2) A2 hse (by omega)
  have hsm := sl_i643 (s := s) (e := e) (L := l.length) (c := c3) A3 hse (by omega)
  rw [← hB] at hsl
  rw [← hD] at hsm
  have hwk : IntKind.i64.wrap ((i : Int) + 1) = (i : Int) + 1 := by rw [IntKind.wrap_i64]; omega
  clear hB hD HPT hok
  go_enter Tryz.func67, Tryz.ntmps67
  go_upto_region 1 with (fail)
  generalize w.alloc (.cells #[.int .i64 n, .int .i64 m, .slice (some ⟨b1, 0, none⟩) (n + 1) c1, .slice A2 l.length c2, .slice A3 l.length c3] 31) = w1 at *
  generalize w.heap.size = g1 at HX ⊢
  have z0 := HM.out.start (j := i) (by omega)
  have z1 := HM.out.start (j := i + 1) (by omega)
  rw [HZ0.out] at z0
  rw [HZ1.out] at z1
  have y2 := HX.out.cell 2
  have y3 := HX.out.cell 3
  have y4 := HX.out.cell 4
  simp only [List.getElem?_cons_zero, List.getElem?_cons_succ] at y2 y3 y4
  go_quiet (fail)
  go_wp2_with fail
  go_quiet (fail)
  go_wp2_with fail
  refine bodyPost_ret (v := .tuple #[.slice B (e - s) (e - s), .slice D (e - s) (e - s)]) (by simp [results, Tryz.results67, go_sem]) rfl ?_
  exact ⟨B, D, rfl, HPA.out, (K0.out.drewN _).drewN _⟩
set_option maxRecDepth 100000 in
theorem gpart_anyM (n m base i : Nat) (l : List Ed) (v1 v2 v3 : Value) (w : World) (hi : i < n) (hok : MtOkM n m l) (hm : MtAt w base v1 v2 v3 n l) :
    Calls Tryz.prog 47 #[.agg #[.int .i64 n, .int .i64 m, v1, v2, v3], .int .i64 i] w fun e w' => ∃ B D, e = .returned (.tuple #[.slice B (rowL l i).length (rowL l i).length, .slice D (rowL l i).length (rowL l i).length]) ∧ (∀ wx : World, MtAt wx base v1 v2 v3 n l → PartAt wx B D (rowL l i)) ∧ Kept [] w w' := by
  obtain ⟨b1, c1, A2, c2, A3, c3, rfl, rfl, rfl, hc2, hc3⟩ := hm.form
  have HX := Lib.hid (Blk.new w 31 [.int .i64 n, .int .i64 m, .slice (some ⟨b1, 0, none⟩) (n + 1) c1, .slice A2 l.length c2, .slice A3 l.length c3])
  have K0 := Lib.hid ((Kept.refl [] w).alloc (.cells #[.int .i64 n, .int .i64 m, .slice (some ⟨b1, 0, none⟩) (n + 1) c1, .slice A2 l.length c2, .slice A3 l.length c3] 31))
  have HM := Lib.hid (hm.kept0 K0.out)
  have hnn := hok.num
  have b0 := belI_in l i
  have b1' := belI_in l (i + 1)
  have b2 := bel_mono l i
  obtain ⟨s, hs⟩ : ∃ s : Nat, s = (belI l i).toNat := ⟨_, rfl⟩
  obtain ⟨e, he⟩ : ∃ e : Nat, e = (belI l (i + 1)).toNat := ⟨_, rfl⟩
  have hse : s ≤ e := by omega
  have hel : e ≤ l.length := by omega
  have HPT := Lib.hid (row_part (risesL_sortR hok.rises) i)
  rw [← hs, ← he] at HPT
  have HZ0 := Lib.hid (show belI l i = (s : Int) by omega)
  have HZ1 := Lib.hid (show belI l (i + 1) = (e : Int) by omega)
  have HRE := Lib.hid (show (rowL l i).length = e - s by
    rw [← HPT.out]
    simp
    omega)
  rw [HRE.out]
  clear hs he b0 b1' b2 hm
  obtain ⟨B, hB⟩ : ∃ B, B = (if e = s then A2 else A2.map (·.add (s * 1))) := ⟨_, rfl⟩
  obtain ⟨D, hD⟩ : ∃ D, D = (if e = s then A3 else A3.map (·.add (s * 1))) := ⟨_, rfl⟩
  have HPA := Lib.hid (fun wx hmx => ⟨by
      have h := (Reads.of_own (MtAt.o2 hmx)).sliced (l := s) (h := e) (m := e) hse (Nat.le_refl _) (by simp; exact hel)
      rw [← hB] at h
      have e1 : (((colV l).drop s).take (e - s)) = colV (rowL l i) := by
        rw [← HPT.out]
        simp [colV, List.map_take, List.map_drop]
      rw [e1] at h
      exact h, by
      have h := (Reads.of_own (MtAt.o3 hmx)).sliced (l := s) (h := e) (m := e) hse (Nat.le_refl _) (by simp; exact hel)
      rw [← hD] at h
      have e1 : (((valV l).drop s).take (e - s)) = valV (rowL l i) := by
        rw [← HPT.out]
        simp [valV, List.map_take, List.map_drop]
      rw [e1] at h
      exact h⟩ : ∀ wx : World, MtAt wx base (.slice (some ⟨b1, 0, none⟩) (n + 1) c1) (.slice A2 l.length c2) (.slice A3 l.length c3) n l → PartAt wx B D (rowL l i))
  have hsl := sl_int3 (s := s) (e := e) (L := l.length) (c := c2) A2 hse (by omega)
  have hsm := sl_i643 (s := s) (e := e) (L := l.length) (c := c3) A3 hse (by omega)
  rw [← hB] at hsl
  rw [← hD] at hsm
  have hwk : IntKind.i64.wrap ((i : Int) + 1) = (i : Int) + 1 := by rw [IntKind.wrap_i64]; omega
  clear hB hD HPT hok
  go_enter Tryz.func47, Tryz.ntmps47
  go_upto_region 1 with (fail)
  generalize w.alloc (.cells #[.int .i64 n, .int .i64 m, .slice (some ⟨b1, 0, none⟩) (n + 1) c1, .slice A2 l.length c2, .slice A3 l.length c3] 31) = w1 at *
  generalize w.heap.size = g1 at HX ⊢
  have z0 := HM.out.start (j := i) (by omega)
  have z1 := HM.out.start (j := i + 1) (by omega)
  rw [HZ0.out] at z0
  rw [HZ1.out] at z1
  have y2 := HX.out.cell 2
  have y3 := HX.out.cell 3
  have y4 := HX.out.cell 4
  simp only [List.getElem?_cons_zero, List.getElem?_cons_succ] at y2 y3 y4
  go_quiet (fail)
  go_wp2_with fail
  go_quiet (fail)
  go_wp2_with fail
  refine bodyPost_ret (v := .tuple #[.slice B (e - s) (e - s), .slice D (e - s) (e - s)]) (by simp [results, Tryz.results47, go_sem]) rfl ?_
  exact ⟨B, D, rfl, HPA.out, (K0.out.drewN _).drewN _⟩
set_option maxRecDepth 100000 in
theorem triples_anyM (n m base : Nat) (l : List Ed) (v1 v2 v3 : Value) (w : World) (hok : MtOkM n m l) (hm : MtAt w base v1 v2 v3 n l) :
    Calls Tryz.prog 33 #[.agg #[.int .i64 n, .int .i64 m, v1, v2, v3]] w fun e w' => ∃ v, e = .returned v ∧ w'.ownsRow w.heap.size 84 3 v l.length (l.flatMap edV) ∧ Kept [] w w' := by
  obtain ⟨b1, c1, A2, c2, A3, c3, rfl, rfl, rfl, _, _⟩ := hm.form
  have HX := Lib.hid (Blk.new w 31 [.int .i64 n, .int .i64 m, .slice (some ⟨b1, 0, none⟩) (n + 1) c1, .slice A2 l.length c2, .slice A3 l.length c3])
  have K0 := Lib.hid ((Kept.refl [] w).alloc (.cells #[.int .i64 n, .int .i64 m, .slice (some ⟨b1, 0, none⟩) (n + 1) c1, .slice A2 l.length c2, .slice A3 l.length c3] 31))
  have HM := Lib.hid (hm.kept0 K0.out)
  have HOK := Lib.hid hok
  have hnn := hok.num
  have HG := Lib.hid (show w.heap.size ≤ w.heap.size from Nat.le_refl _)
  obtain ⟨post, hpost⟩ : ∃ post : Ending → World → Prop, post = (fun e w' => ∃ v, e = .returned v ∧ w'.ownsRow w.heap.size 84 3 v l.length (l.flatMap edV) ∧ Kept [] w w') := ⟨_, rfl⟩
  rw [← hpost]
  have HPOST := Lib.hid hpost
  clear hpost hm hok
  go_enter Tryz.func33, Tryz.ntmps33
  go_upto_region 1 with (fail)
  generalize w.alloc (.cells #[.int .i64 n, .int .i64 m, .slice (some ⟨b1, 0, none⟩) (n + 1) c1, .slice A2 l.length c2, .slice A3 l.length c3] 31) = w1 at *
  generalize hgq : w.heap.size = g1 at HX ⊢
  rw [hgq] at HG
  have HGE := Lib.hid (show w.heap.size ≤ g1 by omega)
  clear hgq HG
  go_wp2_with (first | (refine wpList_loadBlk rfl 31 (.tmp 1) rfl g1 [.int .i64 n, .int .i64 m, .slice (some ⟨b1, 0, none⟩) (n + 1) c1, .slice A2 l.length c2, .slice A3 l.length c3] _ HX.out rfl Tryz.underlying31 rfl infoRows ?_))
  refine (sure_sameM n m base l _ _ _ w1 HOK.out HM.out).mono ?_
  rintro _ w2 ⟨rfl, hk2⟩
  replace HX := Lib.hid (HX.out.kept hk2 (by simp))
  replace HM := Lib.hid (HM.out.kept0 hk2)
  replace K0 := Lib.hid (K0.out.trans hk2)
  clear hk2
  go_upto_region 2 with (first | (refine wpList_storeBlk rfl 31 (.tmp 1) (.tmp 10) rfl g1 _ [.int .i64 n, .int .i64 m, .slice (some ⟨b1, 0, none⟩) (n + 1) c1, .slice A2 l.length c2, .slice A3 l.length c3] HX.out rfl rfl rfl infoRows (by simp [Value.oneCell']) ?_; intro w3 hb3 hk3))
  have f8 : KeptB w.heap.size [31] w2 w3 := (KeptB.refl _ _ w2).step (L := [g1]) hk3 (fun u hu => by simp at hu; subst hu; exact ⟨HGE.out, _, _, _, HX.out, by simp⟩)
  replace HM := Lib.hid (HM.out.keptB f8 (by decide) (by decide))
  replace K0 := Lib.hid (K0.out.thenB f8 (Nat.le_refl _))
  replace HX := Lib.hid hb3
  clear f8 hb3 hk3
  have y0 := HX.out.cell 0
  simp only [List.getElem?_cons_zero, List.getElem?_cons_succ] at y0
  go_wp2_with fail
  clear y0
  go_loopw [3, 13] (fun v x wr => ∃ i : Nat, i ≤ n ∧ x = .int .i64 i ∧ Hid (wr.ownsRow w.heap.size 84 3 v (accL l i).length ((accL l i).flatMap edV)) ∧ Hid (MtAt wr base (.slice (some ⟨b1, 0, none⟩) (n + 1) c1) (.slice A2 l.length c2) (.slice A3 l.length c3) n l) ∧ Hid (Blk wr g1 31 [.int .i64 n, .int .i64 m, .slice (some ⟨b1, 0, none⟩) (n + 1) c1, .slice A2 l.length c2, .slice A3 l.length c3]) ∧ Hid (Kept [] w wr)) (fun _ x _ => n - (intOf x).toNat)
  case atStart =>
    refine ⟨0, Nat.zero_le _, rfl, Lib.hid ?_, HM, HX, K0⟩
    rw [accL_zero (fun e he => (HOK.out.inn e he).1.1)]
    exact World.ownsRow_nil _ _ _ _
  case round =>
    clear HM HX K0
    obtain ⟨i, hi, rfl, HO, HM, HX, K0⟩ := hrel
    obtain ⟨v, hv⟩ : ∃ v, v = u3 := ⟨_, rfl⟩
    subst hv
    by_cases hlt : i < n
    · obtain ⟨A5, c5, rfl⟩ := own_n HO.out
      have HAS := Lib.hid (accL_succ (risesL_sortR HOK.out.rises) i)
      have hal : (accL l i).length + (rowL l i).length ≤ 65536 := by
        have h1 := congrArg List.length HAS.out
        rw [List.length_append] at h1
        have h2 := List.length_filter_le (fun e : Ed => decide (e.1 < ((i + 1 : Nat) : Int))) l
        have h3 := HOK.out.len
        unfold accL at h1 ⊢
        omega
      go_wp2_with (first | (refine wpList_loadBlk rfl 31 (.tmp 1) rfl g1 [.int .i64 n, .int .i64 m, .slice (some ⟨b1, 0, none⟩) (n + 1) c1, .slice A2 l.length c2, .slice A3 l.length c3] _ HX.out rfl Tryz.underlying31 rfl infoRows ?_))
      refine (part_anyM n m base i l _ _ _ wr hlt HOK.out HM.out).mono ?_
      rintro _ w4 ⟨B, D, rfl, hp, hk4⟩
      replace HO := Lib.hid (own_kept0 HO.out hk4)
      replace HX := Lib.hid (HX.out.kept hk4 (by simp))
      replace HM := Lib.hid (HM.out.kept0 hk4)
      replace K0 := Lib.hid (K0.out.trans hk4)
      have HP := Lib.hid hp
      clear hp hk4
      go_wp2_with fail
      go_loopw [3, 24] (fun v x wr => ∃ j : Nat, j ≤ (rowL l i).length ∧ x = .int .i64 j ∧ Hid (wr.ownsRow w.heap.size 84 3 v ((accL l i).length + j) ((accL l i ++ (rowL l i).take j).flatMap edV)) ∧ Hid (MtAt wr base (.slice (some ⟨b1, 0, none⟩) (n + 1) c1) (.slice A2 l.length c2) (.slice A3 l.length c3) n l) ∧ Hid (Blk wr g1 31 [.int .i64 n, .int .i64 m, .slice (some ⟨b1, 0, none⟩) (n + 1) c1, .slice A2 l.length c2, .slice A3 l.length c3]) ∧ Hid (Kept [] w wr)) (fun _ x _ => (rowL l i).length - (intOf x).toNat)
      case atStart =>
        refine ⟨0, Nat.zero_le _, rfl, Lib.hid ?_, HM, HX, K0⟩
        have := HO.out
        simpa using this
      case round =>
        clear HM HX K0 HO
        obtain ⟨j, hj, rfl, HO, HM, HX, K0⟩ := hrel
        obtain ⟨v, hv⟩ : ∃ v, v = u3 := ⟨_, rfl⟩
        subst hv
        obtain ⟨A6, c6, rfl⟩ := own_n HO.out
        by_cases hjl : j < (rowL l i).length
        · have HTK := Lib.hid (List.take_succ_eq_append_getElem hjl)
          have HE1 := Lib.hid (row_first (List.getElem_mem hjl))
          obtain ⟨bB, oB, hB, hbB, cB⟩ := cols_at (HP.out _ HM.out).1 hjl
          obtain ⟨bD, oD, hD, hbD, cD⟩ := vals_at (HP.out _ HM.out).2 hjl
          subst hB hD
          obtain ⟨x, hx⟩ : ∃ x, x = (rowL l i)[j] := ⟨_, rfl⟩
          rw [← hx] at cB cD HTK HE1
          clear hx
          obtain ⟨x1, x2, x3⟩ := x
          dsimp only at cB cD HE1
          have he1 := HE1.out
          subst he1
          have hsz := K0.out.size
          have hal2 : (accL l i).length + (j + 1) ≤ 65536 := by omega
          go_wp2_with (first | (at_builtin; refine wpList_app _ rfl (.tmp 29) (.tmp 37) _ rfl 84 (.agg #[.int .i64 0, .int .i64 0, .int .i64 0]) 3 24 Tryz.underlying24 infoTrI rfl (by decide) w.heap.size (.slice A6 ((accL l i).length + j) c6) ((accL l i).length + j) _ rfl (HO.out.alloc _) (some ⟨_, 0, none⟩) 1 1 (edV ((i : Int), x2, x3)) rfl rfl (Reads.of_blk (Blk.new _ _ _) (fun _ _ h => h)) (by simp [edV, Value.oneCell']) (by omega) (by unfold maxLen; omega) (by simp; omega) ?_; intro va wa howna hka hba; have HOa := Lib.hid howna; have Fa := Lib.hid (((KeptB.refl w.heap.size [84] wr).alloc _).app hka (HO.out.alloc _) (by decide)); clear howna hka hba))
          go_roundw
          case rel =>
            refine ⟨j + 1, by omega, by go_num, Lib.hid ?_, Lib.hid (HM.out.keptB Fa.out (by decide) (by decide)), Lib.hid (HX.out.keptB Fa.out (by decide)), Lib.hid (K0.out.thenB Fa.out (Nat.le_refl _))⟩
            have := HOa.out
            rw [HTK.out, ← List.append_assoc, List.flatMap_append (xs := accL l i ++ (rowL l i).take j), ← Nat.add_assoc]
            simpa [edV] using this
          case measure => simp [intOf]; omega
        · obtain rfl : j = (rowL l i).length := by omega
          rw [List.take_length, ← HAS.out] at HO
          have HLN := Lib.hid (show (accL l (i + 1)).length = (accL l i).length + (rowL l i).length by rw [HAS.out, List.length_append])
          go_wp2_with fail
          go_roundw
          case rel => exact ⟨i + 1, by omega, by go_num, Lib.hid (by rw [HLN.out]; exact HO.out), HM, HX, K0⟩
          case measure => simp [intOf]; omega
    · obtain rfl : i = n := by omega
      rw [accL_all (fun e he => (HOK.out.inn e he).1.2)] at HO
      go_wp2_with fail
      rw [HPOST.out]
      exact ⟨_, rfl, HO.out, K0.out⟩
end Go.Proofs.YtblfingmdipopaaGreat
