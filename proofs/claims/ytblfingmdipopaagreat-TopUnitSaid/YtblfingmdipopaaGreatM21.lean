/- csr.Right, csr.sure, csr.part, csr.Triples, gemm.part of a matrix of n rows and m columns. -/
import Derived.Test.YtblfingmdipopaaGreatM20
namespace Go.Proofs.YtblfingmdipopaaGreat
set_option linter.unusedSimpArgs false
set_option linter.unusedVariables false
open Go.ChangeShapes Go.WideShapes Go.ChangeAt Go.RowKit
open Go.RowKit (wrap32 wrap64)
set_option maxHeartbeats 8000000
/-- A list of triples that is a matrix of n rows and m columns. -/
structure MtOkM (n m : Nat) (l : List Ed) : Prop where
  rises : RisesL l
  inn : ∀ e ∈ l, (0 ≤ e.1 ∧ e.1 < n) ∧ 0 ≤ e.2.1 ∧ e.2.1 < m
  len : l.length ≤ 65536
  num : n ≤ 4096
  mum : m ≤ 4096
set_option maxRecDepth 100000 in
theorem right_trueM (n m base : Nat) (l : List Ed) (v1 v2 v3 : Value) (w : World) (hok : MtOkM n m l) (hm : MtAt w base v1 v2 v3 n l) :
    Calls Tryz.prog 49 #[.agg #[.int .i64 n, .int .i64 m, v1, v2, v3]] w fun e w' => e = .returned (.bool true) ∧ Kept [] w w' := by
  have hnn := hok.num
  have hmm := hok.mum
  have hll := hok.len
  have HOK := Lib.hid hok
  have HNN := Lib.hid (show (0 : Int) ≤ (m : Int) ∧ (m : Int) ≤ 4096 by omega)
  obtain ⟨A1, c1, rfl, hc1, _, hr1, hb1⟩ := own_form hm.o1
  obtain ⟨A2, c2, rfl, hc2, _, hr2, _⟩ := own_form hm.o2
  obtain ⟨A3, c3, rfl, hc3, _, hr3, _⟩ := own_form hm.o3
  obtain ⟨b1, o1, rfl, hb, hcs⟩ := ints_at hr1 (k := 0) (by simp [startP, stL])
  obtain ⟨q, hq, _⟩ := hb1 _ rfl
  injection hq with hq1 hq2
  subst hq1 hq2
  clear hcs hr1 hr2 hr3 hb1 hb
  have HX := Lib.hid (Blk.new w 31 [.int .i64 n, .int .i64 m, .slice (some ⟨b1, 0, none⟩) (n + 1) c1, .slice A2 l.length c2, .slice A3 l.length c3])
  have K0 := Lib.hid ((Kept.refl [] w).alloc (.cells #[.int .i64 n, .int .i64 m, .slice (some ⟨b1, 0, none⟩) (n + 1) c1, .slice A2 l.length c2, .slice A3 l.length c3] 31))
  have HM := Lib.hid (hm.kept0 K0.out)
  have HD := Lib.hid (show (decide ((0 : Int) ≤ (n : Int)) && decide ((n : Int) ≤ 4096)) = true by simp; omega)
  have HDM := Lib.hid (show (decide ((0 : Int) ≤ (m : Int)) && decide ((m : Int) ≤ 4096)) = true by simp; omega)
  clear hm hok
  go_enter Tryz.func49, Tryz.ntmps49
  go_upto_region 1 with (fail)
  generalize w.alloc (.cells #[.int .i64 n, .int .i64 m, .slice (some ⟨b1, 0, none⟩) (n + 1) c1, .slice A2 l.length c2, .slice A3 l.length c3] 31) = w1 at *
  generalize w.heap.size = g1 at HX ⊢
  have hst : ∀ (wx : World), MtAt wx base (.slice (some ⟨b1, 0, none⟩) (n + 1) c1) (.slice A2 l.length c2) (.slice A3 l.length c3) n l → ∀ j, j ≤ n → wx.cell? ⟨b1, j, none⟩ = some (.int .i64 (belI l j)) := fun wx h j hj => by
    have h1 := (Reads.of_own h.o1)
    obtain ⟨b, o, e, _, hc⟩ := ints_at h1 (k := j) (by simp [startP, stL]; omega)
    injection e with e
    injection e with e1 e2
    subst e1 e2
    have := hc j (by simp [startP, stL]; omega)
    rw [Nat.zero_add] at this
    rw [this]
    simp [startP, stL]
  have HST := Lib.hid hst
  clear hst
  have y0 := HX.out.cell 0
  have y1 := HX.out.cell 1
  have y2 := HX.out.cell 2
  have y3 := HX.out.cell 3
  have y4 := HX.out.cell 4
  simp only [List.getElem?_cons_zero, List.getElem?_cons_succ] at y0 y1 y2 y3 y4
  go_wp2_with fail
  refine (within_c n 4096 _).mono ?_
  rintro _ wn ⟨rfl, rfl⟩
  rw [HD.out]
  go_wp2_with fail
  refine (within_c m 4096 _).mono ?_
  rintro _ wn ⟨rfl, rfl⟩
  rw [HDM.out]
  have z0 := HST.out _ HM.out 0 (Nat.zero_le _)
  have zn := HST.out _ HM.out n (Nat.le_refl _)
  rw [belI_zero (fun e he => (HOK.out.inn e he).1.1)] at z0
  rw [bel_all (fun e he => (HOK.out.inn e he).1.2)] at zn
  go_wp2_with fail
  have HSR := Lib.hid (sorted_true (startP n l) (some ⟨b1, 0, none⟩) c1 wn (by simp [startP, stL]; omega) (Reads.of_own HM.out.o1) (start_mono n l))
  rw [show (startP n l).length = n + 1 by simp [startP, stL]] at HSR
  refine HSR.out.mono ?_
  rintro _ w2 ⟨rfl, hk2⟩
  clear HSR
  replace HM := Lib.hid (HM.out.kept0 hk2)
  replace HX := Lib.hid (HX.out.kept hk2 (by simp))
  replace K0 := Lib.hid (K0.out.trans hk2)
  clear hk2 y0 y1 y2 y3 y4 z0 zn
  have y0 := HX.out.cell 0
  simp only [List.getElem?_cons_zero, List.getElem?_cons_succ] at y0
  go_wp2_with fail
  clear y0
  go_loopw [61] (fun x wr => ∃ i : Nat, i ≤ n ∧ x = .int .i64 i ∧ Hid (MtAt wr base (.slice (some ⟨b1, 0, none⟩) (n + 1) c1) (.slice A2 l.length c2) (.slice A3 l.length c3) n l) ∧ Hid (Blk wr g1 31 [.int .i64 n, .int .i64 m, .slice (some ⟨b1, 0, none⟩) (n + 1) c1, .slice A2 l.length c2, .slice A3 l.length c3]) ∧ Hid (Kept [] w wr)) (fun x _ => n - (intOf x).toNat)
  case atStart => exact ⟨0, Nat.zero_le _, rfl, HM, HX, K0⟩
  case round =>
    clear HM HX K0
    obtain ⟨i, hi, rfl, HM, HX, K0⟩ := hrel
    by_cases hlt : i < n
    · have y1 := HX.out.cell 1
      have y2 := HX.out.cell 2
      have y3 := HX.out.cell 3
      simp only [List.getElem?_cons_zero, List.getElem?_cons_succ] at y1 y2 y3
      have z0 := HST.out _ HM.out i (by omega)
      have z1 := HST.out _ HM.out (i + 1) (by omega)
      have b0 := belI_in l i
      have b1' := belI_in l (i + 1)
      have b2 := bel_mono l i
      obtain ⟨s, hs⟩ : ∃ s : Nat, s = (belI l i).toNat := ⟨_, rfl⟩
      obtain ⟨e, he⟩ : ∃ e : Nat, e = (belI l (i + 1)).toNat := ⟨_, rfl⟩
      have hse : s ≤ e := by omega
      have hel : e ≤ l.length := by omega
      have hec : e ≤ c2 := by omega
      rw [show belI l i = (s : Int) by omega] at z0
      rw [show belI l (i + 1) = (e : Int) by omega] at z1
      have HPT := Lib.hid (row_part (risesL_sortR HOK.out.rises) i)
      rw [← hs, ← he] at HPT
      clear hs he b0 b1' b2
      have HRL := Lib.hid (show ((rowL l i).map (fun e => e.2.1)).length ≤ 1048576 by
        rw [List.length_map]
        exact Nat.le_trans (List.length_filter_le _ _) (by omega))
      have HRE := Lib.hid (show ((rowL l i).map (fun e => e.2.1)).length = e - s by
        rw [List.length_map, ← HPT.out]
        simp
        omega)
      obtain ⟨B, hB⟩ : ∃ B, B = (if c2 = s then A2 else A2.map (·.add (s * 1))) := ⟨_, rfl⟩
      have HRR := Lib.hid (fun wx hmx => by
        have h := (Reads.of_own (MtAt.o2 hmx)).sliced (l := s) (h := e) (m := c2) hse hec (by simp; exact hel)
        rw [← hB] at h
        have e1 : (((colV l).drop s).take (e - s)) = ((rowL l i).map (fun e => e.2.1)).map vI := by
          rw [← HPT.out]
          simp [colV, List.map_take, List.map_drop]
          rfl
        rw [e1] at h
        exact h : ∀ wx : World, MtAt wx base (.slice (some ⟨b1, 0, none⟩) (n + 1) c1) (.slice A2 l.length c2) (.slice A3 l.length c3) n l → Reads wx B (((rowL l i).map (fun e => e.2.1)).map vI))
      have HRI := Lib.hid (fun x hx => by
        obtain ⟨y, hy, rfl⟩ := List.mem_map.1 hx
        exact (HOK.out.inn y (List.mem_filter.1 hy).1).2 : ∀ x : Int, x ∈ ((rowL l i).map (fun e => e.2.1)) → 0 ≤ x ∧ x < (m : Int))
      have HRC := Lib.hid (fun j h => (List.pairwise_iff_getElem.1 (rowL_cols HOK.out.rises i)) j (j + 1) (by omega) h (by omega) : ∀ j (h : j + 1 < ((rowL l i).map (fun e => e.2.1)).length), ((rowL l i).map (fun e => e.2.1))[j] < ((rowL l i).map (fun e => e.2.1))[j + 1])
      have hsl := sl_int (s := s) (e := e) (L := l.length) (c := c2) A2 hse hec
      rw [← hB] at hsl
      clear hB HPT
      have hwk : IntKind.i64.wrap ((i : Int) + 1) = (i : Int) + 1 := by rw [IntKind.wrap_i64]; omega
      go_upto_region 9 with (fail)
      refine wp_region_held_drew (S := (fun w' => w'.cell? ⟨g1, 1, none⟩ = some (.int .i64 m) ∧ w'.cell? ⟨g1, 2, none⟩ = some (.slice (some ⟨b1, 0, none⟩) (n + 1) c1) ∧ w'.cell? ⟨g1, 3, none⟩ = some (.slice A2 l.length c2) ∧ w'.cell? ⟨b1, i, none⟩ = some (.int .i64 (s : Int)) ∧ w'.cell? ⟨b1, i + 1, none⟩ = some (.int .i64 (e : Int)))) (by kernel_rfl) ?_ (fun hHeld => ?_)
      · exact ⟨y1, y2, y3, z0, z1⟩
      replace K0 := Lib.hid K0.out.drew
      replace HM := Lib.hid (HM.out.kept0 (Kept.refl [] wr).drew)
      replace HX := Lib.hid (HX.out.kept (Kept.refl [] wr).drew (by simp))
      clear y1 y2 y3 z0 z1
      generalize wr.drew = w3 at *
      have y1 := hHeld.1
      have y2 := hHeld.2.1
      have y3 := hHeld.2.2.1
      have z0 := hHeld.2.2.2.1
      have z1 := hHeld.2.2.2.2
      refine tkYes (i := 0) (v := ?_) rfl rfl (by kernel_rfl) (by kernel_rfl) (by kernel_rfl) (fun _ _ _ h => h) (by rfl) ?_ (by assumption) ?_
      rotate_left
      · (intro w' hSw; (try dsimp only at hSw); go_simp; try with_reducible rfl)
      try simp only [Act.put, List.setIfInBounds_toArray, List.set_cons_zero, List.set_cons_succ]
      refine tkYes (i := 1) (v := ?_) rfl rfl (by kernel_rfl) (by kernel_rfl) (by kernel_rfl) (fun _ _ _ h => h) (by rfl) ?_ (by assumption) ?_
      rotate_left
      · (intro w' hSw; (try dsimp only at hSw); go_simp; try with_reducible rfl)
      try simp only [Act.put, List.setIfInBounds_toArray, List.set_cons_zero, List.set_cons_succ]
      refine tkYes (i := 2) (v := ?_) rfl rfl (by kernel_rfl) (by kernel_rfl) (by kernel_rfl) (fun _ _ _ h => h) (by rfl) ?_ (by assumption) ?_
      rotate_left
      · (intro w' hSw; (try dsimp only at hSw); go_simp; try with_reducible rfl)
      try simp only [Act.put, List.setIfInBounds_toArray, List.set_cons_zero, List.set_cons_succ]
      refine tkYes (i := 3) (v := ?_) rfl rfl (by kernel_rfl) (by kernel_rfl) (by kernel_rfl) (fun _ _ _ h => h) (by rfl) ?_ (by assumption) ?_
      rotate_left
      · (intro w' hSw; (try dsimp only at hSw); go_simp; try with_reducible rfl)
      try simp only [Act.put, List.setIfInBounds_toArray, List.set_cons_zero, List.set_cons_succ]
      refine tkYes (i := 4) (v := ?_) rfl rfl (by kernel_rfl) (by kernel_rfl) (by kernel_rfl) (fun _ _ _ h => h) (by rfl) ?_ (by assumption) ?_
      rotate_left
      · (intro w' hSw; (try dsimp only at hSw); go_simp; try with_reducible rfl)
      try simp only [Act.put, List.setIfInBounds_toArray, List.set_cons_zero, List.set_cons_succ]
      refine tkYes (i := 5) (v := .pointer (some ⟨b1, i, none⟩)) rfl rfl (by kernel_rfl) (by kernel_rfl) (by kernel_rfl) (fun _ _ _ h => h) (by rfl) ?_ (by assumption) ?_
      skip
      · (intro w' hSw; (try dsimp only at hSw); go_simp; try (intro hbad; omega))
      try simp only [Act.put, List.setIfInBounds_toArray, List.set_cons_zero, List.set_cons_succ]
      refine tkYes (i := 6) (v := ?_) rfl rfl (by kernel_rfl) (by kernel_rfl) (by kernel_rfl) (fun _ _ _ h => h) (by rfl) ?_ (by assumption) ?_
      rotate_left
      · (intro w' hSw; (try dsimp only at hSw); go_simp; try with_reducible rfl)
      try simp only [Act.put, List.setIfInBounds_toArray, List.set_cons_zero, List.set_cons_succ]
      refine tkYes (i := 7) (v := ?_) rfl rfl (by kernel_rfl) (by kernel_rfl) (by kernel_rfl) (fun _ _ _ h => h) (by rfl) ?_ (by assumption) ?_
      rotate_left
      · (intro w' hSw; (try dsimp only at hSw); go_simp; try with_reducible rfl)
      try simp only [Act.put, List.setIfInBounds_toArray, List.set_cons_zero, List.set_cons_succ]
      refine tkYes (i := 8) (v := ?_) rfl rfl (by kernel_rfl) (by kernel_rfl) (by kernel_rfl) (fun _ _ _ h => h) (by rfl) ?_ (by assumption) ?_
      rotate_left
      · (intro w' hSw; (try dsimp only at hSw); go_simp; try with_reducible rfl)
      try simp only [Act.put, List.setIfInBounds_toArray, List.set_cons_zero, List.set_cons_succ]
      refine tkYes (i := 9) (v := ?_) rfl rfl (by kernel_rfl) (by kernel_rfl) (by kernel_rfl) (fun _ _ _ h => h) (by rfl) ?_ (by assumption) ?_
      rotate_left
      · (intro w' hSw; (try dsimp only at hSw); go_simp; try with_reducible rfl)
      try simp only [Act.put, List.setIfInBounds_toArray, List.set_cons_zero, List.set_cons_succ]
      refine tkYes (i := 10) (v := .int .i64 ((i : Int) + 1)) rfl rfl (by kernel_rfl) (by kernel_rfl) (by kernel_rfl) (fun _ _ _ h => h) (by rfl) ?_ (by assumption) ?_
      skip
      · (intro w' hSw; (try dsimp only at hSw); go_simp; try (rw [hwk]))
      try simp only [Act.put, List.setIfInBounds_toArray, List.set_cons_zero, List.set_cons_succ]
      refine tkYes (i := 11) (v := .pointer (some ⟨b1, i + 1, none⟩)) rfl rfl (by kernel_rfl) (by kernel_rfl) (by kernel_rfl) (fun _ _ _ h => h) (by rfl) ?_ (by assumption) ?_
      skip
      · (intro w' hSw; (try dsimp only at hSw); go_simp; try (intro hbad; omega))
      try simp only [Act.put, List.setIfInBounds_toArray, List.set_cons_zero, List.set_cons_succ]
      refine tkYes (i := 12) (v := ?_) rfl rfl (by kernel_rfl) (by kernel_rfl) (by kernel_rfl) (fun _ _ _ h => h) (by rfl) ?_ (by assumption) ?_
      rotate_left
      · (intro w' hSw; (try dsimp only at hSw); go_simp; try with_reducible rfl)
      try simp only [Act.put, List.setIfInBounds_toArray, List.set_cons_zero, List.set_cons_succ]
      refine tkYes (i := 13) (v := .slice B (e - s) (c2 - s)) rfl rfl (by kernel_rfl) (by kernel_rfl) (by kernel_rfl) (fun _ _ _ h => h) (by rfl) ?_ (by assumption) ?_
      skip
      · (intro w' hSw; (try dsimp only at hSw); go_simp; try (rw [hsl]))
      try simp only [Act.put, List.setIfInBounds_toArray, List.set_cons_zero, List.set_cons_succ]
      refine tkYes (i := 14) (v := ?_) rfl rfl (by kernel_rfl) (by kernel_rfl) (by kernel_rfl) (fun _ _ _ h => h) (by rfl) ?_ (by assumption) ?_
      rotate_left
      · (intro w' hSw; (try dsimp only at hSw); go_simp; try with_reducible rfl)
      try simp only [Act.put, List.setIfInBounds_toArray, List.set_cons_zero, List.set_cons_succ]
      refine tkYes (i := 15) (v := ?_) rfl rfl (by kernel_rfl) (by kernel_rfl) (by kernel_rfl) (fun _ _ _ h => h) (by rfl) ?_ (by assumption) ?_
      rotate_left
      · (intro w' hSw; (try dsimp only at hSw); go_simp; try with_reducible rfl)
      try simp only [Act.put, List.setIfInBounds_toArray, List.set_cons_zero, List.set_cons_succ]
      refine wpAnyH_ready (rs := [16]) (by kernel_rfl) (by simp) ?_
      refine AllReadyH.cons rfl (fun K hK => ?_) AllReadyH.nil
      go_simp
      go_at_call 87
      have HRW := Lib.hid (row_true ((rowL l i).map (fun e => e.2.1)) m B (c2 - s) w3 HRL.out HNN.out (HRR.out w3 HM.out) HRI.out HRC.out)
      rw [HRE.out] at HRW
      refine HRW.out.mono ?_
      rintro x wn ⟨rfl, rfl⟩
      go_wp2_with fail
      refine hK.out _ _ ?_ (fun hHeld => ?_)
      · exact ⟨y1, y2, y3, z0, z1⟩
      clear hK K
      try simp only [Act.put, List.setIfInBounds_toArray, List.set_cons_zero, List.set_cons_succ]
      refine tkYes (i := 17) (v := ?_) rfl rfl (by kernel_rfl) (by kernel_rfl) (by kernel_rfl) (fun _ _ _ h => h) (by rfl) ?_ (by assumption) ?_
      rotate_left
      · (intro w' hSw; (try dsimp only at hSw); go_simp; try with_reducible rfl)
      try simp only [Act.put, List.setIfInBounds_toArray, List.set_cons_zero, List.set_cons_succ]
      refine wpAnyH_done (by kernel_rfl) ?_ _
      go_wp2_with fail
      go_roundw
      case rel => exact ⟨i + 1, by omega, by go_num, HM, HX, K0⟩
      case measure => simp [intOf]; omega
    · go_wp2_with fail
      go_ret
      exact ⟨rfl, K0.out⟩
end Go.Proofs.YtblfingmdipopaaGreat
