/- csr.part, csr.Triples, csr.Row, csr.Count of a matrix that is one. -/
import Derived.Test.YtblfingmdipopaaGreatK20
namespace Go.Proofs.YtblfingmdipopaaGreat
set_option linter.unusedSimpArgs false
set_option linter.unusedVariables false
open Go.ChangeShapes Go.WideShapes Go.ChangeAt Go.RowKit
open Go.RowKit (wrap32 wrap64)
set_option maxHeartbeats 8000000

theorem sl_int3 {s e L c : Nat} (A : Option Addr) (h1 : s ≤ e) (h2 : e ≤ c) : ∀ w : World, (Instr.sliceAt 28 (.slice A L c) (some (.int .i64 (s : Int))) (some (.int .i64 (e : Int))) (some (.int .i64 (e : Int)))).run Tryz.prog w = .ok (.slice (if e = s then A else A.map (·.add (s * 1))) (e - s) (e - s)) w := fun w => by
  rw [run_sliceAt_slice _ _ _ _ _ _ (by kernel_rfl), run_slice_lhm _ _ _ _ _ (by kernel_rfl) _ _ _ _ _ _ (by omega) (by omega) (by omega) (by omega)]
  rw [show ((sizeOf (Tryz.prog.elem 28)).run Tryz.prog w) = .ok 1 w by kernel_rfl]
  rfl
theorem sl_i643 {s e L c : Nat} (A : Option Addr) (h1 : s ≤ e) (h2 : e ≤ c) : ∀ w : World, (Instr.sliceAt 29 (.slice A L c) (some (.int .i64 (s : Int))) (some (.int .i64 (e : Int))) (some (.int .i64 (e : Int)))).run Tryz.prog w = .ok (.slice (if e = s then A else A.map (·.add (s * 1))) (e - s) (e - s)) w := fun w => by
  rw [run_sliceAt_slice _ _ _ _ _ _ (by kernel_rfl), run_slice_lhm _ _ _ _ _ (by kernel_rfl) _ _ _ _ _ _ (by omega) (by omega) (by omega) (by omega)]
  rw [show ((sizeOf (Tryz.prog.elem 29)).run Tryz.prog w) = .ok 1 w by kernel_rfl]
  rfl
/-- The forms of a matrix's rows. -/
theorem MtAt.form {w : World} {base n : Nat} {v1 v2 v3 : Value} {l : List Ed} (hm : MtAt w base v1 v2 v3 n l) : ∃ b1 c1 A2 c2 A3 c3, v1 = .slice (some ⟨b1, 0, none⟩) (n + 1) c1 ∧ v2 = .slice A2 l.length c2 ∧ v3 = .slice A3 l.length c3 ∧ l.length ≤ c2 ∧ l.length ≤ c3 := by
  obtain ⟨A1, c1, rfl, hc1, _, hr1, hb1⟩ := own_form hm.o1
  obtain ⟨A2, c2, rfl, hc2, _, hr2, _⟩ := own_form hm.o2
  obtain ⟨A3, c3, rfl, hc3, _, hr3, _⟩ := own_form hm.o3
  obtain ⟨b1, o1, rfl, hb, hcs⟩ := ints_at hr1 (k := 0) (by simp [startP, stL])
  obtain ⟨q, hq, _⟩ := hb1 _ rfl
  injection hq with hq1 hq2
  subst hq1 hq2
  exact ⟨_, _, _, _, _, _, rfl, rfl, rfl, hc2, hc3⟩
theorem MtAt.start {w : World} {base n b1 c1 : Nat} {v2 v3 : Value} {l : List Ed} (h : MtAt w base (.slice (some ⟨b1, 0, none⟩) (n + 1) c1) v2 v3 n l) {j : Nat} (hj : j ≤ n) : w.cell? ⟨b1, j, none⟩ = some (.int .i64 (belI l j)) := by
  have h1 := (Reads.of_own h.o1)
  obtain ⟨b, o, e, _, hc⟩ := ints_at h1 (k := j) (by simp [startP, stL]; omega)
  injection e with e
  injection e with e1 e2
  subst e1 e2
  have := hc j (by simp [startP, stL]; omega)
  rw [Nat.zero_add] at this
  rw [this]
  simp [startP, stL]
/-- A row's columns and values, where a call hands them back. -/
def PartAt (w : World) (B D : Option Addr) (l : List Ed) : Prop := Reads w B (colV l) ∧ Reads w D (valV l)
set_option maxRecDepth 100000 in
theorem part_any (n base i : Nat) (l : List Ed) (v1 v2 v3 : Value) (w : World) (hi : i < n) (hok : MtOk n l) (hm : MtAt w base v1 v2 v3 n l) :
    Calls Tryz.prog 67 #[.agg #[.int .i64 n, .int .i64 n, v1, v2, v3], .int .i64 i] w fun e w' => ∃ B D, e = .returned (.tuple #[.slice B (rowL l i).length (rowL l i).length, .slice D (rowL l i).length (rowL l i).length]) ∧ (∀ wx : World, MtAt wx base v1 v2 v3 n l → PartAt wx B D (rowL l i)) ∧ Kept [] w w' := by
  obtain ⟨b1, c1, A2, c2, A3, c3, rfl, rfl, rfl, hc2, hc3⟩ := hm.form
  have HX := Lib.hid (Blk.new w 31 [.int .i64 n, .int .i64 n, .slice (some ⟨b1, 0, none⟩) (n + 1) c1, .slice A2 l.length c2, .slice A3 l.length c3])
  have K0 := Lib.hid ((Kept.refl [] w).alloc (.cells #[.int .i64 n, .int .i64 n, .slice (some ⟨b1, 0, none⟩) (n + 1) c1, .slice A2 l.length c2, .slice A3 l.length c3] 31))
  have HM := Lib.hid (hm.kept0 K0.out)
  have hnn := hok.num
  have b0 := belI_in l i
  have b1' := belI_in l (i + 1)
  have b2 := bel_mono l i
  obtain ⟨s, hs⟩ : ∃ s : Nat, s = (belI l i).toNat := ⟨_, rfl⟩
  obtain ⟨e, he⟩ : ∃ e : Nat, e = (belI l (i + 1)).toNat := ⟨_, rfl⟩
  have hse : s ≤ e := by omega
  have hel : e ≤ l.length := by omega
  have HPT := Lib.hid (row_part (risesL_sortR hok.rises) i)
  rw [← hs, ← he] at HPT
  have HZ0 := Lib.hid (show belI l i = (s : Int) by omega)
  have HZ1 := Lib.hid (show belI l (i + 1) = (e : Int) by omega)
  have HRE := Lib.hid (show (rowL l i).length = e - s by
    rw [← HPT.out]
    simp
    omega)
  rw [HRE.out]
  clear hs he b0 b1' b2 hm
  obtain ⟨B, hB⟩ : ∃ B, B = (if e = s then A2 else A2.map (·.add (s * 1))) := ⟨_, rfl⟩
  obtain ⟨D, hD⟩ : ∃ D, D = (if e = s then A3 else A3.map (·.add (s * 1))) := ⟨_, rfl⟩
  have HPA := Lib.hid (fun wx hmx => ⟨by
      have h := (Reads.of_own (MtAt.o2 hmx)).sliced (l := s) (h := e) (m := e) hse (Nat.le_refl _) (by simp; exact hel)
      rw [← hB] at h
      have e1 : (((colV l).drop s).take (e - s)) = colV (rowL l i) := by
        rw [← HPT.out]
        simp [colV, List.map_take, List.map_drop]
      rw [e1] at h
      exact h, by
      have h := (Reads.of_own (MtAt.o3 hmx)).sliced (l := s) (h := e) (m := e) hse (Nat.le_refl _) (by simp; exact hel)
      rw [← hD] at h
      have e1 : (((valV l).drop s).take (e - s)) = valV (rowL l i) := by
        rw [← HPT.out]
        simp [valV, List.map_take, List.map_drop]
      rw [e1] at h
      exact h⟩ : ∀ wx : World, MtAt wx base (.slice (some ⟨b1, 0, none⟩) (n + 1) c1) (.slice A2 l.length c2) (.slice A3 l.length c3) n l → PartAt wx B D (rowL l i))
  have hsl := sl_int3 (s := s) (e := e) (L := l.length) (c := c2) A2 hse (by omega)
  have hsm := sl_i643 (s := s) (e := e) (L := l.length) (c := c3) A3 hse (by omega)
  rw [← hB] at hsl
  rw [← hD] at hsm
  have hwk : IntKind.i64.wrap ((i : Int) + 1) = (i : Int) + 1 := by rw [IntKind.wrap_i64]; omega
  clear hB hD HPT hok
  go_enter Tryz.func67, Tryz.ntmps67
  go_upto_region 1 with (fail)
  generalize w.alloc (.cells #[.int .i64 n, .int .i64 n, .slice (some ⟨b1, 0, none⟩) (n + 1) c1, .slice A2 l.length c2, .slice A3 l.length c3] 31) = w1 at *
  generalize w.heap.size = g1 at HX ⊢
  have z0 := HM.out.start (j := i) (by omega)
  have z1 := HM.out.start (j := i + 1) (by omega)
  rw [HZ0.out] at z0
  rw [HZ1.out] at z1
  have y2 := HX.out.cell 2
  have y3 := HX.out.cell 3
  have y4 := HX.out.cell 4
  simp only [List.getElem?_cons_zero, List.getElem?_cons_succ] at y2 y3 y4
  go_quiet (fail)
  go_wp2_with fail
  go_quiet (fail)
  go_wp2_with fail
  refine bodyPost_ret (v := .tuple #[.slice B (e - s) (e - s), .slice D (e - s) (e - s)]) (by simp [results, Tryz.results67, go_sem]) rfl ?_
  exact ⟨B, D, rfl, HPA.out, (K0.out.drewN _).drewN _⟩

/-- The edges ahead of a row. -/
def accL (l : List Ed) (k : Nat) : List Ed := l.filter (fun e => decide (e.1 < (k : Int)))
theorem accL_zero {l : List Ed} (h : ∀ e ∈ l, 0 ≤ e.1) : accL l 0 = [] := by
  unfold accL
  exact List.filter_eq_nil_iff.2 (fun e he => by have := h e he; simp; omega)
theorem accL_all {l : List Ed} {n : Nat} (h : ∀ e ∈ l, e.1 < n) : accL l n = l := by
  unfold accL
  exact List.filter_eq_self.2 (fun e he => by simpa using h e he)
theorem accL_succ {l : List Ed} (h : SortR l) (k : Nat) : accL l (k + 1) = accL l k ++ rowL l k := by
  have h1 := sortR_split (show SortR (accL l (k + 1)) from List.Pairwise.filter _ h) (k : Int)
  rw [← h1]
  unfold accL rowL
  rw [List.filter_filter, List.filter_filter]
  congr 1
  · refine List.filter_congr (fun e _ => ?_)
    by_cases he : e.1 < (k : Int) <;> simp [he] <;> omega
  · refine List.filter_congr (fun e _ => ?_)
    by_cases he : e.1 = (k : Int) <;> simp [he] <;> omega
theorem row_first {l : List Ed} {i : Nat} {e : Ed} (h : e ∈ rowL l i) : e.1 = (i : Int) := by simpa using (List.mem_filter.1 h).2
theorem vals_at {w : World} {A : Option Addr} {l : List Ed} (h : Reads w A (valV l)) {k : Nat} (hk : k < l.length) : ∃ b off, A = some ⟨b, off, none⟩ ∧ b < w.heap.size ∧ w.cell? ⟨b, off + k, none⟩ = some (.int .i64 l[k].2.2) := by
  obtain ⟨b, off, e, hb, hc⟩ := h (by intro h0; unfold valV at h0; rw [List.map_eq_nil_iff] at h0; rw [h0] at hk; simp at hk)
  exact ⟨b, off, e, hb, hc k _ (by simp [valV, hk])⟩
theorem cols_at {w : World} {A : Option Addr} {l : List Ed} (h : Reads w A (colV l)) {k : Nat} (hk : k < l.length) : ∃ b off, A = some ⟨b, off, none⟩ ∧ b < w.heap.size ∧ w.cell? ⟨b, off + k, none⟩ = some (.int .i64 l[k].2.1) := by
  obtain ⟨b, off, e, hb, hc⟩ := h (by intro h0; unfold colV at h0; rw [List.map_eq_nil_iff] at h0; rw [h0] at hk; simp at hk)
  exact ⟨b, off, e, hb, hc k _ (by simp [colV, hk])⟩
set_option maxRecDepth 100000 in
theorem triples_any (n base : Nat) (l : List Ed) (v1 v2 v3 : Value) (w : World) (hok : MtOk n l) (hm : MtAt w base v1 v2 v3 n l) :
    Calls Tryz.prog 33 #[.agg #[.int .i64 n, .int .i64 n, v1, v2, v3]] w fun e w' => ∃ v, e = .returned v ∧ w'.ownsRow w.heap.size 84 3 v l.length (l.flatMap edV) ∧ Kept [] w w' := by
  obtain ⟨b1, c1, A2, c2, A3, c3, rfl, rfl, rfl, _, _⟩ := hm.form
  have HX := Lib.hid (Blk.new w 31 [.int .i64 n, .int .i64 n, .slice (some ⟨b1, 0, none⟩) (n + 1) c1, .slice A2 l.length c2, .slice A3 l.length c3])
  have K0 := Lib.hid ((Kept.refl [] w).alloc (.cells #[.int .i64 n, .int .i64 n, .slice (some ⟨b1, 0, none⟩) (n + 1) c1, .slice A2 l.length c2, .slice A3 l.length c3] 31))
  have HM := Lib.hid (hm.kept0 K0.out)
  have HOK := Lib.hid hok
  have hnn := hok.num
  have HG := Lib.hid (show w.heap.size ≤ w.heap.size from Nat.le_refl _)
  obtain ⟨post, hpost⟩ : ∃ post : Ending → World → Prop, post = (fun e w' => ∃ v, e = .returned v ∧ w'.ownsRow w.heap.size 84 3 v l.length (l.flatMap edV) ∧ Kept [] w w') := ⟨_, rfl⟩
  rw [← hpost]
  have HPOST := Lib.hid hpost
  clear hpost hm hok
  go_enter Tryz.func33, Tryz.ntmps33
  go_upto_region 1 with (fail)
  generalize w.alloc (.cells #[.int .i64 n, .int .i64 n, .slice (some ⟨b1, 0, none⟩) (n + 1) c1, .slice A2 l.length c2, .slice A3 l.length c3] 31) = w1 at *
  generalize hgq : w.heap.size = g1 at HX ⊢
  rw [hgq] at HG
  have HGE := Lib.hid (show w.heap.size ≤ g1 by omega)
  clear hgq HG
  go_wp2_with (first | (refine wpList_loadBlk rfl 31 (.tmp 1) rfl g1 [.int .i64 n, .int .i64 n, .slice (some ⟨b1, 0, none⟩) (n + 1) c1, .slice A2 l.length c2, .slice A3 l.length c3] _ HX.out rfl Tryz.underlying31 rfl infoRows ?_))
  refine (sure_same n base l _ _ _ w1 HOK.out HM.out).mono ?_
  rintro _ w2 ⟨rfl, hk2⟩
  replace HX := Lib.hid (HX.out.kept hk2 (by simp))
  replace HM := Lib.hid (HM.out.kept0 hk2)
  replace K0 := Lib.hid (K0.out.trans hk2)
  clear hk2
  go_upto_region 2 with (first | (refine wpList_storeBlk rfl 31 (.tmp 1) (.tmp 10) rfl g1 _ [.int .i64 n, .int .i64 n, .slice (some ⟨b1, 0, none⟩) (n + 1) c1, .slice A2 l.length c2, .slice A3 l.length c3] HX.out rfl rfl rfl infoRows (by simp [Value.oneCell']) ?_; intro w3 hb3 hk3))
  have f8 : KeptB w.heap.size [31] w2 w3 := (KeptB.refl _ _ w2).step (L := [g1]) hk3 (fun u hu => by simp at hu; subst hu; exact ⟨HGE.out, _, _, _, HX.out, by simp⟩)
  replace HM := Lib.hid (HM.out.keptB f8 (by decide) (by decide))
  replace K0 := Lib.hid (K0.out.thenB f8 (Nat.le_refl _))
  replace HX := Lib.hid hb3
  clear f8 hb3 hk3
  have y0 := HX.out.cell 0
  simp only [List.getElem?_cons_zero, List.getElem?_cons_succ] at y0
  go_wp2_with fail
  clear y0
  go_loopw [3, 13] (fun v x wr => ∃ i : Nat, i ≤ n ∧ x = .int .i64 i ∧ Hid (wr.ownsRow w.heap.size 84 3 v (accL l i).length ((accL l i).flatMap edV)) ∧ Hid (MtAt wr base (.slice (some ⟨b1, 0, none⟩) (n + 1) c1) (.slice A2 l.length c2) (.slice A3 l.length c3) n l) ∧ Hid (Blk wr g1 31 [.int .i64 n, .int .i64 n, .slice (some ⟨b1, 0, none⟩) (n + 1) c1, .slice A2 l.length c2, .slice A3 l.length c3]) ∧ Hid (Kept [] w wr)) (fun _ x _ => n - (intOf x).toNat)
  case atStart =>
    refine ⟨0, Nat.zero_le _, rfl, Lib.hid ?_, HM, HX, K0⟩
    rw [accL_zero (fun e he => (HOK.out.inn e he).1.1)]
    exact World.ownsRow_nil _ _ _ _
  case round =>
    clear HM HX K0
    obtain ⟨i, hi, rfl, HO, HM, HX, K0⟩ := hrel
    obtain ⟨v, hv⟩ : ∃ v, v = u3 := ⟨_, rfl⟩
    subst hv
    by_cases hlt : i < n
    · obtain ⟨A5, c5, rfl⟩ := own_n HO.out
      have HAS := Lib.hid (accL_succ (risesL_sortR HOK.out.rises) i)
      have hal : (accL l i).length + (rowL l i).length ≤ 65536 := by
        have h1 := congrArg List.length HAS.out
        rw [List.length_append] at h1
        have h2 := List.length_filter_le (fun e : Ed => decide (e.1 < ((i + 1 : Nat) : Int))) l
        have h3 := HOK.out.len
        unfold accL at h1 ⊢
        omega
      go_wp2_with (first | (refine wpList_loadBlk rfl 31 (.tmp 1) rfl g1 [.int .i64 n, .int .i64 n, .slice (some ⟨b1, 0, none⟩) (n + 1) c1, .slice A2 l.length c2, .slice A3 l.length c3] _ HX.out rfl Tryz.underlying31 rfl infoRows ?_))
      refine (part_any n base i l _ _ _ wr hlt HOK.out HM.out).mono ?_
      rintro _ w4 ⟨B, D, rfl, hp, hk4⟩
      replace HO := Lib.hid (own_kept0 HO.out hk4)
      replace HX := Lib.hid (HX.out.kept hk4 (by simp))
      replace HM := Lib.hid (HM.out.kept0 hk4)
      replace K0 := Lib.hid (K0.out.trans hk4)
      have HP := Lib.hid hp
      clear hp hk4
      go_wp2_with fail
      go_loopw [3, 24] (fun v x wr => ∃ j : Nat, j ≤ (rowL l i).length ∧ x = .int .i64 j ∧ Hid (wr.ownsRow w.heap.size 84 3 v ((accL l i).length + j) ((accL l i ++ (rowL l i).take j).flatMap edV)) ∧ Hid (MtAt wr base (.slice (some ⟨b1, 0, none⟩) (n + 1) c1) (.slice A2 l.length c2) (.slice A3 l.length c3) n l) ∧ Hid (Blk wr g1 31 [.int .i64 n, .int .i64 n, .slice (some ⟨b1, 0, none⟩) (n + 1) c1, .slice A2 l.length c2, .slice A3 l.length c3]) ∧ Hid (Kept [] w wr)) (fun _ x _ => (rowL l i).length - (intOf x).toNat)
      case atStart =>
        refine ⟨0, Nat.zero_le _, rfl, Lib.hid ?_, HM, HX, K0⟩
        have := HO.out
        simpa using this
      case round =>
        clear HM HX K0 HO
        obtain ⟨j, hj, rfl, HO, HM, HX, K0⟩ := hrel
        obtain ⟨v, hv⟩ : ∃ v, v = u3 := ⟨_, rfl⟩
        subst hv
        obtain ⟨A6, c6, rfl⟩ := own_n HO.out
        by_cases hjl : j < (rowL l i).length
        · have HTK := Lib.hid (List.take_succ_eq_append_getElem hjl)
          have HE1 := Lib.hid (row_first (List.getElem_mem hjl))
          obtain ⟨bB, oB, hB, hbB, cB⟩ := cols_at (HP.out _ HM.out).1 hjl
          obtain ⟨bD, oD, hD, hbD, cD⟩ := vals_at (HP.out _ HM.out).2 hjl
          subst hB hD
          obtain ⟨x, hx⟩ : ∃ x, x = (rowL l i)[j] := ⟨_, rfl⟩
          rw [← hx] at cB cD HTK HE1
          clear hx
          obtain ⟨x1, x2, x3⟩ := x
          dsimp only at cB cD HE1
          have he1 := HE1.out
          subst he1
          have hsz := K0.out.size
          have hal2 : (accL l i).length + (j + 1) ≤ 65536 := by omega
          go_wp2_with (first | (at_builtin; refine wpList_app _ rfl (.tmp 29) (.tmp 37) _ rfl 84 (.agg #[.int .i64 0, .int .i64 0, .int .i64 0]) 3 24 Tryz.underlying24 infoTrI rfl (by decide) w.heap.size (.slice A6 ((accL l i).length + j) c6) ((accL l i).length + j) _ rfl (HO.out.alloc _) (some ⟨_, 0, none⟩) 1 1 (edV ((i : Int), x2, x3)) rfl rfl (Reads.of_blk (Blk.new _ _ _) (fun _ _ h => h)) (by simp [edV, Value.oneCell']) (by omega) (by unfold maxLen; omega) (by simp; omega) ?_; intro va wa howna hka hba; have HOa := Lib.hid howna; have Fa := Lib.hid (((KeptB.refl w.heap.size [84] wr).alloc _).app hka (HO.out.alloc _) (by decide)); clear howna hka hba))
          go_roundw
          case rel =>
            refine ⟨j + 1, by omega, by go_num, Lib.hid ?_, Lib.hid (HM.out.keptB Fa.out (by decide) (by decide)), Lib.hid (HX.out.keptB Fa.out (by decide)), Lib.hid (K0.out.thenB Fa.out (Nat.le_refl _))⟩
            have := HOa.out
            rw [HTK.out, ← List.append_assoc, List.flatMap_append (xs := accL l i ++ (rowL l i).take j), ← Nat.add_assoc]
            simpa [edV] using this
          case measure => simp [intOf]; omega
        · obtain rfl : j = (rowL l i).length := by omega
          rw [List.take_length, ← HAS.out] at HO
          have HLN := Lib.hid (show (accL l (i + 1)).length = (accL l i).length + (rowL l i).length by rw [HAS.out, List.length_append])
          go_wp2_with fail
          go_roundw
          case rel => exact ⟨i + 1, by omega, by go_num, Lib.hid (by rw [HLN.out]; exact HO.out), HM, HX, K0⟩
          case measure => simp [intOf]; omega
    · obtain rfl : i = n := by omega
      rw [accL_all (fun e he => (HOK.out.inn e he).1.2)] at HO
      go_wp2_with fail
      rw [HPOST.out]
      exact ⟨_, rfl, HO.out, K0.out⟩
end Go.Proofs.YtblfingmdipopaaGreat
