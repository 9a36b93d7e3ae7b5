/- devec.Right, pull.sure: a matrix and a dense vector that can be. Conditions: none but those of the lemmas. -/
import Derived.Test.YtblfingmdipopaaGreatM24
import Derived.Test.YtblfingmdipopaaGreatM21
namespace Go.Proofs.YtblfingmdipopaaGreat
set_option linter.unusedSimpArgs false
set_option linter.unusedVariables false
open Go.ChangeShapes Go.WideShapes Go.ChangeAt Go.RowKit
open Go.RowKit (wrap32 wrap64)
set_option maxHeartbeats 8000000
theorem fHas_w (N b i : Nat) (A : Option Addr) (c : Nat) (w : World) (hN : N ≤ 60) (hb : b < 2 ^ N) (hi : i < N) (hr : Reads w A (bitsV N b)) :
    Calls Tryz.prog 97 #[.slice A (wordsN N) c, .int .i64 i] w fun e w' => e = .returned (.bool (b.testBit i)) ∧ ∃ n, w' = w.drewN n := by
  have h0 : N ≠ 0 := by omega
  rw [show wordsN N = 1 by unfold wordsN; rw [if_neg h0]]
  rw [show bitsV N b = [vU b] by unfold bitsV; rw [if_neg h0]] at hr
  exact fHas_one b i A c w (lt_64 hN hb) (by omega) hr
set_option maxRecDepth 100000 in
theorem dRight_any (N b base : Nat) (X : List Ed) (V : List Int) (vh vv : Value) (w : World) (hN : N ≤ 60) (hok : DnOk N X b V) (hd : DnAt w base vh vv N b V) :
    Calls Tryz.prog 59 #[.agg #[.int .i64 N, vh, vv]] w fun e w' => e = .returned (.bool true) ∧ Kept [] w w' := by
  obtain ⟨Ah, ch, rfl⟩ := own_n hd.o1
  obtain ⟨Av, cv, rfl⟩ := own_n hd.o2
  have HX := Lib.hid (Blk.new w 48 [.int .i64 N, .slice Ah (wordsN N) ch, .slice Av N cv])
  have K0 := Lib.hid ((Kept.refl [] w).alloc (.cells #[.int .i64 N, .slice Ah (wordsN N) ch, .slice Av N cv] 48))
  have HD := Lib.hid (hd.kept0 K0.out)
  have HOK := Lib.hid hok
  clear hd hok
  go_enter Tryz.func59, Tryz.ntmps59
  go_upto_region 1 with (fail)
  generalize w.alloc (.cells #[.int .i64 N, .slice Ah (wordsN N) ch, .slice Av N cv] 48) = w1 at *
  generalize hgq : w.heap.size = g1 at HX ⊢
  clear hgq
  have y0 := HX.out.cell 0
  have y1 := HX.out.cell 1
  have y2 := HX.out.cell 2
  simp only [List.getElem?_cons_zero, List.getElem?_cons_succ] at y0 y1 y2
  go_wp2_with fail
  refine (fRight_any N b Ah ch _ hN HOK.out.lt (Reads.of_own HD.out.o1)).mono ?_
  rintro _ w2 ⟨rfl, hk⟩
  replace HX := Lib.hid (HX.out.kept hk (by simp))
  replace HD := Lib.hid (HD.out.kept0 hk)
  replace K0 := Lib.hid (K0.out.trans hk)
  clear hk y0 y1 y2
  have y0 := HX.out.cell 0
  have y1 := HX.out.cell 1
  have y2 := HX.out.cell 2
  simp only [List.getElem?_cons_zero, List.getElem?_cons_succ] at y0 y1 y2
  go_wp2_with fail
  clear y0 y1 y2
  go_loopw [22] (fun x wr => ∃ k : Nat, k ≤ N ∧ x = .int .i64 k ∧ Hid (Blk wr g1 48 [.int .i64 N, .slice Ah (wordsN N) ch, .slice Av N cv]) ∧ Hid (DnAt wr base (.slice Ah (wordsN N) ch) (.slice Av N cv) N b V) ∧ Hid (Kept [] w wr)) (fun x _ => N - (intOf x).toNat)
  case atStart => exact ⟨0, Nat.zero_le _, rfl, HX, HD, K0⟩
  case round =>
    clear HX HD K0
    obtain ⟨k, hk, rfl, HX, HD, K0⟩ := hrel
    have y1 := HX.out.cell 1
    simp only [List.getElem?_cons_zero, List.getElem?_cons_succ] at y1
    by_cases hlt : k < N
    · have hkv : k < V.length := by rw [HOK.out.len]; exact hlt
      obtain ⟨bb, off, hAv, hbl, hc⟩ := ints_at (Reads.of_own HD.out.o2) hkv
      have c0 := hc k hkv
      subst hAv
      have HBT := Lib.hid (fun h => by
        by_cases hm : (k : Int) ∈ atsP X
        · rw [HOK.out.has]
          simpa using hm
        · exfalso
          apply h
          have := HOK.out.non k hlt hm
          rw [List.getElem?_eq_getElem hkv] at this
          simpa using this : V[k] ≠ 0 → b.testBit k = true)
      obtain ⟨x, hx⟩ : ∃ x, x = V[k] := ⟨_, rfl⟩
      rw [← hx] at c0 HBT
      clear hx hc
      by_cases hx0 : x = 0
      · subst hx0
        go_wp2_with fail
        go_roundw
        case rel => exact ⟨k + 1, by omega, by go_num, HX, HD, K0⟩
        case measure => simp [intOf]; omega
      · have hne : (x != 0) = true := by simpa using hx0
        have HT := Lib.hid (HBT.out hx0)
        clear HBT hx0
        go_wp2_with fail
        refine (fHas_w N b k Ah ch _ hN HOK.out.lt hlt (Reads.of_own HD.out.o1)).mono ?_
        rw [HT.out]
        rintro _ w4 ⟨rfl, nq, rfl⟩
        go_wp2_with fail
        go_roundw
        case rel => exact ⟨k + 1, by omega, by go_num, Lib.hid (HX.out.kept ((Kept.refl [] wr).drewN nq) (by simp)), Lib.hid (HD.out.kept0 ((Kept.refl [] wr).drewN nq)), Lib.hid (K0.out.drewN nq)⟩
        case measure => simp [intOf]; omega
    · obtain rfl : k = N := by omega
      go_wp2_with fail
      go_ret
      exact ⟨rfl, K0.out⟩
set_option maxRecDepth 100000 in
theorem pSure_any (n m N b base base' : Nat) (l X : List Ed) (V : List Int) (v1 v2 v3 vh vv : Value) (w : World) (hN : N ≤ 60) (hmo : MtOkM n m l) (hm : MtAt w base v1 v2 v3 n l) (hok : DnOk N X b V) (hd : DnAt w base' vh vv N b V) :
    Calls Tryz.prog 27 #[.agg #[.int .i64 n, .int .i64 m, v1, v2, v3], .agg #[.int .i64 N, vh, vv]] w fun e w' => e = .returned (.tuple #[.agg #[.int .i64 n, .int .i64 m, v1, v2, v3], .agg #[.int .i64 N, vh, vv]]) ∧ Kept [] w w' := by
  obtain ⟨b1, c1, A2, c2, A3, c3, rfl, rfl, rfl, _, _⟩ := hm.form
  obtain ⟨Ah, ch, rfl⟩ := own_n hd.o1
  obtain ⟨Av, cv, rfl⟩ := own_n hd.o2
  have HX := Lib.hid ((((Blk.new w 31 [.int .i64 n, .int .i64 m, .slice (some ⟨b1, 0, none⟩) (n + 1) c1, .slice A2 l.length c2, .slice A3 l.length c3]).alloc (.cells #[.int .i64 N, .slice Ah (wordsN N) ch, .slice Av N cv] 48)).alloc (.cells #[.int .i64 0, .int .i64 0, .slice none 0 0, .slice none 0 0, .slice none 0 0] 31)).alloc (.cells #[.int .i64 0, .slice none 0 0, .slice none 0 0] 48))
  have HY := Lib.hid (((Blk.new1F w (.cells #[.int .i64 n, .int .i64 m, .slice (some ⟨b1, 0, none⟩) (n + 1) c1, .slice A2 l.length c2, .slice A3 l.length c3] 31) 48 [.int .i64 N, .slice Ah (wordsN N) ch, .slice Av N cv]).alloc (.cells #[.int .i64 0, .int .i64 0, .slice none 0 0, .slice none 0 0, .slice none 0 0] 31)).alloc (.cells #[.int .i64 0, .slice none 0 0, .slice none 0 0] 48))
  have HZ0 := (Blk.new ((w.alloc (.cells #[.int .i64 n, .int .i64 m, .slice (some ⟨b1, 0, none⟩) (n + 1) c1, .slice A2 l.length c2, .slice A3 l.length c3] 31)).alloc (.cells #[.int .i64 N, .slice Ah (wordsN N) ch, .slice Av N cv] 48)) 31 [.int .i64 0, .int .i64 0, .slice none 0 0, .slice none 0 0, .slice none 0 0]).alloc (.cells #[.int .i64 0, .slice none 0 0, .slice none 0 0] 48)
  have HW0 := Blk.new (((w.alloc (.cells #[.int .i64 n, .int .i64 m, .slice (some ⟨b1, 0, none⟩) (n + 1) c1, .slice A2 l.length c2, .slice A3 l.length c3] 31)).alloc (.cells #[.int .i64 N, .slice Ah (wordsN N) ch, .slice Av N cv] 48)).alloc (.cells #[.int .i64 0, .int .i64 0, .slice none 0 0, .slice none 0 0, .slice none 0 0] 31)) 48 [.int .i64 0, .slice none 0 0, .slice none 0 0]
  rw [show ((w.alloc (.cells #[.int .i64 n, .int .i64 m, .slice (some ⟨b1, 0, none⟩) (n + 1) c1, .slice A2 l.length c2, .slice A3 l.length c3] 31)).alloc (.cells #[.int .i64 N, .slice Ah (wordsN N) ch, .slice Av N cv] 48)).heap.size = w.heap.size + 1 + 1 by simp] at HZ0
  rw [show (((w.alloc (.cells #[.int .i64 n, .int .i64 m, .slice (some ⟨b1, 0, none⟩) (n + 1) c1, .slice A2 l.length c2, .slice A3 l.length c3] 31)).alloc (.cells #[.int .i64 N, .slice Ah (wordsN N) ch, .slice Av N cv] 48)).alloc (.cells #[.int .i64 0, .int .i64 0, .slice none 0 0, .slice none 0 0, .slice none 0 0] 31)).heap.size = w.heap.size + 1 + 1 + 1 by simp] at HW0
  have HZ := Lib.hid HZ0
  have HW := Lib.hid HW0
  have K0 := Lib.hid (((((Kept.refl [] w).alloc (.cells #[.int .i64 n, .int .i64 m, .slice (some ⟨b1, 0, none⟩) (n + 1) c1, .slice A2 l.length c2, .slice A3 l.length c3] 31)).alloc (.cells #[.int .i64 N, .slice Ah (wordsN N) ch, .slice Av N cv] 48)).alloc (.cells #[.int .i64 0, .int .i64 0, .slice none 0 0, .slice none 0 0, .slice none 0 0] 31)).alloc (.cells #[.int .i64 0, .slice none 0 0, .slice none 0 0] 48))
  have HM := Lib.hid (hm.kept0 K0.out)
  have HD := Lib.hid (hd.kept0 K0.out)
  have HNE := Lib.hid (show w.heap.size ≠ w.heap.size + 1 + 1 ∧ w.heap.size + 1 ≠ w.heap.size + 1 + 1 ∧ w.heap.size + 1 + 1 + 1 ≠ w.heap.size + 1 + 1 ∧ w.heap.size ≠ w.heap.size + 1 + 1 + 1 ∧ w.heap.size + 1 ≠ w.heap.size + 1 + 1 + 1 ∧ w.heap.size + 1 + 1 ≠ w.heap.size + 1 + 1 + 1 ∧ w.heap.size ≤ w.heap.size + 1 + 1 ∧ w.heap.size ≤ w.heap.size + 1 + 1 + 1 by omega)
  have HOK := Lib.hid hok
  have HMO := Lib.hid hmo
  clear hm hd HZ0 HW0 hok hmo
  go_enter Tryz.func27, Tryz.ntmps27
  go_upto_region 1 with (fail)
  generalize ((((w.alloc (.cells #[.int .i64 n, .int .i64 m, .slice (some ⟨b1, 0, none⟩) (n + 1) c1, .slice A2 l.length c2, .slice A3 l.length c3] 31)).alloc (.cells #[.int .i64 N, .slice Ah (wordsN N) ch, .slice Av N cv] 48)).alloc (.cells #[.int .i64 0, .int .i64 0, .slice none 0 0, .slice none 0 0, .slice none 0 0] 31)).alloc (.cells #[.int .i64 0, .slice none 0 0, .slice none 0 0] 48)) = w1 at *
  generalize w.heap.size + 1 + 1 + 1 = gw at HW HNE ⊢
  generalize w.heap.size + 1 + 1 = gz at HZ HNE ⊢
  generalize w.heap.size + 1 = g2 at HY HNE ⊢
  generalize hgq : w.heap.size = g1 at HX ⊢
  rw [hgq] at HNE
  rw [← hgq] at HNE
  go_wp2_with (first | (refine wpList_loadBlk rfl 31 (.tmp 2) rfl g1 [.int .i64 n, .int .i64 m, .slice (some ⟨b1, 0, none⟩) (n + 1) c1, .slice A2 l.length c2, .slice A3 l.length c3] _ HX.out rfl Tryz.underlying31 rfl infoRows ?_))
  refine (right_trueM n m base l _ _ _ w1 HMO.out HM.out).mono ?_
  rintro _ w3 ⟨rfl, hk⟩
  replace HX := Lib.hid (HX.out.kept hk (by simp))
  replace HY := Lib.hid (HY.out.kept hk (by simp))
  replace HZ := Lib.hid (HZ.out.kept hk (by simp))
  replace HW := Lib.hid (HW.out.kept hk (by simp))
  replace HD := Lib.hid (HD.out.kept0 hk)
  replace K0 := Lib.hid (K0.out.trans hk)
  clear hk
  go_wp2_with (first | (refine wpList_loadBlk rfl 48 (.tmp 3) rfl g2 [.int .i64 N, .slice Ah (wordsN N) ch, .slice Av N cv] _ HY.out rfl Tryz.underlying48 rfl infoDense ?_))
  refine (dRight_any N b base' X V _ _ w3 hN HOK.out HD.out).mono ?_
  rintro _ w5 ⟨rfl, hk⟩
  replace HX := Lib.hid (HX.out.kept hk (by simp))
  replace HY := Lib.hid (HY.out.kept hk (by simp))
  replace HZ := Lib.hid (HZ.out.kept hk (by simp))
  replace HW := Lib.hid (HW.out.kept hk (by simp))
  replace K0 := Lib.hid (K0.out.trans hk)
  clear hk
  go_upto_region 5 with (fail)
  rw [hgq] at HNE
  have HNE := Lib.hid (show g1 ≠ gz ∧ g2 ≠ gz ∧ gw ≠ gz ∧ g1 ≠ gw ∧ g2 ≠ gw ∧ gz ≠ gw ∧ w.heap.size ≤ gz ∧ w.heap.size ≤ gw by have := HNE.out; omega)
  clear hgq
  refine wp_region_held_drew (S := (fun w' => w'.rangeAt g1 0 [.int .i64 n, .int .i64 m, .slice (some ⟨b1, 0, none⟩) (n + 1) c1, .slice A2 l.length c2, .slice A3 l.length c3] ∧ w'.rangeAt g2 0 [.int .i64 N, .slice Ah (wordsN N) ch, .slice Av N cv])) (by kernel_rfl) ?_ (fun hHeld => ?_)
  · exact ⟨HX.out.cell2, HY.out.cell2⟩
  replace HX := Lib.hid (HX.out.kept (Kept.refl [] w5).drew (by simp))
  replace HY := Lib.hid (HY.out.kept (Kept.refl [] w5).drew (by simp))
  replace HZ := Lib.hid (HZ.out.kept (Kept.refl [] w5).drew (by simp))
  replace HW := Lib.hid (HW.out.kept (Kept.refl [] w5).drew (by simp))
  replace K0 := Lib.hid (K0.out.trans (Kept.refl [] w5).drew)
  generalize w5.drew = w6 at *
  refine tkLoad (i := 0) 31 (.tmp 2) g1 (0) [.int .i64 n, .int .i64 m, .slice (some ⟨b1, 0, none⟩) (n + 1) c1, .slice A2 l.length c2, .slice A3 l.length c3] _ rfl rfl (by kernel_rfl) (by kernel_rfl) (by kernel_rfl) (fun _ _ _ h => h) (by rfl) rfl rfl (fun w hw => hw.1) Tryz.underlying31 rfl infoRows (by assumption) ?_
  try simp only [Act.put, List.setIfInBounds_toArray, List.set_cons_zero, List.set_cons_succ]
  refine tkLoad (i := 1) 48 (.tmp 3) g2 (0) [.int .i64 N, .slice Ah (wordsN N) ch, .slice Av N cv] _ rfl rfl (by kernel_rfl) (by kernel_rfl) (by kernel_rfl) (fun _ _ _ h => h) (by rfl) rfl rfl (fun w hw => hw.2) Tryz.underlying48 rfl infoDense (by assumption) ?_
  try simp only [Act.put, List.setIfInBounds_toArray, List.set_cons_zero, List.set_cons_succ]
  refine wpAnyH_ready (rs := [2]) (by kernel_rfl) (by simp) ?_
  refine AllReadyH.cons rfl (fun K hK => ?_) AllReadyH.nil
  refine stpBlk rfl 31 (.tmp 4) (.tmp 17) rfl gz _ [.int .i64 n, .int .i64 m, .slice (some ⟨b1, 0, none⟩) (n + 1) c1, .slice A2 l.length c2, .slice A3 l.length c3] HZ.out rfl rfl rfl infoRows (by simp [Value.oneCell']) ?_
  intro w7 hb7 hk7
  replace HX := Lib.hid (HX.out.kept hk7 (by simp; exact HNE.out.1))
  replace HY := Lib.hid (HY.out.kept hk7 (by simp; exact HNE.out.2.1))
  replace HW := Lib.hid (HW.out.kept hk7 (by simp; exact HNE.out.2.2.1))
  replace HZ := Lib.hid hb7
  replace K0 := Lib.hid (K0.out.then hk7 (fun u hu => by simp at hu; subst hu; exact .inr HNE.out.2.2.2.2.2.2.1))
  clear hb7 hk7
  go_simp
  refine hK.out _ _ ?_ (fun hHeld => ?_)
  · exact ⟨HX.out.cell2, HY.out.cell2⟩
  clear hK K
  try simp only [Act.put, List.setIfInBounds_toArray, List.set_cons_zero, List.set_cons_succ]
  refine wpAnyH_ready (rs := [3]) (by kernel_rfl) (by simp) ?_
  refine AllReadyH.cons rfl (fun K hK => ?_) AllReadyH.nil
  refine stpBlk rfl 48 (.tmp 5) (.tmp 18) rfl gw _ [.int .i64 N, .slice Ah (wordsN N) ch, .slice Av N cv] HW.out rfl rfl rfl infoDense (by simp [Value.oneCell']) ?_
  intro w8 hb8 hk8
  replace HX := Lib.hid (HX.out.kept hk8 (by simp; exact HNE.out.2.2.2.1))
  replace HY := Lib.hid (HY.out.kept hk8 (by simp; exact HNE.out.2.2.2.2.1))
  replace HZ := Lib.hid (HZ.out.kept hk8 (by simp; exact HNE.out.2.2.2.2.2.1))
  replace K0 := Lib.hid (K0.out.then hk8 (fun u hu => by simp at hu; subst hu; exact .inr HNE.out.2.2.2.2.2.2.2))
  clear hk8
  go_simp
  refine hK.out _ _ ?_ (fun hHeld => ?_)
  · exact ⟨HX.out.cell2, HY.out.cell2⟩
  clear hK K
  try simp only [Act.put, List.setIfInBounds_toArray, List.set_cons_zero, List.set_cons_succ]
  refine wpAnyH_done (by kernel_rfl) ?_ _
  go_wp2_with fail
  have p0 := HZ.out.cell 0
  have p1 := HZ.out.cell 1
  have p2 := HZ.out.cell 2
  have p3 := HZ.out.cell 3
  have p4 := HZ.out.cell 4
  simp only [List.getElem?_cons_zero, List.getElem?_cons_succ] at p0 p1 p2 p3 p4
  have e0 := hb8.cell 0
  have e1 := hb8.cell 1
  have e2 := hb8.cell 2
  simp only [List.getElem?_cons_zero, List.getElem?_cons_succ] at e0 e1 e2
  refine bodyPost_ret (v := .tuple #[.agg #[.int .i64 n, .int .i64 m, .slice (some ⟨b1, 0, none⟩) (n + 1) c1, .slice A2 l.length c2, .slice A3 l.length c3], .agg #[.int .i64 N, .slice Ah (wordsN N) ch, .slice Av N cv]]) (by simp [results, Tryz.results27, go_sem, e0, e1, e2, p0, p1, p2, p3, p4]) rfl ?_
  exact ⟨rfl, K0.out⟩
end Go.Proofs.YtblfingmdipopaaGreat
