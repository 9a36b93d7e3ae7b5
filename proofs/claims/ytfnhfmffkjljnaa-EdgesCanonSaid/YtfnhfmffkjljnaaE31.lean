/- What must be whatever is asked. -/
import Derived.Test.YtfnhfmffkjljnaaE30
namespace Go.Proofs.Ytfnhfmffkjljnaa
set_option linter.unusedSimpArgs false
set_option linter.unusedVariables false
open Go.ChangeShapes Go.WideShapes Go.ChangeAt Go.RowKit
open Go.RowKit (wrap32 wrap64)
set_option maxHeartbeats 16000000

theorem own_at {w : World} {base : Nat} {v : Value} {n : Nat} {xs : List Value} (h : w.ownsRow base 41 3 v n xs) (h0 : 0 < n) : ∃ g c, v = .slice (some ⟨g, 0, none⟩) n c ∧ n ≤ c ∧ c ≤ maxLen ∧ ∀ j u, j < n * 3 → xs[j]? = some u → w.cell? ⟨g, j, none⟩ = some u := by
  obtain ⟨g, c, rfl, _, _, h1, h2⟩ := own_ptr h h0
  exact ⟨g, c, rfl, h1, h2, fun j u hj hu => (h.cellAt j hj).trans hu⟩
set_option maxRecDepth 100000 in
theorem live_any (w : World) : Calls Try.prog 11 #[] w fun e w' => e = .returned (.bool true) ∧ Kept [] w w' := by
  go_enter Try.func11, Try.ntmps11
  go_upto_region 2 with (fail)
  have HE := Lib.hid ((Blk.new w 41 [.int .i64 1, .int .i64 2, .int .i64 5, .int .i64 0, .int .i64 0, .int .i64 1, .int .i64 1, .int .i64 2, .int .i64 3]).alloc (.cells #[.int .i64 3, .slice (some ⟨w.heap.size, 0, none⟩) 3 3] 24))
  have HB := Lib.hid (Blk.new1F w (.cells #[.int .i64 1, .int .i64 2, .int .i64 5, .int .i64 0, .int .i64 0, .int .i64 1, .int .i64 1, .int .i64 2, .int .i64 3] 41) 24 [.int .i64 3, .slice (some ⟨w.heap.size, 0, none⟩) 3 3])
  have K0 := Lib.hid (((Kept.refl [] w).alloc (.cells #[.int .i64 1, .int .i64 2, .int .i64 5, .int .i64 0, .int .i64 0, .int .i64 1, .int .i64 1, .int .i64 2, .int .i64 3] 41)).alloc (.cells #[.int .i64 3, .slice (some ⟨w.heap.size, 0, none⟩) 3 3] 24))
  generalize (w.alloc (.cells #[.int .i64 1, .int .i64 2, .int .i64 5, .int .i64 0, .int .i64 0, .int .i64 1, .int .i64 1, .int .i64 2, .int .i64 3] 41)).alloc (.cells #[.int .i64 3, .slice (some ⟨w.heap.size, 0, none⟩) 3 3] 24) = w1 at *
  generalize w.heap.size + 1 = g1 at HB ⊢
  generalize w.heap.size = gE at HE HB ⊢
  have HR := Lib.hid (show Reads w1 (some ⟨gE, 0, none⟩) (E3.flatMap edV) from Reads.of_blk HE.out (fun _ _ h => h))
  clear HE
  go_wp2_with (first | (refine wpList_loadBlk rfl 24 (.tmp 1) rfl g1 [.int .i64 3, .slice (some ⟨gE, 0, none⟩) 3 3] _ HB.out rfl Try.underlying24 rfl infoGraph ?_))
  refine (canon_any 3 E3 (some ⟨gE, 0, none⟩) 3 _ (by decide) HR.out E3_in).mono ?_
  rintro _ w2 ⟨vr, rfl, ho, hk⟩
  rw [E3_canon] at ho
  obtain ⟨gc, cc, rfl, hcc, hcm, hce⟩ := own_at ho (by decide)
  have kd := hk.alloc (.cells #[.int .i64 3, .slice (some ⟨gc, 0, none⟩) 2 cc] 24)
  have HC := Lib.hid (Blk.new w2 24 [.int .i64 3, .slice (some ⟨gc, 0, none⟩) 2 cc])
  have HCR := Lib.hid ((Reads.of_own ho).kept0 ((Kept.refl [] w2).alloc (.cells #[.int .i64 3, .slice (some ⟨gc, 0, none⟩) 2 cc] 24)))
  have HCW := Lib.hid (((Kept.refl [] w2).alloc (.cells #[.int .i64 3, .slice (some ⟨gc, 0, none⟩) 2 cc] 24)).cell_lt (hce 5 _ (by decide) rfl))
  replace HB := Lib.hid (HB.out.kept kd (by simp))
  replace HR := Lib.hid (HR.out.kept0 kd)
  replace K0 := Lib.hid (K0.out.trans kd)
  have HCC := Lib.hid (And.intro hcc hcm)
  clear ho hk kd hce hcc hcm
  go_upto_region 3 with (fail)
  generalize w2.alloc (.cells #[.int .i64 3, .slice (some ⟨gc, 0, none⟩) 2 cc] 24) = w3 at *
  generalize w2.heap.size = g2 at HC ⊢
  have b1 := HB.out.cell 1
  have bl := HB.out.lt
  simp only [List.getElem?_cons_zero, List.getElem?_cons_succ] at b1
  go_wp2_with fail
  refine (combine_ok 5 E3 (some ⟨gE, 0, none⟩) 3 _ (by decide) (by decide) HR.out E3_in).mono ?_
  rintro _ w4 ⟨vr, rfl, ho, hk⟩
  rw [E3_comb] at ho ⊢
  obtain ⟨gl, cl, rfl, hcc, hcm, hce⟩ := own_at ho (by decide)
  have HLW := Lib.hid (hce 5 _ (by decide) rfl)
  replace HB := Lib.hid (HB.out.kept hk (by simp))
  replace HC := Lib.hid (HC.out.kept hk (by simp))
  replace HR := Lib.hid (HR.out.kept0 hk)
  replace HCR := Lib.hid (HCR.out.kept0 hk)
  replace HCW := Lib.hid (hk.cell_lt HCW.out)
  replace K0 := Lib.hid (K0.out.trans hk)
  clear ho hk hce hcc hcm b1 bl
  go_wp2_with fail
  refine (combine_bad 0 none 0 0 _ (by decide)).mono ?_
  rintro _ wS ⟨rfl, rfl⟩
  have KS := Lib.hid (Kept.refl [] wS)
  have FG := fieldGraph
  have b0 := (HB.out.kept KS.out (by simp)).cell 0
  have b1 := (HB.out.kept KS.out (by simp)).cell 1
  have e0 := (HC.out.kept KS.out (by simp)).cell 0
  have e1 := (HC.out.kept KS.out (by simp)).cell 1
  simp only [List.getElem?_cons_zero, List.getElem?_cons_succ] at b0 b1 e0 e1
  go_wp2_with fail
  refine (right_any 3 E3 (some ⟨gE, 0, none⟩) 3 _ (by decide) (HR.out.kept0 KS.out)).mono ?_
  rintro _ v1 ⟨rfl, hk⟩
  rw [E3_right]
  replace KS := Lib.hid (KS.out.trans hk)
  clear b0 b1 e0 e1
  have b0 := (HB.out.kept KS.out (by simp)).cell 0
  have b1 := (HB.out.kept KS.out (by simp)).cell 1
  have e0 := (HC.out.kept KS.out (by simp)).cell 0
  have e1 := (HC.out.kept KS.out (by simp)).cell 1
  simp only [List.getElem?_cons_zero, List.getElem?_cons_succ] at b0 b1 e0 e1
  clear hk
  go_wp2_with fail
  refine (right_any (-1) [] none 0 _ (by decide) (Reads.nil _ _)).mono ?_
  rintro _ v2 ⟨rfl, hk⟩
  rw [E0_right]
  replace KS := Lib.hid (KS.out.trans hk)
  clear b0 b1 e0 e1
  have b0 := (HB.out.kept KS.out (by simp)).cell 0
  have b1 := (HB.out.kept KS.out (by simp)).cell 1
  have e0 := (HC.out.kept KS.out (by simp)).cell 0
  have e1 := (HC.out.kept KS.out (by simp)).cell 1
  simp only [List.getElem?_cons_zero, List.getElem?_cons_succ] at b0 b1 e0 e1
  have d5 := KS.out.cell_lt HCW.out
  have l5 := KS.out.cell_lt HLW.out
  clear hk
  go_wp2_with fail
  refine (topT 3 E3 (some ⟨gE, 0, none⟩) 3 _ (by decide) (HR.out.kept0 KS.out) E3_in).mono ?_
  rintro _ v3 ⟨vr, rfl, ho, hk⟩
  rw [E3_turn] at ho
  replace KS := Lib.hid (KS.out.trans hk)
  clear b0 b1 e0 e1
  have b0 := (HB.out.kept KS.out (by simp)).cell 0
  have b1 := (HB.out.kept KS.out (by simp)).cell 1
  have e0 := (HC.out.kept KS.out (by simp)).cell 0
  have e1 := (HC.out.kept KS.out (by simp)).cell 1
  simp only [List.getElem?_cons_zero, List.getElem?_cons_succ] at b0 b1 e0 e1
  obtain ⟨gt, ct, rfl, _, _, hce⟩ := own_at ho (by decide)
  have t3 := hce 3 _ (by decide) rfl
  clear ho hce d5 l5
  clear hk
  go_wp2_with fail
  refine (both_any 3 E3 (some ⟨gE, 0, none⟩) 3 _ (by decide) (HR.out.kept0 KS.out) E3_in).mono ?_
  rintro _ v4 ⟨vr, rfl, ho, hk⟩
  rw [E3_both] at ho
  replace KS := Lib.hid (KS.out.trans hk)
  clear b0 b1 e0 e1
  have b0 := (HB.out.kept KS.out (by simp)).cell 0
  have b1 := (HB.out.kept KS.out (by simp)).cell 1
  have e0 := (HC.out.kept KS.out (by simp)).cell 0
  have e1 := (HC.out.kept KS.out (by simp)).cell 1
  simp only [List.getElem?_cons_zero, List.getElem?_cons_succ] at b0 b1 e0 e1
  obtain ⟨gt, ct, rfl, _, _, hce⟩ := own_at ho (by decide)
  clear ho hce t3
  clear hk
  go_wp2_with fail
  refine (topS 3 E3 (some ⟨gE, 0, none⟩) 3 _ (by decide) (HR.out.kept0 KS.out) E3_in).mono ?_
  rintro _ v5 ⟨vr, rfl, ho, hk⟩
  rw [E3_simple] at ho
  replace KS := Lib.hid (KS.out.trans hk)
  clear b0 b1 e0 e1
  have b0 := (HB.out.kept KS.out (by simp)).cell 0
  have b1 := (HB.out.kept KS.out (by simp)).cell 1
  have e0 := (HC.out.kept KS.out (by simp)).cell 0
  have e1 := (HC.out.kept KS.out (by simp)).cell 1
  simp only [List.getElem?_cons_zero, List.getElem?_cons_succ] at b0 b1 e0 e1
  obtain ⟨gt, ct, rfl, _, _, hce⟩ := own_at ho (by decide)
  clear ho hce
  clear hk
  go_wp2_with fail
  refine (topP 3 E3 (some ⟨gE, 0, none⟩) 3 _ (by decide) (HR.out.kept0 KS.out) E3_in).mono ?_
  rintro _ v6 ⟨vr, rfl, ho, hk⟩
  rw [E3_plain] at ho
  replace KS := Lib.hid (KS.out.trans hk)
  clear b0 b1 e0 e1
  have b0 := (HB.out.kept KS.out (by simp)).cell 0
  have b1 := (HB.out.kept KS.out (by simp)).cell 1
  have e0 := (HC.out.kept KS.out (by simp)).cell 0
  have e1 := (HC.out.kept KS.out (by simp)).cell 1
  simp only [List.getElem?_cons_zero, List.getElem?_cons_succ] at b0 b1 e0 e1
  obtain ⟨gt, ct, rfl, _, _, hce⟩ := own_at ho (by decide)
  have t2 := hce 2 _ (by decide) rfl
  clear ho hce
  clear hk
  go_wp2_with fail
  refine (topL 3 E3 (some ⟨gE, 0, none⟩) 3 _ (by decide) (HR.out.kept0 KS.out) E3_in).mono ?_
  rintro _ v7 ⟨vr, rfl, ho, hk⟩
  rw [E3_lower] at ho
  replace KS := Lib.hid (KS.out.trans hk)
  clear b0 b1 e0 e1
  have b0 := (HB.out.kept KS.out (by simp)).cell 0
  have b1 := (HB.out.kept KS.out (by simp)).cell 1
  have e0 := (HC.out.kept KS.out (by simp)).cell 0
  have e1 := (HC.out.kept KS.out (by simp)).cell 1
  simp only [List.getElem?_cons_zero, List.getElem?_cons_succ] at b0 b1 e0 e1
  obtain ⟨gt, ct, rfl⟩ := own_n ho
  clear ho t2
  clear hk
  go_wp2_with fail
  refine (outs_any 3 E3 (some ⟨gE, 0, none⟩) 3 _ (by decide) (HR.out.kept0 KS.out)).mono ?_
  rintro _ v8 ⟨Ao, co, rfl, hro, hk⟩
  rw [E3_outs] at hro ⊢
  replace KS := Lib.hid (KS.out.trans hk)
  clear b0 b1 e0 e1
  have b0 := (HB.out.kept KS.out (by simp)).cell 0
  have b1 := (HB.out.kept KS.out (by simp)).cell 1
  have e0 := (HC.out.kept KS.out (by simp)).cell 0
  have e1 := (HC.out.kept KS.out (by simp)).cell 1
  simp only [List.getElem?_cons_zero, List.getElem?_cons_succ] at b0 b1 e0 e1
  have HRO := Lib.hid hro
  clear hro
  clear hk
  go_wp2_with fail
  refine (sameInts_any [1, 2, 0] [1, 2, 0] Ao (some ⟨_, 0, none⟩) co 3 _ (by decide) (by decide) (HRO.out.kept0 ((Kept.refl [] _).alloc _)) (Reads.of_blk (Blk.new _ _ _) (fun _ _ h => h))).mono ?_
  rintro _ x1 ⟨rfl, hk⟩
  rw [show (decide ([(1 : Int), 2, 0] = [1, 2, 0])) = true from rfl]
  replace KS := Lib.hid ((KS.out.alloc _).trans hk)
  clear hk HRO b0 b1 e0 e1
  have b0 := (HB.out.kept KS.out (by simp)).cell 0
  have b1 := (HB.out.kept KS.out (by simp)).cell 1
  have e0 := (HC.out.kept KS.out (by simp)).cell 0
  have e1 := (HC.out.kept KS.out (by simp)).cell 1
  simp only [List.getElem?_cons_zero, List.getElem?_cons_succ] at b0 b1 e0 e1
  go_wp2_with fail
  refine (ins_any 3 E3 (some ⟨gE, 0, none⟩) 3 _ (by decide) (HR.out.kept0 KS.out)).mono ?_
  rintro _ v9 ⟨Ao, co, rfl, hro, hk⟩
  rw [E3_ins] at hro ⊢
  replace KS := Lib.hid (KS.out.trans hk)
  clear b0 b1 e0 e1
  have b0 := (HB.out.kept KS.out (by simp)).cell 0
  have b1 := (HB.out.kept KS.out (by simp)).cell 1
  have e0 := (HC.out.kept KS.out (by simp)).cell 0
  have e1 := (HC.out.kept KS.out (by simp)).cell 1
  simp only [List.getElem?_cons_zero, List.getElem?_cons_succ] at b0 b1 e0 e1
  have HRO := Lib.hid hro
  clear hro
  clear hk
  go_wp2_with fail
  refine (sameInts_any [1, 0, 2] [1, 0, 2] Ao (some ⟨_, 0, none⟩) co 3 _ (by decide) (by decide) (HRO.out.kept0 ((Kept.refl [] _).alloc _)) (Reads.of_blk (Blk.new _ _ _) (fun _ _ h => h))).mono ?_
  rintro _ x2 ⟨rfl, hk⟩
  rw [show (decide ([(1 : Int), 0, 2] = [1, 0, 2])) = true from rfl]
  replace KS := Lib.hid ((KS.out.alloc _).trans hk)
  clear hk HRO b0 b1 e0 e1
  have b0 := (HB.out.kept KS.out (by simp)).cell 0
  have b1 := (HB.out.kept KS.out (by simp)).cell 1
  have e0 := (HC.out.kept KS.out (by simp)).cell 0
  have e1 := (HC.out.kept KS.out (by simp)).cell 1
  simp only [List.getElem?_cons_zero, List.getElem?_cons_succ] at b0 b1 e0 e1
  go_wp2_with fail
  refine (same_any 3 3 [(0, 0, 1), (1, 2, 3)] [(0, 0, 1), (1, 2, 3)] (some ⟨gc, 0, none⟩) (some ⟨gc, 0, none⟩) cc cc _ (by decide) (by decide) (HCR.out.kept0 KS.out) (HCR.out.kept0 KS.out)).mono ?_
  rintro _ v10 ⟨rfl, hk⟩
  rw [show (decide ((3 : Int) = 3) && decide (([(0, 0, 1), (1, 2, 3)] : List Ed) = [(0, 0, 1), (1, 2, 3)])) = true from rfl]
  replace KS := Lib.hid (KS.out.trans hk)
  clear b0 b1 e0 e1
  have b0 := (HB.out.kept KS.out (by simp)).cell 0
  have b1 := (HB.out.kept KS.out (by simp)).cell 1
  have e0 := (HC.out.kept KS.out (by simp)).cell 0
  have e1 := (HC.out.kept KS.out (by simp)).cell 1
  simp only [List.getElem?_cons_zero, List.getElem?_cons_succ] at b0 b1 e0 e1
  clear hk
  go_wp2_with fail
  refine (same_any 3 3 [(0, 0, 1), (1, 2, 3)] E3 (some ⟨gc, 0, none⟩) (some ⟨gE, 0, none⟩) cc 3 _ (by decide) (by decide) (HCR.out.kept0 KS.out) (HR.out.kept0 KS.out)).mono ?_
  rintro _ v11 ⟨rfl, hk⟩
  rw [show (decide ((3 : Int) = 3) && decide (([(0, 0, 1), (1, 2, 3)] : List Ed) = E3)) = false from rfl]
  replace KS := Lib.hid (KS.out.trans hk)
  clear b0 b1 e0 e1
  have b0 := (HB.out.kept KS.out (by simp)).cell 0
  have b1 := (HB.out.kept KS.out (by simp)).cell 1
  have e0 := (HC.out.kept KS.out (by simp)).cell 0
  have e1 := (HC.out.kept KS.out (by simp)).cell 1
  simp only [List.getElem?_cons_zero, List.getElem?_cons_succ] at b0 b1 e0 e1
  clear hk
  go_wp2_with fail
  refine (rises_any [(0, 0, 1), (1, 2, 3)] (some ⟨gc, 0, none⟩) cc _ (by decide) (HCR.out.kept0 KS.out)).mono ?_
  rintro _ v12 ⟨rfl, hk⟩
  rw [E3_rises]
  replace KS := Lib.hid (KS.out.trans hk)
  clear b0 b1 e0 e1
  have b0 := (HB.out.kept KS.out (by simp)).cell 0
  have b1 := (HB.out.kept KS.out (by simp)).cell 1
  have e0 := (HC.out.kept KS.out (by simp)).cell 0
  have e1 := (HC.out.kept KS.out (by simp)).cell 1
  simp only [List.getElem?_cons_zero, List.getElem?_cons_succ] at b0 b1 e0 e1
  clear hk
  go_wp2_with fail
  go_ret
  exact ⟨rfl, K0.out.trans KS.out⟩
end Go.Proofs.Ytfnhfmffkjljnaa
