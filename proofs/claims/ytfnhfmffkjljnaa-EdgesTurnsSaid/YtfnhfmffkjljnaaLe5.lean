/- 'EdgesTurns' returns true for every graph. Conditions: none. -/
import Derived.Test.YtfnhfmffkjljnaaLe0
namespace Go.Proofs.Ytfnhfmffkjljnaa
set_option linter.unusedSimpArgs false
set_option linter.unusedVariables false
open Go.ChangeShapes Go.WideShapes Go.ChangeAt Go.RowKit
open Go.RowKit (wrap32 wrap64)
set_option maxHeartbeats 8000000

set_option maxRecDepth 100000 in
theorem edgesTurns_walk (n : Int) (l : List Ed) (A : Option Addr) (c : Nat) (w : World) (hA : Reads w A (l.flatMap edV)) (hw : ∀ e ∈ l, In64 e.2.2) (h1 : l.length ≤ c) (h2 : c ≤ maxLen) :
    Calls Try.prog 7 #[.agg #[.int .i64 n, .slice A l.length c]] w fun e w' => e = .returned (.bool true) ∧ Kept [] w w' := by
  have HX := Lib.hid (Blk.new w 24 (grV n A l.length c))
  have K0 := Lib.hid ((Kept.refl [] w).alloc (.cells (grV n A l.length c).toArray 24))
  have HA := Lib.hid (Reads.take hA 60)
  have HW := Lib.hid (show ∀ e ∈ l.take 60, In64 e.2.2 from fun e he => hw e (List.mem_of_mem_take he))
  have HL := Lib.hid (show (l.take 60).length ≤ 60 by rw [List.length_take]; omega)
  have h3 := Nat.le_trans h1 h2
  clear hA hw
  go_enter Try.func7, Try.ntmps7
  go_wp2_with fail
  refine (few_any n l A c _ h3 h1 h2).mono ?_
  rintro x w1 ⟨rfl, hk⟩
  replace K0 := Lib.hid (K0.out.trans hk)
  replace HX := Lib.hid (HX.out.kept hk (by simp))
  clear hk h1 h2 h3
  generalize l.take 60 = M at *
  obtain ⟨g, hg⟩ : ∃ g, g = w.heap.size := ⟨_, rfl⟩
  have HGE := Lib.hid (show w.heap.size ≤ g by omega)
  rw [← hg] at HX ⊢
  clear hg
  go_upto_region 2 with (first | (refine wpList_storeBlk rfl 24 (.tmp 1) (.tmp 5) rfl g _ (grV n A M.length c) HX.out rfl rfl rfl infoGraph (by simp [Value.oneCell']) ?_; intro w2 hb2 hk2))
  replace K0 := Lib.hid (K0.out.then hk2 (fun m hm => by simp at hm; subst hm; exact .inr HGE.out))
  replace HX := Lib.hid hb2
  clear hb2 hk2
  go_wp2_with (first | (refine wpList_loadBlk rfl 24 (.tmp 1) rfl g (grV n A M.length c) _ HX.out rfl Try.underlying24 rfl infoGraph ?_))
  refine (both_any n M A c _ (by have := HL.out; omega) (HA.out.kept0 K0.out) HW.out).mono ?_
  rintro x w3 ⟨vr, rfl, ho, hk⟩
  obtain ⟨BB, dB, rfl⟩ := own_n ho
  have HXG := Lib.hid (HX.out.lt)
  replace HX := Lib.hid (HX.out.kept hk (by simp))
  have kd := Lib.hid ((Kept.refl [] w3).alloc (.cells #[.int .i64 n, .slice BB (bothP M).length dB] 24))
  have HY := Lib.hid (Blk.new w3 24 [.int .i64 n, .slice BB (bothP M).length dB])
  replace HX := Lib.hid (HX.out.kept kd.out (by simp))
  have RB := Lib.hid ((Reads.of_own ho).kept0 kd.out)
  replace K0 := Lib.hid ((K0.out.trans hk).trans kd.out)
  clear ho hk kd HXG
  go_upto_region 3 with (fail)
  generalize w3.alloc (.cells #[.int .i64 n, .slice BB (bothP M).length dB] 24) = w4 at *
  generalize w3.heap.size = g3 at HY ⊢
  have HI := Lib.hid (bothP_in HW.out)
  have HB := Lib.hid (bothM_60 HL.out)
  have HT := Lib.hid (canonP_in (turnL_in HW.out))
  have HTL := Lib.hid (show (canonP (turnL M)).length ≤ 60 by have h1 := canonP_length (turnL M); have h2 : (turnL M).length ≤ M.length := madeP_length turnE allE M; have h3 := HL.out; omega)
  have E1 := Lib.hid (turn_turn HW.out)
  have E2 := Lib.hid (turn_both HW.out)
  have E3 := Lib.hid (both_both HW.out)
  generalize bothP M = Q at *
  refine wp_region_held_drew (S := (fun w' => w'.cell? ⟨g, 0, none⟩ = some (.int .i64 n) ∧ w'.cell? ⟨g, 1, none⟩ = some (.slice A M.length c) ∧ w'.rangeAt g 0 [.int .i64 n, .slice A M.length c] ∧ w'.cell? ⟨g3, 0, none⟩ = some (.int .i64 n) ∧ w'.cell? ⟨g3, 1, none⟩ = some (.slice BB Q.length dB) ∧ w'.rangeAt g3 0 [.int .i64 n, .slice BB Q.length dB])) (by kernel_rfl) ?_ (fun hHeld => ?_)
  · exact ⟨HX.out.cell 0, HX.out.cell 1, HX.out.cell2, HY.out.cell 0, HY.out.cell 1, HY.out.cell2⟩
  replace HX := Lib.hid HX.out.drew
  replace HY := Lib.hid HY.out.drew
  replace K0 := Lib.hid (K0.out.drew)
  replace RB := Lib.hid RB.out.drew
  refine wpAnyH_ready (rs := [0]) (by kernel_rfl) (by simp) ?_
  refine AllReadyH.cons rfl (fun K hK => ?_) AllReadyH.nil
  go_simp
  refine (live_any _).mono ?_
  rintro x v1 ⟨rfl, hk⟩
  replace RB := Lib.hid (RB.out.kept0 hk)
  replace HX := Lib.hid (HX.out.kept hk (by simp))
  replace HY := Lib.hid (HY.out.kept hk (by simp))
  replace K0 := Lib.hid (K0.out.trans hk)
  clear hk 
  go_wp2_with fail
  refine hK.out _ _ ?_ (fun hHeld => ?_)
  · exact ⟨HX.out.cell 0, HX.out.cell 1, HX.out.cell2, HY.out.cell 0, HY.out.cell 1, HY.out.cell2⟩
  clear hK K
  try simp only [Act.put, List.setIfInBounds_toArray, List.set_cons_zero, List.set_cons_succ]
  refine tkYes (i := 1) (v := ?_) rfl rfl (by kernel_rfl) (by kernel_rfl) (by kernel_rfl) (fun _ _ _ h => h) (by rfl) ?_ (by assumption) ?_
  rotate_left
  · (intro w' hSw; (try dsimp only at hSw); go_simp; try with_reducible rfl)
  try simp only [Act.put, List.setIfInBounds_toArray, List.set_cons_zero, List.set_cons_succ]
  refine tkLoad (i := 2) 24 (.tmp 1) g (0) [.int .i64 n, .slice A M.length c] _ rfl rfl (by kernel_rfl) (by kernel_rfl) (by kernel_rfl) (fun _ _ _ h => h) (by rfl) rfl rfl (fun w hw => hw.2.2.1) Try.underlying24 rfl infoGraph (by assumption) ?_
  try simp only [Act.put, List.setIfInBounds_toArray, List.set_cons_zero, List.set_cons_succ]
  refine tkLoad (i := 5) 24 (.tmp 1) g (0) [.int .i64 n, .slice A M.length c] _ rfl rfl (by kernel_rfl) (by kernel_rfl) (by kernel_rfl) (fun _ _ _ h => h) (by rfl) rfl rfl (fun w hw => hw.2.2.1) Try.underlying24 rfl infoGraph (by assumption) ?_
  try simp only [Act.put, List.setIfInBounds_toArray, List.set_cons_zero, List.set_cons_succ]
  refine wpAnyH_ready (rs := [3]) (by kernel_rfl) (by simp) ?_
  refine AllReadyH.cons rfl (fun K hK => ?_) AllReadyH.nil
  go_simp
  refine (topT n M A c _ (by have := HL.out; omega) (HA.out.kept0 K0.out) HW.out).mono ?_
  rintro x v2 ⟨vr, rfl, ho, hk⟩
  obtain ⟨B1, d1, rfl⟩ := own_n ho
  replace RB := Lib.hid (RB.out.kept0 hk)
  have R1 := Lib.hid (Reads.of_own ho)
  replace HX := Lib.hid (HX.out.kept hk (by simp))
  replace HY := Lib.hid (HY.out.kept hk (by simp))
  replace K0 := Lib.hid (K0.out.trans hk)
  clear hk ho
  go_wp2_with fail
  refine hK.out _ _ ?_ (fun hHeld => ?_)
  · exact ⟨HX.out.cell 0, HX.out.cell 1, HX.out.cell2, HY.out.cell 0, HY.out.cell 1, HY.out.cell2⟩
  clear hK K
  try simp only [Act.put, List.setIfInBounds_toArray, List.set_cons_zero, List.set_cons_succ]
  refine wpAnyH_ready (rs := [4]) (by kernel_rfl) (by simp) ?_
  refine AllReadyH.cons rfl (fun K hK => ?_) AllReadyH.nil
  go_simp
  refine (topT n (canonP (turnL M)) B1 d1 _ (by have := HTL.out; omega) R1.out HT.out).mono ?_
  rintro x v3 ⟨vr, rfl, ho, hk⟩
  obtain ⟨B2, d2, rfl⟩ := own_n ho
  replace RB := Lib.hid (RB.out.kept0 hk)
  replace R1 := Lib.hid (R1.out.kept0 hk)
  have R2 := Lib.hid (Reads.of_own ho)
  replace HX := Lib.hid (HX.out.kept hk (by simp))
  replace HY := Lib.hid (HY.out.kept hk (by simp))
  replace K0 := Lib.hid (K0.out.trans hk)
  clear hk ho
  go_wp2_with fail
  refine hK.out _ _ ?_ (fun hHeld => ?_)
  · exact ⟨HX.out.cell 0, HX.out.cell 1, HX.out.cell2, HY.out.cell 0, HY.out.cell 1, HY.out.cell2⟩
  clear hK K
  try simp only [Act.put, List.setIfInBounds_toArray, List.set_cons_zero, List.set_cons_succ]
  refine wpAnyH_ready (rs := [6]) (by kernel_rfl) (by simp) ?_
  refine AllReadyH.cons rfl (fun K hK => ?_) AllReadyH.nil
  go_simp
  refine (refCanon_any n M A c _ (by have := HL.out; omega) (HA.out.kept0 K0.out) HW.out).mono ?_
  rintro x v4 ⟨vr, rfl, ho, hk⟩
  obtain ⟨B3, d3, rfl⟩ := own_n ho
  replace RB := Lib.hid (RB.out.kept0 hk)
  replace R1 := Lib.hid (R1.out.kept0 hk)
  replace R2 := Lib.hid (R2.out.kept0 hk)
  have R3 := Lib.hid (Reads.of_own ho)
  replace HX := Lib.hid (HX.out.kept hk (by simp))
  replace HY := Lib.hid (HY.out.kept hk (by simp))
  replace K0 := Lib.hid (K0.out.trans hk)
  clear hk ho
  go_wp2_with fail
  refine hK.out _ _ ?_ (fun hHeld => ?_)
  · exact ⟨HX.out.cell 0, HX.out.cell 1, HX.out.cell2, HY.out.cell 0, HY.out.cell 1, HY.out.cell2⟩
  clear hK K
  try simp only [Act.put, List.setIfInBounds_toArray, List.set_cons_zero, List.set_cons_succ]
  refine wpAnyH_ready (rs := [7]) (by kernel_rfl) (by simp) ?_
  refine AllReadyH.cons rfl (fun K hK => ?_) AllReadyH.nil
  go_simp
  refine (same_any n n (canonP (madeP turnE allE (canonP (turnL M)))) (canonP M) B2 B3 d2 d3 _ (by rw [E1.out]; exact canonM_le HL.out) (canonM_le HL.out) R2.out R3.out).mono ?_
  rintro x v5 ⟨rfl, hk⟩
  rw [E1.out, gsame]
  replace RB := Lib.hid (RB.out.kept0 hk)
  replace R1 := Lib.hid (R1.out.kept0 hk)
  replace R2 := Lib.hid (R2.out.kept0 hk)
  replace R3 := Lib.hid (R3.out.kept0 hk)
  replace HX := Lib.hid (HX.out.kept hk (by simp))
  replace HY := Lib.hid (HY.out.kept hk (by simp))
  replace K0 := Lib.hid (K0.out.trans hk)
  clear hk 
  go_wp2_with fail
  refine hK.out _ _ ?_ (fun hHeld => ?_)
  · exact ⟨HX.out.cell 0, HX.out.cell 1, HX.out.cell2, HY.out.cell 0, HY.out.cell 1, HY.out.cell2⟩
  clear hK K
  try simp only [Act.put, List.setIfInBounds_toArray, List.set_cons_zero, List.set_cons_succ]
  clear R1 R2 R3
  refine tkYes (i := 8) (v := .bool true) rfl rfl (by kernel_rfl) (by kernel_rfl) (by kernel_rfl) (fun _ _ _ h => h) (by rfl) ?_ (by assumption) ?_
  skip
  · (intro w' hSw; (try dsimp only at hSw); go_simp; try (simp; done))
  try simp only [Act.put, List.setIfInBounds_toArray, List.set_cons_zero, List.set_cons_succ]
  refine tkYes (i := 9) (v := ?_) rfl rfl (by kernel_rfl) (by kernel_rfl) (by kernel_rfl) (fun _ _ _ h => h) (by rfl) ?_ (by assumption) ?_
  rotate_left
  · (intro w' hSw; (try dsimp only at hSw); go_simp; try with_reducible rfl)
  try simp only [Act.put, List.setIfInBounds_toArray, List.set_cons_zero, List.set_cons_succ]
  refine tkLoad (i := 10) 24 (.tmp 3) g3 (0) [.int .i64 n, .slice BB Q.length dB] _ rfl rfl (by kernel_rfl) (by kernel_rfl) (by kernel_rfl) (fun _ _ _ h => h) (by rfl) rfl rfl (fun w hw => hw.2.2.2.2.2) Try.underlying24 rfl infoGraph (by assumption) ?_
  try simp only [Act.put, List.setIfInBounds_toArray, List.set_cons_zero, List.set_cons_succ]
  refine tkLoad (i := 12) 24 (.tmp 3) g3 (0) [.int .i64 n, .slice BB Q.length dB] _ rfl rfl (by kernel_rfl) (by kernel_rfl) (by kernel_rfl) (fun _ _ _ h => h) (by rfl) rfl rfl (fun w hw => hw.2.2.2.2.2) Try.underlying24 rfl infoGraph (by assumption) ?_
  try simp only [Act.put, List.setIfInBounds_toArray, List.set_cons_zero, List.set_cons_succ]
  refine wpAnyH_ready (rs := [11]) (by kernel_rfl) (by simp) ?_
  refine AllReadyH.cons rfl (fun K hK => ?_) AllReadyH.nil
  go_simp
  refine (topT n Q BB dB _ (by have := HB.out; omega) RB.out HI.out).mono ?_
  rintro x v6 ⟨vr, rfl, ho, hk⟩
  obtain ⟨B1, d1, rfl⟩ := own_n ho
  replace RB := Lib.hid (RB.out.kept0 hk)
  have R1 := Lib.hid (Reads.of_own ho)
  replace HX := Lib.hid (HX.out.kept hk (by simp))
  replace HY := Lib.hid (HY.out.kept hk (by simp))
  replace K0 := Lib.hid (K0.out.trans hk)
  clear hk ho
  go_wp2_with fail
  refine hK.out _ _ ?_ (fun hHeld => ?_)
  · exact ⟨HX.out.cell 0, HX.out.cell 1, HX.out.cell2, HY.out.cell 0, HY.out.cell 1, HY.out.cell2⟩
  clear hK K
  try simp only [Act.put, List.setIfInBounds_toArray, List.set_cons_zero, List.set_cons_succ]
  refine wpAnyH_ready (rs := [13]) (by kernel_rfl) (by simp) ?_
  refine AllReadyH.cons rfl (fun K hK => ?_) AllReadyH.nil
  go_simp
  refine (same_any n n (canonP (madeP turnE allE Q)) Q B1 BB d1 dB _ (by rw [E2.out]; have := HB.out; unfold maxLen; omega) (by have := HB.out; unfold maxLen; omega) R1.out RB.out).mono ?_
  rintro x v7 ⟨rfl, hk⟩
  rw [E2.out, gsame]
  replace RB := Lib.hid (RB.out.kept0 hk)
  replace R1 := Lib.hid (R1.out.kept0 hk)
  replace HX := Lib.hid (HX.out.kept hk (by simp))
  replace HY := Lib.hid (HY.out.kept hk (by simp))
  replace K0 := Lib.hid (K0.out.trans hk)
  clear hk 
  go_wp2_with fail
  refine hK.out _ _ ?_ (fun hHeld => ?_)
  · exact ⟨HX.out.cell 0, HX.out.cell 1, HX.out.cell2, HY.out.cell 0, HY.out.cell 1, HY.out.cell2⟩
  clear hK K
  try simp only [Act.put, List.setIfInBounds_toArray, List.set_cons_zero, List.set_cons_succ]
  clear R1
  refine tkYes (i := 14) (v := .bool true) rfl rfl (by kernel_rfl) (by kernel_rfl) (by kernel_rfl) (fun _ _ _ h => h) (by rfl) ?_ (by assumption) ?_
  skip
  · (intro w' hSw; (try dsimp only at hSw); go_simp; try (simp; done))
  try simp only [Act.put, List.setIfInBounds_toArray, List.set_cons_zero, List.set_cons_succ]
  refine tkYes (i := 15) (v := ?_) rfl rfl (by kernel_rfl) (by kernel_rfl) (by kernel_rfl) (fun _ _ _ h => h) (by rfl) ?_ (by assumption) ?_
  rotate_left
  · (intro w' hSw; (try dsimp only at hSw); go_simp; try with_reducible rfl)
  try simp only [Act.put, List.setIfInBounds_toArray, List.set_cons_zero, List.set_cons_succ]
  refine tkLoad (i := 16) 24 (.tmp 3) g3 (0) [.int .i64 n, .slice BB Q.length dB] _ rfl rfl (by kernel_rfl) (by kernel_rfl) (by kernel_rfl) (fun _ _ _ h => h) (by rfl) rfl rfl (fun w hw => hw.2.2.2.2.2) Try.underlying24 rfl infoGraph (by assumption) ?_
  try simp only [Act.put, List.setIfInBounds_toArray, List.set_cons_zero, List.set_cons_succ]
  refine tkLoad (i := 18) 24 (.tmp 3) g3 (0) [.int .i64 n, .slice BB Q.length dB] _ rfl rfl (by kernel_rfl) (by kernel_rfl) (by kernel_rfl) (fun _ _ _ h => h) (by rfl) rfl rfl (fun w hw => hw.2.2.2.2.2) Try.underlying24 rfl infoGraph (by assumption) ?_
  try simp only [Act.put, List.setIfInBounds_toArray, List.set_cons_zero, List.set_cons_succ]
  refine wpAnyH_ready (rs := [17]) (by kernel_rfl) (by simp) ?_
  refine AllReadyH.cons rfl (fun K hK => ?_) AllReadyH.nil
  go_simp
  refine (both_any n Q BB dB _ (by have := HB.out; omega) RB.out HI.out).mono ?_
  rintro x v8 ⟨vr, rfl, ho, hk⟩
  obtain ⟨B1, d1, rfl⟩ := own_n ho
  replace RB := Lib.hid (RB.out.kept0 hk)
  have R1 := Lib.hid (Reads.of_own ho)
  replace HX := Lib.hid (HX.out.kept hk (by simp))
  replace HY := Lib.hid (HY.out.kept hk (by simp))
  replace K0 := Lib.hid (K0.out.trans hk)
  clear hk ho
  go_wp2_with fail
  refine hK.out _ _ ?_ (fun hHeld => ?_)
  · exact ⟨HX.out.cell 0, HX.out.cell 1, HX.out.cell2, HY.out.cell 0, HY.out.cell 1, HY.out.cell2⟩
  clear hK K
  try simp only [Act.put, List.setIfInBounds_toArray, List.set_cons_zero, List.set_cons_succ]
  refine wpAnyH_ready (rs := [19]) (by kernel_rfl) (by simp) ?_
  refine AllReadyH.cons rfl (fun K hK => ?_) AllReadyH.nil
  go_simp
  refine (same_any n n (bothP Q) Q B1 BB d1 dB _ (by rw [E3.out]; have := HB.out; unfold maxLen; omega) (by have := HB.out; unfold maxLen; omega) R1.out RB.out).mono ?_
  rintro x v9 ⟨rfl, hk⟩
  rw [E3.out, gsame]
  replace RB := Lib.hid (RB.out.kept0 hk)
  replace R1 := Lib.hid (R1.out.kept0 hk)
  replace HX := Lib.hid (HX.out.kept hk (by simp))
  replace HY := Lib.hid (HY.out.kept hk (by simp))
  replace K0 := Lib.hid (K0.out.trans hk)
  clear hk 
  go_wp2_with fail
  refine hK.out _ _ ?_ (fun hHeld => ?_)
  · exact ⟨HX.out.cell 0, HX.out.cell 1, HX.out.cell2, HY.out.cell 0, HY.out.cell 1, HY.out.cell2⟩
  clear hK K
  try simp only [Act.put, List.setIfInBounds_toArray, List.set_cons_zero, List.set_cons_succ]
  clear R1
  refine tkYes (i := 20) (v := .bool true) rfl rfl (by kernel_rfl) (by kernel_rfl) (by kernel_rfl) (fun _ _ _ h => h) (by rfl) ?_ (by assumption) ?_
  skip
  · (intro w' hSw; (try dsimp only at hSw); go_simp; try (simp; done))
  try simp only [Act.put, List.setIfInBounds_toArray, List.set_cons_zero, List.set_cons_succ]
  refine tkYes (i := 21) (v := ?_) rfl rfl (by kernel_rfl) (by kernel_rfl) (by kernel_rfl) (fun _ _ _ h => h) (by rfl) ?_ (by assumption) ?_
  rotate_left
  · (intro w' hSw; (try dsimp only at hSw); go_simp; try with_reducible rfl)
  try simp only [Act.put, List.setIfInBounds_toArray, List.set_cons_zero, List.set_cons_succ]
  refine wpAnyH_done (by kernel_rfl) ?_ _
  go_wp2_with fail
  go_ret
  exact ⟨rfl, K0.out⟩

set_option maxRecDepth 100000 in
theorem edgesTurns_lifted (os : Os) (started : os.Started) (H : Type) (enc : TypeId × Value → H) :
    ReturnsInHanded {} Try.checked os 7 .any (Rows.edgesTurnsSpec.pre6 enc Try.prog Try.f7 Rows.edgesTurnsRow.domain false) (Rows.edgesTurnsSpec.post enc Try.prog Try.f7 false true false false) := by
  refine returnsInHanded_of_change (C := Try.checked) own started (by kernel_rfl) Try.func7
    (ChangeSpec.witness6 (enc := enc) (C := Try.checked) false ⟨#[], #[.agg #[.int .i64 0, .slice none 0 0]], []⟩ 8 (by kernel_rfl) (by kernel_rfl) (by kernel_rfl) (by kernel_rfl)) ?_
  intro W base args ds gs before hval0 hW hcnd _
  have hval : ∀ (j : Nat) t v, Try.f7.params[j]? = some t → args[j]? = some v → Value.okWide Try.prog W .any base t v := hval0
  have hW' := hW
  obtain ⟨p, q, hA0, hV, rfl, hfz, hnd⟩ := hW
  have hA : DataW.TrodAll enc Try.prog W 0 (fun _ => true) true Try.f7.params.toList args.toList ds p := hA0
  rw [Try.params7] at hA hval
  obtain ⟨v0, vs0, d0, ds0, p0, q0, hargs, rfl, rfl, h0, r0⟩ := trodAll_cons hA
  obtain ⟨rfl, rfl, rfl⟩ := trodAll_nil r0
  obtain rfl : args = #[v0] := by cases args; simp_all
  obtain ⟨rfl, rfl⟩ := trodVars_none hV
  obtain ⟨n, A, c, l, rfl, h1, h2, hAr, hw, hn⟩ := open_graph (hval 0 24 v0 rfl rfl) h0
  refine (edgesTurns_walk n l A c W hAr hw h1 h2).mono fun e W' ⟨he, hk⟩ => ?_
  exact ⟨_, he, post_true rfl Try.underlying4 rfl rfl rfl rfl laidOut (by decide +kernel) hW' hk⟩

theorem edgesTurns_holds : Rows.EdgesTurnsSaid :=
  OpenClaim.holds_of_wide 7 Try.f7 rfl rfl rfl rfl rfl rfl rfl ⟨rfl, rfl, rfl, rfl, rfl⟩ rfl rfl rfl rfl rfl (by kernel_rfl) Try.func7 (by kernel_rfl)
    (of_decide_eq_true (by kernel_rfl)) (by unfold Func.isWrapper; first | (rw [if_pos (by decide +kernel)]; kernel_rfl) | (rw [if_neg (by decide +kernel)]; exact ⟨rfl, rfl⟩))
    (fun os started H enc _ => edgesTurns_lifted os started H enc)
end Go.Proofs.Ytfnhfmffkjljnaa
