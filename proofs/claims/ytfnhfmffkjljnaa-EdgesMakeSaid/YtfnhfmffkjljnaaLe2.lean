/- 'EdgesMake' returns true for every graph. Conditions: none. -/
import Derived.Test.YtfnhfmffkjljnaaLe0
namespace Go.Proofs.Ytfnhfmffkjljnaa
set_option linter.unusedSimpArgs false
set_option linter.unusedVariables false
open Go.ChangeShapes Go.WideShapes Go.ChangeAt Go.RowKit
open Go.RowKit (wrap32 wrap64)
set_option maxHeartbeats 8000000

set_option maxRecDepth 100000 in
theorem edgesMake_walk (n : Int) (l : List Ed) (A : Option Addr) (c : Nat) (w : World) (hA : Reads w A (l.flatMap edV)) (hw : ∀ e ∈ l, In64 e.2.2) (h1 : l.length ≤ c) (h2 : c ≤ maxLen) :
    Calls Try.prog 4 #[.agg #[.int .i64 n, .slice A l.length c]] w fun e w' => e = .returned (.bool true) ∧ Kept [] w w' := by
  have HX := Lib.hid (Blk.new w 24 (grV n A l.length c))
  have K0 := Lib.hid ((Kept.refl [] w).alloc (.cells (grV n A l.length c).toArray 24))
  have HA := Lib.hid (Reads.take hA 60)
  have HW := Lib.hid (show ∀ e ∈ l.take 60, In64 e.2.2 from fun e he => hw e (List.mem_of_mem_take he))
  have HL := Lib.hid (show (l.take 60).length ≤ 60 by rw [List.length_take]; omega)
  have h3 := Nat.le_trans h1 h2
  clear hA hw
  go_enter Try.func4, Try.ntmps4
  go_wp2_with fail
  refine (few_any n l A c _ h3 h1 h2).mono ?_
  rintro x w1 ⟨rfl, hk⟩
  replace K0 := Lib.hid (K0.out.trans hk)
  replace HX := Lib.hid (HX.out.kept hk (by simp))
  clear hk h1 h2 h3
  generalize l.take 60 = M at *
  obtain ⟨g, hg⟩ : ∃ g, g = w.heap.size := ⟨_, rfl⟩
  have HGE := Lib.hid (show w.heap.size ≤ g by omega)
  rw [← hg] at HX ⊢
  clear hg
  go_upto_region 2 with (first | (refine wpList_storeBlk rfl 24 (.tmp 1) (.tmp 4) rfl g _ (grV n A M.length c) HX.out rfl rfl rfl infoGraph (by simp [Value.oneCell']) ?_; intro w2 hb2 hk2))
  replace K0 := Lib.hid (K0.out.then hk2 (fun m hm => by simp at hm; subst hm; exact .inr HGE.out))
  replace HX := Lib.hid hb2
  clear hb2 hk2
  refine wp_region_held_drew (S := (fun w' => w'.cell? ⟨g, 0, none⟩ = some (.int .i64 n) ∧ w'.cell? ⟨g, 1, none⟩ = some (.slice A M.length c) ∧ w'.rangeAt g 0 [.int .i64 n, .slice A M.length c])) (by kernel_rfl) ?_ (fun hHeld => ?_)
  · exact ⟨HX.out.cell 0, HX.out.cell 1, HX.out.cell2⟩
  replace HX := Lib.hid HX.out.drew
  replace K0 := Lib.hid (K0.out.drew)
  refine wpAnyH_ready (rs := [0]) (by kernel_rfl) (by simp) ?_
  refine AllReadyH.cons rfl (fun K hK => ?_) AllReadyH.nil
  go_simp
  refine (live_any _).mono ?_
  rintro x v1 ⟨rfl, hk⟩
  replace HX := Lib.hid (HX.out.kept hk (by simp))
  replace K0 := Lib.hid (K0.out.trans hk)
  clear hk 
  go_wp2_with fail
  refine hK.out _ _ ?_ (fun hHeld => ?_)
  · exact ⟨HX.out.cell 0, HX.out.cell 1, HX.out.cell2⟩
  clear hK K
  try simp only [Act.put, List.setIfInBounds_toArray, List.set_cons_zero, List.set_cons_succ]
  refine tkYes (i := 1) (v := ?_) rfl rfl (by kernel_rfl) (by kernel_rfl) (by kernel_rfl) (fun _ _ _ h => h) (by rfl) ?_ (by assumption) ?_
  rotate_left
  · (intro w' hSw; (try dsimp only at hSw); go_simp; try with_reducible rfl)
  try simp only [Act.put, List.setIfInBounds_toArray, List.set_cons_zero, List.set_cons_succ]
  refine tkLoad (i := 2) 24 (.tmp 1) g (0) [.int .i64 n, .slice A M.length c] _ rfl rfl (by kernel_rfl) (by kernel_rfl) (by kernel_rfl) (fun _ _ _ h => h) (by rfl) rfl rfl (fun w hw => hw.2.2) Try.underlying24 rfl infoGraph (by assumption) ?_
  try simp only [Act.put, List.setIfInBounds_toArray, List.set_cons_zero, List.set_cons_succ]
  refine tkLoad (i := 4) 24 (.tmp 1) g (0) [.int .i64 n, .slice A M.length c] _ rfl rfl (by kernel_rfl) (by kernel_rfl) (by kernel_rfl) (fun _ _ _ h => h) (by rfl) rfl rfl (fun w hw => hw.2.2) Try.underlying24 rfl infoGraph (by assumption) ?_
  try simp only [Act.put, List.setIfInBounds_toArray, List.set_cons_zero, List.set_cons_succ]
  refine wpAnyH_ready (rs := [3]) (by kernel_rfl) (by simp) ?_
  refine AllReadyH.cons rfl (fun K hK => ?_) AllReadyH.nil
  go_simp
  refine (canon_any n M A c _ (by have := HL.out; omega) (HA.out.kept0 K0.out) HW.out).mono ?_
  rintro x v2 ⟨vr, rfl, ho, hk⟩
  obtain ⟨B1, d1, rfl⟩ := own_n ho
  have R1 := Lib.hid (Reads.of_own ho)
  replace HX := Lib.hid (HX.out.kept hk (by simp))
  replace K0 := Lib.hid (K0.out.trans hk)
  clear hk ho
  go_wp2_with fail
  refine hK.out _ _ ?_ (fun hHeld => ?_)
  · exact ⟨HX.out.cell 0, HX.out.cell 1, HX.out.cell2⟩
  clear hK K
  try simp only [Act.put, List.setIfInBounds_toArray, List.set_cons_zero, List.set_cons_succ]
  refine wpAnyH_ready (rs := [5]) (by kernel_rfl) (by simp) ?_
  refine AllReadyH.cons rfl (fun K hK => ?_) AllReadyH.nil
  go_simp
  refine (refCanon_any n M A c _ (by have := HL.out; omega) (HA.out.kept0 K0.out) HW.out).mono ?_
  rintro x v3 ⟨vr, rfl, ho, hk⟩
  obtain ⟨B2, d2, rfl⟩ := own_n ho
  replace R1 := Lib.hid (R1.out.kept0 hk)
  have R2 := Lib.hid (Reads.of_own ho)
  replace HX := Lib.hid (HX.out.kept hk (by simp))
  replace K0 := Lib.hid (K0.out.trans hk)
  clear hk ho
  go_wp2_with fail
  refine hK.out _ _ ?_ (fun hHeld => ?_)
  · exact ⟨HX.out.cell 0, HX.out.cell 1, HX.out.cell2⟩
  clear hK K
  try simp only [Act.put, List.setIfInBounds_toArray, List.set_cons_zero, List.set_cons_succ]
  refine wpAnyH_ready (rs := [6]) (by kernel_rfl) (by simp) ?_
  refine AllReadyH.cons rfl (fun K hK => ?_) AllReadyH.nil
  go_simp
  refine (refSame_any n n (canonP M) (canonP M) B1 B2 d1 d2 _ (canonM_le HL.out) (canonM_le HL.out) R1.out R2.out).mono ?_
  rintro x v4 ⟨rfl, hk⟩
  rw [gsame]
  replace R1 := Lib.hid (R1.out.kept0 hk)
  replace R2 := Lib.hid (R2.out.kept0 hk)
  replace HX := Lib.hid (HX.out.kept hk (by simp))
  replace K0 := Lib.hid (K0.out.trans hk)
  clear hk 
  go_wp2_with fail
  refine hK.out _ _ ?_ (fun hHeld => ?_)
  · exact ⟨HX.out.cell 0, HX.out.cell 1, HX.out.cell2⟩
  clear hK K
  try simp only [Act.put, List.setIfInBounds_toArray, List.set_cons_zero, List.set_cons_succ]
  clear R1 R2
  refine tkYes (i := 7) (v := .bool true) rfl rfl (by kernel_rfl) (by kernel_rfl) (by kernel_rfl) (fun _ _ _ h => h) (by rfl) ?_ (by assumption) ?_
  skip
  · (intro w' hSw; (try dsimp only at hSw); go_simp; try (simp; done))
  try simp only [Act.put, List.setIfInBounds_toArray, List.set_cons_zero, List.set_cons_succ]
  refine tkYes (i := 8) (v := ?_) rfl rfl (by kernel_rfl) (by kernel_rfl) (by kernel_rfl) (fun _ _ _ h => h) (by rfl) ?_ (by assumption) ?_
  rotate_left
  · (intro w' hSw; (try dsimp only at hSw); go_simp; try with_reducible rfl)
  try simp only [Act.put, List.setIfInBounds_toArray, List.set_cons_zero, List.set_cons_succ]
  refine tkLoad (i := 9) 24 (.tmp 1) g (0) [.int .i64 n, .slice A M.length c] _ rfl rfl (by kernel_rfl) (by kernel_rfl) (by kernel_rfl) (fun _ _ _ h => h) (by rfl) rfl rfl (fun w hw => hw.2.2) Try.underlying24 rfl infoGraph (by assumption) ?_
  try simp only [Act.put, List.setIfInBounds_toArray, List.set_cons_zero, List.set_cons_succ]
  refine tkLoad (i := 11) 24 (.tmp 1) g (0) [.int .i64 n, .slice A M.length c] _ rfl rfl (by kernel_rfl) (by kernel_rfl) (by kernel_rfl) (fun _ _ _ h => h) (by rfl) rfl rfl (fun w hw => hw.2.2) Try.underlying24 rfl infoGraph (by assumption) ?_
  try simp only [Act.put, List.setIfInBounds_toArray, List.set_cons_zero, List.set_cons_succ]
  refine wpAnyH_ready (rs := [10]) (by kernel_rfl) (by simp) ?_
  refine AllReadyH.cons rfl (fun K hK => ?_) AllReadyH.nil
  go_simp
  refine (topT n M A c _ (by have := HL.out; omega) (HA.out.kept0 K0.out) HW.out).mono ?_
  rintro x v5 ⟨vr, rfl, ho, hk⟩
  obtain ⟨B1, d1, rfl⟩ := own_n ho
  have R1 := Lib.hid (Reads.of_own ho)
  replace HX := Lib.hid (HX.out.kept hk (by simp))
  replace K0 := Lib.hid (K0.out.trans hk)
  clear hk ho
  go_wp2_with fail
  refine hK.out _ _ ?_ (fun hHeld => ?_)
  · exact ⟨HX.out.cell 0, HX.out.cell 1, HX.out.cell2⟩
  clear hK K
  try simp only [Act.put, List.setIfInBounds_toArray, List.set_cons_zero, List.set_cons_succ]
  refine wpAnyH_ready (rs := [12]) (by kernel_rfl) (by simp) ?_
  refine AllReadyH.cons rfl (fun K hK => ?_) AllReadyH.nil
  go_simp
  refine (refTurn_any n M A c _ (by have := HL.out; omega) (HA.out.kept0 K0.out) HW.out).mono ?_
  rintro x v6 ⟨vr, rfl, ho, hk⟩
  obtain ⟨B2, d2, rfl⟩ := own_n ho
  replace R1 := Lib.hid (R1.out.kept0 hk)
  have R2 := Lib.hid (Reads.of_own ho)
  replace HX := Lib.hid (HX.out.kept hk (by simp))
  replace K0 := Lib.hid (K0.out.trans hk)
  clear hk ho
  go_wp2_with fail
  refine hK.out _ _ ?_ (fun hHeld => ?_)
  · exact ⟨HX.out.cell 0, HX.out.cell 1, HX.out.cell2⟩
  clear hK K
  try simp only [Act.put, List.setIfInBounds_toArray, List.set_cons_zero, List.set_cons_succ]
  refine wpAnyH_ready (rs := [13]) (by kernel_rfl) (by simp) ?_
  refine AllReadyH.cons rfl (fun K hK => ?_) AllReadyH.nil
  go_simp
  refine (refSame_any n n (canonP (madeP turnE allE M)) (canonP (madeP turnE allE M)) B1 B2 d1 d2 _ (madeM_le HL.out) (madeM_le HL.out) R1.out R2.out).mono ?_
  rintro x v7 ⟨rfl, hk⟩
  rw [gsame]
  replace R1 := Lib.hid (R1.out.kept0 hk)
  replace R2 := Lib.hid (R2.out.kept0 hk)
  replace HX := Lib.hid (HX.out.kept hk (by simp))
  replace K0 := Lib.hid (K0.out.trans hk)
  clear hk 
  go_wp2_with fail
  refine hK.out _ _ ?_ (fun hHeld => ?_)
  · exact ⟨HX.out.cell 0, HX.out.cell 1, HX.out.cell2⟩
  clear hK K
  try simp only [Act.put, List.setIfInBounds_toArray, List.set_cons_zero, List.set_cons_succ]
  clear R1 R2
  refine tkYes (i := 14) (v := .bool true) rfl rfl (by kernel_rfl) (by kernel_rfl) (by kernel_rfl) (fun _ _ _ h => h) (by rfl) ?_ (by assumption) ?_
  skip
  · (intro w' hSw; (try dsimp only at hSw); go_simp; try (simp; done))
  try simp only [Act.put, List.setIfInBounds_toArray, List.set_cons_zero, List.set_cons_succ]
  refine tkYes (i := 15) (v := ?_) rfl rfl (by kernel_rfl) (by kernel_rfl) (by kernel_rfl) (fun _ _ _ h => h) (by rfl) ?_ (by assumption) ?_
  rotate_left
  · (intro w' hSw; (try dsimp only at hSw); go_simp; try with_reducible rfl)
  try simp only [Act.put, List.setIfInBounds_toArray, List.set_cons_zero, List.set_cons_succ]
  refine tkLoad (i := 16) 24 (.tmp 1) g (0) [.int .i64 n, .slice A M.length c] _ rfl rfl (by kernel_rfl) (by kernel_rfl) (by kernel_rfl) (fun _ _ _ h => h) (by rfl) rfl rfl (fun w hw => hw.2.2) Try.underlying24 rfl infoGraph (by assumption) ?_
  try simp only [Act.put, List.setIfInBounds_toArray, List.set_cons_zero, List.set_cons_succ]
  refine tkLoad (i := 18) 24 (.tmp 1) g (0) [.int .i64 n, .slice A M.length c] _ rfl rfl (by kernel_rfl) (by kernel_rfl) (by kernel_rfl) (fun _ _ _ h => h) (by rfl) rfl rfl (fun w hw => hw.2.2) Try.underlying24 rfl infoGraph (by assumption) ?_
  try simp only [Act.put, List.setIfInBounds_toArray, List.set_cons_zero, List.set_cons_succ]
  refine wpAnyH_ready (rs := [17]) (by kernel_rfl) (by simp) ?_
  refine AllReadyH.cons rfl (fun K hK => ?_) AllReadyH.nil
  go_simp
  refine (both_any n M A c _ (by have := HL.out; omega) (HA.out.kept0 K0.out) HW.out).mono ?_
  rintro x v8 ⟨vr, rfl, ho, hk⟩
  obtain ⟨B1, d1, rfl⟩ := own_n ho
  have R1 := Lib.hid (Reads.of_own ho)
  replace HX := Lib.hid (HX.out.kept hk (by simp))
  replace K0 := Lib.hid (K0.out.trans hk)
  clear hk ho
  go_wp2_with fail
  refine hK.out _ _ ?_ (fun hHeld => ?_)
  · exact ⟨HX.out.cell 0, HX.out.cell 1, HX.out.cell2⟩
  clear hK K
  try simp only [Act.put, List.setIfInBounds_toArray, List.set_cons_zero, List.set_cons_succ]
  refine wpAnyH_ready (rs := [19]) (by kernel_rfl) (by simp) ?_
  refine AllReadyH.cons rfl (fun K hK => ?_) AllReadyH.nil
  go_simp
  refine (refBoth_any n M A c _ (by have := HL.out; omega) (HA.out.kept0 K0.out) HW.out).mono ?_
  rintro x v9 ⟨vr, rfl, ho, hk⟩
  obtain ⟨B2, d2, rfl⟩ := own_n ho
  replace R1 := Lib.hid (R1.out.kept0 hk)
  have R2 := Lib.hid (Reads.of_own ho)
  replace HX := Lib.hid (HX.out.kept hk (by simp))
  replace K0 := Lib.hid (K0.out.trans hk)
  clear hk ho
  go_wp2_with fail
  refine hK.out _ _ ?_ (fun hHeld => ?_)
  · exact ⟨HX.out.cell 0, HX.out.cell 1, HX.out.cell2⟩
  clear hK K
  try simp only [Act.put, List.setIfInBounds_toArray, List.set_cons_zero, List.set_cons_succ]
  refine wpAnyH_ready (rs := [20]) (by kernel_rfl) (by simp) ?_
  refine AllReadyH.cons rfl (fun K hK => ?_) AllReadyH.nil
  go_simp
  refine (refSame_any n n (bothP M) (bothP M) B1 B2 d1 d2 _ (bothM_le HL.out) (bothM_le HL.out) R1.out R2.out).mono ?_
  rintro x v10 ⟨rfl, hk⟩
  rw [gsame]
  replace R1 := Lib.hid (R1.out.kept0 hk)
  replace R2 := Lib.hid (R2.out.kept0 hk)
  replace HX := Lib.hid (HX.out.kept hk (by simp))
  replace K0 := Lib.hid (K0.out.trans hk)
  clear hk 
  go_wp2_with fail
  refine hK.out _ _ ?_ (fun hHeld => ?_)
  · exact ⟨HX.out.cell 0, HX.out.cell 1, HX.out.cell2⟩
  clear hK K
  try simp only [Act.put, List.setIfInBounds_toArray, List.set_cons_zero, List.set_cons_succ]
  clear R1 R2
  refine tkYes (i := 21) (v := .bool true) rfl rfl (by kernel_rfl) (by kernel_rfl) (by kernel_rfl) (fun _ _ _ h => h) (by rfl) ?_ (by assumption) ?_
  skip
  · (intro w' hSw; (try dsimp only at hSw); go_simp; try (simp; done))
  try simp only [Act.put, List.setIfInBounds_toArray, List.set_cons_zero, List.set_cons_succ]
  refine tkYes (i := 22) (v := ?_) rfl rfl (by kernel_rfl) (by kernel_rfl) (by kernel_rfl) (fun _ _ _ h => h) (by rfl) ?_ (by assumption) ?_
  rotate_left
  · (intro w' hSw; (try dsimp only at hSw); go_simp; try with_reducible rfl)
  try simp only [Act.put, List.setIfInBounds_toArray, List.set_cons_zero, List.set_cons_succ]
  refine tkLoad (i := 23) 24 (.tmp 1) g (0) [.int .i64 n, .slice A M.length c] _ rfl rfl (by kernel_rfl) (by kernel_rfl) (by kernel_rfl) (fun _ _ _ h => h) (by rfl) rfl rfl (fun w hw => hw.2.2) Try.underlying24 rfl infoGraph (by assumption) ?_
  try simp only [Act.put, List.setIfInBounds_toArray, List.set_cons_zero, List.set_cons_succ]
  refine tkLoad (i := 25) 24 (.tmp 1) g (0) [.int .i64 n, .slice A M.length c] _ rfl rfl (by kernel_rfl) (by kernel_rfl) (by kernel_rfl) (fun _ _ _ h => h) (by rfl) rfl rfl (fun w hw => hw.2.2) Try.underlying24 rfl infoGraph (by assumption) ?_
  try simp only [Act.put, List.setIfInBounds_toArray, List.set_cons_zero, List.set_cons_succ]
  refine wpAnyH_ready (rs := [24]) (by kernel_rfl) (by simp) ?_
  refine AllReadyH.cons rfl (fun K hK => ?_) AllReadyH.nil
  go_simp
  refine (topS n M A c _ (by have := HL.out; omega) (HA.out.kept0 K0.out) HW.out).mono ?_
  rintro x v11 ⟨vr, rfl, ho, hk⟩
  obtain ⟨B1, d1, rfl⟩ := own_n ho
  have R1 := Lib.hid (Reads.of_own ho)
  replace HX := Lib.hid (HX.out.kept hk (by simp))
  replace K0 := Lib.hid (K0.out.trans hk)
  clear hk ho
  go_wp2_with fail
  refine hK.out _ _ ?_ (fun hHeld => ?_)
  · exact ⟨HX.out.cell 0, HX.out.cell 1, HX.out.cell2⟩
  clear hK K
  try simp only [Act.put, List.setIfInBounds_toArray, List.set_cons_zero, List.set_cons_succ]
  refine wpAnyH_ready (rs := [26]) (by kernel_rfl) (by simp) ?_
  refine AllReadyH.cons rfl (fun K hK => ?_) AllReadyH.nil
  go_simp
  refine (refSimple_any n M A c _ (by have := HL.out; omega) (HA.out.kept0 K0.out) HW.out).mono ?_
  rintro x v12 ⟨vr, rfl, ho, hk⟩
  obtain ⟨B2, d2, rfl⟩ := own_n ho
  replace R1 := Lib.hid (R1.out.kept0 hk)
  have R2 := Lib.hid (Reads.of_own ho)
  replace HX := Lib.hid (HX.out.kept hk (by simp))
  replace K0 := Lib.hid (K0.out.trans hk)
  clear hk ho
  go_wp2_with fail
  refine hK.out _ _ ?_ (fun hHeld => ?_)
  · exact ⟨HX.out.cell 0, HX.out.cell 1, HX.out.cell2⟩
  clear hK K
  try simp only [Act.put, List.setIfInBounds_toArray, List.set_cons_zero, List.set_cons_succ]
  refine wpAnyH_ready (rs := [27]) (by kernel_rfl) (by simp) ?_
  refine AllReadyH.cons rfl (fun K hK => ?_) AllReadyH.nil
  go_simp
  refine (refSame_any n n (canonP (madeP id noLoop M)) (canonP (madeP id noLoop M)) B1 B2 d1 d2 _ (madeM_le HL.out) (madeM_le HL.out) R1.out R2.out).mono ?_
  rintro x v13 ⟨rfl, hk⟩
  rw [gsame]
  replace R1 := Lib.hid (R1.out.kept0 hk)
  replace R2 := Lib.hid (R2.out.kept0 hk)
  replace HX := Lib.hid (HX.out.kept hk (by simp))
  replace K0 := Lib.hid (K0.out.trans hk)
  clear hk 
  go_wp2_with fail
  refine hK.out _ _ ?_ (fun hHeld => ?_)
  · exact ⟨HX.out.cell 0, HX.out.cell 1, HX.out.cell2⟩
  clear hK K
  try simp only [Act.put, List.setIfInBounds_toArray, List.set_cons_zero, List.set_cons_succ]
  clear R1 R2
  refine tkYes (i := 28) (v := .bool true) rfl rfl (by kernel_rfl) (by kernel_rfl) (by kernel_rfl) (fun _ _ _ h => h) (by rfl) ?_ (by assumption) ?_
  skip
  · (intro w' hSw; (try dsimp only at hSw); go_simp; try (simp; done))
  try simp only [Act.put, List.setIfInBounds_toArray, List.set_cons_zero, List.set_cons_succ]
  refine tkYes (i := 29) (v := ?_) rfl rfl (by kernel_rfl) (by kernel_rfl) (by kernel_rfl) (fun _ _ _ h => h) (by rfl) ?_ (by assumption) ?_
  rotate_left
  · (intro w' hSw; (try dsimp only at hSw); go_simp; try with_reducible rfl)
  try simp only [Act.put, List.setIfInBounds_toArray, List.set_cons_zero, List.set_cons_succ]
  refine tkLoad (i := 30) 24 (.tmp 1) g (0) [.int .i64 n, .slice A M.length c] _ rfl rfl (by kernel_rfl) (by kernel_rfl) (by kernel_rfl) (fun _ _ _ h => h) (by rfl) rfl rfl (fun w hw => hw.2.2) Try.underlying24 rfl infoGraph (by assumption) ?_
  try simp only [Act.put, List.setIfInBounds_toArray, List.set_cons_zero, List.set_cons_succ]
  refine tkLoad (i := 32) 24 (.tmp 1) g (0) [.int .i64 n, .slice A M.length c] _ rfl rfl (by kernel_rfl) (by kernel_rfl) (by kernel_rfl) (fun _ _ _ h => h) (by rfl) rfl rfl (fun w hw => hw.2.2) Try.underlying24 rfl infoGraph (by assumption) ?_
  try simp only [Act.put, List.setIfInBounds_toArray, List.set_cons_zero, List.set_cons_succ]
  refine wpAnyH_ready (rs := [31]) (by kernel_rfl) (by simp) ?_
  refine AllReadyH.cons rfl (fun K hK => ?_) AllReadyH.nil
  go_simp
  refine (topP n M A c _ (by have := HL.out; omega) (HA.out.kept0 K0.out) HW.out).mono ?_
  rintro x v14 ⟨vr, rfl, ho, hk⟩
  obtain ⟨B1, d1, rfl⟩ := own_n ho
  have R1 := Lib.hid (Reads.of_own ho)
  replace HX := Lib.hid (HX.out.kept hk (by simp))
  replace K0 := Lib.hid (K0.out.trans hk)
  clear hk ho
  go_wp2_with fail
  refine hK.out _ _ ?_ (fun hHeld => ?_)
  · exact ⟨HX.out.cell 0, HX.out.cell 1, HX.out.cell2⟩
  clear hK K
  try simp only [Act.put, List.setIfInBounds_toArray, List.set_cons_zero, List.set_cons_succ]
  refine wpAnyH_ready (rs := [33]) (by kernel_rfl) (by simp) ?_
  refine AllReadyH.cons rfl (fun K hK => ?_) AllReadyH.nil
  go_simp
  refine (refPlain_any n M A c _ (by have := HL.out; omega) (HA.out.kept0 K0.out) HW.out).mono ?_
  rintro x v15 ⟨vr, rfl, ho, hk⟩
  obtain ⟨B2, d2, rfl⟩ := own_n ho
  replace R1 := Lib.hid (R1.out.kept0 hk)
  have R2 := Lib.hid (Reads.of_own ho)
  replace HX := Lib.hid (HX.out.kept hk (by simp))
  replace K0 := Lib.hid (K0.out.trans hk)
  clear hk ho
  go_wp2_with fail
  refine hK.out _ _ ?_ (fun hHeld => ?_)
  · exact ⟨HX.out.cell 0, HX.out.cell 1, HX.out.cell2⟩
  clear hK K
  try simp only [Act.put, List.setIfInBounds_toArray, List.set_cons_zero, List.set_cons_succ]
  refine wpAnyH_ready (rs := [34]) (by kernel_rfl) (by simp) ?_
  refine AllReadyH.cons rfl (fun K hK => ?_) AllReadyH.nil
  go_simp
  refine (refSame_any n n (canonP (madeP oneE allE M)) (canonP (madeP oneE allE M)) B1 B2 d1 d2 _ (madeM_le HL.out) (madeM_le HL.out) R1.out R2.out).mono ?_
  rintro x v16 ⟨rfl, hk⟩
  rw [gsame]
  replace R1 := Lib.hid (R1.out.kept0 hk)
  replace R2 := Lib.hid (R2.out.kept0 hk)
  replace HX := Lib.hid (HX.out.kept hk (by simp))
  replace K0 := Lib.hid (K0.out.trans hk)
  clear hk 
  go_wp2_with fail
  refine hK.out _ _ ?_ (fun hHeld => ?_)
  · exact ⟨HX.out.cell 0, HX.out.cell 1, HX.out.cell2⟩
  clear hK K
  try simp only [Act.put, List.setIfInBounds_toArray, List.set_cons_zero, List.set_cons_succ]
  clear R1 R2
  refine tkYes (i := 35) (v := .bool true) rfl rfl (by kernel_rfl) (by kernel_rfl) (by kernel_rfl) (fun _ _ _ h => h) (by rfl) ?_ (by assumption) ?_
  skip
  · (intro w' hSw; (try dsimp only at hSw); go_simp; try (simp; done))
  try simp only [Act.put, List.setIfInBounds_toArray, List.set_cons_zero, List.set_cons_succ]
  refine tkYes (i := 36) (v := ?_) rfl rfl (by kernel_rfl) (by kernel_rfl) (by kernel_rfl) (fun _ _ _ h => h) (by rfl) ?_ (by assumption) ?_
  rotate_left
  · (intro w' hSw; (try dsimp only at hSw); go_simp; try with_reducible rfl)
  try simp only [Act.put, List.setIfInBounds_toArray, List.set_cons_zero, List.set_cons_succ]
  refine tkLoad (i := 37) 24 (.tmp 1) g (0) [.int .i64 n, .slice A M.length c] _ rfl rfl (by kernel_rfl) (by kernel_rfl) (by kernel_rfl) (fun _ _ _ h => h) (by rfl) rfl rfl (fun w hw => hw.2.2) Try.underlying24 rfl infoGraph (by assumption) ?_
  try simp only [Act.put, List.setIfInBounds_toArray, List.set_cons_zero, List.set_cons_succ]
  refine tkLoad (i := 39) 24 (.tmp 1) g (0) [.int .i64 n, .slice A M.length c] _ rfl rfl (by kernel_rfl) (by kernel_rfl) (by kernel_rfl) (fun _ _ _ h => h) (by rfl) rfl rfl (fun w hw => hw.2.2) Try.underlying24 rfl infoGraph (by assumption) ?_
  try simp only [Act.put, List.setIfInBounds_toArray, List.set_cons_zero, List.set_cons_succ]
  refine wpAnyH_ready (rs := [38]) (by kernel_rfl) (by simp) ?_
  refine AllReadyH.cons rfl (fun K hK => ?_) AllReadyH.nil
  go_simp
  refine (topL n M A c _ (by have := HL.out; omega) (HA.out.kept0 K0.out) HW.out).mono ?_
  rintro x v17 ⟨vr, rfl, ho, hk⟩
  obtain ⟨B1, d1, rfl⟩ := own_n ho
  have R1 := Lib.hid (Reads.of_own ho)
  replace HX := Lib.hid (HX.out.kept hk (by simp))
  replace K0 := Lib.hid (K0.out.trans hk)
  clear hk ho
  go_wp2_with fail
  refine hK.out _ _ ?_ (fun hHeld => ?_)
  · exact ⟨HX.out.cell 0, HX.out.cell 1, HX.out.cell2⟩
  clear hK K
  try simp only [Act.put, List.setIfInBounds_toArray, List.set_cons_zero, List.set_cons_succ]
  refine wpAnyH_ready (rs := [40]) (by kernel_rfl) (by simp) ?_
  refine AllReadyH.cons rfl (fun K hK => ?_) AllReadyH.nil
  go_simp
  refine (refLower_any n M A c _ (by have := HL.out; omega) (HA.out.kept0 K0.out) HW.out).mono ?_
  rintro x v18 ⟨vr, rfl, ho, hk⟩
  obtain ⟨B2, d2, rfl⟩ := own_n ho
  replace R1 := Lib.hid (R1.out.kept0 hk)
  have R2 := Lib.hid (Reads.of_own ho)
  replace HX := Lib.hid (HX.out.kept hk (by simp))
  replace K0 := Lib.hid (K0.out.trans hk)
  clear hk ho
  go_wp2_with fail
  refine hK.out _ _ ?_ (fun hHeld => ?_)
  · exact ⟨HX.out.cell 0, HX.out.cell 1, HX.out.cell2⟩
  clear hK K
  try simp only [Act.put, List.setIfInBounds_toArray, List.set_cons_zero, List.set_cons_succ]
  refine wpAnyH_ready (rs := [41]) (by kernel_rfl) (by simp) ?_
  refine AllReadyH.cons rfl (fun K hK => ?_) AllReadyH.nil
  go_simp
  refine (refSame_any n n (canonP (madeP id lowE M)) (canonP (madeP id lowE M)) B1 B2 d1 d2 _ (madeM_le HL.out) (madeM_le HL.out) R1.out R2.out).mono ?_
  rintro x v19 ⟨rfl, hk⟩
  rw [gsame]
  replace R1 := Lib.hid (R1.out.kept0 hk)
  replace R2 := Lib.hid (R2.out.kept0 hk)
  replace HX := Lib.hid (HX.out.kept hk (by simp))
  replace K0 := Lib.hid (K0.out.trans hk)
  clear hk 
  go_wp2_with fail
  refine hK.out _ _ ?_ (fun hHeld => ?_)
  · exact ⟨HX.out.cell 0, HX.out.cell 1, HX.out.cell2⟩
  clear hK K
  try simp only [Act.put, List.setIfInBounds_toArray, List.set_cons_zero, List.set_cons_succ]
  clear R1 R2
  refine tkYes (i := 42) (v := .bool true) rfl rfl (by kernel_rfl) (by kernel_rfl) (by kernel_rfl) (fun _ _ _ h => h) (by rfl) ?_ (by assumption) ?_
  skip
  · (intro w' hSw; (try dsimp only at hSw); go_simp; try (simp; done))
  try simp only [Act.put, List.setIfInBounds_toArray, List.set_cons_zero, List.set_cons_succ]
  refine tkYes (i := 43) (v := ?_) rfl rfl (by kernel_rfl) (by kernel_rfl) (by kernel_rfl) (fun _ _ _ h => h) (by rfl) ?_ (by assumption) ?_
  rotate_left
  · (intro w' hSw; (try dsimp only at hSw); go_simp; try with_reducible rfl)
  try simp only [Act.put, List.setIfInBounds_toArray, List.set_cons_zero, List.set_cons_succ]
  refine wpAnyH_done (by kernel_rfl) ?_ _
  go_wp2_with fail
  go_ret
  exact ⟨rfl, K0.out⟩

set_option maxRecDepth 100000 in
theorem edgesMake_lifted (os : Os) (started : os.Started) (H : Type) (enc : TypeId × Value → H) :
    ReturnsInHanded {} Try.checked os 4 .any (Rows.edgesMakeSpec.pre6 enc Try.prog Try.f4 Rows.edgesMakeRow.domain false) (Rows.edgesMakeSpec.post enc Try.prog Try.f4 false true false false) := by
  refine returnsInHanded_of_change (C := Try.checked) own started (by kernel_rfl) Try.func4
    (ChangeSpec.witness6 (enc := enc) (C := Try.checked) false ⟨#[], #[.agg #[.int .i64 0, .slice none 0 0]], []⟩ 8 (by kernel_rfl) (by kernel_rfl) (by kernel_rfl) (by kernel_rfl)) ?_
  intro W base args ds gs before hval0 hW hcnd _
  have hval : ∀ (j : Nat) t v, Try.f4.params[j]? = some t → args[j]? = some v → Value.okWide Try.prog W .any base t v := hval0
  have hW' := hW
  obtain ⟨p, q, hA0, hV, rfl, hfz, hnd⟩ := hW
  have hA : DataW.TrodAll enc Try.prog W 0 (fun _ => true) true Try.f4.params.toList args.toList ds p := hA0
  rw [Try.params4] at hA hval
  obtain ⟨v0, vs0, d0, ds0, p0, q0, hargs, rfl, rfl, h0, r0⟩ := trodAll_cons hA
  obtain ⟨rfl, rfl, rfl⟩ := trodAll_nil r0
  obtain rfl : args = #[v0] := by cases args; simp_all
  obtain ⟨rfl, rfl⟩ := trodVars_none hV
  obtain ⟨n, A, c, l, rfl, h1, h2, hAr, hw, hn⟩ := open_graph (hval 0 24 v0 rfl rfl) h0
  refine (edgesMake_walk n l A c W hAr hw h1 h2).mono fun e W' ⟨he, hk⟩ => ?_
  exact ⟨_, he, post_true rfl Try.underlying4 rfl rfl rfl rfl laidOut (by decide +kernel) hW' hk⟩

theorem edgesMake_holds : Rows.EdgesMakeSaid :=
  OpenClaim.holds_of_wide 4 Try.f4 rfl rfl rfl rfl rfl rfl rfl ⟨rfl, rfl, rfl, rfl, rfl⟩ rfl rfl rfl rfl rfl (by kernel_rfl) Try.func4 (by kernel_rfl)
    (of_decide_eq_true (by kernel_rfl)) (by unfold Func.isWrapper; first | (rw [if_pos (by decide +kernel)]; kernel_rfl) | (rw [if_neg (by decide +kernel)]; exact ⟨rfl, rfl⟩))
    (fun os started H enc _ => edgesMake_lifted os started H enc)
end Go.Proofs.Ytfnhfmffkjljnaa
