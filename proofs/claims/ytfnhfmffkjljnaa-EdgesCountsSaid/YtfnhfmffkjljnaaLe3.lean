/- 'EdgesCounts' returns true for every graph. Conditions: none. -/
import Derived.Test.YtfnhfmffkjljnaaLe0
namespace Go.Proofs.Ytfnhfmffkjljnaa
set_option linter.unusedSimpArgs false
set_option linter.unusedVariables false
open Go.ChangeShapes Go.WideShapes Go.ChangeAt Go.RowKit
open Go.RowKit (wrap32 wrap64)
set_option maxHeartbeats 8000000

set_option maxRecDepth 100000 in
theorem edgesCounts_walk (n : Int) (l : List Ed) (A : Option Addr) (c : Nat) (w : World) (hA : Reads w A (l.flatMap edV)) (hw : ∀ e ∈ l, In64 e.2.2) (h1 : l.length ≤ c) (h2 : c ≤ maxLen) :
    Calls Try.prog 5 #[.agg #[.int .i64 n, .slice A l.length c]] w fun e w' => e = .returned (.bool true) ∧ Kept [] w w' := by
  have HX := Lib.hid (Blk.new w 24 (grV n A l.length c))
  have K0 := Lib.hid ((Kept.refl [] w).alloc (.cells (grV n A l.length c).toArray 24))
  have HA := Lib.hid (Reads.take hA 60)
  have HW := Lib.hid (show ∀ e ∈ l.take 60, In64 e.2.2 from fun e he => hw e (List.mem_of_mem_take he))
  have HL := Lib.hid (show (l.take 60).length ≤ 60 by rw [List.length_take]; omega)
  have h3 := Nat.le_trans h1 h2
  clear hA hw
  by_cases hb : 300 < n ∧ n ≤ 4096
  · obtain ⟨hb1, hb2⟩ := hb
    go_enter Try.func5, Try.ntmps5
    go_wp2_with fail
    refine (few_any n l A c _ h3 h1 h2).mono ?_
    rintro x w1 ⟨rfl, hk⟩
    replace K0 := Lib.hid (K0.out.trans hk)
    replace HX := Lib.hid (HX.out.kept hk (by simp))
    clear hk h1 h2 h3
    generalize l.take 60 = M at *
    obtain ⟨g, hg⟩ : ∃ g, g = w.heap.size := ⟨_, rfl⟩
    have HGE := Lib.hid (show w.heap.size ≤ g by omega)
    rw [← hg] at HX ⊢
    clear hg
    go_upto_region 2 with (first | (refine wpList_storeBlk rfl 24 (.tmp 1) (.tmp 4) rfl g _ (grV n A M.length c) HX.out rfl rfl rfl infoGraph (by simp [Value.oneCell']) ?_; intro w2 hb2 hk2))
    replace K0 := Lib.hid (K0.out.then hk2 (fun m hm => by simp at hm; subst hm; exact .inr HGE.out))
    replace HX := Lib.hid hb2
    clear hb2 hk2
    have x0 := HX.out.cell 0
    have x1 := HX.out.cell 1
    simp only [List.getElem?_cons_zero, List.getElem?_cons_succ] at x0 x1
    go_wp2_with fail
    refine (live_any _).mono ?_
    rintro x w3 ⟨rfl, hk⟩
    replace K0 := Lib.hid (K0.out.trans hk)
    clear hk x0 x1
    go_wp2_with fail
    go_ret
    exact ⟨rfl, K0.out⟩
  by_cases hb1 : 300 < n
  · have hb2 : ¬ n ≤ 4096 := fun h => hb ⟨hb1, h⟩
    clear hb
    go_enter Try.func5, Try.ntmps5
    go_wp2_with fail
    refine (few_any n l A c _ h3 h1 h2).mono ?_
    rintro x w1 ⟨rfl, hk⟩
    replace K0 := Lib.hid (K0.out.trans hk)
    replace HX := Lib.hid (HX.out.kept hk (by simp))
    clear hk h1 h2 h3
    generalize l.take 60 = M at *
    obtain ⟨g, hg⟩ : ∃ g, g = w.heap.size := ⟨_, rfl⟩
    have HGE := Lib.hid (show w.heap.size ≤ g by omega)
    rw [← hg] at HX ⊢
    clear hg
    go_upto_region 2 with (first | (refine wpList_storeBlk rfl 24 (.tmp 1) (.tmp 4) rfl g _ (grV n A M.length c) HX.out rfl rfl rfl infoGraph (by simp [Value.oneCell']) ?_; intro w2 hb2 hk2))
    replace K0 := Lib.hid (K0.out.then hk2 (fun m hm => by simp at hm; subst hm; exact .inr HGE.out))
    replace HX := Lib.hid hb2
    clear hb2 hk2
    have x0 := HX.out.cell 0
    have x1 := HX.out.cell 1
    simp only [List.getElem?_cons_zero, List.getElem?_cons_succ] at x0 x1
    go_upto_region 4 with (fail)
    clear x0 x1
    have HTL := Lib.hid (show (canonP (turnL M)).length ≤ 60 by have h1 := canonP_length (turnL M); have h2 : (turnL M).length ≤ M.length := madeP_length turnE allE M; have h3 := HL.out; omega)
    have HCL := Lib.hid (show (canonP M).length ≤ 60 by have h1 := canonP_length M; have h3 := HL.out; omega)
    have EC := Lib.hid (turned_counts HW.out n)
    refine wp_region_held_drew (S := (fun w' => w'.cell? ⟨g, 0, none⟩ = some (.int .i64 n) ∧ w'.cell? ⟨g, 1, none⟩ = some (.slice A M.length c) ∧ w'.rangeAt g 0 [.int .i64 n, .slice A M.length c])) (by kernel_rfl) ?_ (fun hHeld => ?_)
    · exact ⟨HX.out.cell 0, HX.out.cell 1, HX.out.cell2⟩
    replace HX := Lib.hid HX.out.drew
    replace K0 := Lib.hid (K0.out.drew)
    refine wpAnyH_ready (rs := [0]) (by kernel_rfl) (by simp) ?_
    refine AllReadyH.cons rfl (fun K hK => ?_) AllReadyH.nil
    go_simp
    refine (live_any _).mono ?_
    rintro x v1 ⟨rfl, hk⟩
    replace HX := Lib.hid (HX.out.kept hk (by simp))
    replace K0 := Lib.hid (K0.out.trans hk)
    clear hk 
    go_wp2_with fail
    refine hK.out _ _ ?_ (fun hHeld => ?_)
    · exact ⟨HX.out.cell 0, HX.out.cell 1, HX.out.cell2⟩
    clear hK K
    try simp only [Act.put, List.setIfInBounds_toArray, List.set_cons_zero, List.set_cons_succ]
    refine tkYes (i := 1) (v := ?_) rfl rfl (by kernel_rfl) (by kernel_rfl) (by kernel_rfl) (fun _ _ _ h => h) (by rfl) ?_ (by assumption) ?_
    rotate_left
    · (intro w' hSw; (try dsimp only at hSw); go_simp; try with_reducible rfl)
    try simp only [Act.put, List.setIfInBounds_toArray, List.set_cons_zero, List.set_cons_succ]
    refine tkLoad (i := 2) 24 (.tmp 1) g (0) [.int .i64 n, .slice A M.length c] _ rfl rfl (by kernel_rfl) (by kernel_rfl) (by kernel_rfl) (fun _ _ _ h => h) (by rfl) rfl rfl (fun w hw => hw.2.2) Try.underlying24 rfl infoGraph (by assumption) ?_
    try simp only [Act.put, List.setIfInBounds_toArray, List.set_cons_zero, List.set_cons_succ]
    refine tkLoad (i := 4) 24 (.tmp 1) g (0) [.int .i64 n, .slice A M.length c] _ rfl rfl (by kernel_rfl) (by kernel_rfl) (by kernel_rfl) (fun _ _ _ h => h) (by rfl) rfl rfl (fun w hw => hw.2.2) Try.underlying24 rfl infoGraph (by assumption) ?_
    try simp only [Act.put, List.setIfInBounds_toArray, List.set_cons_zero, List.set_cons_succ]
    refine wpAnyH_ready (rs := [3]) (by kernel_rfl) (by simp) ?_
    refine AllReadyH.cons rfl (fun K hK => ?_) AllReadyH.nil
    go_simp
    refine (outs_any n M A c _ (by have := HL.out; omega) (HA.out.kept0 K0.out)).mono ?_
    rintro x v2 ⟨B1, d1, rfl, hr, hk⟩
    have R1 := Lib.hid hr
    replace HX := Lib.hid (HX.out.kept hk (by simp))
    replace K0 := Lib.hid (K0.out.trans hk)
    clear hk hr
    go_wp2_with fail
    refine hK.out _ _ ?_ (fun hHeld => ?_)
    · exact ⟨HX.out.cell 0, HX.out.cell 1, HX.out.cell2⟩
    clear hK K
    try simp only [Act.put, List.setIfInBounds_toArray, List.set_cons_zero, List.set_cons_succ]
    refine wpAnyH_ready (rs := [5]) (by kernel_rfl) (by simp) ?_
    refine AllReadyH.cons rfl (fun K hK => ?_) AllReadyH.nil
    go_simp
    refine (refOuts_any n M A c _ (by have := HL.out; omega) (HA.out.kept0 K0.out)).mono ?_
    rintro x v3 ⟨B2, d2, rfl, hr, hk⟩
    replace R1 := Lib.hid (R1.out.kept0 hk)
    have R2 := Lib.hid hr
    replace HX := Lib.hid (HX.out.kept hk (by simp))
    replace K0 := Lib.hid (K0.out.trans hk)
    clear hk hr
    go_wp2_with fail
    refine hK.out _ _ ?_ (fun hHeld => ?_)
    · exact ⟨HX.out.cell 0, HX.out.cell 1, HX.out.cell2⟩
    clear hK K
    try simp only [Act.put, List.setIfInBounds_toArray, List.set_cons_zero, List.set_cons_succ]
    refine wpAnyH_ready (rs := [6]) (by kernel_rfl) (by simp) ?_
    refine AllReadyH.cons rfl (fun K hK => ?_) AllReadyH.nil
    go_simp
    refine (sameInts_any (countP selO n M) (countP selO n M) B1 B2 d1 d2 _ (by have := @countP_length selO n M; unfold maxLen; omega) (by have := @countP_length selO n M; unfold maxLen; omega) R1.out R2.out).mono ?_
    rintro x v4 ⟨rfl, hk⟩
    rw [isame]
    replace R1 := Lib.hid (R1.out.kept0 hk)
    replace R2 := Lib.hid (R2.out.kept0 hk)
    replace HX := Lib.hid (HX.out.kept hk (by simp))
    replace K0 := Lib.hid (K0.out.trans hk)
    clear hk 
    go_wp2_with fail
    refine hK.out _ _ ?_ (fun hHeld => ?_)
    · exact ⟨HX.out.cell 0, HX.out.cell 1, HX.out.cell2⟩
    clear hK K
    try simp only [Act.put, List.setIfInBounds_toArray, List.set_cons_zero, List.set_cons_succ]
    clear R1 R2
    refine tkYes (i := 7) (v := .bool true) rfl rfl (by kernel_rfl) (by kernel_rfl) (by kernel_rfl) (fun _ _ _ h => h) (by rfl) ?_ (by assumption) ?_
    skip
    · (intro w' hSw; (try dsimp only at hSw); go_simp; try (simp; done))
    try simp only [Act.put, List.setIfInBounds_toArray, List.set_cons_zero, List.set_cons_succ]
    refine tkYes (i := 8) (v := ?_) rfl rfl (by kernel_rfl) (by kernel_rfl) (by kernel_rfl) (fun _ _ _ h => h) (by rfl) ?_ (by assumption) ?_
    rotate_left
    · (intro w' hSw; (try dsimp only at hSw); go_simp; try with_reducible rfl)
    try simp only [Act.put, List.setIfInBounds_toArray, List.set_cons_zero, List.set_cons_succ]
    refine tkLoad (i := 9) 24 (.tmp 1) g (0) [.int .i64 n, .slice A M.length c] _ rfl rfl (by kernel_rfl) (by kernel_rfl) (by kernel_rfl) (fun _ _ _ h => h) (by rfl) rfl rfl (fun w hw => hw.2.2) Try.underlying24 rfl infoGraph (by assumption) ?_
    try simp only [Act.put, List.setIfInBounds_toArray, List.set_cons_zero, List.set_cons_succ]
    refine tkLoad (i := 11) 24 (.tmp 1) g (0) [.int .i64 n, .slice A M.length c] _ rfl rfl (by kernel_rfl) (by kernel_rfl) (by kernel_rfl) (fun _ _ _ h => h) (by rfl) rfl rfl (fun w hw => hw.2.2) Try.underlying24 rfl infoGraph (by assumption) ?_
    try simp only [Act.put, List.setIfInBounds_toArray, List.set_cons_zero, List.set_cons_succ]
    refine wpAnyH_ready (rs := [10]) (by kernel_rfl) (by simp) ?_
    refine AllReadyH.cons rfl (fun K hK => ?_) AllReadyH.nil
    go_simp
    refine (ins_any n M A c _ (by have := HL.out; omega) (HA.out.kept0 K0.out)).mono ?_
    rintro x v5 ⟨B1, d1, rfl, hr, hk⟩
    have R1 := Lib.hid hr
    replace HX := Lib.hid (HX.out.kept hk (by simp))
    replace K0 := Lib.hid (K0.out.trans hk)
    clear hk hr
    go_wp2_with fail
    refine hK.out _ _ ?_ (fun hHeld => ?_)
    · exact ⟨HX.out.cell 0, HX.out.cell 1, HX.out.cell2⟩
    clear hK K
    try simp only [Act.put, List.setIfInBounds_toArray, List.set_cons_zero, List.set_cons_succ]
    refine wpAnyH_ready (rs := [12]) (by kernel_rfl) (by simp) ?_
    refine AllReadyH.cons rfl (fun K hK => ?_) AllReadyH.nil
    go_simp
    refine (refIns_any n M A c _ (by have := HL.out; omega) (HA.out.kept0 K0.out)).mono ?_
    rintro x v6 ⟨B2, d2, rfl, hr, hk⟩
    replace R1 := Lib.hid (R1.out.kept0 hk)
    have R2 := Lib.hid hr
    replace HX := Lib.hid (HX.out.kept hk (by simp))
    replace K0 := Lib.hid (K0.out.trans hk)
    clear hk hr
    go_wp2_with fail
    refine hK.out _ _ ?_ (fun hHeld => ?_)
    · exact ⟨HX.out.cell 0, HX.out.cell 1, HX.out.cell2⟩
    clear hK K
    try simp only [Act.put, List.setIfInBounds_toArray, List.set_cons_zero, List.set_cons_succ]
    refine wpAnyH_ready (rs := [13]) (by kernel_rfl) (by simp) ?_
    refine AllReadyH.cons rfl (fun K hK => ?_) AllReadyH.nil
    go_simp
    refine (sameInts_any (countP selI n M) (countP selI n M) B1 B2 d1 d2 _ (by have := @countP_length selI n M; unfold maxLen; omega) (by have := @countP_length selI n M; unfold maxLen; omega) R1.out R2.out).mono ?_
    rintro x v7 ⟨rfl, hk⟩
    rw [isame]
    replace R1 := Lib.hid (R1.out.kept0 hk)
    replace R2 := Lib.hid (R2.out.kept0 hk)
    replace HX := Lib.hid (HX.out.kept hk (by simp))
    replace K0 := Lib.hid (K0.out.trans hk)
    clear hk 
    go_wp2_with fail
    refine hK.out _ _ ?_ (fun hHeld => ?_)
    · exact ⟨HX.out.cell 0, HX.out.cell 1, HX.out.cell2⟩
    clear hK K
    try simp only [Act.put, List.setIfInBounds_toArray, List.set_cons_zero, List.set_cons_succ]
    clear R1 R2
    refine tkYes (i := 14) (v := .bool true) rfl rfl (by kernel_rfl) (by kernel_rfl) (by kernel_rfl) (fun _ _ _ h => h) (by rfl) ?_ (by assumption) ?_
    skip
    · (intro w' hSw; (try dsimp only at hSw); go_simp; try (simp; done))
    try simp only [Act.put, List.setIfInBounds_toArray, List.set_cons_zero, List.set_cons_succ]
    refine tkYes (i := 15) (v := ?_) rfl rfl (by kernel_rfl) (by kernel_rfl) (by kernel_rfl) (fun _ _ _ h => h) (by rfl) ?_ (by assumption) ?_
    rotate_left
    · (intro w' hSw; (try dsimp only at hSw); go_simp; try with_reducible rfl)
    try simp only [Act.put, List.setIfInBounds_toArray, List.set_cons_zero, List.set_cons_succ]
    refine tkLoad (i := 16) 24 (.tmp 1) g (0) [.int .i64 n, .slice A M.length c] _ rfl rfl (by kernel_rfl) (by kernel_rfl) (by kernel_rfl) (fun _ _ _ h => h) (by rfl) rfl rfl (fun w hw => hw.2.2) Try.underlying24 rfl infoGraph (by assumption) ?_
    try simp only [Act.put, List.setIfInBounds_toArray, List.set_cons_zero, List.set_cons_succ]
    refine tkLoad (i := 19) 24 (.tmp 1) g (0) [.int .i64 n, .slice A M.length c] _ rfl rfl (by kernel_rfl) (by kernel_rfl) (by kernel_rfl) (fun _ _ _ h => h) (by rfl) rfl rfl (fun w hw => hw.2.2) Try.underlying24 rfl infoGraph (by assumption) ?_
    try simp only [Act.put, List.setIfInBounds_toArray, List.set_cons_zero, List.set_cons_succ]
    refine wpAnyH_ready (rs := [17]) (by kernel_rfl) (by simp) ?_
    refine AllReadyH.cons rfl (fun K hK => ?_) AllReadyH.nil
    go_simp
    refine (topT n M A c _ (by have := HL.out; omega) (HA.out.kept0 K0.out) HW.out).mono ?_
    rintro x v8 ⟨vr, rfl, ho, hk⟩
    obtain ⟨B1, d1, rfl⟩ := own_n ho
    have R1 := Lib.hid (Reads.of_own ho)
    replace HX := Lib.hid (HX.out.kept hk (by simp))
    replace K0 := Lib.hid (K0.out.trans hk)
    clear hk ho
    go_wp2_with fail
    refine hK.out _ _ ?_ (fun hHeld => ?_)
    · exact ⟨HX.out.cell 0, HX.out.cell 1, HX.out.cell2⟩
    clear hK K
    try simp only [Act.put, List.setIfInBounds_toArray, List.set_cons_zero, List.set_cons_succ]
    refine wpAnyH_ready (rs := [18]) (by kernel_rfl) (by simp) ?_
    refine AllReadyH.cons rfl (fun K hK => ?_) AllReadyH.nil
    go_simp
    refine (outs_any n (canonP (turnL M)) B1 d1 _ (by have := HTL.out; omega) R1.out).mono ?_
    rintro x v9 ⟨B2, d2, rfl, hr, hk⟩
    replace R1 := Lib.hid (R1.out.kept0 hk)
    have R2 := Lib.hid hr
    replace HX := Lib.hid (HX.out.kept hk (by simp))
    replace K0 := Lib.hid (K0.out.trans hk)
    clear hk hr
    go_wp2_with fail
    refine hK.out _ _ ?_ (fun hHeld => ?_)
    · exact ⟨HX.out.cell 0, HX.out.cell 1, HX.out.cell2⟩
    clear hK K
    try simp only [Act.put, List.setIfInBounds_toArray, List.set_cons_zero, List.set_cons_succ]
    refine wpAnyH_ready (rs := [20]) (by kernel_rfl) (by simp) ?_
    refine AllReadyH.cons rfl (fun K hK => ?_) AllReadyH.nil
    go_simp
    refine (refCanon_any n M A c _ (by have := HL.out; omega) (HA.out.kept0 K0.out) HW.out).mono ?_
    rintro x v10 ⟨vr, rfl, ho, hk⟩
    obtain ⟨B3, d3, rfl⟩ := own_n ho
    replace R1 := Lib.hid (R1.out.kept0 hk)
    replace R2 := Lib.hid (R2.out.kept0 hk)
    have R3 := Lib.hid (Reads.of_own ho)
    replace HX := Lib.hid (HX.out.kept hk (by simp))
    replace K0 := Lib.hid (K0.out.trans hk)
    clear hk ho
    go_wp2_with fail
    refine hK.out _ _ ?_ (fun hHeld => ?_)
    · exact ⟨HX.out.cell 0, HX.out.cell 1, HX.out.cell2⟩
    clear hK K
    try simp only [Act.put, List.setIfInBounds_toArray, List.set_cons_zero, List.set_cons_succ]
    refine wpAnyH_ready (rs := [21]) (by kernel_rfl) (by simp) ?_
    refine AllReadyH.cons rfl (fun K hK => ?_) AllReadyH.nil
    go_simp
    refine (ins_any n (canonP M) B3 d3 _ (by have := HCL.out; omega) R3.out).mono ?_
    rintro x v11 ⟨B4, d4, rfl, hr, hk⟩
    replace R1 := Lib.hid (R1.out.kept0 hk)
    replace R2 := Lib.hid (R2.out.kept0 hk)
    replace R3 := Lib.hid (R3.out.kept0 hk)
    have R4 := Lib.hid hr
    replace HX := Lib.hid (HX.out.kept hk (by simp))
    replace K0 := Lib.hid (K0.out.trans hk)
    clear hk hr
    go_wp2_with fail
    refine hK.out _ _ ?_ (fun hHeld => ?_)
    · exact ⟨HX.out.cell 0, HX.out.cell 1, HX.out.cell2⟩
    clear hK K
    try simp only [Act.put, List.setIfInBounds_toArray, List.set_cons_zero, List.set_cons_succ]
    refine wpAnyH_ready (rs := [22]) (by kernel_rfl) (by simp) ?_
    refine AllReadyH.cons rfl (fun K hK => ?_) AllReadyH.nil
    go_simp
    refine (sameInts_any (countP selO n (canonP (turnL M))) (countP selI n (canonP M)) B2 B4 d2 d4 _ (by have := @countP_length selO n (canonP (turnL M)); unfold maxLen; omega) (by have := @countP_length selI n (canonP M); unfold maxLen; omega) R2.out R4.out).mono ?_
    rintro x v12 ⟨rfl, hk⟩
    rw [EC.out, isame]
    replace R1 := Lib.hid (R1.out.kept0 hk)
    replace R2 := Lib.hid (R2.out.kept0 hk)
    replace R3 := Lib.hid (R3.out.kept0 hk)
    replace R4 := Lib.hid (R4.out.kept0 hk)
    replace HX := Lib.hid (HX.out.kept hk (by simp))
    replace K0 := Lib.hid (K0.out.trans hk)
    clear hk 
    go_wp2_with fail
    refine hK.out _ _ ?_ (fun hHeld => ?_)
    · exact ⟨HX.out.cell 0, HX.out.cell 1, HX.out.cell2⟩
    clear hK K
    try simp only [Act.put, List.setIfInBounds_toArray, List.set_cons_zero, List.set_cons_succ]
    refine tkYes (i := 23) (v := .bool true) rfl rfl (by kernel_rfl) (by kernel_rfl) (by kernel_rfl) (fun _ _ _ h => h) (by rfl) ?_ (by assumption) ?_
    skip
    · (intro w' hSw; (try dsimp only at hSw); go_simp; try (simp; done))
    try simp only [Act.put, List.setIfInBounds_toArray, List.set_cons_zero, List.set_cons_succ]
    refine tkYes (i := 24) (v := ?_) rfl rfl (by kernel_rfl) (by kernel_rfl) (by kernel_rfl) (fun _ _ _ h => h) (by rfl) ?_ (by assumption) ?_
    rotate_left
    · (intro w' hSw; (try dsimp only at hSw); go_simp; try with_reducible rfl)
    try simp only [Act.put, List.setIfInBounds_toArray, List.set_cons_zero, List.set_cons_succ]
    refine wpAnyH_done (by kernel_rfl) ?_ _
    go_wp2_with fail
    go_ret
    exact ⟨rfl, K0.out⟩
  · clear hb
    go_enter Try.func5, Try.ntmps5
    go_wp2_with fail
    refine (few_any n l A c _ h3 h1 h2).mono ?_
    rintro x w1 ⟨rfl, hk⟩
    replace K0 := Lib.hid (K0.out.trans hk)
    replace HX := Lib.hid (HX.out.kept hk (by simp))
    clear hk h1 h2 h3
    generalize l.take 60 = M at *
    obtain ⟨g, hg⟩ : ∃ g, g = w.heap.size := ⟨_, rfl⟩
    have HGE := Lib.hid (show w.heap.size ≤ g by omega)
    rw [← hg] at HX ⊢
    clear hg
    go_upto_region 2 with (first | (refine wpList_storeBlk rfl 24 (.tmp 1) (.tmp 4) rfl g _ (grV n A M.length c) HX.out rfl rfl rfl infoGraph (by simp [Value.oneCell']) ?_; intro w2 hb2 hk2))
    replace K0 := Lib.hid (K0.out.then hk2 (fun m hm => by simp at hm; subst hm; exact .inr HGE.out))
    replace HX := Lib.hid hb2
    clear hb2 hk2
    have x0 := HX.out.cell 0
    have x1 := HX.out.cell 1
    simp only [List.getElem?_cons_zero, List.getElem?_cons_succ] at x0 x1
    go_upto_region 4 with (fail)
    clear x0 x1
    have HTL := Lib.hid (show (canonP (turnL M)).length ≤ 60 by have h1 := canonP_length (turnL M); have h2 : (turnL M).length ≤ M.length := madeP_length turnE allE M; have h3 := HL.out; omega)
    have HCL := Lib.hid (show (canonP M).length ≤ 60 by have h1 := canonP_length M; have h3 := HL.out; omega)
    have EC := Lib.hid (turned_counts HW.out n)
    refine wp_region_held_drew (S := (fun w' => w'.cell? ⟨g, 0, none⟩ = some (.int .i64 n) ∧ w'.cell? ⟨g, 1, none⟩ = some (.slice A M.length c) ∧ w'.rangeAt g 0 [.int .i64 n, .slice A M.length c])) (by kernel_rfl) ?_ (fun hHeld => ?_)
    · exact ⟨HX.out.cell 0, HX.out.cell 1, HX.out.cell2⟩
    replace HX := Lib.hid HX.out.drew
    replace K0 := Lib.hid (K0.out.drew)
    refine wpAnyH_ready (rs := [0]) (by kernel_rfl) (by simp) ?_
    refine AllReadyH.cons rfl (fun K hK => ?_) AllReadyH.nil
    go_simp
    refine (live_any _).mono ?_
    rintro x v1 ⟨rfl, hk⟩
    replace HX := Lib.hid (HX.out.kept hk (by simp))
    replace K0 := Lib.hid (K0.out.trans hk)
    clear hk 
    go_wp2_with fail
    refine hK.out _ _ ?_ (fun hHeld => ?_)
    · exact ⟨HX.out.cell 0, HX.out.cell 1, HX.out.cell2⟩
    clear hK K
    try simp only [Act.put, List.setIfInBounds_toArray, List.set_cons_zero, List.set_cons_succ]
    refine tkYes (i := 1) (v := ?_) rfl rfl (by kernel_rfl) (by kernel_rfl) (by kernel_rfl) (fun _ _ _ h => h) (by rfl) ?_ (by assumption) ?_
    rotate_left
    · (intro w' hSw; (try dsimp only at hSw); go_simp; try with_reducible rfl)
    try simp only [Act.put, List.setIfInBounds_toArray, List.set_cons_zero, List.set_cons_succ]
    refine tkLoad (i := 2) 24 (.tmp 1) g (0) [.int .i64 n, .slice A M.length c] _ rfl rfl (by kernel_rfl) (by kernel_rfl) (by kernel_rfl) (fun _ _ _ h => h) (by rfl) rfl rfl (fun w hw => hw.2.2) Try.underlying24 rfl infoGraph (by assumption) ?_
    try simp only [Act.put, List.setIfInBounds_toArray, List.set_cons_zero, List.set_cons_succ]
    refine tkLoad (i := 4) 24 (.tmp 1) g (0) [.int .i64 n, .slice A M.length c] _ rfl rfl (by kernel_rfl) (by kernel_rfl) (by kernel_rfl) (fun _ _ _ h => h) (by rfl) rfl rfl (fun w hw => hw.2.2) Try.underlying24 rfl infoGraph (by assumption) ?_
    try simp only [Act.put, List.setIfInBounds_toArray, List.set_cons_zero, List.set_cons_succ]
    refine wpAnyH_ready (rs := [3]) (by kernel_rfl) (by simp) ?_
    refine AllReadyH.cons rfl (fun K hK => ?_) AllReadyH.nil
    go_simp
    refine (outs_any n M A c _ (by have := HL.out; omega) (HA.out.kept0 K0.out)).mono ?_
    rintro x v2 ⟨B1, d1, rfl, hr, hk⟩
    have R1 := Lib.hid hr
    replace HX := Lib.hid (HX.out.kept hk (by simp))
    replace K0 := Lib.hid (K0.out.trans hk)
    clear hk hr
    go_wp2_with fail
    refine hK.out _ _ ?_ (fun hHeld => ?_)
    · exact ⟨HX.out.cell 0, HX.out.cell 1, HX.out.cell2⟩
    clear hK K
    try simp only [Act.put, List.setIfInBounds_toArray, List.set_cons_zero, List.set_cons_succ]
    refine wpAnyH_ready (rs := [5]) (by kernel_rfl) (by simp) ?_
    refine AllReadyH.cons rfl (fun K hK => ?_) AllReadyH.nil
    go_simp
    refine (refOuts_any n M A c _ (by have := HL.out; omega) (HA.out.kept0 K0.out)).mono ?_
    rintro x v3 ⟨B2, d2, rfl, hr, hk⟩
    replace R1 := Lib.hid (R1.out.kept0 hk)
    have R2 := Lib.hid hr
    replace HX := Lib.hid (HX.out.kept hk (by simp))
    replace K0 := Lib.hid (K0.out.trans hk)
    clear hk hr
    go_wp2_with fail
    refine hK.out _ _ ?_ (fun hHeld => ?_)
    · exact ⟨HX.out.cell 0, HX.out.cell 1, HX.out.cell2⟩
    clear hK K
    try simp only [Act.put, List.setIfInBounds_toArray, List.set_cons_zero, List.set_cons_succ]
    refine wpAnyH_ready (rs := [6]) (by kernel_rfl) (by simp) ?_
    refine AllReadyH.cons rfl (fun K hK => ?_) AllReadyH.nil
    go_simp
    refine (sameInts_any (countP selO n M) (countP selO n M) B1 B2 d1 d2 _ (by have := @countP_length selO n M; unfold maxLen; omega) (by have := @countP_length selO n M; unfold maxLen; omega) R1.out R2.out).mono ?_
    rintro x v4 ⟨rfl, hk⟩
    rw [isame]
    replace R1 := Lib.hid (R1.out.kept0 hk)
    replace R2 := Lib.hid (R2.out.kept0 hk)
    replace HX := Lib.hid (HX.out.kept hk (by simp))
    replace K0 := Lib.hid (K0.out.trans hk)
    clear hk 
    go_wp2_with fail
    refine hK.out _ _ ?_ (fun hHeld => ?_)
    · exact ⟨HX.out.cell 0, HX.out.cell 1, HX.out.cell2⟩
    clear hK K
    try simp only [Act.put, List.setIfInBounds_toArray, List.set_cons_zero, List.set_cons_succ]
    clear R1 R2
    refine tkYes (i := 7) (v := .bool true) rfl rfl (by kernel_rfl) (by kernel_rfl) (by kernel_rfl) (fun _ _ _ h => h) (by rfl) ?_ (by assumption) ?_
    skip
    · (intro w' hSw; (try dsimp only at hSw); go_simp; try (simp; done))
    try simp only [Act.put, List.setIfInBounds_toArray, List.set_cons_zero, List.set_cons_succ]
    refine tkYes (i := 8) (v := ?_) rfl rfl (by kernel_rfl) (by kernel_rfl) (by kernel_rfl) (fun _ _ _ h => h) (by rfl) ?_ (by assumption) ?_
    rotate_left
    · (intro w' hSw; (try dsimp only at hSw); go_simp; try with_reducible rfl)
    try simp only [Act.put, List.setIfInBounds_toArray, List.set_cons_zero, List.set_cons_succ]
    refine tkLoad (i := 9) 24 (.tmp 1) g (0) [.int .i64 n, .slice A M.length c] _ rfl rfl (by kernel_rfl) (by kernel_rfl) (by kernel_rfl) (fun _ _ _ h => h) (by rfl) rfl rfl (fun w hw => hw.2.2) Try.underlying24 rfl infoGraph (by assumption) ?_
    try simp only [Act.put, List.setIfInBounds_toArray, List.set_cons_zero, List.set_cons_succ]
    refine tkLoad (i := 11) 24 (.tmp 1) g (0) [.int .i64 n, .slice A M.length c] _ rfl rfl (by kernel_rfl) (by kernel_rfl) (by kernel_rfl) (fun _ _ _ h => h) (by rfl) rfl rfl (fun w hw => hw.2.2) Try.underlying24 rfl infoGraph (by assumption) ?_
    try simp only [Act.put, List.setIfInBounds_toArray, List.set_cons_zero, List.set_cons_succ]
    refine wpAnyH_ready (rs := [10]) (by kernel_rfl) (by simp) ?_
    refine AllReadyH.cons rfl (fun K hK => ?_) AllReadyH.nil
    go_simp
    refine (ins_any n M A c _ (by have := HL.out; omega) (HA.out.kept0 K0.out)).mono ?_
    rintro x v5 ⟨B1, d1, rfl, hr, hk⟩
    have R1 := Lib.hid hr
    replace HX := Lib.hid (HX.out.kept hk (by simp))
    replace K0 := Lib.hid (K0.out.trans hk)
    clear hk hr
    go_wp2_with fail
    refine hK.out _ _ ?_ (fun hHeld => ?_)
    · exact ⟨HX.out.cell 0, HX.out.cell 1, HX.out.cell2⟩
    clear hK K
    try simp only [Act.put, List.setIfInBounds_toArray, List.set_cons_zero, List.set_cons_succ]
    refine wpAnyH_ready (rs := [12]) (by kernel_rfl) (by simp) ?_
    refine AllReadyH.cons rfl (fun K hK => ?_) AllReadyH.nil
    go_simp
    refine (refIns_any n M A c _ (by have := HL.out; omega) (HA.out.kept0 K0.out)).mono ?_
    rintro x v6 ⟨B2, d2, rfl, hr, hk⟩
    replace R1 := Lib.hid (R1.out.kept0 hk)
    have R2 := Lib.hid hr
    replace HX := Lib.hid (HX.out.kept hk (by simp))
    replace K0 := Lib.hid (K0.out.trans hk)
    clear hk hr
    go_wp2_with fail
    refine hK.out _ _ ?_ (fun hHeld => ?_)
    · exact ⟨HX.out.cell 0, HX.out.cell 1, HX.out.cell2⟩
    clear hK K
    try simp only [Act.put, List.setIfInBounds_toArray, List.set_cons_zero, List.set_cons_succ]
    refine wpAnyH_ready (rs := [13]) (by kernel_rfl) (by simp) ?_
    refine AllReadyH.cons rfl (fun K hK => ?_) AllReadyH.nil
    go_simp
    refine (sameInts_any (countP selI n M) (countP selI n M) B1 B2 d1 d2 _ (by have := @countP_length selI n M; unfold maxLen; omega) (by have := @countP_length selI n M; unfold maxLen; omega) R1.out R2.out).mono ?_
    rintro x v7 ⟨rfl, hk⟩
    rw [isame]
    replace R1 := Lib.hid (R1.out.kept0 hk)
    replace R2 := Lib.hid (R2.out.kept0 hk)
    replace HX := Lib.hid (HX.out.kept hk (by simp))
    replace K0 := Lib.hid (K0.out.trans hk)
    clear hk 
    go_wp2_with fail
    refine hK.out _ _ ?_ (fun hHeld => ?_)
    · exact ⟨HX.out.cell 0, HX.out.cell 1, HX.out.cell2⟩
    clear hK K
    try simp only [Act.put, List.setIfInBounds_toArray, List.set_cons_zero, List.set_cons_succ]
    clear R1 R2
    refine tkYes (i := 14) (v := .bool true) rfl rfl (by kernel_rfl) (by kernel_rfl) (by kernel_rfl) (fun _ _ _ h => h) (by rfl) ?_ (by assumption) ?_
    skip
    · (intro w' hSw; (try dsimp only at hSw); go_simp; try (simp; done))
    try simp only [Act.put, List.setIfInBounds_toArray, List.set_cons_zero, List.set_cons_succ]
    refine tkYes (i := 15) (v := ?_) rfl rfl (by kernel_rfl) (by kernel_rfl) (by kernel_rfl) (fun _ _ _ h => h) (by rfl) ?_ (by assumption) ?_
    rotate_left
    · (intro w' hSw; (try dsimp only at hSw); go_simp; try with_reducible rfl)
    try simp only [Act.put, List.setIfInBounds_toArray, List.set_cons_zero, List.set_cons_succ]
    refine tkLoad (i := 16) 24 (.tmp 1) g (0) [.int .i64 n, .slice A M.length c] _ rfl rfl (by kernel_rfl) (by kernel_rfl) (by kernel_rfl) (fun _ _ _ h => h) (by rfl) rfl rfl (fun w hw => hw.2.2) Try.underlying24 rfl infoGraph (by assumption) ?_
    try simp only [Act.put, List.setIfInBounds_toArray, List.set_cons_zero, List.set_cons_succ]
    refine tkLoad (i := 19) 24 (.tmp 1) g (0) [.int .i64 n, .slice A M.length c] _ rfl rfl (by kernel_rfl) (by kernel_rfl) (by kernel_rfl) (fun _ _ _ h => h) (by rfl) rfl rfl (fun w hw => hw.2.2) Try.underlying24 rfl infoGraph (by assumption) ?_
    try simp only [Act.put, List.setIfInBounds_toArray, List.set_cons_zero, List.set_cons_succ]
    refine wpAnyH_ready (rs := [17]) (by kernel_rfl) (by simp) ?_
    refine AllReadyH.cons rfl (fun K hK => ?_) AllReadyH.nil
    go_simp
    refine (topT n M A c _ (by have := HL.out; omega) (HA.out.kept0 K0.out) HW.out).mono ?_
    rintro x v8 ⟨vr, rfl, ho, hk⟩
    obtain ⟨B1, d1, rfl⟩ := own_n ho
    have R1 := Lib.hid (Reads.of_own ho)
    replace HX := Lib.hid (HX.out.kept hk (by simp))
    replace K0 := Lib.hid (K0.out.trans hk)
    clear hk ho
    go_wp2_with fail
    refine hK.out _ _ ?_ (fun hHeld => ?_)
    · exact ⟨HX.out.cell 0, HX.out.cell 1, HX.out.cell2⟩
    clear hK K
    try simp only [Act.put, List.setIfInBounds_toArray, List.set_cons_zero, List.set_cons_succ]
    refine wpAnyH_ready (rs := [18]) (by kernel_rfl) (by simp) ?_
    refine AllReadyH.cons rfl (fun K hK => ?_) AllReadyH.nil
    go_simp
    refine (outs_any n (canonP (turnL M)) B1 d1 _ (by have := HTL.out; omega) R1.out).mono ?_
    rintro x v9 ⟨B2, d2, rfl, hr, hk⟩
    replace R1 := Lib.hid (R1.out.kept0 hk)
    have R2 := Lib.hid hr
    replace HX := Lib.hid (HX.out.kept hk (by simp))
    replace K0 := Lib.hid (K0.out.trans hk)
    clear hk hr
    go_wp2_with fail
    refine hK.out _ _ ?_ (fun hHeld => ?_)
    · exact ⟨HX.out.cell 0, HX.out.cell 1, HX.out.cell2⟩
    clear hK K
    try simp only [Act.put, List.setIfInBounds_toArray, List.set_cons_zero, List.set_cons_succ]
    refine wpAnyH_ready (rs := [20]) (by kernel_rfl) (by simp) ?_
    refine AllReadyH.cons rfl (fun K hK => ?_) AllReadyH.nil
    go_simp
    refine (refCanon_any n M A c _ (by have := HL.out; omega) (HA.out.kept0 K0.out) HW.out).mono ?_
    rintro x v10 ⟨vr, rfl, ho, hk⟩
    obtain ⟨B3, d3, rfl⟩ := own_n ho
    replace R1 := Lib.hid (R1.out.kept0 hk)
    replace R2 := Lib.hid (R2.out.kept0 hk)
    have R3 := Lib.hid (Reads.of_own ho)
    replace HX := Lib.hid (HX.out.kept hk (by simp))
    replace K0 := Lib.hid (K0.out.trans hk)
    clear hk ho
    go_wp2_with fail
    refine hK.out _ _ ?_ (fun hHeld => ?_)
    · exact ⟨HX.out.cell 0, HX.out.cell 1, HX.out.cell2⟩
    clear hK K
    try simp only [Act.put, List.setIfInBounds_toArray, List.set_cons_zero, List.set_cons_succ]
    refine wpAnyH_ready (rs := [21]) (by kernel_rfl) (by simp) ?_
    refine AllReadyH.cons rfl (fun K hK => ?_) AllReadyH.nil
    go_simp
    refine (ins_any n (canonP M) B3 d3 _ (by have := HCL.out; omega) R3.out).mono ?_
    rintro x v11 ⟨B4, d4, rfl, hr, hk⟩
    replace R1 := Lib.hid (R1.out.kept0 hk)
    replace R2 := Lib.hid (R2.out.kept0 hk)
    replace R3 := Lib.hid (R3.out.kept0 hk)
    have R4 := Lib.hid hr
    replace HX := Lib.hid (HX.out.kept hk (by simp))
    replace K0 := Lib.hid (K0.out.trans hk)
    clear hk hr
    go_wp2_with fail
    refine hK.out _ _ ?_ (fun hHeld => ?_)
    · exact ⟨HX.out.cell 0, HX.out.cell 1, HX.out.cell2⟩
    clear hK K
    try simp only [Act.put, List.setIfInBounds_toArray, List.set_cons_zero, List.set_cons_succ]
    refine wpAnyH_ready (rs := [22]) (by kernel_rfl) (by simp) ?_
    refine AllReadyH.cons rfl (fun K hK => ?_) AllReadyH.nil
    go_simp
    refine (sameInts_any (countP selO n (canonP (turnL M))) (countP selI n (canonP M)) B2 B4 d2 d4 _ (by have := @countP_length selO n (canonP (turnL M)); unfold maxLen; omega) (by have := @countP_length selI n (canonP M); unfold maxLen; omega) R2.out R4.out).mono ?_
    rintro x v12 ⟨rfl, hk⟩
    rw [EC.out, isame]
    replace R1 := Lib.hid (R1.out.kept0 hk)
    replace R2 := Lib.hid (R2.out.kept0 hk)
    replace R3 := Lib.hid (R3.out.kept0 hk)
    replace R4 := Lib.hid (R4.out.kept0 hk)
    replace HX := Lib.hid (HX.out.kept hk (by simp))
    replace K0 := Lib.hid (K0.out.trans hk)
    clear hk 
    go_wp2_with fail
    refine hK.out _ _ ?_ (fun hHeld => ?_)
    · exact ⟨HX.out.cell 0, HX.out.cell 1, HX.out.cell2⟩
    clear hK K
    try simp only [Act.put, List.setIfInBounds_toArray, List.set_cons_zero, List.set_cons_succ]
    refine tkYes (i := 23) (v := .bool true) rfl rfl (by kernel_rfl) (by kernel_rfl) (by kernel_rfl) (fun _ _ _ h => h) (by rfl) ?_ (by assumption) ?_
    skip
    · (intro w' hSw; (try dsimp only at hSw); go_simp; try (simp; done))
    try simp only [Act.put, List.setIfInBounds_toArray, List.set_cons_zero, List.set_cons_succ]
    refine tkYes (i := 24) (v := ?_) rfl rfl (by kernel_rfl) (by kernel_rfl) (by kernel_rfl) (fun _ _ _ h => h) (by rfl) ?_ (by assumption) ?_
    rotate_left
    · (intro w' hSw; (try dsimp only at hSw); go_simp; try with_reducible rfl)
    try simp only [Act.put, List.setIfInBounds_toArray, List.set_cons_zero, List.set_cons_succ]
    refine wpAnyH_done (by kernel_rfl) ?_ _
    go_wp2_with fail
    go_ret
    exact ⟨rfl, K0.out⟩

set_option maxRecDepth 100000 in
theorem edgesCounts_lifted (os : Os) (started : os.Started) (H : Type) (enc : TypeId × Value → H) :
    ReturnsInHanded {} Try.checked os 5 .any (Rows.edgesCountsSpec.pre6 enc Try.prog Try.f5 Rows.edgesCountsRow.domain false) (Rows.edgesCountsSpec.post enc Try.prog Try.f5 false true false false) := by
  refine returnsInHanded_of_change (C := Try.checked) own started (by kernel_rfl) Try.func5
    (ChangeSpec.witness6 (enc := enc) (C := Try.checked) false ⟨#[], #[.agg #[.int .i64 0, .slice none 0 0]], []⟩ 8 (by kernel_rfl) (by kernel_rfl) (by kernel_rfl) (by kernel_rfl)) ?_
  intro W base args ds gs before hval0 hW hcnd _
  have hval : ∀ (j : Nat) t v, Try.f5.params[j]? = some t → args[j]? = some v → Value.okWide Try.prog W .any base t v := hval0
  have hW' := hW
  obtain ⟨p, q, hA0, hV, rfl, hfz, hnd⟩ := hW
  have hA : DataW.TrodAll enc Try.prog W 0 (fun _ => true) true Try.f5.params.toList args.toList ds p := hA0
  rw [Try.params5] at hA hval
  obtain ⟨v0, vs0, d0, ds0, p0, q0, hargs, rfl, rfl, h0, r0⟩ := trodAll_cons hA
  obtain ⟨rfl, rfl, rfl⟩ := trodAll_nil r0
  obtain rfl : args = #[v0] := by cases args; simp_all
  obtain ⟨rfl, rfl⟩ := trodVars_none hV
  obtain ⟨n, A, c, l, rfl, h1, h2, hAr, hw, hn⟩ := open_graph (hval 0 24 v0 rfl rfl) h0
  refine (edgesCounts_walk n l A c W hAr hw h1 h2).mono fun e W' ⟨he, hk⟩ => ?_
  exact ⟨_, he, post_true rfl Try.underlying4 rfl rfl rfl rfl laidOut (by decide +kernel) hW' hk⟩

theorem edgesCounts_holds : Rows.EdgesCountsSaid :=
  OpenClaim.holds_of_wide 5 Try.f5 rfl rfl rfl rfl rfl rfl rfl ⟨rfl, rfl, rfl, rfl, rfl⟩ rfl rfl rfl rfl rfl (by kernel_rfl) Try.func5 (by kernel_rfl)
    (of_decide_eq_true (by kernel_rfl)) (by unfold Func.isWrapper; first | (rw [if_pos (by decide +kernel)]; kernel_rfl) | (rw [if_neg (by decide +kernel)]; exact ⟨rfl, rfl⟩))
    (fun os started H enc _ => edgesCounts_lifted os started H enc)
end Go.Proofs.Ytfnhfmffkjljnaa
