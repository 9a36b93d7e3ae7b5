/- 'EdgesRight' returns true for every graph and ring. Conditions: none. -/
import Derived.Test.YtfnhfmffkjljnaaLe0
namespace Go.Proofs.Ytfnhfmffkjljnaa
set_option linter.unusedSimpArgs false
set_option linter.unusedVariables false
open Go.ChangeShapes Go.WideShapes Go.ChangeAt Go.RowKit
open Go.RowKit (wrap32 wrap64)
set_option maxHeartbeats 8000000
theorem combP_length (r : Int) (l : List Ed) : (combP r l).2.length ≤ l.length := by
  rw [combP_ref]
  have := insAll_length r l
  split
  · simp
  · split
    · simpa using this
    · simp
theorem combine_any (r : Int) (l : List Ed) (A : Option Addr) (c : Nat) (w : World) (hl : l.length ≤ 1048576) (hA : Reads w A (l.flatMap edV)) (hw : ∀ e ∈ l, In64 e.2.2) :
    Calls Try.prog 14 #[.int .i64 r, .slice A l.length c] w fun e w' => ∃ B d, e = .returned (.tuple #[.slice B (combP r l).2.length d, .int .i64 (combP r l).1]) ∧ Reads w' B ((combP r l).2.flatMap edV) ∧ Kept [] w w' := by
  cases hr : ringIs r
  · refine (combine_bad r A l.length c w hr).mono ?_
    rintro e w' ⟨rfl, rfl⟩
    have h : combP r l = (8, []) := by unfold combP; rw [if_pos hr]
    rw [h]
    exact ⟨none, 0, rfl, Reads.nil _ _, Kept.refl _ _⟩
  · refine (combine_ok r l A c w hr hl hA hw).mono ?_
    rintro e w' ⟨v, rfl, ho, hk⟩
    obtain ⟨B, d, rfl⟩ := own_n ho
    exact ⟨B, d, rfl, Reads.of_own ho, hk⟩
theorem refCombine_any (r : Int) (l : List Ed) (A : Option Addr) (c : Nat) (w : World) (hl : l.length ≤ 1048576) (hA : Reads w A (l.flatMap edV)) (hw : ∀ e ∈ l, In64 e.2.2) :
    Calls Try.prog 15 #[.int .i64 r, .slice A l.length c] w fun e w' => ∃ B d, e = .returned (.tuple #[.slice B (combP r l).2.length d, .int .i64 (combP r l).1]) ∧ Reads w' B ((combP r l).2.flatMap edV) ∧ Kept [] w w' := by
  cases hr : ringIs r
  · refine (refCombine_bad r A l.length c w hr).mono ?_
    rintro e w' ⟨rfl, rfl⟩
    have h : combP r l = (8, []) := by unfold combP; rw [if_pos hr]
    rw [h]
    exact ⟨none, 0, rfl, Reads.nil _ _, Kept.refl _ _⟩
  · refine (refCombine_ok r l A c w hr hl hA hw).mono ?_
    rintro e w' ⟨v, rfl, ho, hk⟩
    obtain ⟨B, d, rfl⟩ := own_n ho
    exact ⟨B, d, rfl, Reads.of_own ho, hk⟩

set_option maxRecDepth 100000 in
theorem edgesRight_walk (n : Int) (l : List Ed) (A : Option Addr) (c : Nat) (r : Int) (w : World) (hA : Reads w A (l.flatMap edV)) (hw : ∀ e ∈ l, In64 e.2.2) (h1 : l.length ≤ c) (h2 : c ≤ maxLen) :
    Calls Try.prog 3 #[.agg #[.int .i64 n, .slice A l.length c], .int .i64 r] w fun e w' => e = .returned (.bool true) ∧ Kept [] w w' := by
  have HX := Lib.hid (Blk.new w 24 (grV n A l.length c))
  have K0 := Lib.hid ((Kept.refl [] w).alloc (.cells (grV n A l.length c).toArray 24))
  have HA0 := Lib.hid hA
  have HA := Lib.hid (Reads.take hA 60)
  have HW := Lib.hid (show ∀ e ∈ l.take 60, In64 e.2.2 from fun e he => hw e (List.mem_of_mem_take he))
  have HL := Lib.hid (show (l.take 60).length ≤ 60 by rw [List.length_take]; omega)
  have h3 := Nat.le_trans h1 h2
  clear hA hw
  by_cases hs : l.length ≤ 200
  · have hn2 : ¬ (200 : Int) < l.length := by omega
    go_enter Try.func3, Try.ntmps3
    go_wp2_with fail
    refine (right_any n l A c _ h3 (HA0.out.kept0 K0.out)).mono ?_
    rintro x w1 ⟨rfl, hk⟩
    replace K0 := Lib.hid (K0.out.trans hk)
    replace HX := Lib.hid (HX.out.kept hk (by simp))
    clear hk
    obtain ⟨g, hg⟩ : ∃ g, g = w.heap.size := ⟨_, rfl⟩
    have HGE := Lib.hid (show w.heap.size ≤ g by omega)
    rw [← hg] at HX ⊢
    clear hg
    have x0 := HX.out.cell 0
    have x1 := HX.out.cell 1
    simp only [List.getElem?_cons_zero, List.getElem?_cons_succ] at x0 x1
    go_wp2_with fail
    refine (refRight_any n l A c _ h3 (HA0.out.kept0 K0.out)).mono ?_
    rintro x w3 ⟨rfl, hk⟩
    replace K0 := Lib.hid (K0.out.trans hk)
    replace HX := Lib.hid (HX.out.kept hk (by simp))
    clear hk x0 x1
    have x0 := HX.out.cell 0
    have x1 := HX.out.cell 1
    simp only [List.getElem?_cons_zero, List.getElem?_cons_succ] at x0 x1
    go_wp2_with fail
    refine (few_any n l A c _ h3 h1 h2).mono ?_
    rintro x w4 ⟨rfl, hk⟩
    replace K0 := Lib.hid (K0.out.trans hk)
    replace HX := Lib.hid (HX.out.kept hk (by simp))
    clear hk h1 h2 h3 x0 x1 HA0
    generalize l.take 60 = M at *
    go_upto_region 7 with (first | (refine wpList_storeBlk rfl 24 (.tmp 2) (.tmp 28) rfl g _ (grV n A M.length c) HX.out rfl rfl rfl infoGraph (by simp [Value.oneCell']) ?_; intro w2 hb2 hk2))
    replace K0 := Lib.hid (K0.out.then hk2 (fun m hm => by simp at hm; subst hm; exact .inr HGE.out))
    replace HX := Lib.hid hb2
    clear hb2 hk2
    have x0 := HX.out.cell 0
    have x1 := HX.out.cell 1
    simp only [List.getElem?_cons_zero, List.getElem?_cons_succ] at x0 x1
    go_wp2_with fail
    refine (combine_any r M A c _ (by have := HL.out; omega) (HA.out.kept0 K0.out) HW.out).mono ?_
    rintro x w5 ⟨B1, d1, rfl, hr, hk⟩
    replace K0 := Lib.hid (K0.out.trans hk)
    replace HX := Lib.hid (HX.out.kept hk (by simp))
    have R1 := Lib.hid hr
    clear hk hr x0 x1
    have x0 := HX.out.cell 0
    have x1 := HX.out.cell 1
    simp only [List.getElem?_cons_zero, List.getElem?_cons_succ] at x0 x1
    go_wp2_with fail
    refine (refCombine_any r M A c _ (by have := HL.out; omega) (HA.out.kept0 K0.out) HW.out).mono ?_
    rintro x w6 ⟨B2, d2, rfl, hr, hk⟩
    replace K0 := Lib.hid (K0.out.trans hk)
    replace HX := Lib.hid (HX.out.kept hk (by simp))
    replace R1 := Lib.hid (R1.out.kept0 hk)
    have R2 := Lib.hid hr
    have HLL := Lib.hid (show (combP r M).2.length ≤ maxLen by have := combP_length r M; have := HL.out; unfold maxLen; omega)
    clear hk hr x0 x1
    generalize (combP r M).2 = L at *
    generalize (combP r M).1 = E at *
    go_upto_region 9 with (fail)
    refine wp_region_held_drew (S := (fun w' => w'.cell? ⟨g, 0, none⟩ = some (.int .i64 n) ∧ w'.cell? ⟨g, 1, none⟩ = some (.slice A M.length c) ∧ w'.rangeAt g 0 [.int .i64 n, .slice A M.length c])) (by kernel_rfl) ?_ (fun hHeld => ?_)
    · exact ⟨HX.out.cell 0, HX.out.cell 1, HX.out.cell2⟩
    replace HX := Lib.hid HX.out.drew
    replace K0 := Lib.hid (K0.out.drew)
    replace R1 := Lib.hid R1.out.drew
    replace R2 := Lib.hid R2.out.drew
    refine wpAnyH_ready (rs := [0]) (by kernel_rfl) (by simp) ?_
    refine AllReadyH.cons rfl (fun K hK => ?_) AllReadyH.nil
    go_simp
    refine (live_any _).mono ?_
    rintro x v1 ⟨rfl, hk⟩
    replace R1 := Lib.hid (R1.out.kept0 hk)
    replace R2 := Lib.hid (R2.out.kept0 hk)
    replace HX := Lib.hid (HX.out.kept hk (by simp))
    replace K0 := Lib.hid (K0.out.trans hk)
    clear hk 
    go_wp2_with fail
    refine hK.out _ _ ?_ (fun hHeld => ?_)
    · exact ⟨HX.out.cell 0, HX.out.cell 1, HX.out.cell2⟩
    clear hK K
    try simp only [Act.put, List.setIfInBounds_toArray, List.set_cons_zero, List.set_cons_succ]
    refine tkYes (i := 1) (v := ?_) rfl rfl (by kernel_rfl) (by kernel_rfl) (by kernel_rfl) (fun _ _ _ h => h) (by rfl) ?_ (by assumption) ?_
    rotate_left
    · (intro w' hSw; (try dsimp only at hSw); go_simp; try with_reducible rfl)
    try simp only [Act.put, List.setIfInBounds_toArray, List.set_cons_zero, List.set_cons_succ]
    refine tkYes (i := 2) (v := ?_) rfl rfl (by kernel_rfl) (by kernel_rfl) (by kernel_rfl) (fun _ _ _ h => h) (by rfl) ?_ (by assumption) ?_
    rotate_left
    · (intro w' hSw; (try dsimp only at hSw); go_simp; try with_reducible rfl)
    try simp only [Act.put, List.setIfInBounds_toArray, List.set_cons_zero, List.set_cons_succ]
    refine tkYes (i := 3) (v := ?_) rfl rfl (by kernel_rfl) (by kernel_rfl) (by kernel_rfl) (fun _ _ _ h => h) (by rfl) ?_ (by assumption) ?_
    rotate_left
    · (intro w' hSw; (try dsimp only at hSw); go_simp; try with_reducible rfl)
    try simp only [Act.put, List.setIfInBounds_toArray, List.set_cons_zero, List.set_cons_succ]
    refine tkYes (i := 5) (v := ?_) rfl rfl (by kernel_rfl) (by kernel_rfl) (by kernel_rfl) (fun _ _ _ h => h) (by rfl) ?_ (by assumption) ?_
    rotate_left
    · (intro w' hSw; (try dsimp only at hSw); go_simp; try with_reducible rfl)
    try simp only [Act.put, List.setIfInBounds_toArray, List.set_cons_zero, List.set_cons_succ]
    refine tkYes (i := 6) (v := ?_) rfl rfl (by kernel_rfl) (by kernel_rfl) (by kernel_rfl) (fun _ _ _ h => h) (by rfl) ?_ (by assumption) ?_
    rotate_left
    · (intro w' hSw; (try dsimp only at hSw); go_simp; try with_reducible rfl)
    try simp only [Act.put, List.setIfInBounds_toArray, List.set_cons_zero, List.set_cons_succ]
    refine wpAnyH_ready (rs := [4]) (by kernel_rfl) (by simp) ?_
    refine AllReadyH.cons rfl (fun K hK => ?_) AllReadyH.nil
    go_simp
    refine (rises_any M A c _ (by have := HL.out; unfold maxLen; omega) (HA.out.kept0 K0.out)).mono ?_
    rintro x v2 ⟨rfl, hk⟩
    replace R1 := Lib.hid (R1.out.kept0 hk)
    replace R2 := Lib.hid (R2.out.kept0 hk)
    replace HX := Lib.hid (HX.out.kept hk (by simp))
    replace K0 := Lib.hid (K0.out.trans hk)
    clear hk 
    go_wp2_with fail
    refine hK.out _ _ ?_ (fun hHeld => ?_)
    · exact ⟨HX.out.cell 0, HX.out.cell 1, HX.out.cell2⟩
    clear hK K
    try simp only [Act.put, List.setIfInBounds_toArray, List.set_cons_zero, List.set_cons_succ]
    refine wpAnyH_ready (rs := [7]) (by kernel_rfl) (by simp) ?_
    refine AllReadyH.cons rfl (fun K hK => ?_) AllReadyH.nil
    go_simp
    refine (refRises_any M A c _ (by have := HL.out; unfold maxLen; omega) (HA.out.kept0 K0.out)).mono ?_
    rintro x v3 ⟨rfl, hk⟩
    replace R1 := Lib.hid (R1.out.kept0 hk)
    replace R2 := Lib.hid (R2.out.kept0 hk)
    replace HX := Lib.hid (HX.out.kept hk (by simp))
    replace K0 := Lib.hid (K0.out.trans hk)
    clear hk 
    go_wp2_with fail
    refine hK.out _ _ ?_ (fun hHeld => ?_)
    · exact ⟨HX.out.cell 0, HX.out.cell 1, HX.out.cell2⟩
    clear hK K
    try simp only [Act.put, List.setIfInBounds_toArray, List.set_cons_zero, List.set_cons_succ]
    refine tkYes (i := 8) (v := .bool true) rfl rfl (by kernel_rfl) (by kernel_rfl) (by kernel_rfl) (fun _ _ _ h => h) (by rfl) ?_ (by assumption) ?_
    skip
    · (intro w' hSw; (try dsimp only at hSw); go_simp; try (simp; done))
    try simp only [Act.put, List.setIfInBounds_toArray, List.set_cons_zero, List.set_cons_succ]
    refine tkYes (i := 9) (v := .bool true) rfl rfl (by kernel_rfl) (by kernel_rfl) (by kernel_rfl) (fun _ _ _ h => h) (by rfl) ?_ (by assumption) ?_
    skip
    · (intro w' hSw; (try dsimp only at hSw); go_simp; try (simp; done))
    try simp only [Act.put, List.setIfInBounds_toArray, List.set_cons_zero, List.set_cons_succ]
    refine tkYes (i := 10) (v := ?_) rfl rfl (by kernel_rfl) (by kernel_rfl) (by kernel_rfl) (fun _ _ _ h => h) (by rfl) ?_ (by assumption) ?_
    rotate_left
    · (intro w' hSw; (try dsimp only at hSw); go_simp; try with_reducible rfl)
    try simp only [Act.put, List.setIfInBounds_toArray, List.set_cons_zero, List.set_cons_succ]
    refine tkYes (i := 11) (v := ?_) rfl rfl (by kernel_rfl) (by kernel_rfl) (by kernel_rfl) (fun _ _ _ h => h) (by rfl) ?_ (by assumption) ?_
    rotate_left
    · (intro w' hSw; (try dsimp only at hSw); go_simp; try with_reducible rfl)
    try simp only [Act.put, List.setIfInBounds_toArray, List.set_cons_zero, List.set_cons_succ]
    refine tkYes (i := 12) (v := ?_) rfl rfl (by kernel_rfl) (by kernel_rfl) (by kernel_rfl) (fun _ _ _ h => h) (by rfl) ?_ (by assumption) ?_
    rotate_left
    · (intro w' hSw; (try dsimp only at hSw); go_simp; try with_reducible rfl)
    try simp only [Act.put, List.setIfInBounds_toArray, List.set_cons_zero, List.set_cons_succ]
    refine wpAnyH_ready (rs := [13]) (by kernel_rfl) (by simp) ?_
    refine AllReadyH.cons rfl (fun K hK => ?_) AllReadyH.nil
    go_simp
    refine (sameE_any L L B1 B2 d1 d2 _ HLL.out HLL.out R1.out R2.out).mono ?_
    rintro x v4 ⟨rfl, hk⟩
    rw [(show decide (L = L) = true from decide_eq_true rfl)]
    replace R1 := Lib.hid (R1.out.kept0 hk)
    replace R2 := Lib.hid (R2.out.kept0 hk)
    replace HX := Lib.hid (HX.out.kept hk (by simp))
    replace K0 := Lib.hid (K0.out.trans hk)
    clear hk 
    go_wp2_with fail
    refine hK.out _ _ ?_ (fun hHeld => ?_)
    · exact ⟨HX.out.cell 0, HX.out.cell 1, HX.out.cell2⟩
    clear hK K
    try simp only [Act.put, List.setIfInBounds_toArray, List.set_cons_zero, List.set_cons_succ]
    refine tkYes (i := 14) (v := .bool true) rfl rfl (by kernel_rfl) (by kernel_rfl) (by kernel_rfl) (fun _ _ _ h => h) (by rfl) ?_ (by assumption) ?_
    skip
    · (intro w' hSw; (try dsimp only at hSw); go_simp; try (simp; done))
    try simp only [Act.put, List.setIfInBounds_toArray, List.set_cons_zero, List.set_cons_succ]
    refine tkYes (i := 15) (v := ?_) rfl rfl (by kernel_rfl) (by kernel_rfl) (by kernel_rfl) (fun _ _ _ h => h) (by rfl) ?_ (by assumption) ?_
    rotate_left
    · (intro w' hSw; (try dsimp only at hSw); go_simp; try with_reducible rfl)
    try simp only [Act.put, List.setIfInBounds_toArray, List.set_cons_zero, List.set_cons_succ]
    refine tkYes (i := 16) (v := ?_) rfl rfl (by kernel_rfl) (by kernel_rfl) (by kernel_rfl) (fun _ _ _ h => h) (by rfl) ?_ (by assumption) ?_
    rotate_left
    · (intro w' hSw; (try dsimp only at hSw); go_simp; try with_reducible rfl)
    try simp only [Act.put, List.setIfInBounds_toArray, List.set_cons_zero, List.set_cons_succ]
    refine tkYes (i := 17) (v := ?_) rfl rfl (by kernel_rfl) (by kernel_rfl) (by kernel_rfl) (fun _ _ _ h => h) (by rfl) ?_ (by assumption) ?_
    rotate_left
    · (intro w' hSw; (try dsimp only at hSw); go_simp; try with_reducible rfl)
    try simp only [Act.put, List.setIfInBounds_toArray, List.set_cons_zero, List.set_cons_succ]
    refine tkYes (i := 18) (v := .bool true) rfl rfl (by kernel_rfl) (by kernel_rfl) (by kernel_rfl) (fun _ _ _ h => h) (by rfl) ?_ (by assumption) ?_
    skip
    · (intro w' hSw; (try dsimp only at hSw); go_simp; try (simp; done))
    try simp only [Act.put, List.setIfInBounds_toArray, List.set_cons_zero, List.set_cons_succ]
    refine tkYes (i := 19) (v := .bool true) rfl rfl (by kernel_rfl) (by kernel_rfl) (by kernel_rfl) (fun _ _ _ h => h) (by rfl) ?_ (by assumption) ?_
    skip
    · (intro w' hSw; (try dsimp only at hSw); go_simp; try (simp; done))
    try simp only [Act.put, List.setIfInBounds_toArray, List.set_cons_zero, List.set_cons_succ]
    refine tkYes (i := 20) (v := ?_) rfl rfl (by kernel_rfl) (by kernel_rfl) (by kernel_rfl) (fun _ _ _ h => h) (by rfl) ?_ (by assumption) ?_
    rotate_left
    · (intro w' hSw; (try dsimp only at hSw); go_simp; try with_reducible rfl)
    try simp only [Act.put, List.setIfInBounds_toArray, List.set_cons_zero, List.set_cons_succ]
    refine wpAnyH_done (by kernel_rfl) ?_ _
    go_wp2_with fail
    go_ret
    exact ⟨rfl, K0.out⟩
  by_cases hb : l.length ≤ 65536
  · have hb1 : (l.length : Int) ≤ 65536 := by omega
    have hb2 : (200 : Int) < l.length := by omega
    go_enter Try.func3, Try.ntmps3
    go_wp2_with fail
    refine (right_any n l A c _ h3 (HA0.out.kept0 K0.out)).mono ?_
    rintro x w1 ⟨rfl, hk⟩
    replace K0 := Lib.hid (K0.out.trans hk)
    replace HX := Lib.hid (HX.out.kept hk (by simp))
    clear hk
    obtain ⟨g, hg⟩ : ∃ g, g = w.heap.size := ⟨_, rfl⟩
    have HGE := Lib.hid (show w.heap.size ≤ g by omega)
    rw [← hg] at HX ⊢
    clear hg
    have x0 := HX.out.cell 0
    have x1 := HX.out.cell 1
    simp only [List.getElem?_cons_zero, List.getElem?_cons_succ] at x0 x1
    go_wp2_with fail
    refine (live_any _).mono ?_
    rintro x w3 ⟨rfl, hk⟩
    replace K0 := Lib.hid (K0.out.trans hk)
    clear hk x0 x1
    go_wp2_with fail
    go_ret
    exact ⟨rfl, K0.out⟩
  · have hb1 : ¬ (l.length : Int) ≤ 65536 := by omega
    go_enter Try.func3, Try.ntmps3
    go_wp2_with fail
    refine (right_any n l A c _ h3 (HA0.out.kept0 K0.out)).mono ?_
    rintro x w1 ⟨rfl, hk⟩
    replace K0 := Lib.hid (K0.out.trans hk)
    replace HX := Lib.hid (HX.out.kept hk (by simp))
    clear hk
    obtain ⟨g, hg⟩ : ∃ g, g = w.heap.size := ⟨_, rfl⟩
    have HGE := Lib.hid (show w.heap.size ≤ g by omega)
    rw [← hg] at HX ⊢
    clear hg
    have x0 := HX.out.cell 0
    have x1 := HX.out.cell 1
    simp only [List.getElem?_cons_zero, List.getElem?_cons_succ] at x0 x1
    go_wp2_with fail
    refine (refRight_any n l A c _ h3 (HA0.out.kept0 K0.out)).mono ?_
    rintro x w3 ⟨rfl, hk⟩
    replace K0 := Lib.hid (K0.out.trans hk)
    replace HX := Lib.hid (HX.out.kept hk (by simp))
    clear hk x0 x1
    have x0 := HX.out.cell 0
    have x1 := HX.out.cell 1
    simp only [List.getElem?_cons_zero, List.getElem?_cons_succ] at x0 x1
    go_wp2_with fail
    refine (few_any n l A c _ h3 h1 h2).mono ?_
    rintro x w4 ⟨rfl, hk⟩
    replace K0 := Lib.hid (K0.out.trans hk)
    replace HX := Lib.hid (HX.out.kept hk (by simp))
    clear hk h1 h2 h3 x0 x1 HA0
    generalize l.take 60 = M at *
    go_upto_region 7 with (first | (refine wpList_storeBlk rfl 24 (.tmp 2) (.tmp 28) rfl g _ (grV n A M.length c) HX.out rfl rfl rfl infoGraph (by simp [Value.oneCell']) ?_; intro w2 hb2 hk2))
    replace K0 := Lib.hid (K0.out.then hk2 (fun m hm => by simp at hm; subst hm; exact .inr HGE.out))
    replace HX := Lib.hid hb2
    clear hb2 hk2
    have x0 := HX.out.cell 0
    have x1 := HX.out.cell 1
    simp only [List.getElem?_cons_zero, List.getElem?_cons_succ] at x0 x1
    go_wp2_with fail
    refine (combine_any r M A c _ (by have := HL.out; omega) (HA.out.kept0 K0.out) HW.out).mono ?_
    rintro x w5 ⟨B1, d1, rfl, hr, hk⟩
    replace K0 := Lib.hid (K0.out.trans hk)
    replace HX := Lib.hid (HX.out.kept hk (by simp))
    have R1 := Lib.hid hr
    clear hk hr x0 x1
    have x0 := HX.out.cell 0
    have x1 := HX.out.cell 1
    simp only [List.getElem?_cons_zero, List.getElem?_cons_succ] at x0 x1
    go_wp2_with fail
    refine (refCombine_any r M A c _ (by have := HL.out; omega) (HA.out.kept0 K0.out) HW.out).mono ?_
    rintro x w6 ⟨B2, d2, rfl, hr, hk⟩
    replace K0 := Lib.hid (K0.out.trans hk)
    replace HX := Lib.hid (HX.out.kept hk (by simp))
    replace R1 := Lib.hid (R1.out.kept0 hk)
    have R2 := Lib.hid hr
    have HLL := Lib.hid (show (combP r M).2.length ≤ maxLen by have := combP_length r M; have := HL.out; unfold maxLen; omega)
    clear hk hr x0 x1
    generalize (combP r M).2 = L at *
    generalize (combP r M).1 = E at *
    go_upto_region 9 with (fail)
    refine wp_region_held_drew (S := (fun w' => w'.cell? ⟨g, 0, none⟩ = some (.int .i64 n) ∧ w'.cell? ⟨g, 1, none⟩ = some (.slice A M.length c) ∧ w'.rangeAt g 0 [.int .i64 n, .slice A M.length c])) (by kernel_rfl) ?_ (fun hHeld => ?_)
    · exact ⟨HX.out.cell 0, HX.out.cell 1, HX.out.cell2⟩
    replace HX := Lib.hid HX.out.drew
    replace K0 := Lib.hid (K0.out.drew)
    replace R1 := Lib.hid R1.out.drew
    replace R2 := Lib.hid R2.out.drew
    refine wpAnyH_ready (rs := [0]) (by kernel_rfl) (by simp) ?_
    refine AllReadyH.cons rfl (fun K hK => ?_) AllReadyH.nil
    go_simp
    refine (live_any _).mono ?_
    rintro x v1 ⟨rfl, hk⟩
    replace R1 := Lib.hid (R1.out.kept0 hk)
    replace R2 := Lib.hid (R2.out.kept0 hk)
    replace HX := Lib.hid (HX.out.kept hk (by simp))
    replace K0 := Lib.hid (K0.out.trans hk)
    clear hk 
    go_wp2_with fail
    refine hK.out _ _ ?_ (fun hHeld => ?_)
    · exact ⟨HX.out.cell 0, HX.out.cell 1, HX.out.cell2⟩
    clear hK K
    try simp only [Act.put, List.setIfInBounds_toArray, List.set_cons_zero, List.set_cons_succ]
    refine tkYes (i := 1) (v := ?_) rfl rfl (by kernel_rfl) (by kernel_rfl) (by kernel_rfl) (fun _ _ _ h => h) (by rfl) ?_ (by assumption) ?_
    rotate_left
    · (intro w' hSw; (try dsimp only at hSw); go_simp; try with_reducible rfl)
    try simp only [Act.put, List.setIfInBounds_toArray, List.set_cons_zero, List.set_cons_succ]
    refine tkYes (i := 2) (v := ?_) rfl rfl (by kernel_rfl) (by kernel_rfl) (by kernel_rfl) (fun _ _ _ h => h) (by rfl) ?_ (by assumption) ?_
    rotate_left
    · (intro w' hSw; (try dsimp only at hSw); go_simp; try with_reducible rfl)
    try simp only [Act.put, List.setIfInBounds_toArray, List.set_cons_zero, List.set_cons_succ]
    refine tkYes (i := 3) (v := ?_) rfl rfl (by kernel_rfl) (by kernel_rfl) (by kernel_rfl) (fun _ _ _ h => h) (by rfl) ?_ (by assumption) ?_
    rotate_left
    · (intro w' hSw; (try dsimp only at hSw); go_simp; try with_reducible rfl)
    try simp only [Act.put, List.setIfInBounds_toArray, List.set_cons_zero, List.set_cons_succ]
    refine tkYes (i := 5) (v := ?_) rfl rfl (by kernel_rfl) (by kernel_rfl) (by kernel_rfl) (fun _ _ _ h => h) (by rfl) ?_ (by assumption) ?_
    rotate_left
    · (intro w' hSw; (try dsimp only at hSw); go_simp; try with_reducible rfl)
    try simp only [Act.put, List.setIfInBounds_toArray, List.set_cons_zero, List.set_cons_succ]
    refine tkYes (i := 6) (v := ?_) rfl rfl (by kernel_rfl) (by kernel_rfl) (by kernel_rfl) (fun _ _ _ h => h) (by rfl) ?_ (by assumption) ?_
    rotate_left
    · (intro w' hSw; (try dsimp only at hSw); go_simp; try with_reducible rfl)
    try simp only [Act.put, List.setIfInBounds_toArray, List.set_cons_zero, List.set_cons_succ]
    refine wpAnyH_ready (rs := [4]) (by kernel_rfl) (by simp) ?_
    refine AllReadyH.cons rfl (fun K hK => ?_) AllReadyH.nil
    go_simp
    refine (rises_any M A c _ (by have := HL.out; unfold maxLen; omega) (HA.out.kept0 K0.out)).mono ?_
    rintro x v2 ⟨rfl, hk⟩
    replace R1 := Lib.hid (R1.out.kept0 hk)
    replace R2 := Lib.hid (R2.out.kept0 hk)
    replace HX := Lib.hid (HX.out.kept hk (by simp))
    replace K0 := Lib.hid (K0.out.trans hk)
    clear hk 
    go_wp2_with fail
    refine hK.out _ _ ?_ (fun hHeld => ?_)
    · exact ⟨HX.out.cell 0, HX.out.cell 1, HX.out.cell2⟩
    clear hK K
    try simp only [Act.put, List.setIfInBounds_toArray, List.set_cons_zero, List.set_cons_succ]
    refine wpAnyH_ready (rs := [7]) (by kernel_rfl) (by simp) ?_
    refine AllReadyH.cons rfl (fun K hK => ?_) AllReadyH.nil
    go_simp
    refine (refRises_any M A c _ (by have := HL.out; unfold maxLen; omega) (HA.out.kept0 K0.out)).mono ?_
    rintro x v3 ⟨rfl, hk⟩
    replace R1 := Lib.hid (R1.out.kept0 hk)
    replace R2 := Lib.hid (R2.out.kept0 hk)
    replace HX := Lib.hid (HX.out.kept hk (by simp))
    replace K0 := Lib.hid (K0.out.trans hk)
    clear hk 
    go_wp2_with fail
    refine hK.out _ _ ?_ (fun hHeld => ?_)
    · exact ⟨HX.out.cell 0, HX.out.cell 1, HX.out.cell2⟩
    clear hK K
    try simp only [Act.put, List.setIfInBounds_toArray, List.set_cons_zero, List.set_cons_succ]
    refine tkYes (i := 8) (v := .bool true) rfl rfl (by kernel_rfl) (by kernel_rfl) (by kernel_rfl) (fun _ _ _ h => h) (by rfl) ?_ (by assumption) ?_
    skip
    · (intro w' hSw; (try dsimp only at hSw); go_simp; try (simp; done))
    try simp only [Act.put, List.setIfInBounds_toArray, List.set_cons_zero, List.set_cons_succ]
    refine tkYes (i := 9) (v := .bool true) rfl rfl (by kernel_rfl) (by kernel_rfl) (by kernel_rfl) (fun _ _ _ h => h) (by rfl) ?_ (by assumption) ?_
    skip
    · (intro w' hSw; (try dsimp only at hSw); go_simp; try (simp; done))
    try simp only [Act.put, List.setIfInBounds_toArray, List.set_cons_zero, List.set_cons_succ]
    refine tkYes (i := 10) (v := ?_) rfl rfl (by kernel_rfl) (by kernel_rfl) (by kernel_rfl) (fun _ _ _ h => h) (by rfl) ?_ (by assumption) ?_
    rotate_left
    · (intro w' hSw; (try dsimp only at hSw); go_simp; try with_reducible rfl)
    try simp only [Act.put, List.setIfInBounds_toArray, List.set_cons_zero, List.set_cons_succ]
    refine tkYes (i := 11) (v := ?_) rfl rfl (by kernel_rfl) (by kernel_rfl) (by kernel_rfl) (fun _ _ _ h => h) (by rfl) ?_ (by assumption) ?_
    rotate_left
    · (intro w' hSw; (try dsimp only at hSw); go_simp; try with_reducible rfl)
    try simp only [Act.put, List.setIfInBounds_toArray, List.set_cons_zero, List.set_cons_succ]
    refine tkYes (i := 12) (v := ?_) rfl rfl (by kernel_rfl) (by kernel_rfl) (by kernel_rfl) (fun _ _ _ h => h) (by rfl) ?_ (by assumption) ?_
    rotate_left
    · (intro w' hSw; (try dsimp only at hSw); go_simp; try with_reducible rfl)
    try simp only [Act.put, List.setIfInBounds_toArray, List.set_cons_zero, List.set_cons_succ]
    refine wpAnyH_ready (rs := [13]) (by kernel_rfl) (by simp) ?_
    refine AllReadyH.cons rfl (fun K hK => ?_) AllReadyH.nil
    go_simp
    refine (sameE_any L L B1 B2 d1 d2 _ HLL.out HLL.out R1.out R2.out).mono ?_
    rintro x v4 ⟨rfl, hk⟩
    rw [(show decide (L = L) = true from decide_eq_true rfl)]
    replace R1 := Lib.hid (R1.out.kept0 hk)
    replace R2 := Lib.hid (R2.out.kept0 hk)
    replace HX := Lib.hid (HX.out.kept hk (by simp))
    replace K0 := Lib.hid (K0.out.trans hk)
    clear hk 
    go_wp2_with fail
    refine hK.out _ _ ?_ (fun hHeld => ?_)
    · exact ⟨HX.out.cell 0, HX.out.cell 1, HX.out.cell2⟩
    clear hK K
    try simp only [Act.put, List.setIfInBounds_toArray, List.set_cons_zero, List.set_cons_succ]
    refine tkYes (i := 14) (v := .bool true) rfl rfl (by kernel_rfl) (by kernel_rfl) (by kernel_rfl) (fun _ _ _ h => h) (by rfl) ?_ (by assumption) ?_
    skip
    · (intro w' hSw; (try dsimp only at hSw); go_simp; try (simp; done))
    try simp only [Act.put, List.setIfInBounds_toArray, List.set_cons_zero, List.set_cons_succ]
    refine tkYes (i := 15) (v := ?_) rfl rfl (by kernel_rfl) (by kernel_rfl) (by kernel_rfl) (fun _ _ _ h => h) (by rfl) ?_ (by assumption) ?_
    rotate_left
    · (intro w' hSw; (try dsimp only at hSw); go_simp; try with_reducible rfl)
    try simp only [Act.put, List.setIfInBounds_toArray, List.set_cons_zero, List.set_cons_succ]
    refine tkYes (i := 16) (v := ?_) rfl rfl (by kernel_rfl) (by kernel_rfl) (by kernel_rfl) (fun _ _ _ h => h) (by rfl) ?_ (by assumption) ?_
    rotate_left
    · (intro w' hSw; (try dsimp only at hSw); go_simp; try with_reducible rfl)
    try simp only [Act.put, List.setIfInBounds_toArray, List.set_cons_zero, List.set_cons_succ]
    refine tkYes (i := 17) (v := ?_) rfl rfl (by kernel_rfl) (by kernel_rfl) (by kernel_rfl) (fun _ _ _ h => h) (by rfl) ?_ (by assumption) ?_
    rotate_left
    · (intro w' hSw; (try dsimp only at hSw); go_simp; try with_reducible rfl)
    try simp only [Act.put, List.setIfInBounds_toArray, List.set_cons_zero, List.set_cons_succ]
    refine tkYes (i := 18) (v := .bool true) rfl rfl (by kernel_rfl) (by kernel_rfl) (by kernel_rfl) (fun _ _ _ h => h) (by rfl) ?_ (by assumption) ?_
    skip
    · (intro w' hSw; (try dsimp only at hSw); go_simp; try (simp; done))
    try simp only [Act.put, List.setIfInBounds_toArray, List.set_cons_zero, List.set_cons_succ]
    refine tkYes (i := 19) (v := .bool true) rfl rfl (by kernel_rfl) (by kernel_rfl) (by kernel_rfl) (fun _ _ _ h => h) (by rfl) ?_ (by assumption) ?_
    skip
    · (intro w' hSw; (try dsimp only at hSw); go_simp; try (simp; done))
    try simp only [Act.put, List.setIfInBounds_toArray, List.set_cons_zero, List.set_cons_succ]
    refine tkYes (i := 20) (v := ?_) rfl rfl (by kernel_rfl) (by kernel_rfl) (by kernel_rfl) (fun _ _ _ h => h) (by rfl) ?_ (by assumption) ?_
    rotate_left
    · (intro w' hSw; (try dsimp only at hSw); go_simp; try with_reducible rfl)
    try simp only [Act.put, List.setIfInBounds_toArray, List.set_cons_zero, List.set_cons_succ]
    refine wpAnyH_done (by kernel_rfl) ?_ _
    go_wp2_with fail
    go_ret
    exact ⟨rfl, K0.out⟩

set_option maxRecDepth 100000 in
theorem edgesRight_lifted (os : Os) (started : os.Started) (H : Type) (enc : TypeId × Value → H) :
    ReturnsInHanded {} Try.checked os 3 .any (Rows.edgesRightSpec.pre6 enc Try.prog Try.f3 Rows.edgesRightRow.domain false) (Rows.edgesRightSpec.post enc Try.prog Try.f3 false true false false) := by
  refine returnsInHanded_of_change (C := Try.checked) own started (by kernel_rfl) Try.func3
    (ChangeSpec.witness6 (enc := enc) (C := Try.checked) false ⟨#[], #[.agg #[.int .i64 0, .slice none 0 0], .int .i64 0], []⟩ 8 (by kernel_rfl) (by kernel_rfl) (by kernel_rfl) (by kernel_rfl)) ?_
  intro W base args ds gs before hval0 hW hcnd _
  have hval : ∀ (j : Nat) t v, Try.f3.params[j]? = some t → args[j]? = some v → Value.okWide Try.prog W .any base t v := hval0
  have hW' := hW
  obtain ⟨p, q, hA0, hV, rfl, hfz, hnd⟩ := hW
  have hA : DataW.TrodAll enc Try.prog W 0 (fun _ => true) true Try.f3.params.toList args.toList ds p := hA0
  rw [Try.params3] at hA hval
  obtain ⟨v0, vs0, d0, ds0, p0, q0, hargs, rfl, rfl, h0, r0⟩ := trodAll_cons hA
  obtain ⟨v1, vs1, d1, ds1, p1, q1, rfl, rfl, rfl, h1, r1⟩ := trodAll_cons r0
  obtain ⟨rfl, rfl, rfl⟩ := trodAll_nil r1
  obtain rfl : args = #[v0, v1] := by cases args; simp_all
  obtain ⟨rfl, rfl⟩ := trodVars_none hV
  obtain ⟨n, A, c, l, rfl, l1, l2, hAr, hw, hn⟩ := open_graph (hval 0 24 v0 rfl rfl) h0
  obtain ⟨r, rfl, rfl, rfl, _⟩ := open_int Try.underlying25 (hval 1 25 v1 rfl rfl) h1
  refine (edgesRight_walk n l A c r W hAr hw l1 l2).mono fun e W' ⟨he, hk⟩ => ?_
  exact ⟨_, he, post_true rfl Try.underlying4 rfl rfl rfl rfl laidOut (by decide +kernel) hW' hk⟩

theorem edgesRight_holds : Rows.EdgesRightSaid :=
  OpenClaim.holds_of_wide 3 Try.f3 rfl rfl rfl rfl rfl rfl rfl ⟨rfl, rfl, rfl, rfl, rfl⟩ rfl rfl rfl rfl rfl (by kernel_rfl) Try.func3 (by kernel_rfl)
    (of_decide_eq_true (by kernel_rfl)) (by unfold Func.isWrapper; first | (rw [if_pos (by decide +kernel)]; kernel_rfl) | (rw [if_neg (by decide +kernel)]; exact ⟨rfl, rfl⟩))
    (fun os started H enc _ => edgesRight_lifted os started H enc)
end Go.Proofs.Ytfnhfmffkjljnaa
