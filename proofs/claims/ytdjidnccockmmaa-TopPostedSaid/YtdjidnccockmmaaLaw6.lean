/- 'FrameWrites' returns true for every f. Conditions: none. -/
import Derived.Test.YtdjidnccockmmaaLaw5
import Derived.Test.YtdjidnccockmmaaOpen3
namespace Go.Proofs.Ytdjidnccockmmaa
set_option linter.unusedSimpArgs false
set_option linter.unusedVariables false
open Go.ChangeShapes Go.WideShapes Go.ChangeAt Go.RowKit
open Go.RowKit (wrap32 wrap64)
set_option maxHeartbeats 8000000

/-- The bytes that are written of a frame, if any. -/
def encR (F : Fr) : List UInt8 := if F.wrong = 0 then F.bytes else []
theorem frameEncode_any (F : Fr) (A1 A2 A3 : Option Addr) (c1 c2 c3 : Nat) (w : World) (hF : FrIn w F A1 A2 A3) (hs : F.Short) :
    Calls Try.prog 33 #[.agg (frC F A1 A2 A3 c1 c2 c3).toArray] w fun e w' => (∃ A c, e = .returned (.tuple #[.slice A (encR F).length c, .int .i64 F.wrong]) ∧ (encR F).length ≤ c ∧ c ≤ maxLen ∧ Reads w' A ((encR F).map byteV)) ∧ Kept [] w w' := by
  by_cases h : F.wrong = 0
  · refine (frameEncode_ok F A1 A2 A3 c1 c2 c3 w hF h hs).mono ?_
    rintro e w' ⟨v, rfl, ho, hk⟩
    obtain ⟨A, c, rfl, h1, h2, hr, _⟩ := own_form ho
    unfold encR
    rw [if_pos h, h]
    exact ⟨⟨A, c, rfl, h1, h2, hr⟩, hk⟩
  · refine (frameEncode_bad F A1 A2 A3 c1 c2 c3 w hF h).mono ?_
    rintro e w' ⟨rfl, hk⟩
    unfold encR
    rw [if_neg h]
    exact ⟨⟨none, 0, rfl, Nat.le_refl _, Nat.zero_le _, Reads.nil _ _⟩, hk⟩
theorem refEncode_any (F : Fr) (A1 A2 A3 : Option Addr) (c1 c2 c3 : Nat) (w : World) (hF : FrIn w F A1 A2 A3) (hs : F.Short) :
    Calls Try.prog 34 #[.agg (frC F A1 A2 A3 c1 c2 c3).toArray] w fun e w' => (∃ A c, e = .returned (.tuple #[.slice A (encR F).length c, .int .i64 F.wrong]) ∧ (encR F).length ≤ c ∧ c ≤ maxLen ∧ Reads w' A ((encR F).map byteV)) ∧ Kept [] w w' := by
  by_cases h : F.wrong = 0
  · refine (refEncode_ok F A1 A2 A3 c1 c2 c3 w hF h hs).mono ?_
    rintro e w' ⟨v, rfl, ho, hk⟩
    obtain ⟨A, c, rfl, h1, h2, hr, _⟩ := own_form ho
    unfold encR
    rw [if_pos h, h]
    exact ⟨⟨A, c, rfl, h1, h2, hr⟩, hk⟩
  · refine (refEncode_bad F A1 A2 A3 c1 c2 c3 w hF h).mono ?_
    rintro e w' ⟨rfl, hk⟩
    unfold encR
    rw [if_neg h]
    exact ⟨⟨none, 0, rfl, Nat.le_refl _, Nat.zero_le _, Reads.nil _ _⟩, hk⟩
theorem few_short (F : Fr) : (fewF F).items.length ≤ 60 ∧ (fewF F).sums.length ≤ 40 ∧ (fewF F).trips.length ≤ 40 := by
  refine ⟨?_, ?_, ?_⟩
  · show (F.items.take 60).length ≤ 60; simp; omega
  · show (F.sums.take 40).length ≤ 40; simp; omega
  · show (F.trips.take 40).length ≤ 40; simp; omega
theorem encR_len (F : Fr) (h : F.items.length ≤ 60 ∧ F.sums.length ≤ 40 ∧ F.trips.length ≤ 40) : (encR F).length ≤ 4000 := by
  unfold encR
  split
  · rw [bytes_length]; omega
  · simp

set_option maxRecDepth 100000 in
theorem frameWrites_walk (F : Fr) (A1 A2 A3 : Option Addr) (c1 c2 c3 : Nat) (w : World) (hF : FrIn w F A1 A2 A3) (h1 : F.items.length ≤ c1) (h2 : F.sums.length ≤ c2) (h3 : F.trips.length ≤ c3) :
    Calls Try.prog 7 #[.agg (frC F A1 A2 A3 c1 c2 c3).toArray] w fun e w' => e = .returned (.bool true) ∧ Kept [] w w' := by
  have HX := Lib.hid (Blk.new w 60 (frC F A1 A2 A3 c1 c2 c3))
  have K0 := Lib.hid ((Kept.refl [] w).alloc (.cells (frC F A1 A2 A3 c1 c2 c3).toArray 60))
  have HFI := Lib.hid (hF.kept0 K0.out)
  have HF := Lib.hid hF.few
  have SH := Lib.hid (few_short F)
  clear hF
  go_enter Try.func7, Try.ntmps7
  go_wp2_with fail
  refine (few_any F A1 A2 A3 c1 c2 c3 _ HFI.out h1 h2 h3).mono ?_
  rintro x w1 ⟨rfl, hk⟩
  replace K0 := Lib.hid (K0.out.trans hk)
  replace HX := Lib.hid (HX.out.kept hk (by simp))
  clear HFI hk h1 h2 h3
  generalize fewF F = G at HF SH ⊢
  obtain ⟨g, hg⟩ : ∃ g, g = w.heap.size := ⟨_, rfl⟩
  have HGE := Lib.hid (show w.heap.size ≤ g by omega)
  rw [← hg] at HX ⊢
  clear hg
  go_upto_region 2 with (first | (refine wpList_storeBlk rfl 60 (.tmp 1) (.tmp 8) rfl g _ (frC G A1 A2 A3 c1 c2 c3) HX.out rfl rfl rfl infoFrame (by simp [Value.oneCell']) ?_; intro w2 hb2 hk2))
  replace K0 := Lib.hid (K0.out.then hk2 (fun m hm => by simp at hm; subst hm; exact .inr HGE.out))
  replace HX := Lib.hid hb2
  clear hb2 hk2
  have x0 := HX.out.cell 0
  have x1 := HX.out.cell 1
  have x2 := HX.out.cell 2
  have x3 := HX.out.cell 3
  have x4 := HX.out.cell 4
  have x5 := HX.out.cell 5
  have x6 := HX.out.cell 6
  have x7 := HX.out.cell 7
  have x8 := HX.out.cell 8
  have x9 := HX.out.cell 9
  have x10 := HX.out.cell 10
  simp only [List.getElem?_cons_zero, List.getElem?_cons_succ] at x0 x1 x2 x3 x4 x5 x6 x7 x8 x9 x10
  go_wp2_with fail
  refine (frameEncode_any G A1 A2 A3 c1 c2 c3 _ (HF.out.kept0 K0.out) ⟨by have := SH.out.1; omega, by have := SH.out.2.1; omega, by have := SH.out.2.2; omega⟩).mono ?_
  rintro x wa ⟨⟨A4, d1, rfl, ld1, md1, rd1⟩, hk⟩
  replace K0 := Lib.hid (K0.out.trans hk)
  replace HX := Lib.hid (HX.out.kept hk (by simp))
  have R4 := Lib.hid rd1
  clear rd1
  clear x0 x1 x2 x3 x4 x5 x6 x7 x8 x9 x10 hk ld1 md1
  have x0 := HX.out.cell 0
  have x1 := HX.out.cell 1
  have x2 := HX.out.cell 2
  have x3 := HX.out.cell 3
  have x4 := HX.out.cell 4
  have x5 := HX.out.cell 5
  have x6 := HX.out.cell 6
  have x7 := HX.out.cell 7
  have x8 := HX.out.cell 8
  have x9 := HX.out.cell 9
  have x10 := HX.out.cell 10
  simp only [List.getElem?_cons_zero, List.getElem?_cons_succ] at x0 x1 x2 x3 x4 x5 x6 x7 x8 x9 x10
  go_wp2_with fail
  refine (refEncode_any G A1 A2 A3 c1 c2 c3 _ (HF.out.kept0 K0.out) ⟨by have := SH.out.1; omega, by have := SH.out.2.1; omega, by have := SH.out.2.2; omega⟩).mono ?_
  rintro x wa ⟨⟨A5, d2, rfl, ld2, md2, rd2⟩, hk⟩
  replace K0 := Lib.hid (K0.out.trans hk)
  replace HX := Lib.hid (HX.out.kept hk (by simp))
  replace R4 := Lib.hid (R4.out.kept0 hk)
  have R5 := Lib.hid rd2
  clear rd2
  clear x0 x1 x2 x3 x4 x5 x6 x7 x8 x9 x10 hk ld2 md2
  go_upto_region 4 with (fail)
  have sl1 := SH.out.1
  have sl2 := SH.out.2.1
  have sl3 := SH.out.2.2
  refine wp_region_held_drew (S := (fun w' => w'.cell? ⟨g, 0, none⟩ = some (.int .i64 G.kind) ∧ w'.cell? ⟨g, 1, none⟩ = some (.int .i64 G.src) ∧ w'.cell? ⟨g, 2, none⟩ = some (.int .i64 G.dst) ∧ w'.cell? ⟨g, 3, none⟩ = some (.int .i64 G.seq) ∧ w'.cell? ⟨g, 4, none⟩ = some (.int .i64 G.round) ∧ w'.cell? ⟨g, 5, none⟩ = some (.int .i64 G.vn) ∧ w'.cell? ⟨g, 6, none⟩ = some (.slice A1 G.items.length c1) ∧ w'.cell? ⟨g, 7, none⟩ = some (.slice A2 G.sums.length c2) ∧ w'.cell? ⟨g, 8, none⟩ = some (.slice A3 G.trips.length c3) ∧ w'.cell? ⟨g, 9, none⟩ = some (.int .i64 G.n) ∧ w'.cell? ⟨g, 10, none⟩ = some (.bool G.over))) (by kernel_rfl) ?_ (fun hHeld => ?_)
  · exact ⟨HX.out.cell 0, HX.out.cell 1, HX.out.cell 2, HX.out.cell 3, HX.out.cell 4, HX.out.cell 5, HX.out.cell 6, HX.out.cell 7, HX.out.cell 8, HX.out.cell 9, HX.out.cell 10⟩
  replace K0 := Lib.hid (K0.out.drew)
  replace HX := Lib.hid (HX.out.drew)
  replace R4 := Lib.hid R4.out.drew
  replace R5 := Lib.hid R5.out.drew
  refine wpAnyH_ready (rs := [0]) (by kernel_rfl) (by simp) ?_
  refine AllReadyH.cons rfl (fun K hK => ?_) AllReadyH.nil
  go_simp
  refine (live19_any _).mono ?_; rintro x wl ⟨rfl, hk⟩; replace K0 := Lib.hid (K0.out.trans hk); replace HX := Lib.hid (HX.out.kept hk (by simp)); replace R4 := Lib.hid (R4.out.kept0 hk); replace R5 := Lib.hid (R5.out.kept0 hk); clear hk
  go_wp2_with fail
  refine hK.out _ _ ?_ (fun hHeld => ?_)
  · exact ⟨HX.out.cell 0, HX.out.cell 1, HX.out.cell 2, HX.out.cell 3, HX.out.cell 4, HX.out.cell 5, HX.out.cell 6, HX.out.cell 7, HX.out.cell 8, HX.out.cell 9, HX.out.cell 10⟩
  clear hK K
  try simp only [Act.put, List.setIfInBounds_toArray, List.set_cons_zero, List.set_cons_succ]
  refine tkYes (i := 1) (v := ?_) rfl rfl (by kernel_rfl) (by kernel_rfl) (by kernel_rfl) (fun _ _ _ h => h) (by rfl) ?_ (by assumption) ?_
  rotate_left
  · (intro w' hSw; (try dsimp only at hSw); go_simp; try with_reducible rfl)
  try simp only [Act.put, List.setIfInBounds_toArray, List.set_cons_zero, List.set_cons_succ]
  refine tkYes (i := 2) (v := ?_) rfl rfl (by kernel_rfl) (by kernel_rfl) (by kernel_rfl) (fun _ _ _ h => h) (by rfl) ?_ (by assumption) ?_
  rotate_left
  · (intro w' hSw; (try dsimp only at hSw); go_simp; try with_reducible rfl)
  try simp only [Act.put, List.setIfInBounds_toArray, List.set_cons_zero, List.set_cons_succ]
  refine tkYes (i := 4) (v := ?_) rfl rfl (by kernel_rfl) (by kernel_rfl) (by kernel_rfl) (fun _ _ _ h => h) (by rfl) ?_ (by assumption) ?_
  rotate_left
  · (intro w' hSw; (try dsimp only at hSw); go_simp; try with_reducible rfl)
  try simp only [Act.put, List.setIfInBounds_toArray, List.set_cons_zero, List.set_cons_succ]
  refine wpAnyH_ready (rs := [3]) (by kernel_rfl) (by simp) ?_
  refine AllReadyH.cons rfl (fun K hK => ?_) AllReadyH.nil
  go_simp
  refine (frameRight_any G A1 A2 A3 c1 c2 c3 _ (HF.out.kept0 K0.out)).mono ?_; rintro x wm ⟨rfl, hk⟩; replace K0 := Lib.hid (K0.out.trans hk); replace HX := Lib.hid (HX.out.kept hk (by simp)); replace R4 := Lib.hid (R4.out.kept0 hk); replace R5 := Lib.hid (R5.out.kept0 hk); clear hk
  go_wp2_with fail
  refine hK.out _ _ ?_ (fun hHeld => ?_)
  · exact ⟨HX.out.cell 0, HX.out.cell 1, HX.out.cell 2, HX.out.cell 3, HX.out.cell 4, HX.out.cell 5, HX.out.cell 6, HX.out.cell 7, HX.out.cell 8, HX.out.cell 9, HX.out.cell 10⟩
  clear hK K
  try simp only [Act.put, List.setIfInBounds_toArray, List.set_cons_zero, List.set_cons_succ]
  refine wpAnyH_ready (rs := [5]) (by kernel_rfl) (by simp) ?_
  refine AllReadyH.cons rfl (fun K hK => ?_) AllReadyH.nil
  go_simp
  refine (refRight_any G A1 A2 A3 c1 c2 c3 _ (HF.out.kept0 K0.out)).mono ?_; rintro x wn ⟨rfl, hk⟩; replace K0 := Lib.hid (K0.out.trans hk); replace HX := Lib.hid (HX.out.kept hk (by simp)); replace R4 := Lib.hid (R4.out.kept0 hk); replace R5 := Lib.hid (R5.out.kept0 hk); clear hk
  go_wp2_with fail
  refine hK.out _ _ ?_ (fun hHeld => ?_)
  · exact ⟨HX.out.cell 0, HX.out.cell 1, HX.out.cell 2, HX.out.cell 3, HX.out.cell 4, HX.out.cell 5, HX.out.cell 6, HX.out.cell 7, HX.out.cell 8, HX.out.cell 9, HX.out.cell 10⟩
  clear hK K
  try simp only [Act.put, List.setIfInBounds_toArray, List.set_cons_zero, List.set_cons_succ]
  refine tkYes (i := 6) (v := .bool true) rfl rfl (by kernel_rfl) (by kernel_rfl) (by kernel_rfl) (fun _ _ _ h => h) (by rfl) ?_ (by assumption) ?_
  skip
  · (intro w' hSw; (try dsimp only at hSw); go_simp; try (simp; done))
  try simp only [Act.put, List.setIfInBounds_toArray, List.set_cons_zero, List.set_cons_succ]
  refine tkYes (i := 7) (v := ?_) rfl rfl (by kernel_rfl) (by kernel_rfl) (by kernel_rfl) (fun _ _ _ h => h) (by rfl) ?_ (by assumption) ?_
  rotate_left
  · (intro w' hSw; (try dsimp only at hSw); go_simp; try with_reducible rfl)
  try simp only [Act.put, List.setIfInBounds_toArray, List.set_cons_zero, List.set_cons_succ]
  refine tkYes (i := 8) (v := ?_) rfl rfl (by kernel_rfl) (by kernel_rfl) (by kernel_rfl) (fun _ _ _ h => h) (by rfl) ?_ (by assumption) ?_
  rotate_left
  · (intro w' hSw; (try dsimp only at hSw); go_simp; try with_reducible rfl)
  try simp only [Act.put, List.setIfInBounds_toArray, List.set_cons_zero, List.set_cons_succ]
  refine tkYes (i := 9) (v := ?_) rfl rfl (by kernel_rfl) (by kernel_rfl) (by kernel_rfl) (fun _ _ _ h => h) (by rfl) ?_ (by assumption) ?_
  rotate_left
  · (intro w' hSw; (try dsimp only at hSw); go_simp; try with_reducible rfl)
  try simp only [Act.put, List.setIfInBounds_toArray, List.set_cons_zero, List.set_cons_succ]
  refine tkYes (i := 10) (v := ?_) rfl rfl (by kernel_rfl) (by kernel_rfl) (by kernel_rfl) (fun _ _ _ h => h) (by rfl) ?_ (by assumption) ?_
  rotate_left
  · (intro w' hSw; (try dsimp only at hSw); go_simp; try with_reducible rfl)
  try simp only [Act.put, List.setIfInBounds_toArray, List.set_cons_zero, List.set_cons_succ]
  refine wpAnyH_ready (rs := [11]) (by kernel_rfl) (by simp) ?_
  refine AllReadyH.cons rfl (fun K hK => ?_) AllReadyH.nil
  go_simp
  refine (sameBytes_n (encR G) (encR G) _ _ A4 A5 d1 d2 _ rfl rfl R4.out R5.out (Nat.le_trans (encR_len G SH.out) (by unfold maxLen; omega)) (Nat.le_trans (encR_len G SH.out) (by unfold maxLen; omega))).mono ?_; rintro x wq ⟨rfl, nq, rfl⟩; rw [show decide (encR G = encR G) = true from decide_eq_true rfl]; replace K0 := Lib.hid (K0.out.drewN nq); replace HX := Lib.hid (HX.out.drewN nq)
  go_wp2_with fail
  refine hK.out _ _ ?_ (fun hHeld => ?_)
  · exact ⟨HX.out.cell 0, HX.out.cell 1, HX.out.cell 2, HX.out.cell 3, HX.out.cell 4, HX.out.cell 5, HX.out.cell 6, HX.out.cell 7, HX.out.cell 8, HX.out.cell 9, HX.out.cell 10⟩
  clear hK K
  try simp only [Act.put, List.setIfInBounds_toArray, List.set_cons_zero, List.set_cons_succ]
  refine tkYes (i := 12) (v := ?_) rfl rfl (by kernel_rfl) (by kernel_rfl) (by kernel_rfl) (fun _ _ _ h => h) (by rfl) ?_ (by assumption) ?_
  rotate_left
  · (intro w' hSw; (try dsimp only at hSw); go_simp; try with_reducible rfl)
  try simp only [Act.put, List.setIfInBounds_toArray, List.set_cons_zero, List.set_cons_succ]
  refine tkYes (i := 13) (v := ?_) rfl rfl (by kernel_rfl) (by kernel_rfl) (by kernel_rfl) (fun _ _ _ h => h) (by rfl) ?_ (by assumption) ?_
  rotate_left
  · (intro w' hSw; (try dsimp only at hSw); go_simp; try with_reducible rfl)
  try simp only [Act.put, List.setIfInBounds_toArray, List.set_cons_zero, List.set_cons_succ]
  refine tkYes (i := 14) (v := ?_) rfl rfl (by kernel_rfl) (by kernel_rfl) (by kernel_rfl) (fun _ _ _ h => h) (by rfl) ?_ (by assumption) ?_
  rotate_left
  · (intro w' hSw; (try dsimp only at hSw); go_simp; try with_reducible rfl)
  try simp only [Act.put, List.setIfInBounds_toArray, List.set_cons_zero, List.set_cons_succ]
  refine tkYes (i := 15) (v := ?_) rfl rfl (by kernel_rfl) (by kernel_rfl) (by kernel_rfl) (fun _ _ _ h => h) (by rfl) ?_ (by assumption) ?_
  rotate_left
  · (intro w' hSw; (try dsimp only at hSw); go_simp; try with_reducible rfl)
  try simp only [Act.put, List.setIfInBounds_toArray, List.set_cons_zero, List.set_cons_succ]
  refine tkYes (i := 16) (v := .bool true) rfl rfl (by kernel_rfl) (by kernel_rfl) (by kernel_rfl) (fun _ _ _ h => h) (by rfl) ?_ (by assumption) ?_
  skip
  · (intro w' hSw; (try dsimp only at hSw); go_simp; try (simp; done))
  try simp only [Act.put, List.setIfInBounds_toArray, List.set_cons_zero, List.set_cons_succ]
  refine tkYes (i := 17) (v := ?_) rfl rfl (by kernel_rfl) (by kernel_rfl) (by kernel_rfl) (fun _ _ _ h => h) (by rfl) ?_ (by assumption) ?_
  rotate_left
  · (intro w' hSw; (try dsimp only at hSw); go_simp; try with_reducible rfl)
  try simp only [Act.put, List.setIfInBounds_toArray, List.set_cons_zero, List.set_cons_succ]
  refine tkYes (i := 18) (v := ?_) rfl rfl (by kernel_rfl) (by kernel_rfl) (by kernel_rfl) (fun _ _ _ h => h) (by rfl) ?_ (by assumption) ?_
  rotate_left
  · (intro w' hSw; (try dsimp only at hSw); go_simp; try with_reducible rfl)
  try simp only [Act.put, List.setIfInBounds_toArray, List.set_cons_zero, List.set_cons_succ]
  refine tkYes (i := 19) (v := ?_) rfl rfl (by kernel_rfl) (by kernel_rfl) (by kernel_rfl) (fun _ _ _ h => h) (by rfl) ?_ (by assumption) ?_
  rotate_left
  · (intro w' hSw; (try dsimp only at hSw); go_simp; try with_reducible rfl)
  try simp only [Act.put, List.setIfInBounds_toArray, List.set_cons_zero, List.set_cons_succ]
  refine tkYes (i := 21) (v := ?_) rfl rfl (by kernel_rfl) (by kernel_rfl) (by kernel_rfl) (fun _ _ _ h => h) (by rfl) ?_ (by assumption) ?_
  rotate_left
  · (intro w' hSw; (try dsimp only at hSw); go_simp; try with_reducible rfl)
  try simp only [Act.put, List.setIfInBounds_toArray, List.set_cons_zero, List.set_cons_succ]
  refine tkYes (i := 22) (v := ?_) rfl rfl (by kernel_rfl) (by kernel_rfl) (by kernel_rfl) (fun _ _ _ h => h) (by rfl) ?_ (by assumption) ?_
  rotate_left
  · (intro w' hSw; (try dsimp only at hSw); go_simp; try with_reducible rfl)
  try simp only [Act.put, List.setIfInBounds_toArray, List.set_cons_zero, List.set_cons_succ]
  refine tkYes (i := 23) (v := ?_) rfl rfl (by kernel_rfl) (by kernel_rfl) (by kernel_rfl) (fun _ _ _ h => h) (by rfl) ?_ (by assumption) ?_
  rotate_left
  · (intro w' hSw; (try dsimp only at hSw); go_simp; try with_reducible rfl)
  try simp only [Act.put, List.setIfInBounds_toArray, List.set_cons_zero, List.set_cons_succ]
  refine tkYes (i := 24) (v := ?_) rfl rfl (by kernel_rfl) (by kernel_rfl) (by kernel_rfl) (fun _ _ _ h => h) (by rfl) ?_ (by assumption) ?_
  rotate_left
  · (intro w' hSw; (try dsimp only at hSw); go_simp; try with_reducible rfl)
  try simp only [Act.put, List.setIfInBounds_toArray, List.set_cons_zero, List.set_cons_succ]
  refine tkYes (i := 25) (v := ?_) rfl rfl (by kernel_rfl) (by kernel_rfl) (by kernel_rfl) (fun _ _ _ h => h) (by rfl) ?_ (by assumption) ?_
  rotate_left
  · (intro w' hSw; (try dsimp only at hSw); go_simp; try with_reducible rfl)
  try simp only [Act.put, List.setIfInBounds_toArray, List.set_cons_zero, List.set_cons_succ]
  refine tkYes (i := 26) (v := ?_) rfl rfl (by kernel_rfl) (by kernel_rfl) (by kernel_rfl) (fun _ _ _ h => h) (by rfl) ?_ (by assumption) ?_
  rotate_left
  · (intro w' hSw; (try dsimp only at hSw); go_simp; try with_reducible rfl)
  try simp only [Act.put, List.setIfInBounds_toArray, List.set_cons_zero, List.set_cons_succ]
  refine tkYes (i := 27) (v := ?_) rfl rfl (by kernel_rfl) (by kernel_rfl) (by kernel_rfl) (fun _ _ _ h => h) (by rfl) ?_ (by assumption) ?_
  rotate_left
  · (intro w' hSw; (try dsimp only at hSw); go_simp; try with_reducible rfl)
  try simp only [Act.put, List.setIfInBounds_toArray, List.set_cons_zero, List.set_cons_succ]
  refine tkYes (i := 28) (v := ?_) rfl rfl (by kernel_rfl) (by kernel_rfl) (by kernel_rfl) (fun _ _ _ h => h) (by rfl) ?_ (by assumption) ?_
  rotate_left
  · (intro w' hSw; (try dsimp only at hSw); go_simp; try with_reducible rfl)
  try simp only [Act.put, List.setIfInBounds_toArray, List.set_cons_zero, List.set_cons_succ]
  refine tkYes (i := 29) (v := ?_) rfl rfl (by kernel_rfl) (by kernel_rfl) (by kernel_rfl) (fun _ _ _ h => h) (by rfl) ?_ (by assumption) ?_
  rotate_left
  · (intro w' hSw; (try dsimp only at hSw); go_simp; try with_reducible rfl)
  try simp only [Act.put, List.setIfInBounds_toArray, List.set_cons_zero, List.set_cons_succ]
  refine tkYes (i := 30) (v := ?_) rfl rfl (by kernel_rfl) (by kernel_rfl) (by kernel_rfl) (fun _ _ _ h => h) (by rfl) ?_ (by assumption) ?_
  rotate_left
  · (intro w' hSw; (try dsimp only at hSw); go_simp; try with_reducible rfl)
  try simp only [Act.put, List.setIfInBounds_toArray, List.set_cons_zero, List.set_cons_succ]
  refine tkYes (i := 31) (v := ?_) rfl rfl (by kernel_rfl) (by kernel_rfl) (by kernel_rfl) (fun _ _ _ h => h) (by rfl) ?_ (by assumption) ?_
  rotate_left
  · (intro w' hSw; (try dsimp only at hSw); go_simp; try with_reducible rfl)
  try simp only [Act.put, List.setIfInBounds_toArray, List.set_cons_zero, List.set_cons_succ]
  refine tkYes (i := 32) (v := ?_) rfl rfl (by kernel_rfl) (by kernel_rfl) (by kernel_rfl) (fun _ _ _ h => h) (by rfl) ?_ (by assumption) ?_
  rotate_left
  · (intro w' hSw; (try dsimp only at hSw); go_simp; try with_reducible rfl)
  try simp only [Act.put, List.setIfInBounds_toArray, List.set_cons_zero, List.set_cons_succ]
  refine wpAnyH_ready (rs := [20]) (by kernel_rfl) (by simp) ?_
  refine AllReadyH.cons rfl (fun K hK => ?_) AllReadyH.nil
  go_simp
  refine (size_any G A1 A2 A3 c1 c2 c3 _ (by have := SH.out.1; omega) (by have := SH.out.2.1; omega) (by have := SH.out.2.2; omega)).mono ?_; rintro x wr ⟨rfl, hk⟩; replace K0 := Lib.hid (K0.out.trans hk); replace HX := Lib.hid (HX.out.kept hk (by simp)); clear hk
  go_wp2_with fail
  refine hK.out _ _ ?_ (fun hHeld => ?_)
  · exact ⟨HX.out.cell 0, HX.out.cell 1, HX.out.cell 2, HX.out.cell 3, HX.out.cell 4, HX.out.cell 5, HX.out.cell 6, HX.out.cell 7, HX.out.cell 8, HX.out.cell 9, HX.out.cell 10⟩
  clear hK K
  try simp only [Act.put, List.setIfInBounds_toArray, List.set_cons_zero, List.set_cons_succ]
  refine tkYes (i := 33) (v := .bool true) rfl rfl (by kernel_rfl) (by kernel_rfl) (by kernel_rfl) (fun _ _ _ h => h) (by rfl) ?_ (by assumption) ?_
  skip
  · (intro w' hSw; (try dsimp only at hSw); go_simp; rw [IntWalk.i64_in ((G.items.length : Int) + (G.sums.length : Int)) (by omega), IntWalk.i64_in _ (by omega)])
  try simp only [Act.put, List.setIfInBounds_toArray, List.set_cons_zero, List.set_cons_succ]
  refine tkYes (i := 34) (v := ?_) rfl rfl (by kernel_rfl) (by kernel_rfl) (by kernel_rfl) (fun _ _ _ h => h) (by rfl) ?_ (by assumption) ?_
  rotate_left
  · (intro w' hSw; (try dsimp only at hSw); go_simp; try with_reducible rfl)
  try simp only [Act.put, List.setIfInBounds_toArray, List.set_cons_zero, List.set_cons_succ]
  refine tkYes (i := 35) (v := ?_) rfl rfl (by kernel_rfl) (by kernel_rfl) (by kernel_rfl) (fun _ _ _ h => h) (by rfl) ?_ (by assumption) ?_
  rotate_left
  · (intro w' hSw; (try dsimp only at hSw); go_simp; try with_reducible rfl)
  try simp only [Act.put, List.setIfInBounds_toArray, List.set_cons_zero, List.set_cons_succ]
  refine tkYes (i := 36) (v := ?_) rfl rfl (by kernel_rfl) (by kernel_rfl) (by kernel_rfl) (fun _ _ _ h => h) (by rfl) ?_ (by assumption) ?_
  rotate_left
  · (intro w' hSw; (try dsimp only at hSw); go_simp; try with_reducible rfl)
  try simp only [Act.put, List.setIfInBounds_toArray, List.set_cons_zero, List.set_cons_succ]
  refine tkYes (i := 37) (v := ?_) rfl rfl (by kernel_rfl) (by kernel_rfl) (by kernel_rfl) (fun _ _ _ h => h) (by rfl) ?_ (by assumption) ?_
  rotate_left
  · (intro w' hSw; (try dsimp only at hSw); go_simp; try with_reducible rfl)
  try simp only [Act.put, List.setIfInBounds_toArray, List.set_cons_zero, List.set_cons_succ]
  refine wpAnyH_ready (rs := [38]) (by kernel_rfl) (by simp) ?_
  refine AllReadyH.cons rfl (fun K hK => ?_) AllReadyH.nil
  go_simp
  refine (frameSame_any G G A1 A2 A3 A1 A2 A3 c1 c2 c3 c1 c2 c3 _ (HF.out.kept0 K0.out) (HF.out.kept0 K0.out)).mono ?_; rintro x ws ⟨rfl, hk⟩; rw [show decide (G = G) = true from decide_eq_true rfl]; replace K0 := Lib.hid (K0.out.trans hk); replace HX := Lib.hid (HX.out.kept hk (by simp)); clear hk
  go_wp2_with fail
  refine hK.out _ _ ?_ (fun hHeld => ?_)
  · exact ⟨HX.out.cell 0, HX.out.cell 1, HX.out.cell 2, HX.out.cell 3, HX.out.cell 4, HX.out.cell 5, HX.out.cell 6, HX.out.cell 7, HX.out.cell 8, HX.out.cell 9, HX.out.cell 10⟩
  clear hK K
  try simp only [Act.put, List.setIfInBounds_toArray, List.set_cons_zero, List.set_cons_succ]
  refine tkYes (i := 39) (v := ?_) rfl rfl (by kernel_rfl) (by kernel_rfl) (by kernel_rfl) (fun _ _ _ h => h) (by rfl) ?_ (by assumption) ?_
  rotate_left
  · (intro w' hSw; (try dsimp only at hSw); go_simp; try with_reducible rfl)
  try simp only [Act.put, List.setIfInBounds_toArray, List.set_cons_zero, List.set_cons_succ]
  refine tkYes (i := 40) (v := ?_) rfl rfl (by kernel_rfl) (by kernel_rfl) (by kernel_rfl) (fun _ _ _ h => h) (by rfl) ?_ (by assumption) ?_
  rotate_left
  · (intro w' hSw; (try dsimp only at hSw); go_simp; try with_reducible rfl)
  try simp only [Act.put, List.setIfInBounds_toArray, List.set_cons_zero, List.set_cons_succ]
  refine wpAnyH_done (by kernel_rfl) ?_ _
  go_wp2_with fail
  go_ret
  exact ⟨ret_bool (by simp), K0.out⟩

set_option maxRecDepth 100000 in
theorem frameWrites_lifted (os : Os) (started : os.Started) (H : Type) (enc : TypeId × Value → H) :
    ReturnsInHanded {} Try.checked os 7 .any (Rows.frameWritesSpec.pre6 enc Try.prog Try.f7 Rows.frameWritesRow.domain false) (Rows.frameWritesSpec.post enc Try.prog Try.f7 false true false false) := by
  refine returnsInHanded_of_change (C := Try.checked) own started (by kernel_rfl) Try.func7
    (ChangeSpec.witness6 (enc := enc) (C := Try.checked) false ⟨#[], #[.agg #[.int .i64 0, .int .i64 0, .int .i64 0, .int .i64 0, .int .i64 0, .int .i64 0, .slice none 0 0, .slice none 0 0, .slice none 0 0, .int .i64 0, .bool false]], []⟩ 8 (by kernel_rfl) (by kernel_rfl) (by kernel_rfl) (by kernel_rfl)) ?_
  intro W base args ds gs before hval0 hW hcnd _
  have hval : ∀ (j : Nat) t v, Try.f7.params[j]? = some t → args[j]? = some v → Value.okWide Try.prog W .any base t v := hval0
  have hW' := hW
  obtain ⟨p, q, hA0, hV, rfl, hfz, hnd⟩ := hW
  have hA : DataW.TrodAll enc Try.prog W 0 (fun _ => true) true Try.f7.params.toList args.toList ds p := hA0
  rw [Try.params7] at hA hval
  obtain ⟨v0, vs0, d0, ds0, p0, q0, hargs, rfl, rfl, h0, r0⟩ := trodAll_cons hA
  obtain ⟨rfl, rfl, rfl⟩ := trodAll_nil r0
  obtain rfl : args = #[v0] := by cases args; simp_all
  obtain ⟨rfl, rfl⟩ := trodVars_none hV
  obtain ⟨F, A1, A2, A3, c1, c2, c3, rfl, hF, f1, f2, f3, _⟩ := open_frame (hval 0 60 v0 rfl rfl) h0
  refine (frameWrites_walk F A1 A2 A3 c1 c2 c3 W hF f1 f2 f3).mono fun e W' ⟨he, hk⟩ => ?_
  exact ⟨_, he, post_true rfl Try.underlying4 rfl rfl rfl rfl laidOut (by decide +kernel) hW' hk⟩

theorem frameWrites_holds : Rows.FrameWritesSaid :=
  OpenClaim.holds_of_wide 7 Try.f7 rfl rfl rfl rfl rfl rfl rfl ⟨rfl, rfl, rfl, rfl, rfl⟩ rfl rfl rfl rfl rfl (by kernel_rfl) Try.func7 (by kernel_rfl)
    (of_decide_eq_true (by kernel_rfl)) (by unfold Func.isWrapper; first | (rw [if_pos (by decide +kernel)]; kernel_rfl) | (rw [if_neg (by decide +kernel)]; exact ⟨rfl, rfl⟩))
    (fun os started H enc _ => frameWrites_lifted os started H enc)
end Go.Proofs.Ytdjidnccockmmaa
