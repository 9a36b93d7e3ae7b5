/- 'TopMatrix' returns true for every graph. Conditions: none. -/
import Derived.Test.YtibjpjpbmkdddaaTg
import Derived.Test.YtibjpjpbmkdddaaLx
namespace Go.Proofs.Ytibjpjpbmkdddaa
set_option linter.unusedSimpArgs false
set_option linter.unusedVariables false
open Go.ChangeShapes Go.WideShapes Go.ChangeAt Go.RowKit
open Go.RowKit (wrap32 wrap64)
set_option maxHeartbeats 8000000

theorem infoTr : Info Try.prog 30 (.agg #[.int .i64 0, .int .i64 0, .int .i64 0]) 3 24 := by unfold Info; kernel_rfl
theorem edge_own {w : World} {b off : Nat} {l : List Ed} (h : Reads w (some ⟨b, off, none⟩) (l.flatMap edV)) {k : Nat} (hk : k < l.length) :
    w.cell? ⟨b, off + k * 3, none⟩ = some (.int .i64 l[k].1) ∧ w.cell? ⟨b, off + k * 3 + 1, none⟩ = some (.int .i64 l[k].2.1) ∧ w.cell? ⟨b, off + k * 3 + 2, none⟩ = some (.int .i64 l[k].2.2) := by
  obtain ⟨b', off', e, _, c⟩ := edge_at h hk
  injection e with e
  injection e with e1 e2
  subst e1 e2
  exact c
theorem canon_one : canonP [(0, 1, 2), (0, 1, 1)] = [(0, 1, 1)] := by
  rw [canonP_E (by intro e he; simp at he; rcases he with rfl | rfl <;> (unfold In64; decide))]
  decide
theorem encMW_mat (N : Int) (m : List Ed) (h0 : 0 ≤ N) (h1 : N ≤ 23) (h2 : m.length ≤ 60) (h3 : ∀ e ∈ m, (0 ≤ e.1 ∧ e.1 < N) ∧ (0 ≤ e.2.1 ∧ e.2.1 < N)) (h4 : risesE m = true) : encMW N N m = 0 := by
  have a1 : m.any (badT N N) = false := by
    rw [List.any_eq_false]
    intro t ht
    have := h3 t ht
    simp [badT]
    omega
  unfold encMW
  rw [if_neg (by omega), if_neg (by omega), if_neg (by rw [a1]; decide), h4, if_neg (by decide)]

set_option maxRecDepth 100000 in
theorem topMatrix_walk (n : Int) (l : List Ed) (A : Option Addr) (c : Nat) (w : World) (hA : Reads w A (l.flatMap edV)) (hl : l.length ≤ maxLen) :
    Calls Try.prog 3 #[.agg #[.int .i64 n, .slice A l.length c]] w fun e w' => e = .returned (.bool true) ∧ Kept [] w w' := by
  have HX := Lib.hid (Blk.new w 24 (grV n A l.length c))
  have K0 := Lib.hid ((Kept.refl [] w).alloc (.cells #[.int .i64 n, .slice A l.length c] 24))
  have HA := Lib.hid hA
  clear hA
  go_enter Try.func3, Try.ntmps3
  go_wp2_with fail
  refine (graph21_any n l A c _ hl (HA.out.kept0 K0.out)).mono ?_
  rintro _ w2 ⟨v2, rfl, ho2, hk2⟩
  obtain ⟨A2, c2, rfl⟩ := own_n ho2
  have HI := Lib.hid (grL_i64 n l)
  have HL2 := Lib.hid (show (grL n l).length ≤ 1048576 from Nat.le_trans (grL_len n l) (by decide))
  replace HX := Lib.hid (HX.out.kept hk2 (by simp))
  replace K0 := Lib.hid (K0.out.trans hk2)
  have HR2 := Lib.hid (Reads.of_own ho2)
  have hm0 := canonP_spec (grL_i64 n l)
  have HML := Lib.hid (Nat.le_trans (canonP_length (grL n l)) (grL_len n l))
  have HMI := Lib.hid (canonP_in (grL_i64 n l))
  have HN0 := Lib.hid (grN_in n)
  have HEN := Lib.hid (encMW_mat (grN n) (canonP (grL n l)) (grN_in n).1 (grN_in n).2 HML.out (fun e he => by have := grL_in n l e (hm0.2.1 e he); exact ⟨this.1, this.2.1⟩) (risesL_risesE hm0.1))
  clear ho2 hk2 hm0
  go_wp2_with fail
  refine (canon_any (grN n) (grL n l) A2 c2 _ HL2.out HR2.out HI.out).mono ?_
  rintro _ w3 ⟨v3, rfl, ho3, hk3⟩
  obtain ⟨A3, c3, rfl⟩ := own_n ho3
  replace HX := Lib.hid (HX.out.kept hk3 (by simp))
  have HO3 := Lib.hid (own_le (base' := w.heap.size) ho3 K0.out.size)
  replace K0 := Lib.hid (K0.out.trans hk3)
  generalize canonP (grL n l) = m at *
  generalize grN n = N at *
  clear ho3 hk3 HR2 HL2 HI
  have HGL := Lib.hid (show w.heap.size ≤ w.heap.size from Nat.le_refl _)
  go_upto_region 2 with (first | (refine wpList_storeBlk rfl 24 (.tmp 1) (.tmp 14) rfl _ _ [.int .i64 N, .slice A3 m.length c3] HX.out rfl rfl rfl infoGraph (by simp [Value.oneCell']) ?_; intro w8 hb8 hk8))
  have f8 : KeptB w.heap.size [24] w3 w8 := (KeptB.refl _ _ w3).step (L := [w.heap.size]) hk8 (fun q hq => by simp at hq; subst hq; exact ⟨HGL.out, _, _, _, HX.out, by simp⟩)
  replace HO3 := Lib.hid (own_keptB HO3.out f8 (by decide))
  replace K0 := Lib.hid (K0.out.thenB f8 (Nat.le_refl _))
  clear HX f8 hk8
  have HX := Lib.hid hb8
  clear hb8
  generalize hgq : w.heap.size = g at HX ⊢
  have HGE := Lib.hid (show w.heap.size = g from hgq)
  clear hgq HGL
  go_wp2_with fail
  go_loopw [3, 4] (fun v i wr => ∃ k : Nat, k ≤ m.length ∧ i = .int .i64 k ∧ Hid (wr.ownsRow w.heap.size 30 3 v k ((m.take k).flatMap edV)) ∧ Hid (wr.ownsRow w.heap.size 28 3 (.slice A3 m.length c3) m.length (m.flatMap edV)) ∧ Hid (Blk wr g 24 [.int .i64 N, .slice A3 m.length c3]) ∧ Hid (Kept [] w wr)) (fun _ i _ => m.length - (intOf i).toNat)
  case atStart => exact ⟨0, Nat.zero_le _, rfl, Lib.hid (World.ownsRow_nil _ _ _ _), HO3, HX, K0⟩
  case round =>
    clear HO3 HX K0
    obtain ⟨k, hk, rfl, HO, HO3, HX, K0⟩ := hrel
    obtain ⟨v, hv⟩ : ∃ v, v = u3 := ⟨_, rfl⟩
    subst hv
    have hml := HML.out
    have x0 := HX.out.cell 0
    have x1 := HX.out.cell 1
    have xl := HX.out.lt
    simp only [List.getElem?_cons_zero, List.getElem?_cons_succ] at x0 x1
    by_cases h1 : k < m.length
    · have HTK := Lib.hid (List.take_succ_eq_append_getElem h1)
      obtain ⟨b, off, rfl, hbl, cw⟩ := edge_at (Reads.of_own HO3.out) h1
      clear cw hbl
      obtain ⟨x, hx⟩ : ∃ x, x = m[k] := ⟨_, rfl⟩
      rw [← hx] at HTK
      obtain ⟨a1, a2, a3⟩ := x
      have HXK := Lib.hid hx.symm
      clear hx
      have HKK := Lib.hid h1
      obtain ⟨A5, c5, rfl⟩ := own_n HO.out
      go_upto_region 6 with (fail)
      refine wp_region_held_drew (S := (fun w' => w'.cell? ⟨g, 1, none⟩ = some (.slice (some ⟨b, off, none⟩) m.length c3) ∧ w'.cell? ⟨b, off + k * 3, none⟩ = some (.int .i64 a1) ∧ w'.cell? ⟨b, off + k * 3 + 1, none⟩ = some (.int .i64 a2) ∧ w'.cell? ⟨b, off + k * 3 + 2, none⟩ = some (.int .i64 a3))) (by kernel_rfl) ?_ (fun hHeld => ?_)
      · exact ⟨HX.out.cell 1, (by have := edge_own (Reads.of_own HO3.out) HKK.out; rw [HXK.out] at this; exact this)⟩
      have kz := (Kept.refl [] wr).drew
      replace HO := Lib.hid (own_kept0 HO.out kz)
      replace HO3 := Lib.hid (own_kept0 HO3.out kz)
      replace HX := Lib.hid (HX.out.kept kz (by simp))
      replace K0 := Lib.hid (K0.out.trans kz)
      clear kz x0 x1 xl
      generalize wr.drew = w3 at *
      refine tkYes (i := 0) (v := ?_) rfl rfl (by kernel_rfl) (by kernel_rfl) (by kernel_rfl) (fun _ _ _ h => h) (by rfl) ?_ (by assumption) ?_
      rotate_left
      · (intro w' hSw; (try dsimp only at hSw); go_simp; try with_reducible rfl)
      try simp only [Act.put, List.setIfInBounds_toArray, List.set_cons_zero, List.set_cons_succ]
      refine tkYes (i := 1) (v := ?_) rfl rfl (by kernel_rfl) (by kernel_rfl) (by kernel_rfl) (fun _ _ _ h => h) (by rfl) ?_ (by assumption) ?_
      rotate_left
      · (intro w' hSw; (try dsimp only at hSw); go_simp; try with_reducible rfl)
      try simp only [Act.put, List.setIfInBounds_toArray, List.set_cons_zero, List.set_cons_succ]
      refine tkYes (i := 2) (v := ?_) rfl rfl (by kernel_rfl) (by kernel_rfl) (by kernel_rfl) (fun _ _ _ h => h) (by rfl) ?_ (by assumption) ?_
      rotate_left
      · (intro w' hSw; (try dsimp only at hSw); go_simp; try with_reducible rfl)
      try simp only [Act.put, List.setIfInBounds_toArray, List.set_cons_zero, List.set_cons_succ]
      refine tkYes (i := 3) (v := ?_) rfl rfl (by kernel_rfl) (by kernel_rfl) (by kernel_rfl) (fun _ _ _ h => h) (by rfl) ?_ (by assumption) ?_
      rotate_left
      · (intro w' hSw; (try dsimp only at hSw); go_simp; try with_reducible rfl)
      try simp only [Act.put, List.setIfInBounds_toArray, List.set_cons_zero, List.set_cons_succ]
      refine tkYes (i := 4) (v := .pointer (some ⟨b, off + k * 3, none⟩)) rfl rfl (by kernel_rfl) (by kernel_rfl) (by kernel_rfl) (fun _ _ _ h => h) (by rfl) ?_ (by assumption) ?_
      skip
      · (intro w' hSw; (try dsimp only at hSw); go_simp; try (simp; done))
      try simp only [Act.put, List.setIfInBounds_toArray, List.set_cons_zero, List.set_cons_succ]
      refine tkYes (i := 5) (v := ?_) rfl rfl (by kernel_rfl) (by kernel_rfl) (by kernel_rfl) (fun _ _ _ h => h) (by rfl) ?_ (by assumption) ?_
      rotate_left
      · (intro w' hSw; (try dsimp only at hSw); go_simp; try with_reducible rfl)
      try simp only [Act.put, List.setIfInBounds_toArray, List.set_cons_zero, List.set_cons_succ]
      refine tkYes (i := 6) (v := ?_) rfl rfl (by kernel_rfl) (by kernel_rfl) (by kernel_rfl) (fun _ _ _ h => h) (by rfl) ?_ (by assumption) ?_
      rotate_left
      · (intro w' hSw; (try dsimp only at hSw); go_simp; try with_reducible rfl)
      try simp only [Act.put, List.setIfInBounds_toArray, List.set_cons_zero, List.set_cons_succ]
      refine tkYes (i := 7) (v := ?_) rfl rfl (by kernel_rfl) (by kernel_rfl) (by kernel_rfl) (fun _ _ _ h => h) (by rfl) ?_ (by assumption) ?_
      rotate_left
      · (intro w' hSw; (try dsimp only at hSw); go_simp; try with_reducible rfl)
      try simp only [Act.put, List.setIfInBounds_toArray, List.set_cons_zero, List.set_cons_succ]
      refine tkYes (i := 8) (v := ?_) rfl rfl (by kernel_rfl) (by kernel_rfl) (by kernel_rfl) (fun _ _ _ h => h) (by rfl) ?_ (by assumption) ?_
      rotate_left
      · (intro w' hSw; (try dsimp only at hSw); go_simp; try with_reducible rfl)
      try simp only [Act.put, List.setIfInBounds_toArray, List.set_cons_zero, List.set_cons_succ]
      refine tkYes (i := 9) (v := ?_) rfl rfl (by kernel_rfl) (by kernel_rfl) (by kernel_rfl) (fun _ _ _ h => h) (by rfl) ?_ (by assumption) ?_
      rotate_left
      · (intro w' hSw; (try dsimp only at hSw); go_simp; try with_reducible rfl)
      try simp only [Act.put, List.setIfInBounds_toArray, List.set_cons_zero, List.set_cons_succ]
      refine tkYes (i := 10) (v := .pointer (some ⟨b, off + k * 3, none⟩)) rfl rfl (by kernel_rfl) (by kernel_rfl) (by kernel_rfl) (fun _ _ _ h => h) (by rfl) ?_ (by assumption) ?_
      skip
      · (intro w' hSw; (try dsimp only at hSw); go_simp; try (simp; done))
      try simp only [Act.put, List.setIfInBounds_toArray, List.set_cons_zero, List.set_cons_succ]
      refine tkYes (i := 11) (v := ?_) rfl rfl (by kernel_rfl) (by kernel_rfl) (by kernel_rfl) (fun _ _ _ h => h) (by rfl) ?_ (by assumption) ?_
      rotate_left
      · (intro w' hSw; (try dsimp only at hSw); go_simp; try with_reducible rfl)
      try simp only [Act.put, List.setIfInBounds_toArray, List.set_cons_zero, List.set_cons_succ]
      refine tkYes (i := 12) (v := ?_) rfl rfl (by kernel_rfl) (by kernel_rfl) (by kernel_rfl) (fun _ _ _ h => h) (by rfl) ?_ (by assumption) ?_
      rotate_left
      · (intro w' hSw; (try dsimp only at hSw); go_simp; try with_reducible rfl)
      try simp only [Act.put, List.setIfInBounds_toArray, List.set_cons_zero, List.set_cons_succ]
      refine tkYes (i := 13) (v := ?_) rfl rfl (by kernel_rfl) (by kernel_rfl) (by kernel_rfl) (fun _ _ _ h => h) (by rfl) ?_ (by assumption) ?_
      rotate_left
      · (intro w' hSw; (try dsimp only at hSw); go_simp; try with_reducible rfl)
      try simp only [Act.put, List.setIfInBounds_toArray, List.set_cons_zero, List.set_cons_succ]
      refine tkYes (i := 14) (v := ?_) rfl rfl (by kernel_rfl) (by kernel_rfl) (by kernel_rfl) (fun _ _ _ h => h) (by rfl) ?_ (by assumption) ?_
      rotate_left
      · (intro w' hSw; (try dsimp only at hSw); go_simp; try with_reducible rfl)
      try simp only [Act.put, List.setIfInBounds_toArray, List.set_cons_zero, List.set_cons_succ]
      refine tkYes (i := 15) (v := ?_) rfl rfl (by kernel_rfl) (by kernel_rfl) (by kernel_rfl) (fun _ _ _ h => h) (by rfl) ?_ (by assumption) ?_
      rotate_left
      · (intro w' hSw; (try dsimp only at hSw); go_simp; try with_reducible rfl)
      try simp only [Act.put, List.setIfInBounds_toArray, List.set_cons_zero, List.set_cons_succ]
      refine tkYes (i := 16) (v := .pointer (some ⟨b, off + k * 3, none⟩)) rfl rfl (by kernel_rfl) (by kernel_rfl) (by kernel_rfl) (fun _ _ _ h => h) (by rfl) ?_ (by assumption) ?_
      skip
      · (intro w' hSw; (try dsimp only at hSw); go_simp; try (simp; done))
      try simp only [Act.put, List.setIfInBounds_toArray, List.set_cons_zero, List.set_cons_succ]
      refine tkYes (i := 17) (v := ?_) rfl rfl (by kernel_rfl) (by kernel_rfl) (by kernel_rfl) (fun _ _ _ h => h) (by rfl) ?_ (by assumption) ?_
      rotate_left
      · (intro w' hSw; (try dsimp only at hSw); go_simp; try with_reducible rfl)
      try simp only [Act.put, List.setIfInBounds_toArray, List.set_cons_zero, List.set_cons_succ]
      refine tkYes (i := 18) (v := ?_) rfl rfl (by kernel_rfl) (by kernel_rfl) (by kernel_rfl) (fun _ _ _ h => h) (by rfl) ?_ (by assumption) ?_
      rotate_left
      · (intro w' hSw; (try dsimp only at hSw); go_simp; try with_reducible rfl)
      try simp only [Act.put, List.setIfInBounds_toArray, List.set_cons_zero, List.set_cons_succ]
      refine tkYes (i := 19) (v := ?_) rfl rfl (by kernel_rfl) (by kernel_rfl) (by kernel_rfl) (fun _ _ _ h => h) (by rfl) ?_ (by assumption) ?_
      rotate_left
      · (intro w' hSw; (try dsimp only at hSw); go_simp; try with_reducible rfl)
      try simp only [Act.put, List.setIfInBounds_toArray, List.set_cons_zero, List.set_cons_succ]
      refine wpAnyH_ready (rs := [20]) (by kernel_rfl) (by simp) ?_
      refine AllReadyH.cons rfl (fun K hK => ?_) AllReadyH.nil
      go_simp
      have kd := Lib.hid ((Kept.refl [] w3).alloc (.cells #[.int .i64 a1, .int .i64 a2, .int .i64 a3] 30))
      have H5 := Lib.hid (Blk.new w3 30 (edV (a1, a2, a3)))
      replace HO := Lib.hid (own_kept0 HO.out kd.out)
      replace HO3 := Lib.hid (own_kept0 HO3.out kd.out)
      replace HX := Lib.hid (HX.out.kept kd.out (by simp))
      replace K0 := Lib.hid (K0.out.trans kd.out)
      clear kd
      have H5 : Hid (Blk (w3.alloc (.cells #[.int .i64 a1, .int .i64 a2, .int .i64 a3] 30)) w3.heap.size 30 (edV (a1, a2, a3))) := H5
      generalize w3.alloc (.cells #[.int .i64 a1, .int .i64 a2, .int .i64 a3] 30) = w4 at *
      generalize w3.heap.size = g5 at H5 ⊢
      refine hK.out _ _ ?_ (fun hHeld => ?_)
      · exact ⟨HX.out.cell 1, (by have := edge_own (Reads.of_own HO3.out) HKK.out; rw [HXK.out] at this; exact this)⟩
      clear hK K
      try simp only [Act.put, List.setIfInBounds_toArray, List.set_cons_zero, List.set_cons_succ]
      refine wpAnyH_ready (rs := [21]) (by kernel_rfl) (by simp) ?_
      refine AllReadyH.cons rfl (fun K hK => ?_) AllReadyH.nil
      have hsz := K0.out.size
      refine step_app _ rfl (.tmp 22) (.tmp 42) _ rfl 30 (.agg #[.int .i64 0, .int .i64 0, .int .i64 0]) 3 24 Try.underlying26 infoTr rfl (by decide) w.heap.size (.slice A5 k c5) _ _ rfl HO.out (some ⟨_, 0, none⟩) 1 1 (edV (a1, a2, a3)) rfl rfl (Reads.of_blk H5.out (fun _ _ h => h)) (by simp [edV, Value.oneCell']) (by omega) (by unfold maxLen; omega) (by omega) ?_
      intro va wa howna hka hba
      obtain ⟨A6, c6, rfl⟩ := own_n howna
      have Fa := Lib.hid ((KeptB.refl w.heap.size [30] w4).app hka HO.out (by decide))
      have HOa := Lib.hid howna
      replace HO3 := Lib.hid (own_keptB HO3.out Fa.out (by decide))
      replace HX := Lib.hid (HX.out.keptB Fa.out (by decide))
      replace K0 := Lib.hid (K0.out.thenB Fa.out (Nat.le_refl _))
      clear howna hka hba HO H5 hsz Fa
      refine hK.out _ _ ?_ (fun hHeld => ?_)
      · exact ⟨HX.out.cell 1, (by have := edge_own (Reads.of_own HO3.out) HKK.out; rw [HXK.out] at this; exact this)⟩
      clear hK K
      try simp only [Act.put, List.setIfInBounds_toArray, List.set_cons_zero, List.set_cons_succ]
      refine tkYes (i := 22) (v := ?_) rfl rfl (by kernel_rfl) (by kernel_rfl) (by kernel_rfl) (fun _ _ _ h => h) (by rfl) ?_ (by assumption) ?_
      rotate_left
      · (intro w' hSw; (try dsimp only at hSw); go_simp; try with_reducible rfl)
      try simp only [Act.put, List.setIfInBounds_toArray, List.set_cons_zero, List.set_cons_succ]
      refine wpAnyH_done (by kernel_rfl) ?_ _
      go_wp2_with fail
      go_roundw
      case rel =>
        refine ⟨k + 1, by omega, by go_num, Lib.hid ?_, HO3, HX, K0⟩
        rw [HTK.out, List.flatMap_append]
        exact HOa.out
      case measure => simp [intOf]; omega
    · obtain rfl : k = m.length := by omega
      rw [List.take_length] at HO
      obtain ⟨A5, c5, rfl⟩ := own_n HO.out
      have HRT := Lib.hid (Reads.of_own HO.out)
      have HMM := Lib.hid (show m.length ≤ maxLen by unfold maxLen; omega)
      have HOK := Lib.hid (okMat_enc HEN.out HMI.out)
      have HLM := Lib.hid (show (matB (N, N, m)).length ≤ 1073741824 from matB_len (by omega))
      have HDM := Lib.hid (mat_full HOK.out)
      clear hml
      go_wp2_with fail
      refine (encodeM_any N N m A5 c5 _ HRT.out HMM.out).mono ?_
      intro z w5 hz
      unfold EncMPost at hz
      rw [if_pos HEN.out] at hz
      obtain ⟨⟨v, rfl, hb2⟩, hk⟩ := hz
      obtain ⟨A2, c2, rfl⟩ := own_n hb2
      have HR := Lib.hid (Reads.of_own hb2)
      replace K0 := Lib.hid (K0.out.trans hk)
      replace HX := Lib.hid (HX.out.kept hk (by simp))
      replace HRT := Lib.hid (HRT.out.kept0 hk)
      clear hk hb2 HOK HEN HO HO3 x0 x1 xl
      generalize matB (N, N, m) = ms at *
      go_wp2_with fail
      refine (decodeM_any ms A2 c2 _ HR.out HLM.out).mono ?_
      intro z w6 hz
      rw [HDM.out] at hz
      obtain ⟨⟨v, rfl, ho⟩, hk⟩ := hz
      obtain ⟨A6, c6, rfl⟩ := own_n ho
      have kd : Kept [] w6 (w6.alloc (.cells #[.int .i64 0, .int .i64 0] 36)) := (Kept.refl [] w6).alloc _
      have HR3 := Lib.hid ((Reads.of_own ho).kept0 kd)
      have HF := Lib.hid (Blk.new w6 36 [.int .i64 0, .int .i64 0])
      replace HX := Lib.hid ((HX.out.kept hk (by simp)).kept kd (by simp))
      replace HRT := Lib.hid ((HRT.out.kept0 hk).kept0 kd)
      replace K0 := Lib.hid ((K0.out.trans hk).trans kd)
      clear hk ho kd HR HLM HDM
      go_upto_region 9 with (fail)
      generalize w6.alloc (.cells #[.int .i64 0, .int .i64 0] 36) = w7 at *
      generalize w6.heap.size = gf at HF ⊢
      have HE2 := Lib.hid (Blk.new w7 28 [.int .i64 0, .int .i64 1, .int .i64 2, .int .i64 0, .int .i64 1, .int .i64 1])
      have kd : Kept [] w7 (w7.alloc (.cells #[.int .i64 0, .int .i64 1, .int .i64 2, .int .i64 0, .int .i64 1, .int .i64 1] 28)) := (Kept.refl [] w7).alloc _
      have KD := Lib.hid kd
      have HRE := Lib.hid (show Reads (w7.alloc (.cells #[.int .i64 0, .int .i64 1, .int .i64 2, .int .i64 0, .int .i64 1, .int .i64 1] 28)) (some ⟨w7.heap.size, 0, none⟩) ([(0, 1, 2), (0, 1, 1)].flatMap edV) from Reads.of_blk HE2.out (fun _ _ h => h))
      clear kd HE2
      go_wp2_with fail
      refine (canon_any 2 [(0, 1, 2), (0, 1, 1)] _ 2 _ (by decide) HRE.out (by intro e he; simp at he; rcases he with rfl | rfl <;> (unfold In64; decide))).mono ?_
      rintro _ w8 ⟨v8, rfl, ho8, hk8⟩
      rw [canon_one] at ho8
      obtain ⟨A8, c8, rfl⟩ := own_n ho8
      have k8 : Kept [] w7 (w8.alloc (.cells #[.int .i64 2, .slice A8 [(0, 1, 1)].length c8] 24)) := (KD.out.trans hk8).alloc _
      replace HX := Lib.hid (HX.out.kept k8 (by simp))
      replace HF := Lib.hid (HF.out.kept k8 (by simp))
      replace HRT := Lib.hid (HRT.out.kept0 k8)
      replace HR3 := Lib.hid (HR3.out.kept0 k8)
      have HG := Lib.hid (Blk.new w8 24 [.int .i64 2, .slice A8 1 c8])
      replace K0 := Lib.hid (K0.out.trans k8)
      clear k8 hk8 ho8 KD HRE
      go_upto_region 10 with (fail)
      simp only [List.length_cons, List.length_nil] at *
      generalize hwq : w8.alloc _ = w9 at *
      clear hwq
      generalize w8.heap.size = gr at HG ⊢
      have x0 := HX.out.cell 0
      have xl := HX.out.lt
      have f0 := HF.out.cell 0
      have f1 := HF.out.cell 1
      have fl := HF.out.lt
      have g1 := HG.out.cell 1
      have gl := HG.out.lt
      simp only [List.getElem?_cons_zero, List.getElem?_cons_succ] at x0 f0 f1 g1
      go_wp2_with fail
      refine (sameT_any m m A5 A6 c5 c6 _ HMM.out HMM.out HRT.out HR3.out).mono ?_
      rintro z w10 ⟨rfl, hk⟩
      rw [show decide (m = m) = true from decide_eq_true rfl]
      replace K0 := Lib.hid (K0.out.trans hk)
      clear hk
      go_wp2_with fail
      go_ret
      exact ⟨rfl, K0.out⟩

set_option maxRecDepth 100000 in
theorem topMatrix_lifted (os : Os) (started : os.Started) (H : Type) (enc : TypeId × Value → H) :
    ReturnsInHanded {} Try.checked os 3 .any (Rows.topMatrixSpec.pre6 enc Try.prog Try.f3 Rows.topMatrixRow.domain false) (Rows.topMatrixSpec.post enc Try.prog Try.f3 false true false false) := by
  refine returnsInHanded_of_change (C := Try.checked) own started (by kernel_rfl) Try.func3
    (ChangeSpec.witness6 (enc := enc) (C := Try.checked) false ⟨#[], #[.agg #[.int .i64 0, .slice none 0 0]], []⟩ 8 (by kernel_rfl) (by kernel_rfl) (by kernel_rfl) (by kernel_rfl)) ?_
  intro W base args ds gs before hval0 hW hcnd _
  have hval : ∀ (j : Nat) t v, Try.f3.params[j]? = some t → args[j]? = some v → Value.okWide Try.prog W .any base t v := hval0
  have hW' := hW
  obtain ⟨p, q, hA0, hV, rfl, hfz, hnd⟩ := hW
  have hA : DataW.TrodAll enc Try.prog W 0 (fun _ => true) true Try.f3.params.toList args.toList ds p := hA0
  rw [Try.params3] at hA hval
  obtain ⟨v0, vs0, d0, ds0, p0, q0, hargs, rfl, rfl, h0, r0⟩ := trodAll_cons hA
  obtain ⟨rfl, rfl, rfl⟩ := trodAll_nil r0
  obtain rfl : args = #[v0] := by cases args; simp_all
  obtain ⟨rfl, rfl⟩ := trodVars_none hV
  obtain ⟨n, A, c, l, rfl, l1, l2, hAr, hv, _⟩ := open_graph (hval 0 24 v0 rfl rfl) h0
  refine (topMatrix_walk n l A c W hAr (Nat.le_trans l1 l2)).mono fun e W' ⟨he, hk⟩ => ?_
  exact ⟨_, he, post_true rfl Try.underlying4 rfl rfl rfl rfl laidOut (by decide +kernel) hW' hk⟩

theorem topMatrix_holds : Rows.TopMatrixSaid :=
  OpenClaim.holds_of_wide 3 Try.f3 rfl rfl rfl rfl rfl rfl rfl ⟨rfl, rfl, rfl, rfl, rfl⟩ rfl rfl rfl rfl rfl (by kernel_rfl) Try.func3 (by kernel_rfl)
    (of_decide_eq_true (by kernel_rfl)) (by unfold Func.isWrapper; first | (rw [if_pos (by decide +kernel)]; kernel_rfl) | (rw [if_neg (by decide +kernel)]; exact ⟨rfl, rfl⟩))
    (fun os started H enc _ => topMatrix_lifted os started H enc)
end Go.Proofs.Ytibjpjpbmkdddaa
