/- 'TopFiles' returns true for every graph. Conditions: none. -/
import Derived.Test.YtibjpjpbmkdddaaTg
import Derived.Test.YtibjpjpbmkdddaaLw
import Derived.Test.YtibjpjpbmkdddaaLz
import Derived.Test.YtibjpjpbmkdddaaE28
namespace Go.Proofs.Ytibjpjpbmkdddaa
set_option linter.unusedSimpArgs false
set_option linter.unusedVariables false
open Go.ChangeShapes Go.WideShapes Go.ChangeAt Go.RowKit
open Go.RowKit (wrap32 wrap64)
set_option maxHeartbeats 8000000
theorem held8 {wz a b : World} {p1 p2 p3 p4 p5 p6 p7 p8 o1 o2 o3 o4 o5 o6 o7 o8 : Nat} {v1 v2 v3 v4 v5 v6 v7 v8 : Value} (h : Kept [] wz a ∧ a.cell? ⟨p1, o1, none⟩ = some v1 ∧ a.cell? ⟨p2, o2, none⟩ = some v2 ∧ a.cell? ⟨p3, o3, none⟩ = some v3 ∧ a.cell? ⟨p4, o4, none⟩ = some v4 ∧ a.cell? ⟨p5, o5, none⟩ = some v5 ∧ a.cell? ⟨p6, o6, none⟩ = some v6 ∧ a.cell? ⟨p7, o7, none⟩ = some v7 ∧ a.cell? ⟨p8, o8, none⟩ = some v8) (k : Kept [] a b) : Kept [] wz b ∧ b.cell? ⟨p1, o1, none⟩ = some v1 ∧ b.cell? ⟨p2, o2, none⟩ = some v2 ∧ b.cell? ⟨p3, o3, none⟩ = some v3 ∧ b.cell? ⟨p4, o4, none⟩ = some v4 ∧ b.cell? ⟨p5, o5, none⟩ = some v5 ∧ b.cell? ⟨p6, o6, none⟩ = some v6 ∧ b.cell? ⟨p7, o7, none⟩ = some v7 ∧ b.cell? ⟨p8, o8, none⟩ = some v8 :=
  ⟨h.1.trans k, k.cell_lt h.2.1, k.cell_lt h.2.2.1, k.cell_lt h.2.2.2.1, k.cell_lt h.2.2.2.2.1, k.cell_lt h.2.2.2.2.2.1, k.cell_lt h.2.2.2.2.2.2.1, k.cell_lt h.2.2.2.2.2.2.2.1, k.cell_lt h.2.2.2.2.2.2.2.2⟩

theorem both_len (l : List Ed) : (bothP l).length ≤ l.length + l.length := by
  unfold bothP
  refine Nat.le_trans (canonP_length _) ?_
  rw [List.length_append]
  have h1 := canonP_length (turnL l)
  have h2 : (turnL l).length = l.length := by rw [turnL_map, List.length_map]
  omega
theorem both_mem {l : List Ed} (h : ∀ e ∈ l, In64 e.2.2) {x : Ed} (hx : x ∈ bothP l) : x ∈ l ∨ turnE x ∈ l := by
  unfold bothP at hx
  have h1 := (canonP_spec (app_in h (canonP_in (turnL_in h)))).2.1 x hx
  rcases List.mem_append.1 h1 with h2 | h2
  · exact .inl h2
  · have h3 := (canonP_spec (turnL_in h)).2.1 x h2
    rw [turnL_map] at h3
    obtain ⟨y, hy, rfl⟩ := List.mem_map.1 h3
    exact .inr hy
theorem files_encW (n : Int) (l : List Ed) : encW (grN n) (bothP (grL n l)) = 0 := by
  have h1 := grN_in n
  have h2 := both_len (grL n l)
  have h3 := grL_len n l
  have hr : rightP (grN n) (bothP (grL n l)) = 0 := right_of ⟨h1.1, by omega⟩ (by omega) (fun e he => by
    rcases both_mem (grL_i64 n l) he with h | h
    · have := grL_in n l e h; omega
    · have := grL_in n l _ h
      simp only [turnE] at this
      omega)
  unfold encW
  rw [if_neg (by rw [hr]; decide), show risesE (bothP (grL n l)) = true from canon_rises (app_in (grL_i64 n l) (canonP_in (turnL_in (grL_i64 n l)))), if_neg (by decide)]
theorem encB_len2 {n : Int} {l : List Ed} (h : encW n l = 0) : (encB n l).length ≤ 1073741824 := by
  obtain ⟨_, h2, _, _⟩ := right_zero (encW_zero h).1
  have := edgesB_length (kindOf l) l
  unfold encB
  rw [rawB_hdr, List.length_append, hdr_length]
  omega

set_option maxRecDepth 100000 in
theorem topFiles_walk (n : Int) (l : List Ed) (A : Option Addr) (c : Nat) (w : World) (hA : Reads w A (l.flatMap edV)) (hl : l.length ≤ maxLen) :
    Calls Try.prog 5 #[.agg #[.int .i64 n, .slice A l.length c]] w fun e w' => e = .returned (.bool true) ∧ Kept [] w w' := by
  have HX := Lib.hid (Blk.new w 24 (grV n A l.length c))
  have K0 := Lib.hid ((Kept.refl [] w).alloc (.cells #[.int .i64 n, .slice A l.length c] 24))
  have HA := Lib.hid hA
  clear hA
  go_enter Try.func5, Try.ntmps5
  go_wp2_with fail
  refine (graph21_any n l A c _ hl (HA.out.kept0 K0.out)).mono ?_
  rintro _ w3 ⟨v2, rfl, ho2, hk2⟩
  obtain ⟨A2, c2, rfl⟩ := own_n ho2
  have HI := Lib.hid (grL_i64 n l)
  have HL2 := Lib.hid (show (grL n l).length ≤ 524288 from Nat.le_trans (grL_len n l) (by decide))
  replace HX := Lib.hid (HX.out.kept hk2 (by simp))
  have HO2 := Lib.hid (own_le (base' := w.heap.size) ho2 K0.out.size)
  replace K0 := Lib.hid (K0.out.trans hk2)
  have HEN := Lib.hid (files_encW n l)
  have HML := Lib.hid (show (bothP (grL n l)).length ≤ 120 by have h2 := both_len (grL n l); have h3 := grL_len n l; omega)
  have HTB := Lib.hid (show canonP (turnL (bothP (grL n l))) = bothP (grL n l) from turn_both (grL_i64 n l))
  have HMI := Lib.hid (bothP_in (grL_i64 n l))
  obtain ⟨M, hM⟩ : ∃ M, M = bothP (grL n l) := ⟨_, rfl⟩
  rw [← hM] at HEN HML HTB HMI
  have HM := Lib.hid hM
  generalize grN n = N at *
  generalize grL n l = L at *
  clear ho2 hk2 hM
  have HGL := Lib.hid (show w.heap.size ≤ w.heap.size from Nat.le_refl _)
  go_upto_region 2 with (first | (refine wpList_storeBlk rfl 24 (.tmp 1) (.tmp 11) rfl _ _ [.int .i64 N, .slice A2 L.length c2] HX.out rfl rfl rfl infoGraph (by simp [Value.oneCell']) ?_; intro w8 hb8 hk8))
  have f8 : KeptB w.heap.size [24] w3 w8 := (KeptB.refl _ _ w3).step (L := [w.heap.size]) hk8 (fun q hq => by simp at hq; subst hq; exact ⟨HGL.out, _, _, _, HX.out, by simp⟩)
  replace HO2 := Lib.hid (own_keptB HO2.out f8 (by decide))
  replace K0 := Lib.hid (K0.out.thenB f8 (Nat.le_refl _))
  clear HX f8 hk8
  have HR2 := Lib.hid (Reads.of_own HO2.out)
  have hgl := hb8.lt
  have x0 := hb8.cell 0
  have x1 := hb8.cell 1
  simp only [List.getElem?_cons_zero, List.getElem?_cons_succ] at x0 x1
  clear hb8 HO2
  generalize hgq : w.heap.size = g at x0 x1 hgl ⊢
  clear hgq HGL
  go_wp2_with fail
  refine (both_any N L A2 c2 _ HL2.out HR2.out HI.out).mono ?_
  rintro _ w4 ⟨v3, rfl, ho3, hk3⟩
  rw [← HM.out] at ho3
  obtain ⟨A3, c3, rfl⟩ := own_n ho3
  have kd : Kept [] w4 (w4.alloc (.cells #[.int .i64 N, .slice A3 M.length c3] 24)) := (Kept.refl [] w4).alloc _
  have H3 := Lib.hid (Blk.new w4 24 [.int .i64 N, .slice A3 M.length c3])
  have HR3 := Lib.hid ((Reads.of_own ho3).kept0 kd)
  replace K0 := Lib.hid ((K0.out.trans hk3).trans kd)
  clear kd hk3 ho3 x0 x1 hgl HR2 HI HL2 HM
  go_upto_region 3 with (fail)
  generalize w4.alloc (.cells #[.int .i64 N, .slice A3 M.length c3] 24) = w5 at *
  generalize w4.heap.size = g3 at H3 ⊢
  have x0 := H3.out.cell 0
  have x1 := H3.out.cell 1
  have xl := H3.out.lt
  simp only [List.getElem?_cons_zero, List.getElem?_cons_succ] at x0 x1
  have HMM := Lib.hid (show M.length ≤ maxLen by have := HML.out; unfold maxLen; omega)
  go_wp2_with fail
  refine (encode_any N M A3 c3 _ HR3.out HMM.out).mono ?_
  rintro z w6 ⟨⟨v, rfl, hb2⟩, hk⟩
  rw [if_pos HEN.out] at hb2
  rw [HEN.out]
  replace H3 := Lib.hid (H3.out.kept hk (by simp))
  replace HR3 := Lib.hid (HR3.out.kept0 hk)
  replace K0 := Lib.hid (K0.out.trans hk)
  clear hk x0 x1 xl
  obtain ⟨A4, c4, rfl⟩ := own_n hb2
  have HR4 := Lib.hid (Reads.of_own hb2)
  have HD := Lib.hid (decG_enc HEN.out)
  have HCN := Lib.hid (canonB_enc HEN.out)
  have HLB := Lib.hid (encB_len2 HEN.out)
  have HRI := Lib.hid (encW_zero HEN.out).2
  clear hb2 HEN
  generalize encB N M = bs at *
  go_wp2_with fail
  refine (decode_any bs A4 c4 _ HR4.out HLB.out).mono ?_
  intro z w7 hz
  rw [HD.out] at hz
  obtain ⟨⟨v, rfl, ho⟩, hk⟩ := hz
  obtain ⟨A6, c6, rfl⟩ := own_n ho
  have kd : Kept [] w7 ((w7.alloc (.cells #[.int .i64 N, .slice A6 M.length c6] 24)).alloc (.cells #[.int .i64 0, .int .i64 0] 36)) := ((Kept.refl [] w7).alloc _).alloc _
  have H6 := Lib.hid ((Blk.new w7 24 [.int .i64 N, .slice A6 M.length c6]).alloc (.cells #[.int .i64 0, .int .i64 0] 36))
  have H7 := Lib.hid (Blk.new1F w7 (.cells #[.int .i64 N, .slice A6 M.length c6] 24) 36 [.int .i64 0, .int .i64 0])
  have HR6 := Lib.hid ((Reads.of_own ho).kept0 kd)
  replace H3 := Lib.hid ((H3.out.kept hk (by simp)).kept kd (by simp))
  replace HR3 := Lib.hid ((HR3.out.kept0 hk).kept0 kd)
  replace HR4 := Lib.hid ((HR4.out.kept0 hk).kept0 kd)
  replace K0 := Lib.hid ((K0.out.trans hk).trans kd)
  clear kd hk ho HD
  go_upto_region 5 with (fail)
  generalize (w7.alloc (.cells #[.int .i64 N, .slice A6 M.length c6] 24)).alloc (.cells #[.int .i64 0, .int .i64 0] 36) = w8 at *
  generalize w7.heap.size + 1 = g7 at H7 ⊢
  generalize w7.heap.size = g6 at H6 ⊢
  go_wp2_with fail
  refine (decode_any [] none 0 _ (Reads.nil _ _) (by decide)).mono ?_
  intro z w9 hz
  rw [dec_nil] at hz
  obtain ⟨rfl, hk⟩ := hz
  have kd : Kept [] w9 ((w9.alloc (.cells #[.int .i64 0, .slice none 0 0] 24)).alloc (.cells #[.int .i64 2, .int .i64 0] 36)) := ((Kept.refl [] w9).alloc _).alloc _
  have H8 := Lib.hid ((Blk.new w9 24 [.int .i64 0, .slice none 0 0]).alloc (.cells #[.int .i64 2, .int .i64 0] 36))
  have H9 := Lib.hid (Blk.new1F w9 (.cells #[.int .i64 0, .slice none 0 0] 24) 36 [.int .i64 2, .int .i64 0])
  replace H3 := Lib.hid ((H3.out.kept hk (by simp)).kept kd (by simp))
  replace H6 := Lib.hid ((H6.out.kept hk (by simp)).kept kd (by simp))
  replace H7 := Lib.hid ((H7.out.kept hk (by simp)).kept kd (by simp))
  replace HR3 := Lib.hid ((HR3.out.kept0 hk).kept0 kd)
  replace HR4 := Lib.hid ((HR4.out.kept0 hk).kept0 kd)
  replace HR6 := Lib.hid ((HR6.out.kept0 hk).kept0 kd)
  replace K0 := Lib.hid ((K0.out.trans hk).trans kd)
  clear kd hk
  go_upto_region 6 with (fail)
  generalize (w9.alloc (.cells #[.int .i64 0, .slice none 0 0] 24)).alloc (.cells #[.int .i64 2, .int .i64 0] 36) = wz at *
  generalize w9.heap.size + 1 = g9 at H9 ⊢
  generalize w9.heap.size = g8 at H8 ⊢
  have hM2 : M.length ≤ 1048576 := by have := HML.out; omega
  have HM2 := Lib.hid hM2
  clear hM2
  have kz := (Kept.refl [] wz).drew
  refine wp_region_held_drew (S := (fun w' => w'.rangeAt g3 0 [.int .i64 N, .slice A3 M.length c3] ∧ w'.rangeAt g6 0 [.int .i64 N, .slice A6 M.length c6] ∧ w'.rangeAt g7 0 [.int .i64 0, .int .i64 0] ∧ w'.cell? ⟨g6, 1, none⟩ = some (.slice A6 M.length c6) ∧ w'.cell? ⟨g8, 0, none⟩ = some (.int .i64 0) ∧ w'.cell? ⟨g9, 0, none⟩ = some (.int .i64 2))) (by kernel_rfl) ?_ (fun hHeld => ?_)
  · exact ⟨H3.out.cell2, H6.out.cell2, H7.out.cell2, H6.out.cell 1, H8.out.cell 0, H9.out.cell 0⟩
  replace H3 := Lib.hid (H3.out.kept kz (by simp))
  replace H6 := Lib.hid (H6.out.kept kz (by simp))
  replace H7 := Lib.hid (H7.out.kept kz (by simp))
  replace H8 := Lib.hid (H8.out.kept kz (by simp))
  replace H9 := Lib.hid (H9.out.kept kz (by simp))
  replace HR3 := Lib.hid (HR3.out.kept0 kz)
  replace HR4 := Lib.hid (HR4.out.kept0 kz)
  replace HR6 := Lib.hid (HR6.out.kept0 kz)
  replace K0 := Lib.hid (K0.out.trans kz)
  clear kz
  generalize wz.drew = wz at *
  refine tkYes (i := 0) (v := ?_) rfl rfl (by kernel_rfl) (by kernel_rfl) (by kernel_rfl) (fun _ _ _ h => h) (by rfl) ?_ (by assumption) ?_
  rotate_left
  · (intro w' hSw; (try dsimp only at hSw); go_simp; try with_reducible rfl)
  try simp only [Act.put, List.setIfInBounds_toArray, List.set_cons_zero, List.set_cons_succ]
  refine tkYes (i := 1) (v := .bool true) rfl rfl (by kernel_rfl) (by kernel_rfl) (by kernel_rfl) (fun _ _ _ h => h) (by rfl) ?_ (by assumption) ?_
  skip
  · (intro w' hSw; (try dsimp only at hSw); go_simp; try (simp; done))
  try simp only [Act.put, List.setIfInBounds_toArray, List.set_cons_zero, List.set_cons_succ]
  refine tkYes (i := 2) (v := ?_) rfl rfl (by kernel_rfl) (by kernel_rfl) (by kernel_rfl) (fun _ _ _ h => h) (by rfl) ?_ (by assumption) ?_
  rotate_left
  · (intro w' hSw; (try dsimp only at hSw); go_simp; try with_reducible rfl)
  try simp only [Act.put, List.setIfInBounds_toArray, List.set_cons_zero, List.set_cons_succ]
  refine tkLoad (i := 3) 36 (.tmp 7) g7 (0) [.int .i64 0, .int .i64 0] _ rfl rfl (by kernel_rfl) (by kernel_rfl) (by kernel_rfl) (fun _ _ _ h => h) (by rfl) rfl rfl (fun w hw => hw.2.2.1) Try.underlying36 rfl infoFault (by assumption) ?_
  try simp only [Act.put, List.setIfInBounds_toArray, List.set_cons_zero, List.set_cons_succ]
  refine tkYes (i := 4) (v := ?_) rfl rfl (by kernel_rfl) (by kernel_rfl) (by kernel_rfl) (fun _ _ _ h => h) (by rfl) ?_ (by assumption) ?_
  rotate_left
  · (intro w' hSw; (try dsimp only at hSw); go_simp; try with_reducible rfl)
  try simp only [Act.put, List.setIfInBounds_toArray, List.set_cons_zero, List.set_cons_succ]
  refine tkYes (i := 5) (v := .bool true) rfl rfl (by kernel_rfl) (by kernel_rfl) (by kernel_rfl) (fun _ _ _ h => h) (by rfl) ?_ (by assumption) ?_
  skip
  · (intro w' hSw; (try dsimp only at hSw); go_simp; try (simp; done))
  try simp only [Act.put, List.setIfInBounds_toArray, List.set_cons_zero, List.set_cons_succ]
  refine tkYes (i := 6) (v := .bool true) rfl rfl (by kernel_rfl) (by kernel_rfl) (by kernel_rfl) (fun _ _ _ h => h) (by rfl) ?_ (by assumption) ?_
  skip
  · (intro w' hSw; (try dsimp only at hSw); go_simp; try (simp; done))
  try simp only [Act.put, List.setIfInBounds_toArray, List.set_cons_zero, List.set_cons_succ]
  refine tkYes (i := 7) (v := ?_) rfl rfl (by kernel_rfl) (by kernel_rfl) (by kernel_rfl) (fun _ _ _ h => h) (by rfl) ?_ (by assumption) ?_
  rotate_left
  · (intro w' hSw; (try dsimp only at hSw); go_simp; try with_reducible rfl)
  try simp only [Act.put, List.setIfInBounds_toArray, List.set_cons_zero, List.set_cons_succ]
  refine tkLoad (i := 8) 24 (.tmp 6) g6 (0) [.int .i64 N, .slice A6 M.length c6] _ rfl rfl (by kernel_rfl) (by kernel_rfl) (by kernel_rfl) (fun _ _ _ h => h) (by rfl) rfl rfl (fun w hw => hw.2.1) Try.underlying24 rfl infoGraph (by assumption) ?_
  try simp only [Act.put, List.setIfInBounds_toArray, List.set_cons_zero, List.set_cons_succ]
  refine tkLoad (i := 9) 24 (.tmp 3) g3 (0) [.int .i64 N, .slice A3 M.length c3] _ rfl rfl (by kernel_rfl) (by kernel_rfl) (by kernel_rfl) (fun _ _ _ h => h) (by rfl) rfl rfl (fun w hw => hw.1) Try.underlying24 rfl infoGraph (by assumption) ?_
  try simp only [Act.put, List.setIfInBounds_toArray, List.set_cons_zero, List.set_cons_succ]
  refine wpAnyH_ready (rs := [10]) (by kernel_rfl) (by simp) ?_
  refine AllReadyH.cons rfl (fun K hK => ?_) AllReadyH.nil
  go_simp
  go_at_call 25
  refine (same_any N N M M A6 A3 c6 c3 _ HMM.out HMM.out HR6.out HR3.out).mono ?_
  rintro e y ⟨rfl, hky⟩
  rw [show (decide (N = N) && decide (M = M)) = true from by simp]
  go_wp2_with fail
  replace H3 := Lib.hid (H3.out.kept hky (by simp))
  replace H6 := Lib.hid (H6.out.kept hky (by simp))
  replace H7 := Lib.hid (H7.out.kept hky (by simp))
  replace H8 := Lib.hid (H8.out.kept hky (by simp))
  replace H9 := Lib.hid (H9.out.kept hky (by simp))
  replace HR3 := Lib.hid (HR3.out.kept0 hky)
  replace HR4 := Lib.hid (HR4.out.kept0 hky)
  replace HR6 := Lib.hid (HR6.out.kept0 hky)
  replace K0 := Lib.hid (K0.out.trans hky)
  clear hky
  refine hK.out _ _ ?_ (fun hHeld => ?_)
  · exact ⟨H3.out.cell2, H6.out.cell2, H7.out.cell2, H6.out.cell 1, H8.out.cell 0, H9.out.cell 0⟩
  clear hK K
  try simp only [Act.put, List.setIfInBounds_toArray, List.set_cons_zero, List.set_cons_succ]
  refine tkYes (i := 11) (v := .bool true) rfl rfl (by kernel_rfl) (by kernel_rfl) (by kernel_rfl) (fun _ _ _ h => h) (by rfl) ?_ (by assumption) ?_
  skip
  · (intro w' hSw; (try dsimp only at hSw); go_simp; try (simp; done))
  try simp only [Act.put, List.setIfInBounds_toArray, List.set_cons_zero, List.set_cons_succ]
  refine tkYes (i := 12) (v := ?_) rfl rfl (by kernel_rfl) (by kernel_rfl) (by kernel_rfl) (fun _ _ _ h => h) (by rfl) ?_ (by assumption) ?_
  rotate_left
  · (intro w' hSw; (try dsimp only at hSw); go_simp; try with_reducible rfl)
  try simp only [Act.put, List.setIfInBounds_toArray, List.set_cons_zero, List.set_cons_succ]
  refine tkLoad (i := 13) 24 (.tmp 6) g6 (0) [.int .i64 N, .slice A6 M.length c6] _ rfl rfl (by kernel_rfl) (by kernel_rfl) (by kernel_rfl) (fun _ _ _ h => h) (by rfl) rfl rfl (fun w hw => hw.2.1) Try.underlying24 rfl infoGraph (by assumption) ?_
  try simp only [Act.put, List.setIfInBounds_toArray, List.set_cons_zero, List.set_cons_succ]
  refine tkLoad (i := 15) 24 (.tmp 6) g6 (0) [.int .i64 N, .slice A6 M.length c6] _ rfl rfl (by kernel_rfl) (by kernel_rfl) (by kernel_rfl) (fun _ _ _ h => h) (by rfl) rfl rfl (fun w hw => hw.2.1) Try.underlying24 rfl infoGraph (by assumption) ?_
  try simp only [Act.put, List.setIfInBounds_toArray, List.set_cons_zero, List.set_cons_succ]
  refine wpAnyH_ready (rs := [14]) (by kernel_rfl) (by simp) ?_
  refine AllReadyH.cons rfl (fun K hK => ?_) AllReadyH.nil
  go_simp
  go_at_call 12
  refine (topT N M A6 c6 _ HM2.out HR6.out HMI.out).mono ?_
  rintro e y ⟨vt, rfl, hot, hky⟩
  rw [show canonP (madeP turnE allE M) = M from HTB.out] at hot
  obtain ⟨At, ct, rfl⟩ := own_n hot
  have HRt := Lib.hid (Reads.of_own hot)
  clear hot
  go_wp2_with fail
  replace H3 := Lib.hid (H3.out.kept hky (by simp))
  replace H6 := Lib.hid (H6.out.kept hky (by simp))
  replace H7 := Lib.hid (H7.out.kept hky (by simp))
  replace H8 := Lib.hid (H8.out.kept hky (by simp))
  replace H9 := Lib.hid (H9.out.kept hky (by simp))
  replace HR3 := Lib.hid (HR3.out.kept0 hky)
  replace HR4 := Lib.hid (HR4.out.kept0 hky)
  replace HR6 := Lib.hid (HR6.out.kept0 hky)
  replace K0 := Lib.hid (K0.out.trans hky)
  clear hky
  refine hK.out _ _ ?_ (fun hHeld => ?_)
  · exact ⟨H3.out.cell2, H6.out.cell2, H7.out.cell2, H6.out.cell 1, H8.out.cell 0, H9.out.cell 0⟩
  clear hK K
  try simp only [Act.put, List.setIfInBounds_toArray, List.set_cons_zero, List.set_cons_succ]
  refine wpAnyH_ready (rs := [16]) (by kernel_rfl) (by simp) ?_
  refine AllReadyH.cons rfl (fun K hK => ?_) AllReadyH.nil
  go_simp
  go_at_call 25
  refine (same_any N N M M At A6 ct c6 _ HMM.out HMM.out HRt.out HR6.out).mono ?_
  rintro e y ⟨rfl, hky⟩
  rw [show (decide (N = N) && decide (M = M)) = true from by simp]
  go_wp2_with fail
  replace H3 := Lib.hid (H3.out.kept hky (by simp))
  replace H6 := Lib.hid (H6.out.kept hky (by simp))
  replace H7 := Lib.hid (H7.out.kept hky (by simp))
  replace H8 := Lib.hid (H8.out.kept hky (by simp))
  replace H9 := Lib.hid (H9.out.kept hky (by simp))
  replace HR3 := Lib.hid (HR3.out.kept0 hky)
  replace HR4 := Lib.hid (HR4.out.kept0 hky)
  replace HR6 := Lib.hid (HR6.out.kept0 hky)
  replace K0 := Lib.hid (K0.out.trans hky)
  clear hky
  refine hK.out _ _ ?_ (fun hHeld => ?_)
  · exact ⟨H3.out.cell2, H6.out.cell2, H7.out.cell2, H6.out.cell 1, H8.out.cell 0, H9.out.cell 0⟩
  clear hK K
  try simp only [Act.put, List.setIfInBounds_toArray, List.set_cons_zero, List.set_cons_succ]
  refine tkYes (i := 17) (v := .bool true) rfl rfl (by kernel_rfl) (by kernel_rfl) (by kernel_rfl) (fun _ _ _ h => h) (by rfl) ?_ (by assumption) ?_
  skip
  · (intro w' hSw; (try dsimp only at hSw); go_simp; try (simp; done))
  try simp only [Act.put, List.setIfInBounds_toArray, List.set_cons_zero, List.set_cons_succ]
  refine tkYes (i := 18) (v := ?_) rfl rfl (by kernel_rfl) (by kernel_rfl) (by kernel_rfl) (fun _ _ _ h => h) (by rfl) ?_ (by assumption) ?_
  rotate_left
  · (intro w' hSw; (try dsimp only at hSw); go_simp; try with_reducible rfl)
  try simp only [Act.put, List.setIfInBounds_toArray, List.set_cons_zero, List.set_cons_succ]
  refine tkYes (i := 19) (v := ?_) rfl rfl (by kernel_rfl) (by kernel_rfl) (by kernel_rfl) (fun _ _ _ h => h) (by rfl) ?_ (by assumption) ?_
  rotate_left
  · (intro w' hSw; (try dsimp only at hSw); go_simp; try with_reducible rfl)
  try simp only [Act.put, List.setIfInBounds_toArray, List.set_cons_zero, List.set_cons_succ]
  refine wpAnyH_ready (rs := [20]) (by kernel_rfl) (by simp) ?_
  refine AllReadyH.cons rfl (fun K hK => ?_) AllReadyH.nil
  go_simp
  go_at_call 26
  refine (canon6_any bs A4 c4 _ HR4.out HLB.out).mono ?_
  rintro e y ⟨rfl, hky⟩
  rw [HCN.out]
  go_wp2_with fail
  replace H3 := Lib.hid (H3.out.kept hky (by simp))
  replace H6 := Lib.hid (H6.out.kept hky (by simp))
  replace H7 := Lib.hid (H7.out.kept hky (by simp))
  replace H8 := Lib.hid (H8.out.kept hky (by simp))
  replace H9 := Lib.hid (H9.out.kept hky (by simp))
  replace HR3 := Lib.hid (HR3.out.kept0 hky)
  replace HR4 := Lib.hid (HR4.out.kept0 hky)
  replace HR6 := Lib.hid (HR6.out.kept0 hky)
  replace K0 := Lib.hid (K0.out.trans hky)
  clear hky
  refine hK.out _ _ ?_ (fun hHeld => ?_)
  · exact ⟨H3.out.cell2, H6.out.cell2, H7.out.cell2, H6.out.cell 1, H8.out.cell 0, H9.out.cell 0⟩
  clear hK K
  try simp only [Act.put, List.setIfInBounds_toArray, List.set_cons_zero, List.set_cons_succ]
  refine tkYes (i := 21) (v := .bool true) rfl rfl (by kernel_rfl) (by kernel_rfl) (by kernel_rfl) (fun _ _ _ h => h) (by rfl) ?_ (by assumption) ?_
  skip
  · (intro w' hSw; (try dsimp only at hSw); go_simp; try (simp; done))
  try simp only [Act.put, List.setIfInBounds_toArray, List.set_cons_zero, List.set_cons_succ]
  refine tkYes (i := 22) (v := ?_) rfl rfl (by kernel_rfl) (by kernel_rfl) (by kernel_rfl) (fun _ _ _ h => h) (by rfl) ?_ (by assumption) ?_
  rotate_left
  · (intro w' hSw; (try dsimp only at hSw); go_simp; try with_reducible rfl)
  try simp only [Act.put, List.setIfInBounds_toArray, List.set_cons_zero, List.set_cons_succ]
  refine tkYes (i := 23) (v := ?_) rfl rfl (by kernel_rfl) (by kernel_rfl) (by kernel_rfl) (fun _ _ _ h => h) (by rfl) ?_ (by assumption) ?_
  rotate_left
  · (intro w' hSw; (try dsimp only at hSw); go_simp; try with_reducible rfl)
  try simp only [Act.put, List.setIfInBounds_toArray, List.set_cons_zero, List.set_cons_succ]
  refine tkYes (i := 24) (v := ?_) rfl rfl (by kernel_rfl) (by kernel_rfl) (by kernel_rfl) (fun _ _ _ h => h) (by rfl) ?_ (by assumption) ?_
  rotate_left
  · (intro w' hSw; (try dsimp only at hSw); go_simp; try with_reducible rfl)
  try simp only [Act.put, List.setIfInBounds_toArray, List.set_cons_zero, List.set_cons_succ]
  refine wpAnyH_ready (rs := [25]) (by kernel_rfl) (by simp) ?_
  refine AllReadyH.cons rfl (fun K hK => ?_) AllReadyH.nil
  go_simp
  go_at_call 27
  refine (rises_any M A6 c6 _ HMM.out HR6.out).mono ?_
  rintro e y ⟨rfl, hky⟩
  rw [HRI.out]
  go_wp2_with fail
  replace H3 := Lib.hid (H3.out.kept hky (by simp))
  replace H6 := Lib.hid (H6.out.kept hky (by simp))
  replace H7 := Lib.hid (H7.out.kept hky (by simp))
  replace H8 := Lib.hid (H8.out.kept hky (by simp))
  replace H9 := Lib.hid (H9.out.kept hky (by simp))
  replace HR3 := Lib.hid (HR3.out.kept0 hky)
  replace HR4 := Lib.hid (HR4.out.kept0 hky)
  replace HR6 := Lib.hid (HR6.out.kept0 hky)
  replace K0 := Lib.hid (K0.out.trans hky)
  clear hky
  refine hK.out _ _ ?_ (fun hHeld => ?_)
  · exact ⟨H3.out.cell2, H6.out.cell2, H7.out.cell2, H6.out.cell 1, H8.out.cell 0, H9.out.cell 0⟩
  clear hK K
  try simp only [Act.put, List.setIfInBounds_toArray, List.set_cons_zero, List.set_cons_succ]
  refine tkYes (i := 26) (v := .bool true) rfl rfl (by kernel_rfl) (by kernel_rfl) (by kernel_rfl) (fun _ _ _ h => h) (by rfl) ?_ (by assumption) ?_
  skip
  · (intro w' hSw; (try dsimp only at hSw); go_simp; try (simp; done))
  try simp only [Act.put, List.setIfInBounds_toArray, List.set_cons_zero, List.set_cons_succ]
  refine tkYes (i := 27) (v := ?_) rfl rfl (by kernel_rfl) (by kernel_rfl) (by kernel_rfl) (fun _ _ _ h => h) (by rfl) ?_ (by assumption) ?_
  rotate_left
  · (intro w' hSw; (try dsimp only at hSw); go_simp; try with_reducible rfl)
  try simp only [Act.put, List.setIfInBounds_toArray, List.set_cons_zero, List.set_cons_succ]
  refine tkYes (i := 28) (v := ?_) rfl rfl (by kernel_rfl) (by kernel_rfl) (by kernel_rfl) (fun _ _ _ h => h) (by rfl) ?_ (by assumption) ?_
  rotate_left
  · (intro w' hSw; (try dsimp only at hSw); go_simp; try with_reducible rfl)
  try simp only [Act.put, List.setIfInBounds_toArray, List.set_cons_zero, List.set_cons_succ]
  refine tkYes (i := 29) (v := ?_) rfl rfl (by kernel_rfl) (by kernel_rfl) (by kernel_rfl) (fun _ _ _ h => h) (by rfl) ?_ (by assumption) ?_
  rotate_left
  · (intro w' hSw; (try dsimp only at hSw); go_simp; try with_reducible rfl)
  try simp only [Act.put, List.setIfInBounds_toArray, List.set_cons_zero, List.set_cons_succ]
  refine tkYes (i := 30) (v := .bool true) rfl rfl (by kernel_rfl) (by kernel_rfl) (by kernel_rfl) (fun _ _ _ h => h) (by rfl) ?_ (by assumption) ?_
  skip
  · (intro w' hSw; (try dsimp only at hSw); go_simp; try (simp; done))
  try simp only [Act.put, List.setIfInBounds_toArray, List.set_cons_zero, List.set_cons_succ]
  refine tkYes (i := 31) (v := .bool true) rfl rfl (by kernel_rfl) (by kernel_rfl) (by kernel_rfl) (fun _ _ _ h => h) (by rfl) ?_ (by assumption) ?_
  skip
  · (intro w' hSw; (try dsimp only at hSw); go_simp; try (simp; done))
  try simp only [Act.put, List.setIfInBounds_toArray, List.set_cons_zero, List.set_cons_succ]
  refine tkYes (i := 32) (v := ?_) rfl rfl (by kernel_rfl) (by kernel_rfl) (by kernel_rfl) (fun _ _ _ h => h) (by rfl) ?_ (by assumption) ?_
  rotate_left
  · (intro w' hSw; (try dsimp only at hSw); go_simp; try with_reducible rfl)
  try simp only [Act.put, List.setIfInBounds_toArray, List.set_cons_zero, List.set_cons_succ]
  refine tkYes (i := 33) (v := ?_) rfl rfl (by kernel_rfl) (by kernel_rfl) (by kernel_rfl) (fun _ _ _ h => h) (by rfl) ?_ (by assumption) ?_
  rotate_left
  · (intro w' hSw; (try dsimp only at hSw); go_simp; try with_reducible rfl)
  try simp only [Act.put, List.setIfInBounds_toArray, List.set_cons_zero, List.set_cons_succ]
  refine tkYes (i := 34) (v := ?_) rfl rfl (by kernel_rfl) (by kernel_rfl) (by kernel_rfl) (fun _ _ _ h => h) (by rfl) ?_ (by assumption) ?_
  rotate_left
  · (intro w' hSw; (try dsimp only at hSw); go_simp; try with_reducible rfl)
  try simp only [Act.put, List.setIfInBounds_toArray, List.set_cons_zero, List.set_cons_succ]
  refine tkYes (i := 35) (v := .bool true) rfl rfl (by kernel_rfl) (by kernel_rfl) (by kernel_rfl) (fun _ _ _ h => h) (by rfl) ?_ (by assumption) ?_
  skip
  · (intro w' hSw; (try dsimp only at hSw); go_simp; try (simp; done))
  try simp only [Act.put, List.setIfInBounds_toArray, List.set_cons_zero, List.set_cons_succ]
  refine tkYes (i := 36) (v := .bool true) rfl rfl (by kernel_rfl) (by kernel_rfl) (by kernel_rfl) (fun _ _ _ h => h) (by rfl) ?_ (by assumption) ?_
  skip
  · (intro w' hSw; (try dsimp only at hSw); go_simp; try (simp; done))
  try simp only [Act.put, List.setIfInBounds_toArray, List.set_cons_zero, List.set_cons_succ]
  refine tkYes (i := 37) (v := ?_) rfl rfl (by kernel_rfl) (by kernel_rfl) (by kernel_rfl) (fun _ _ _ h => h) (by rfl) ?_ (by assumption) ?_
  rotate_left
  · (intro w' hSw; (try dsimp only at hSw); go_simp; try with_reducible rfl)
  try simp only [Act.put, List.setIfInBounds_toArray, List.set_cons_zero, List.set_cons_succ]
  refine wpAnyH_done (by kernel_rfl) ?_ _
  go_wp2_with fail
  go_ret
  exact ⟨rfl, K0.out⟩

set_option maxRecDepth 100000 in
theorem topFiles_lifted (os : Os) (started : os.Started) (H : Type) (enc : TypeId × Value → H) :
    ReturnsInHanded {} Try.checked os 5 .any (Rows.topFilesSpec.pre6 enc Try.prog Try.f5 Rows.topFilesRow.domain false) (Rows.topFilesSpec.post enc Try.prog Try.f5 false true false false) := by
  refine returnsInHanded_of_change (C := Try.checked) own started (by kernel_rfl) Try.func5
    (ChangeSpec.witness6 (enc := enc) (C := Try.checked) false ⟨#[], #[.agg #[.int .i64 0, .slice none 0 0]], []⟩ 8 (by kernel_rfl) (by kernel_rfl) (by kernel_rfl) (by kernel_rfl)) ?_
  intro W base args ds gs before hval0 hW hcnd _
  have hval : ∀ (j : Nat) t v, Try.f5.params[j]? = some t → args[j]? = some v → Value.okWide Try.prog W .any base t v := hval0
  have hW' := hW
  obtain ⟨p, q, hA0, hV, rfl, hfz, hnd⟩ := hW
  have hA : DataW.TrodAll enc Try.prog W 0 (fun _ => true) true Try.f5.params.toList args.toList ds p := hA0
  rw [Try.params5] at hA hval
  obtain ⟨v0, vs0, d0, ds0, p0, q0, hargs, rfl, rfl, h0, r0⟩ := trodAll_cons hA
  obtain ⟨rfl, rfl, rfl⟩ := trodAll_nil r0
  obtain rfl : args = #[v0] := by cases args; simp_all
  obtain ⟨rfl, rfl⟩ := trodVars_none hV
  obtain ⟨n, A, c, l, rfl, l1, l2, hAr, hv, _⟩ := open_graph (hval 0 24 v0 rfl rfl) h0
  refine (topFiles_walk n l A c W hAr (Nat.le_trans l1 l2)).mono fun e W' ⟨he, hk⟩ => ?_
  exact ⟨_, he, post_true rfl Try.underlying4 rfl rfl rfl rfl laidOut (by decide +kernel) hW' hk⟩

theorem topFiles_holds : Rows.TopFilesSaid :=
  OpenClaim.holds_of_wide 5 Try.f5 rfl rfl rfl rfl rfl rfl rfl ⟨rfl, rfl, rfl, rfl, rfl⟩ rfl rfl rfl rfl rfl (by kernel_rfl) Try.func5 (by kernel_rfl)
    (of_decide_eq_true (by kernel_rfl)) (by unfold Func.isWrapper; first | (rw [if_pos (by decide +kernel)]; kernel_rfl) | (rw [if_neg (by decide +kernel)]; exact ⟨rfl, rfl⟩))
    (fun os started H enc _ => topFiles_lifted os started H enc)
end Go.Proofs.Ytibjpjpbmkdddaa
