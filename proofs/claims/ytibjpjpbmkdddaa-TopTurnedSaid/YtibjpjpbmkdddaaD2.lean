/- dcsc.Right, dcsc.sure, dcsc.Count: the columns of a matrix are right. -/
import Derived.Test.YtibjpjpbmkdddaaD1
namespace Go.Proofs.Ytibjpjpbmkdddaa
set_option linter.unusedSimpArgs false
set_option linter.unusedVariables false
open Go.ChangeShapes Go.WideShapes Go.ChangeAt Go.RowKit
open Go.RowKit (wrap32 wrap64)
set_option maxHeartbeats 8000000
theorem within_d (a b : Int) (w : World) : Calls Try.prog 133 #[.int .i64 a, .int .i64 b] w fun e w' => e = .returned (.bool (decide (0 ≤ a) && decide (a ≤ b))) ∧ w' = w := by
  by_cases h1 : 0 ≤ a
  · have HD := Lib.hid (show (decide (0 ≤ a) && decide (a ≤ b)) = decide (a ≤ b) by simp [h1])
    go_enter Try.func133, Try.ntmps133
    go_wp2_with fail
    go_ret
    exact ⟨ret_bool (by rw [HD.out]), rfl⟩
  · have HD := Lib.hid (show (decide (0 ≤ a) && decide (a ≤ b)) = false by simp [h1])
    go_enter Try.func133, Try.ntmps133
    go_wp2_with fail
    go_ret
    exact ⟨ret_bool (by rw [HD.out]), rfl⟩
set_option maxRecDepth 100000 in
theorem rising_true (xs : List Int) (cols : Int) (A : Option Addr) (c : Nat) (w : World) (hl : xs.length ≤ 1048576) (hcc : 0 ≤ cols ∧ cols ≤ 1048576) (hA : Reads w A (xs.map vI)) (hin : ∀ x ∈ xs, 0 ≤ x ∧ x < cols) (hs : ∀ j (h : j + 1 < xs.length), xs[j] < xs[j + 1]) :
    Calls Try.prog 134 #[.slice A xs.length c, .int .i64 cols] w fun e w' => e = .returned (.bool true) ∧ w' = w := by
  have HA := Lib.hid hA
  have HS := Lib.hid hs
  have HI := Lib.hid hin
  clear hA hs hin
  go_enter Try.func134, Try.ntmps134
  go_wp2_with fail
  go_loopw [9] (fun i wr => ∃ k : Nat, k ≤ xs.length ∧ i = .int .i64 k ∧ wr = w) (fun i _ => xs.length - (intOf i).toNat)
  case atStart => exact ⟨0, Nat.zero_le _, rfl, rfl⟩
  case round =>
    obtain ⟨k, hk, rfl, hw⟩ := hrel
    subst hw
    by_cases hlt : k < xs.length
    · have HX := Lib.hid (HI.out xs[k] (List.getElem_mem _))
      obtain ⟨b, off, rfl, hb, hc⟩ := ints_at HA.out hlt
      have c1 := hc k hlt
      have HC := Lib.hid hc
      clear hc
      obtain ⟨q, hq⟩ : ∃ q, q = xs[k] := ⟨_, rfl⟩
      rw [← hq] at c1 HX
      have HQ := Lib.hid hq
      clear hq
      have HD := Lib.hid (show (decide (0 ≤ q) && decide (q ≤ cols - 1)) = true by have := HX.out; simp; omega)
      go_wp2_with fail
      refine (within_d q (cols - 1) _).mono ?_
      rintro _ wn ⟨rfl, rfl⟩
      rw [HD.out]
      by_cases hk0 : k = 0
      · subst hk0
        go_wp2_with fail
        go_roundw
        case rel => exact ⟨1, by omega, by go_num, by trivial⟩
        case measure => simp [intOf]; omega
      · obtain ⟨m, rfl⟩ : ∃ m, k = m + 1 := ⟨k - 1, by omega⟩
        have c0 := HC.out m (by omega)
        have HP := Lib.hid (HS.out m hlt)
        rw [← HQ.out] at HP
        obtain ⟨p, hp⟩ : ∃ p, p = xs[m] := ⟨_, rfl⟩
        rw [← hp] at c0 HP
        clear hp hk0
        have HL := HP.out
        go_wp2_with fail
        go_roundw
        case rel => exact ⟨m + 1 + 1, by omega, by go_num, by trivial⟩
        case measure => simp [intOf]; omega
    · obtain rfl : k = xs.length := by omega
      go_wp2_with fail
      go_ret
      exact ⟨rfl, rfl⟩


theorem infoCols : (Try.prog.info? 49).map (·.size) = some 6 := by kernel_rfl
/-- The columns of a matrix of these triples (turned) lie there, in rows of the call's own. -/
structure DcAt (w : World) (base : Nat) (v1 v2 v3 v4 : Value) (l : List Ed) : Prop where
  o1 : w.ownsRow base 3 1 v1 (atP l).length ((atP l).map vI)
  o2 : w.ownsRow base 3 1 v2 ((atP l).length + 1) ((stP l).map vI)
  o3 : w.ownsRow base 3 1 v3 l.length (colV l)
  o4 : w.ownsRow base 2 1 v4 l.length (valV l)
theorem DcAt.kept0 {w w' : World} {base : Nat} {v1 v2 v3 v4 : Value} {l : List Ed} (h : DcAt w base v1 v2 v3 v4 l) (k : Kept [] w w') : DcAt w' base v1 v2 v3 v4 l := ⟨own_kept0 h.o1 k, own_kept0 h.o2 k, own_kept0 h.o3 k, own_kept0 h.o4 k⟩
theorem DcAt.keptB {w w' : World} {base base' : Nat} {T : List TypeId} {v1 v2 v3 v4 : Value} {l : List Ed} (h : DcAt w base v1 v2 v3 v4 l) (k : KeptB base' T w w') (h1 : 3 ∉ T) (h2 : 2 ∉ T) : DcAt w' base v1 v2 v3 v4 l := ⟨own_keptB h.o1 k h1, own_keptB h.o2 k h1, own_keptB h.o3 k h1, own_keptB h.o4 k h2⟩
theorem DcAt.le {w : World} {base base' : Nat} {v1 v2 v3 v4 : Value} {l : List Ed} (h : DcAt w base v1 v2 v3 v4 l) (k : base' ≤ base) : DcAt w base' v1 v2 v3 v4 l := ⟨own_le h.o1 k, own_le h.o2 k, own_le h.o3 k, own_le h.o4 k⟩
theorem DcAt.form {w : World} {base : Nat} {v1 v2 v3 v4 : Value} {l : List Ed} (hm : DcAt w base v1 v2 v3 v4 l) : ∃ A1 c1 b2 c2 A3 c3 A4 c4, v1 = .slice A1 (atP l).length c1 ∧ v2 = .slice (some ⟨b2, 0, none⟩) ((atP l).length + 1) c2 ∧ v3 = .slice A3 l.length c3 ∧ v4 = .slice A4 l.length c4 ∧ l.length ≤ c3 ∧ l.length ≤ c4 := by
  obtain ⟨A1, c1, rfl, hc1, _, hr1, _⟩ := own_form hm.o1
  obtain ⟨A2, c2, rfl, hc2, _, hr2, hb2⟩ := own_form hm.o2
  obtain ⟨A3, c3, rfl, hc3, _, hr3, _⟩ := own_form hm.o3
  obtain ⟨A4, c4, rfl, hc4, _, hr4, _⟩ := own_form hm.o4
  obtain ⟨b2, o2, rfl, hb, hcs⟩ := ints_at hr2 (k := 0) (by simp [stP])
  obtain ⟨q, hq, _⟩ := hb2 _ rfl
  injection hq with hq1 hq2
  subst hq1 hq2
  exact ⟨_, _, _, _, _, _, _, _, rfl, rfl, rfl, rfl, hc3, hc4⟩
theorem DcAt.start {w : World} {base b2 c2 : Nat} {v1 v3 v4 : Value} {l : List Ed} (h : DcAt w base v1 (.slice (some ⟨b2, 0, none⟩) ((atP l).length + 1) c2) v3 v4 l) {j : Nat} (hj : j < (stP l).length) : w.cell? ⟨b2, j, none⟩ = some (.int .i64 (stP l)[j]) := by
  have h1 := (Reads.of_own h.o2)
  obtain ⟨b, o, e, _, hc⟩ := ints_at h1 hj
  injection e with e
  injection e with e1 e2
  subst e1 e2
  have := hc j hj
  rw [Nat.zero_add] at this
  exact this
/-- Triples that rise, of a matrix of n rows and columns. -/
theorem pair_index {xs : List Int} (h : xs.Pairwise (· < ·)) : ∀ j (hj : j + 1 < xs.length), xs[j] < xs[j + 1] := fun j hj => (List.pairwise_iff_getElem.1 h) j (j + 1) (by omega) hj (by omega)
theorem atP_len_take (l : List Ed) : ∀ k, k ≤ l.length → (atP (l.take k)).length ≤ k
  | 0, _ => by simp [atP]
  | k + 1, hk => by
    have ih := atP_len_take l k (by omega)
    rw [List.take_succ_eq_append_getElem (by omega), atP_snoc]
    split
    · omega
    · simp; omega
theorem atP_len (l : List Ed) : (atP l).length ≤ l.length := by
  have := atP_len_take l l.length (Nat.le_refl _)
  rwa [List.take_length] at this
/-- A row's place among the triples. -/
theorem st_part {l : List Ed} (hr : RisesL l) (h0 : ∀ e ∈ l, 0 ≤ e.1) {i : Nat} (hi : i < (atP l).length) : ∃ (k s e : Nat), (atP l)[i] = (k : Int) ∧ (stP l)[i]'(by rw [stP_length]; omega) = (s : Int) ∧ (stP l)[i + 1]'(by rw [stP_length]; omega) = (e : Int) ∧ s ≤ e ∧ e ≤ l.length ∧ (l.drop s).take (e - s) = rowL l k := by
  have h := risesL_sortR hr
  obtain ⟨e1, e2⟩ := stP_at h hi
  obtain ⟨e, he, hee⟩ := at_get_mem h hi
  obtain ⟨k, hk⟩ := Int.eq_ofNat_of_zero_le (h0 e he)
  rw [e1, e2, ← hee, hk, show ((k : Int) + 1) = ((k + 1 : Nat) : Int) by omega, blI_bel, blI_bel]
  have b0 := belI_in l k
  have b1 := belI_in l (k + 1)
  have b2 := bel_mono l k
  refine ⟨k, (belI l k).toNat, (belI l (k + 1)).toNat, rfl, by omega, by omega, by omega, by omega, row_part h k⟩

set_option maxRecDepth 100000 in
theorem rightD_true (n base : Nat) (l : List Ed) (v1 v2 v3 v4 : Value) (w : World) (hok : MtOk n l) (hm : DcAt w base v1 v2 v3 v4 l) :
    Calls Try.prog 106 #[.agg #[.int .i64 n, .int .i64 n, v1, v2, v3, v4]] w fun e w' => e = .returned (.bool true) ∧ Kept [] w w' := by
  have hnn := hok.num
  have hll := hok.len
  have HOK := Lib.hid hok
  have HNN := Lib.hid (show (0 : Int) ≤ (n : Int) ∧ (n : Int) ≤ 1048576 by omega)
  have HNL := Lib.hid (show (0 : Int) ≤ (l.length : Int) + 1 ∧ (l.length : Int) + 1 ≤ 1048576 by omega)
  have hal := atP_len l
  have hsr := risesL_sortR hok.rises
  have h00 : ∀ e ∈ l, 0 ≤ e.1 := fun e he => (hok.inn e he).1.1
  obtain ⟨A1, c1, b2, c2, A3, c3, A4, c4, rfl, rfl, rfl, rfl, hc3, hc4⟩ := hm.form
  have HX := Lib.hid (Blk.new w 49 [.int .i64 n, .int .i64 n, .slice A1 (atP l).length c1, .slice (some ⟨b2, 0, none⟩) ((atP l).length + 1) c2, .slice A3 l.length c3, .slice A4 l.length c4])
  have K0 := Lib.hid ((Kept.refl [] w).alloc (.cells #[.int .i64 n, .int .i64 n, .slice A1 (atP l).length c1, .slice (some ⟨b2, 0, none⟩) ((atP l).length + 1) c2, .slice A3 l.length c3, .slice A4 l.length c4] 49))
  have HM := Lib.hid (hm.kept0 K0.out)
  have HD := Lib.hid (show (decide ((0 : Int) ≤ (n : Int)) && decide ((n : Int) ≤ 4096)) = true by simp; omega)
  have HS0 := Lib.hid (stP_zero hsr)
  have HSE := Lib.hid (stP_end l)
  have HS1 := Lib.hid (stP_rises hsr h00)
  have HS2 := Lib.hid (fun x hx => by have := stP_in l x hx; omega : ∀ x ∈ stP l, 0 ≤ x ∧ x < (l.length : Int) + 1)
  have HA1 := Lib.hid (pair_index (at_ok hsr).rises)
  have HA2 := Lib.hid (at_in hsr (fun e he => (hok.inn e he).1))
  have HPT := Lib.hid (fun (i : Nat) (hi : i < (atP l).length) => st_part hok.rises h00 hi)
  clear hm hok hsr h00
  go_enter Try.func106, Try.ntmps106
  go_upto_region 1 with (fail)
  generalize w.alloc (.cells #[.int .i64 n, .int .i64 n, .slice A1 (atP l).length c1, .slice (some ⟨b2, 0, none⟩) ((atP l).length + 1) c2, .slice A3 l.length c3, .slice A4 l.length c4] 49) = w1 at *
  generalize w.heap.size = g1 at HX ⊢
  have y0 := HX.out.cell 0
  have y1 := HX.out.cell 1
  have y2 := HX.out.cell 2
  have y3 := HX.out.cell 3
  have y4 := HX.out.cell 4
  have y5 := HX.out.cell 5
  simp only [List.getElem?_cons_zero, List.getElem?_cons_succ] at y0 y1 y2 y3 y4 y5
  go_wp2_with fail
  refine (within_d n 4096 _).mono ?_
  rintro _ wn ⟨rfl, rfl⟩
  rw [HD.out]
  go_wp2_with fail
  refine (within_d n 4096 _).mono ?_
  rintro _ wn ⟨rfl, rfl⟩
  rw [HD.out]
  go_wp2_with fail
  refine (rising_true (atP l) n A1 c1 _ (by omega) HNN.out (Reads.of_own HM.out.o1) HA2.out HA1.out).mono ?_
  rintro _ wn ⟨rfl, rfl⟩
  go_wp2_with fail
  have HRS := Lib.hid (rising_true (stP l) ((l.length : Int) + 1) (some ⟨b2, 0, none⟩) c2 wn (by rw [stP_length]; omega) HNL.out (Reads.of_own HM.out.o2) HS2.out HS1.out)
  rw [stP_length] at HRS
  refine HRS.out.mono ?_
  rintro _ wm ⟨rfl, rfl⟩
  clear HRS
  have z0 := HM.out.start (j := 0) (by rw [stP_length]; omega)
  have zn := HM.out.start (j := (atP l).length) (by rw [stP_length]; omega)
  rw [HS0.out] at z0
  rw [HSE.out] at zn
  go_wp2_with fail
  clear y0 y1 y2 y3 y4 y5 z0 zn
  go_loopw [74] (fun x wr => ∃ i : Nat, i ≤ (atP l).length ∧ x = .int .i64 i ∧ Hid (DcAt wr base (.slice A1 (atP l).length c1) (.slice (some ⟨b2, 0, none⟩) ((atP l).length + 1) c2) (.slice A3 l.length c3) (.slice A4 l.length c4) l) ∧ Hid (Blk wr g1 49 [.int .i64 n, .int .i64 n, .slice A1 (atP l).length c1, .slice (some ⟨b2, 0, none⟩) ((atP l).length + 1) c2, .slice A3 l.length c3, .slice A4 l.length c4]) ∧ Hid (Kept [] w wr)) (fun x _ => (atP l).length - (intOf x).toNat)
  case atStart => exact ⟨0, Nat.zero_le _, rfl, HM, HX, K0⟩
  case round =>
    clear HM HX K0
    obtain ⟨i, hi, rfl, HM, HX, K0⟩ := hrel
    by_cases hlt : i < (atP l).length
    · have y0 := HX.out.cell 0
      have y3 := HX.out.cell 3
      have y4 := HX.out.cell 4
      simp only [List.getElem?_cons_zero, List.getElem?_cons_succ] at y0 y3 y4
      have z0 := HM.out.start (j := i) (by rw [stP_length]; omega)
      have z1 := HM.out.start (j := i + 1) (by rw [stP_length]; omega)
      obtain ⟨k, s, e, _, hs, he, hse, hel, hpt⟩ := HPT.out i hlt
      have hec : e ≤ c3 := by omega
      rw [hs] at z0
      rw [he] at z1
      have HRL := Lib.hid (show ((rowL l k).map (fun e => e.2.1)).length ≤ 1048576 by
        rw [List.length_map]
        exact Nat.le_trans (List.length_filter_le _ _) (by omega))
      have HRE := Lib.hid (show ((rowL l k).map (fun e => e.2.1)).length = e - s by
        rw [List.length_map, ← hpt]
        simp
        omega)
      obtain ⟨B, hB⟩ : ∃ B, B = (if c3 = s then A3 else A3.map (·.add (s * 1))) := ⟨_, rfl⟩
      have HRR := Lib.hid (fun wx hmx => by
        have h := (Reads.of_own (DcAt.o3 hmx)).sliced (l := s) (h := e) (m := c3) hse hec (by simp; exact hel)
        rw [← hB] at h
        have e1 : (((colV l).drop s).take (e - s)) = ((rowL l k).map (fun e => e.2.1)).map vI := by
          rw [← hpt]
          simp [colV, List.map_take, List.map_drop]
          rfl
        rw [e1] at h
        exact h : ∀ wx : World, DcAt wx base (.slice A1 (atP l).length c1) (.slice (some ⟨b2, 0, none⟩) ((atP l).length + 1) c2) (.slice A3 l.length c3) (.slice A4 l.length c4) l → Reads wx B (((rowL l k).map (fun e => e.2.1)).map vI))
      have HRI := Lib.hid (fun x hx => by
        obtain ⟨y, hy, rfl⟩ := List.mem_map.1 hx
        exact (HOK.out.inn y (List.mem_filter.1 hy).1).2 : ∀ x : Int, x ∈ ((rowL l k).map (fun e => e.2.1)) → 0 ≤ x ∧ x < (n : Int))
      have HRC := Lib.hid (pair_index (rowL_cols HOK.out.rises k))
      have hsl := sl_int (s := s) (e := e) (L := l.length) (c := c3) A3 hse hec
      rw [← hB] at hsl
      clear hB hpt hs he
      have hwk : IntKind.i64.wrap ((i : Int) + 1) = (i : Int) + 1 := by rw [IntKind.wrap_i64]; omega
      go_upto_region 9 with (fail)
      refine wp_region_held_drew (S := (fun w' => w'.cell? ⟨g1, 0, none⟩ = some (.int .i64 n) ∧ w'.cell? ⟨g1, 3, none⟩ = some (.slice (some ⟨b2, 0, none⟩) ((atP l).length + 1) c2) ∧ w'.cell? ⟨g1, 4, none⟩ = some (.slice A3 l.length c3) ∧ w'.cell? ⟨b2, i, none⟩ = some (.int .i64 (s : Int)) ∧ w'.cell? ⟨b2, i + 1, none⟩ = some (.int .i64 (e : Int)))) (by kernel_rfl) ?_ (fun hHeld => ?_)
      · exact ⟨y0, y3, y4, z0, z1⟩
      replace K0 := Lib.hid K0.out.drew
      replace HM := Lib.hid (HM.out.kept0 (Kept.refl [] wr).drew)
      replace HX := Lib.hid (HX.out.kept (Kept.refl [] wr).drew (by simp))
      clear y0 y3 y4 z0 z1
      generalize wr.drew = w3 at *
      have y0 := hHeld.1
      have y3 := hHeld.2.1
      have y4 := hHeld.2.2.1
      have z0 := hHeld.2.2.2.1
      have z1 := hHeld.2.2.2.2
      refine tkYes (i := 0) (v := ?_) rfl rfl (by kernel_rfl) (by kernel_rfl) (by kernel_rfl) (fun _ _ _ h => h) (by rfl) ?_ (by assumption) ?_
      rotate_left
      · (intro w' hSw; (try dsimp only at hSw); go_simp; try with_reducible rfl)
      try simp only [Act.put, List.setIfInBounds_toArray, List.set_cons_zero, List.set_cons_succ]
      refine tkYes (i := 1) (v := ?_) rfl rfl (by kernel_rfl) (by kernel_rfl) (by kernel_rfl) (fun _ _ _ h => h) (by rfl) ?_ (by assumption) ?_
      rotate_left
      · (intro w' hSw; (try dsimp only at hSw); go_simp; try with_reducible rfl)
      try simp only [Act.put, List.setIfInBounds_toArray, List.set_cons_zero, List.set_cons_succ]
      refine tkYes (i := 2) (v := ?_) rfl rfl (by kernel_rfl) (by kernel_rfl) (by kernel_rfl) (fun _ _ _ h => h) (by rfl) ?_ (by assumption) ?_
      rotate_left
      · (intro w' hSw; (try dsimp only at hSw); go_simp; try with_reducible rfl)
      try simp only [Act.put, List.setIfInBounds_toArray, List.set_cons_zero, List.set_cons_succ]
      refine tkYes (i := 3) (v := ?_) rfl rfl (by kernel_rfl) (by kernel_rfl) (by kernel_rfl) (fun _ _ _ h => h) (by rfl) ?_ (by assumption) ?_
      rotate_left
      · (intro w' hSw; (try dsimp only at hSw); go_simp; try with_reducible rfl)
      try simp only [Act.put, List.setIfInBounds_toArray, List.set_cons_zero, List.set_cons_succ]
      refine tkYes (i := 4) (v := ?_) rfl rfl (by kernel_rfl) (by kernel_rfl) (by kernel_rfl) (fun _ _ _ h => h) (by rfl) ?_ (by assumption) ?_
      rotate_left
      · (intro w' hSw; (try dsimp only at hSw); go_simp; try with_reducible rfl)
      try simp only [Act.put, List.setIfInBounds_toArray, List.set_cons_zero, List.set_cons_succ]
      refine tkYes (i := 5) (v := .pointer (some ⟨b2, i, none⟩)) rfl rfl (by kernel_rfl) (by kernel_rfl) (by kernel_rfl) (fun _ _ _ h => h) (by rfl) ?_ (by assumption) ?_
      skip
      · (intro w' hSw; (try dsimp only at hSw); go_simp; try (intro hbad; omega))
      try simp only [Act.put, List.setIfInBounds_toArray, List.set_cons_zero, List.set_cons_succ]
      refine tkYes (i := 6) (v := ?_) rfl rfl (by kernel_rfl) (by kernel_rfl) (by kernel_rfl) (fun _ _ _ h => h) (by rfl) ?_ (by assumption) ?_
      rotate_left
      · (intro w' hSw; (try dsimp only at hSw); go_simp; try with_reducible rfl)
      try simp only [Act.put, List.setIfInBounds_toArray, List.set_cons_zero, List.set_cons_succ]
      refine tkYes (i := 7) (v := ?_) rfl rfl (by kernel_rfl) (by kernel_rfl) (by kernel_rfl) (fun _ _ _ h => h) (by rfl) ?_ (by assumption) ?_
      rotate_left
      · (intro w' hSw; (try dsimp only at hSw); go_simp; try with_reducible rfl)
      try simp only [Act.put, List.setIfInBounds_toArray, List.set_cons_zero, List.set_cons_succ]
      refine tkYes (i := 8) (v := ?_) rfl rfl (by kernel_rfl) (by kernel_rfl) (by kernel_rfl) (fun _ _ _ h => h) (by rfl) ?_ (by assumption) ?_
      rotate_left
      · (intro w' hSw; (try dsimp only at hSw); go_simp; try with_reducible rfl)
      try simp only [Act.put, List.setIfInBounds_toArray, List.set_cons_zero, List.set_cons_succ]
      refine tkYes (i := 9) (v := ?_) rfl rfl (by kernel_rfl) (by kernel_rfl) (by kernel_rfl) (fun _ _ _ h => h) (by rfl) ?_ (by assumption) ?_
      rotate_left
      · (intro w' hSw; (try dsimp only at hSw); go_simp; try with_reducible rfl)
      try simp only [Act.put, List.setIfInBounds_toArray, List.set_cons_zero, List.set_cons_succ]
      refine tkYes (i := 10) (v := .int .i64 ((i : Int) + 1)) rfl rfl (by kernel_rfl) (by kernel_rfl) (by kernel_rfl) (fun _ _ _ h => h) (by rfl) ?_ (by assumption) ?_
      skip
      · (intro w' hSw; (try dsimp only at hSw); go_simp; try (rw [hwk]))
      try simp only [Act.put, List.setIfInBounds_toArray, List.set_cons_zero, List.set_cons_succ]
      refine tkYes (i := 11) (v := .pointer (some ⟨b2, i + 1, none⟩)) rfl rfl (by kernel_rfl) (by kernel_rfl) (by kernel_rfl) (fun _ _ _ h => h) (by rfl) ?_ (by assumption) ?_
      skip
      · (intro w' hSw; (try dsimp only at hSw); go_simp; try (intro hbad; omega))
      try simp only [Act.put, List.setIfInBounds_toArray, List.set_cons_zero, List.set_cons_succ]
      refine tkYes (i := 12) (v := ?_) rfl rfl (by kernel_rfl) (by kernel_rfl) (by kernel_rfl) (fun _ _ _ h => h) (by rfl) ?_ (by assumption) ?_
      rotate_left
      · (intro w' hSw; (try dsimp only at hSw); go_simp; try with_reducible rfl)
      try simp only [Act.put, List.setIfInBounds_toArray, List.set_cons_zero, List.set_cons_succ]
      refine tkYes (i := 13) (v := .slice B (e - s) (c3 - s)) rfl rfl (by kernel_rfl) (by kernel_rfl) (by kernel_rfl) (fun _ _ _ h => h) (by rfl) ?_ (by assumption) ?_
      skip
      · (intro w' hSw; (try dsimp only at hSw); go_simp; try (rw [hsl]))
      try simp only [Act.put, List.setIfInBounds_toArray, List.set_cons_zero, List.set_cons_succ]
      refine tkYes (i := 14) (v := ?_) rfl rfl (by kernel_rfl) (by kernel_rfl) (by kernel_rfl) (fun _ _ _ h => h) (by rfl) ?_ (by assumption) ?_
      rotate_left
      · (intro w' hSw; (try dsimp only at hSw); go_simp; try with_reducible rfl)
      try simp only [Act.put, List.setIfInBounds_toArray, List.set_cons_zero, List.set_cons_succ]
      refine tkYes (i := 15) (v := ?_) rfl rfl (by kernel_rfl) (by kernel_rfl) (by kernel_rfl) (fun _ _ _ h => h) (by rfl) ?_ (by assumption) ?_
      rotate_left
      · (intro w' hSw; (try dsimp only at hSw); go_simp; try with_reducible rfl)
      try simp only [Act.put, List.setIfInBounds_toArray, List.set_cons_zero, List.set_cons_succ]
      refine wpAnyH_ready (rs := [16]) (by kernel_rfl) (by simp) ?_
      refine AllReadyH.cons rfl (fun K hK => ?_) AllReadyH.nil
      go_simp
      go_at_call 134
      have HRW := Lib.hid (rising_true ((rowL l k).map (fun e => e.2.1)) n B (c3 - s) w3 HRL.out HNN.out (HRR.out w3 HM.out) HRI.out HRC.out)
      rw [HRE.out] at HRW
      refine HRW.out.mono ?_
      rintro x wn ⟨rfl, rfl⟩
      go_wp2_with fail
      refine hK.out _ _ ?_ (fun hHeld => ?_)
      · exact ⟨y0, y3, y4, z0, z1⟩
      clear hK K
      try simp only [Act.put, List.setIfInBounds_toArray, List.set_cons_zero, List.set_cons_succ]
      refine tkYes (i := 17) (v := ?_) rfl rfl (by kernel_rfl) (by kernel_rfl) (by kernel_rfl) (fun _ _ _ h => h) (by rfl) ?_ (by assumption) ?_
      rotate_left
      · (intro w' hSw; (try dsimp only at hSw); go_simp; try with_reducible rfl)
      try simp only [Act.put, List.setIfInBounds_toArray, List.set_cons_zero, List.set_cons_succ]
      refine wpAnyH_done (by kernel_rfl) ?_ _
      go_wp2_with fail
      go_roundw
      case rel => exact ⟨i + 1, by omega, by go_num, HM, HX, K0⟩
      case measure => simp [intOf]; omega
    · go_wp2_with fail
      go_ret
      exact ⟨rfl, K0.out⟩
set_option maxRecDepth 100000 in
theorem sureD_same (n base : Nat) (l : List Ed) (v1 v2 v3 v4 : Value) (w : World) (hok : MtOk n l) (hm : DcAt w base v1 v2 v3 v4 l) :
    Calls Try.prog 61 #[.agg #[.int .i64 n, .int .i64 n, v1, v2, v3, v4]] w fun e w' => e = .returned (.agg #[.int .i64 n, .int .i64 n, v1, v2, v3, v4]) ∧ Kept [] w w' := by
  obtain ⟨A1, c1, b2, c2, A3, c3, A4, c4, rfl, rfl, rfl, rfl, _, _⟩ := hm.form
  have HOK := Lib.hid hok
  have HX := Lib.hid ((Blk.new w 49 [.int .i64 n, .int .i64 n, .slice A1 (atP l).length c1, .slice (some ⟨b2, 0, none⟩) ((atP l).length + 1) c2, .slice A3 l.length c3, .slice A4 l.length c4]).alloc (.cells #[.int .i64 0, .int .i64 0, .slice none 0 0, .slice none 0 0, .slice none 0 0, .slice none 0 0] 49))
  have HZ := Lib.hid (Blk.new1F w (.cells #[.int .i64 n, .int .i64 n, .slice A1 (atP l).length c1, .slice (some ⟨b2, 0, none⟩) ((atP l).length + 1) c2, .slice A3 l.length c3, .slice A4 l.length c4] 49) 49 [.int .i64 0, .int .i64 0, .slice none 0 0, .slice none 0 0, .slice none 0 0, .slice none 0 0])
  have K0 := Lib.hid (((Kept.refl [] w).alloc (.cells #[.int .i64 n, .int .i64 n, .slice A1 (atP l).length c1, .slice (some ⟨b2, 0, none⟩) ((atP l).length + 1) c2, .slice A3 l.length c3, .slice A4 l.length c4] 49)).alloc (.cells #[.int .i64 0, .int .i64 0, .slice none 0 0, .slice none 0 0, .slice none 0 0, .slice none 0 0] 49))
  have HM := Lib.hid (hm.kept0 K0.out)
  have HGZ := Lib.hid (show w.heap.size ≤ w.heap.size + 1 by omega)
  clear hm hok
  go_enter Try.func61, Try.ntmps61
  go_upto_region 1 with (fail)
  generalize ((w.alloc (.cells #[.int .i64 n, .int .i64 n, .slice A1 (atP l).length c1, .slice (some ⟨b2, 0, none⟩) ((atP l).length + 1) c2, .slice A3 l.length c3, .slice A4 l.length c4] 49)).alloc (.cells #[.int .i64 0, .int .i64 0, .slice none 0 0, .slice none 0 0, .slice none 0 0, .slice none 0 0] 49)) = w1 at *
  generalize w.heap.size + 1 = gz at HZ HGZ ⊢
  generalize hgq : w.heap.size = g1 at HX ⊢
  clear hgq
  go_wp2_with (first | (refine wpList_loadBlk rfl 49 (.tmp 1) rfl g1 [.int .i64 n, .int .i64 n, .slice A1 (atP l).length c1, .slice (some ⟨b2, 0, none⟩) ((atP l).length + 1) c2, .slice A3 l.length c3, .slice A4 l.length c4] _ HX.out rfl Try.underlying49 rfl infoCols ?_))
  refine (rightD_true n base l _ _ _ _ w1 HOK.out HM.out).mono ?_
  rintro _ w2 ⟨rfl, hk2⟩
  replace HX := Lib.hid (HX.out.kept hk2 (by simp))
  replace HZ := Lib.hid (HZ.out.kept hk2 (by simp))
  replace K0 := Lib.hid (K0.out.trans hk2)
  clear hk2
  go_wp2_with (first | (refine wpList_loadBlk rfl 49 (.tmp 1) rfl g1 [.int .i64 n, .int .i64 n, .slice A1 (atP l).length c1, .slice (some ⟨b2, 0, none⟩) ((atP l).length + 1) c2, .slice A3 l.length c3, .slice A4 l.length c4] _ HX.out rfl Try.underlying49 rfl infoCols ?_) | (refine wpList_storeBlk rfl 49 (.tmp 2) (.tmp 5) rfl gz _ [.int .i64 n, .int .i64 n, .slice A1 (atP l).length c1, .slice (some ⟨b2, 0, none⟩) ((atP l).length + 1) c2, .slice A3 l.length c3, .slice A4 l.length c4] HZ.out rfl rfl rfl infoCols (by simp [Value.oneCell']) ?_; intro w8 hb8 hk8))
  have e0 := hb8.cell 0
  have e1 := hb8.cell 1
  have e2 := hb8.cell 2
  have e3 := hb8.cell 3
  have e4 := hb8.cell 4
  have e5 := hb8.cell 5
  simp only [List.getElem?_cons_zero, List.getElem?_cons_succ] at e0 e1 e2 e3 e4 e5
  refine bodyPost_ret (v := .agg #[.int .i64 n, .int .i64 n, .slice A1 (atP l).length c1, .slice (some ⟨b2, 0, none⟩) ((atP l).length + 1) c2, .slice A3 l.length c3, .slice A4 l.length c4]) (by simp [results, Try.results61, go_sem, e0, e1, e2, e3, e4, e5]) rfl ?_
  exact ⟨rfl, K0.out.then hk8 (fun u hu => by simp at hu; subst hu; exact .inr HGZ.out)⟩
theorem fieldCols4 (n m : Int) (a b c d : Value) : ∀ w : World, (Instr.field 49 (.agg #[.int .i64 n, .int .i64 m, a, b, c, d]) 4).run Try.prog w = .ok c w := fun w => by kernel_rfl
set_option maxRecDepth 100000 in
theorem countD_any (n base : Nat) (l : List Ed) (v1 v2 v3 v4 : Value) (w : World) (hok : MtOk n l) (hm : DcAt w base v1 v2 v3 v4 l) :
    Calls Try.prog 21 #[.agg #[.int .i64 n, .int .i64 n, v1, v2, v3, v4]] w fun e w' => e = .returned (.int .i64 (l.length : Int)) ∧ Kept [] w w' := by
  obtain ⟨A1, c1, b2, c2, A3, c3, A4, c4, rfl, rfl, rfl, rfl, _, _⟩ := hm.form
  have HX := Lib.hid (Blk.new w 49 [.int .i64 n, .int .i64 n, .slice A1 (atP l).length c1, .slice (some ⟨b2, 0, none⟩) ((atP l).length + 1) c2, .slice A3 l.length c3, .slice A4 l.length c4])
  have K0 := Lib.hid ((Kept.refl [] w).alloc (.cells #[.int .i64 n, .int .i64 n, .slice A1 (atP l).length c1, .slice (some ⟨b2, 0, none⟩) ((atP l).length + 1) c2, .slice A3 l.length c3, .slice A4 l.length c4] 49))
  have HM := Lib.hid (hm.kept0 K0.out)
  have HOK := Lib.hid hok
  clear hm hok
  have hfd := fieldCols4 n n (.slice A1 (atP l).length c1) (.slice (some ⟨b2, 0, none⟩) ((atP l).length + 1) c2) (.slice A3 l.length c3) (.slice A4 l.length c4)
  go_enter Try.func21, Try.ntmps21
  go_upto_region 1 with (fail)
  generalize w.alloc (.cells #[.int .i64 n, .int .i64 n, .slice A1 (atP l).length c1, .slice (some ⟨b2, 0, none⟩) ((atP l).length + 1) c2, .slice A3 l.length c3, .slice A4 l.length c4] 49) = w1 at *
  generalize w.heap.size = g1 at HX ⊢
  go_wp2_with (first | (refine wpList_loadBlk rfl 49 (.tmp 1) rfl g1 [.int .i64 n, .int .i64 n, .slice A1 (atP l).length c1, .slice (some ⟨b2, 0, none⟩) ((atP l).length + 1) c2, .slice A3 l.length c3, .slice A4 l.length c4] _ HX.out rfl Try.underlying49 rfl infoCols ?_))
  refine (sureD_same n base l _ _ _ _ w1 HOK.out HM.out).mono ?_
  rintro _ w2 ⟨rfl, hk2⟩
  replace K0 := Lib.hid (K0.out.trans hk2)
  clear hk2
  go_wp2_with fail
  go_ret
  exact ⟨rfl, K0.out⟩
end Go.Proofs.Ytibjpjpbmkdddaa
