/- csr.Right, csr.sure: a matrix of triples that rise is right. -/
import Derived.Test.YtblfingmdipopaaGreatM19
import Derived.Test.YtblfingmdipopaaGreatM18
namespace Go.Proofs.YtblfingmdipopaaGreat
set_option linter.unusedSimpArgs false
set_option linter.unusedVariables false
open Go.ChangeShapes Go.WideShapes Go.ChangeAt Go.RowKit
open Go.RowKit (wrap32 wrap64)
set_option maxHeartbeats 8000000
theorem within_c (a b : Int) (w : World) : Calls Tryz.prog 85 #[.int .i64 a, .int .i64 b] w fun e w' => e = .returned (.bool (decide (0 ≤ a) && decide (a ≤ b))) ∧ w' = w := by
  by_cases h1 : 0 ≤ a
  · have HD := Lib.hid (show (decide (0 ≤ a) && decide (a ≤ b)) = decide (a ≤ b) by simp [h1])
    go_enter Tryz.func85, Tryz.ntmps85
    go_wp2_with fail
    go_ret
    exact ⟨ret_bool (by rw [HD.out]), rfl⟩
  · have HD := Lib.hid (show (decide (0 ≤ a) && decide (a ≤ b)) = false by simp [h1])
    go_enter Tryz.func85, Tryz.ntmps85
    go_wp2_with fail
    go_ret
    exact ⟨ret_bool (by rw [HD.out]), rfl⟩
theorem less_any (a b : Int) (w : World) : Calls Tryz.prog 127 #[.int .i64 a, .int .i64 b] w fun e w' => e = .returned (.bool (decide (a < b))) ∧ w' = w := by
  go_enter Tryz.func127, Tryz.ntmps127
  go_wp2_with fail
  refine (isNaN_int a _).mono ?_
  rintro x w' ⟨rfl, rfl⟩
  go_wp2_with fail
  go_ret
  exact ⟨rfl, rfl⟩
theorem ints_at {w : World} {A : Option Addr} {xs : List Int} (h : Reads w A (xs.map vI)) {k : Nat} (hk : k < xs.length) : ∃ b off, A = some ⟨b, off, none⟩ ∧ b < w.heap.size ∧ ∀ j (hj : j < xs.length), w.cell? ⟨b, off + j, none⟩ = some (.int .i64 xs[j]) := by
  obtain ⟨b, off, e, hb, hc⟩ := h (by intro h0; rw [List.map_eq_nil_iff] at h0; rw [h0] at hk; simp at hk)
  exact ⟨b, off, e, hb, fun j hj => hc j _ (by simp [hj])⟩
/-- A slice of a slice reads as the part. -/
theorem Reads.sliced {w : World} {A : Option Addr} {xs : List Value} {l h m : Nat} (hr : Reads w A xs) (h1 : l ≤ h) (h2 : h ≤ m) (h3 : h ≤ xs.length) : Reads w (if m = l then A else A.map (·.add (l * 1))) ((xs.drop l).take (h - l)) := by
  intro hne
  have hx : xs ≠ [] := by rintro rfl; simp at hne
  obtain ⟨b, off, rfl, hb, hc⟩ := hr hx
  have hlh : l < h := by
    rcases Nat.lt_or_ge l h with h' | h'
    · exact h'
    · exfalso
      apply hne
      rw [show h - l = 0 by omega]
      rfl
  rw [if_neg (by omega)]
  refine ⟨b, off + l, by simp [Addr.add], hb, fun j u hu => ?_⟩
  rw [List.getElem?_take] at hu
  split at hu
  · rw [List.getElem?_drop] at hu
    rw [Nat.add_assoc]
    exact hc _ _ hu
  · cases hu
theorem sl_int {s e L c : Nat} (A : Option Addr) (h1 : s ≤ e) (h2 : e ≤ c) : ∀ w : World, (Instr.sliceAt 28 (.slice A L c) (some (.int .i64 (s : Int))) (some (.int .i64 (e : Int))) none).run Tryz.prog w = .ok (.slice (if c = s then A else A.map (·.add (s * 1))) (e - s) (c - s)) w := fun w => by
  rw [run_sliceAt_slice _ _ _ _ _ _ (by kernel_rfl), run_slice_lh _ _ _ _ _ (by kernel_rfl) _ _ _ _ (by omega) (by omega) (by omega)]
  rw [show ((sizeOf (Tryz.prog.elem 28)).run Tryz.prog w) = .ok 1 w by kernel_rfl]
  rfl
set_option maxRecDepth 100000 in
theorem sorted_true (xs : List Int) (A : Option Addr) (c : Nat) (w : World) (hl : xs.length ≤ 1048576) (hA : Reads w A (xs.map vI)) (hs : ∀ j (h : j + 1 < xs.length), xs[j] ≤ xs[j + 1]) :
    Calls Tryz.prog 86 #[.slice A xs.length c] w fun e w' => e = .returned (.bool true) ∧ Kept [] w w' := by
  have HA := Lib.hid hA
  have HS := Lib.hid hs
  have K0 := Lib.hid (Kept.refl [] w)
  clear hA hs
  go_enter Tryz.func86, Tryz.ntmps86
  go_wp2_with fail
  go_loopw [3] (fun i wr => ∃ z : Int, i = .int .i64 z ∧ z < (xs.length : Int) ∧ -1 ≤ z ∧ Hid (Kept [] w wr)) (fun i _ => (intOf i).toNat)
  case atStart => exact ⟨_, rfl, by omega, by omega, K0⟩
  case round =>
    clear K0
    obtain ⟨z, rfl, hz1, hz2, K0⟩ := hrel
    by_cases hz : 0 < z
    · obtain ⟨k, rfl⟩ : ∃ k : Nat, z = (k : Int) + 1 := ⟨(z - 1).toNat, by omega⟩
      have hk : k + 1 < xs.length := by omega
      have HLE := Lib.hid (HS.out k hk)
      obtain ⟨b, off, rfl, hb, hc⟩ := ints_at (HA.out.kept0 K0.out) hk
      have c0 := hc k (by omega)
      have c1 := hc (k + 1) hk
      obtain ⟨p, hp⟩ : ∃ p, p = xs[k] := ⟨_, rfl⟩
      obtain ⟨q, hq⟩ : ∃ q, q = xs[k + 1] := ⟨_, rfl⟩
      rw [← hp] at c0 HLE
      rw [← hq] at c1 HLE
      have HD := Lib.hid (show decide (q < p) = false by simp; exact HLE.out)
      clear hp hq hc hz
      have hwk : IntKind.i64.wrap (k : Int) = (k : Int) := by rw [IntKind.wrap_i64]; omega
      go_upto_region 4 with (fail)
      refine wp_region_held_drew (S := (fun w' => Kept [] w w' ∧ w'.cell? ⟨b, off + k, none⟩ = some (.int .i64 p) ∧ w'.cell? ⟨b, off + (k + 1), none⟩ = some (.int .i64 q))) (by kernel_rfl) ?_ (fun hHeld => ?_)
      · exact ⟨K0.out.drew, c0, c1⟩
      replace K0 := Lib.hid K0.out.drew
      generalize wr.drew = w3 at *
      have d0 : w3.cell? ⟨b, off + k, none⟩ = some (.int .i64 p) := hHeld.2.1
      have d1 : w3.cell? ⟨b, off + (k + 1), none⟩ = some (.int .i64 q) := hHeld.2.2
      refine tkYes (i := 0) (v := ?_) rfl rfl (by kernel_rfl) (by kernel_rfl) (by kernel_rfl) (fun _ _ _ h => h) (by rfl) ?_ (by assumption) ?_
      rotate_left
      · (intro w' hSw; (try dsimp only at hSw); go_simp; try with_reducible rfl)
      try simp only [Act.put, List.setIfInBounds_toArray, List.set_cons_zero, List.set_cons_succ]
      refine tkYes (i := 1) (v := ?_) rfl rfl (by kernel_rfl) (by kernel_rfl) (by kernel_rfl) (fun _ _ _ h => h) (by rfl) ?_ (by assumption) ?_
      rotate_left
      · (intro w' hSw; (try dsimp only at hSw); go_simp; try with_reducible rfl)
      try simp only [Act.put, List.setIfInBounds_toArray, List.set_cons_zero, List.set_cons_succ]
      refine tkYes (i := 2) (v := .pointer (some ⟨b, off + (k + 1), none⟩)) rfl rfl (by kernel_rfl) (by kernel_rfl) (by kernel_rfl) (fun _ _ _ h => h) (by rfl) ?_ (by assumption) ?_
      skip
      · (intro w' hSw; (try dsimp only at hSw); go_simp; try (intro hbad; omega))
      try simp only [Act.put, List.setIfInBounds_toArray, List.set_cons_zero, List.set_cons_succ]
      refine tkYes (i := 3) (v := ?_) rfl rfl (by kernel_rfl) (by kernel_rfl) (by kernel_rfl) (fun _ _ _ h => h) (by rfl) ?_ (by assumption) ?_
      rotate_left
      · (intro w' hSw; (try dsimp only at hSw); go_simp; try with_reducible rfl)
      try simp only [Act.put, List.setIfInBounds_toArray, List.set_cons_zero, List.set_cons_succ]
      refine tkYes (i := 4) (v := ?_) rfl rfl (by kernel_rfl) (by kernel_rfl) (by kernel_rfl) (fun _ _ _ h => h) (by rfl) ?_ (by assumption) ?_
      rotate_left
      · (intro w' hSw; (try dsimp only at hSw); go_simp; try with_reducible rfl)
      try simp only [Act.put, List.setIfInBounds_toArray, List.set_cons_zero, List.set_cons_succ]
      refine tkYes (i := 5) (v := ?_) rfl rfl (by kernel_rfl) (by kernel_rfl) (by kernel_rfl) (fun _ _ _ h => h) (by rfl) ?_ (by assumption) ?_
      rotate_left
      · (intro w' hSw; (try dsimp only at hSw); go_simp; try with_reducible rfl)
      try simp only [Act.put, List.setIfInBounds_toArray, List.set_cons_zero, List.set_cons_succ]
      refine tkYes (i := 6) (v := .int .i64 (k : Int)) rfl rfl (by kernel_rfl) (by kernel_rfl) (by kernel_rfl) (fun _ _ _ h => h) (by rfl) ?_ (by assumption) ?_
      skip
      · (intro w' hSw; (try dsimp only at hSw); go_simp; try (rw [hwk]))
      try simp only [Act.put, List.setIfInBounds_toArray, List.set_cons_zero, List.set_cons_succ]
      refine tkYes (i := 7) (v := .pointer (some ⟨b, off + k, none⟩)) rfl rfl (by kernel_rfl) (by kernel_rfl) (by kernel_rfl) (fun _ _ _ h => h) (by rfl) ?_ (by assumption) ?_
      skip
      · (intro w' hSw; (try dsimp only at hSw); go_simp; try (intro hbad; omega))
      try simp only [Act.put, List.setIfInBounds_toArray, List.set_cons_zero, List.set_cons_succ]
      refine tkYes (i := 8) (v := ?_) rfl rfl (by kernel_rfl) (by kernel_rfl) (by kernel_rfl) (fun _ _ _ h => h) (by rfl) ?_ (by assumption) ?_
      rotate_left
      · (intro w' hSw; (try dsimp only at hSw); go_simp; try with_reducible rfl)
      try simp only [Act.put, List.setIfInBounds_toArray, List.set_cons_zero, List.set_cons_succ]
      refine wpAnyH_ready (rs := [9]) (by kernel_rfl) (by simp) ?_
      refine AllReadyH.cons rfl (fun K hK => ?_) AllReadyH.nil
      go_simp
      go_at_call 127
      refine (less_any q p _).mono ?_
      rintro x wn ⟨rfl, rfl⟩
      rw [HD.out]
      go_wp2_with fail
      refine hK.out _ _ ?_ (fun hHeld => ?_)
      · exact ⟨K0.out, d0, d1⟩
      clear hK K
      try simp only [Act.put, List.setIfInBounds_toArray, List.set_cons_zero, List.set_cons_succ]
      refine wpAnyH_done (by kernel_rfl) ?_ _
      go_wp2_with fail
      go_roundw
      case rel => exact ⟨(k : Int), rfl, by omega, by omega, K0⟩
      case measure => simp [intOf]
    · go_wp2_with fail
      go_ret
      exact ⟨rfl, K0.out⟩
set_option maxRecDepth 100000 in
theorem row_true (xs : List Int) (cols : Int) (A : Option Addr) (c : Nat) (w : World) (hl : xs.length ≤ 1048576) (hcc : 0 ≤ cols ∧ cols ≤ 4096) (hA : Reads w A (xs.map vI)) (hin : ∀ x ∈ xs, 0 ≤ x ∧ x < cols) (hs : ∀ j (h : j + 1 < xs.length), xs[j] < xs[j + 1]) :
    Calls Tryz.prog 87 #[.slice A xs.length c, .int .i64 cols] w fun e w' => e = .returned (.bool true) ∧ w' = w := by
  have HA := Lib.hid hA
  have HS := Lib.hid hs
  have HI := Lib.hid hin
  clear hA hs hin
  go_enter Tryz.func87, Tryz.ntmps87
  go_wp2_with fail
  go_loopw [9] (fun i wr => ∃ k : Nat, k ≤ xs.length ∧ i = .int .i64 k ∧ wr = w) (fun i _ => xs.length - (intOf i).toNat)
  case atStart => exact ⟨0, Nat.zero_le _, rfl, rfl⟩
  case round =>
    obtain ⟨k, hk, rfl, hw⟩ := hrel
    subst hw
    by_cases hlt : k < xs.length
    · have HX := Lib.hid (HI.out xs[k] (List.getElem_mem _))
      obtain ⟨b, off, rfl, hb, hc⟩ := ints_at HA.out hlt
      have c1 := hc k hlt
      have HC := Lib.hid hc
      clear hc
      obtain ⟨q, hq⟩ : ∃ q, q = xs[k] := ⟨_, rfl⟩
      rw [← hq] at c1 HX
      have HQ := Lib.hid hq
      clear hq
      have HD := Lib.hid (show (decide (0 ≤ q) && decide (q ≤ cols - 1)) = true by have := HX.out; simp; omega)
      go_wp2_with fail
      refine (within_c q (cols - 1) _).mono ?_
      rintro _ wn ⟨rfl, rfl⟩
      rw [HD.out]
      by_cases hk0 : k = 0
      · subst hk0
        go_wp2_with fail
        go_roundw
        case rel => exact ⟨1, by omega, by go_num, by trivial⟩
        case measure => simp [intOf]; omega
      · obtain ⟨m, rfl⟩ : ∃ m, k = m + 1 := ⟨k - 1, by omega⟩
        have c0 := HC.out m (by omega)
        have HP := Lib.hid (HS.out m hlt)
        rw [← HQ.out] at HP
        obtain ⟨p, hp⟩ : ∃ p, p = xs[m] := ⟨_, rfl⟩
        rw [← hp] at c0 HP
        clear hp hk0
        have HL := HP.out
        go_wp2_with fail
        go_roundw
        case rel => exact ⟨m + 1 + 1, by omega, by go_num, by trivial⟩
        case measure => simp [intOf]; omega
    · obtain rfl : k = xs.length := by omega
      go_wp2_with fail
      go_ret
      exact ⟨rfl, rfl⟩
/-- The edges of a row. -/
def rowL (l : List Ed) (i : Nat) : List Ed := l.filter (fun e => decide (e.1 = (i : Int)))
def SortR (l : List Ed) : Prop := l.Pairwise (fun a b => a.1 ≤ b.1)
theorem sortR_split {l : List Ed} (h : SortR l) (i : Int) : l.filter (fun e => decide (e.1 < i)) ++ l.filter (fun e => decide (¬ e.1 < i)) = l := by
  induction l with
  | nil => rfl
  | cons x l ih =>
    unfold SortR at h
    rw [List.pairwise_cons] at h
    by_cases hx : x.1 < i
    · simp only [List.filter_cons, decide_eq_true_eq]
      rw [if_pos hx, if_neg (by omega), List.cons_append, ih h.2]
    · simp only [List.filter_cons, decide_eq_true_eq]
      rw [if_neg hx, if_pos hx, List.filter_eq_nil_iff.2 (fun e he => by have := h.1 e he; simp; omega), List.filter_eq_self.2 (fun e he => by have := h.1 e he; simp; omega)]
      rfl
theorem row_part {l : List Ed} (h : SortR l) (i : Nat) : (l.drop (belI l i).toNat).take ((belI l (i + 1)).toNat - (belI l i).toNat) = rowL l i := by
  have h1 := sortR_split h (i : Int)
  have hs : SortR (l.filter (fun e => decide (¬ e.1 < (i : Int)))) := List.Pairwise.filter _ h
  have h2 := sortR_split hs ((i : Int) + 1)
  have hb : (belI l i).toNat = (l.filter (fun e => decide (e.1 < (i : Int)))).length := by simp [belI]
  have hr : (l.filter (fun e => decide (¬ e.1 < (i : Int)))).filter (fun e => decide (e.1 < (i : Int) + 1)) = rowL l i := by
    rw [List.filter_filter]
    unfold rowL
    refine List.filter_congr (fun e _ => ?_)
    by_cases he : e.1 = (i : Int) <;> simp [he] <;> omega
  have hn : (belI l (i + 1)).toNat - (belI l i).toNat = (rowL l i).length := by
    rw [belI_succ]
    have := belI_in l i
    have e : cntI l (i + 1) = ((rowL l i).length : Int) := by
      unfold cntI rowL
      congr 2
      refine List.filter_congr (fun e _ => ?_)
      by_cases he : e.1 = (i : Int) <;> simp [he]
    omega
  rw [hr] at h2
  rw [hn]
  have h3 : l.drop (belI l i).toNat = l.filter (fun e => decide (¬ e.1 < (i : Int))) := by
    rw [hb]
    exact (congrArg (fun z => z.drop (l.filter (fun e => decide (e.1 < (i : Int)))).length) h1).symm.trans List.drop_left
  rw [h3, ← h2, List.take_left]
theorem bel_mono (l : List Ed) (i : Nat) : belI l i ≤ belI l (i + 1) := by
  rw [belI_succ]
  have := cntI_in l (i + 1)
  omega
theorem bel_all {l : List Ed} {n : Nat} (h : ∀ e ∈ l, e.1 < n) : belI l n = l.length := by
  unfold belI
  rw [List.filter_eq_self.2 (fun e he => by simpa using h e he)]
theorem start_mono (n : Nat) (l : List Ed) : ∀ j (h : j + 1 < (startP n l).length), (startP n l)[j] ≤ (startP n l)[j + 1] := fun j h => by
  have h1 := bel_mono l j
  simpa [startP, stL] using h1
theorem risesL_sortR {l : List Ed} (h : RisesL l) : SortR l := by
  refine List.Pairwise.imp ?_ h
  intro a b hab
  have : a.1 < b.1 ∨ (a.1 = b.1 ∧ a.2.1 < b.2.1) := by simpa [keyLt, keyOf] using hab
  omega
theorem rowL_cols {l : List Ed} (h : RisesL l) (i : Nat) : ((rowL l i).map (fun e => e.2.1)).Pairwise (· < ·) := by
  rw [List.pairwise_map]
  refine List.Pairwise.imp_of_mem ?_ (List.Pairwise.filter _ h)
  intro a b ha hb hab
  have h1 : a.1 = (i : Int) := by simpa using (List.mem_filter.1 ha).2
  have h2 : b.1 = (i : Int) := by simpa using (List.mem_filter.1 hb).2
  have : a.1 < b.1 ∨ (a.1 = b.1 ∧ a.2.1 < b.2.1) := by simpa [keyLt, keyOf] using hab
  omega
end Go.Proofs.YtblfingmdipopaaGreat

/- csr.part, csr.Triples, csr.Row, csr.Count of a matrix that is one. -/
namespace Go.Proofs.YtblfingmdipopaaGreat
set_option linter.unusedSimpArgs false
set_option linter.unusedVariables false
open Go.ChangeShapes Go.WideShapes Go.ChangeAt Go.RowKit
open Go.RowKit (wrap32 wrap64)
set_option maxHeartbeats 8000000
/-- The forms of a matrix's rows. -/
theorem MtAt.form {w : World} {base n : Nat} {v1 v2 v3 : Value} {l : List Ed} (hm : MtAt w base v1 v2 v3 n l) : ∃ b1 c1 A2 c2 A3 c3, v1 = .slice (some ⟨b1, 0, none⟩) (n + 1) c1 ∧ v2 = .slice A2 l.length c2 ∧ v3 = .slice A3 l.length c3 ∧ l.length ≤ c2 ∧ l.length ≤ c3 := by
  obtain ⟨A1, c1, rfl, hc1, _, hr1, hb1⟩ := own_form hm.o1
  obtain ⟨A2, c2, rfl, hc2, _, hr2, _⟩ := own_form hm.o2
  obtain ⟨A3, c3, rfl, hc3, _, hr3, _⟩ := own_form hm.o3
  obtain ⟨b1, o1, rfl, hb, hcs⟩ := ints_at hr1 (k := 0) (by simp [startP, stL])
  obtain ⟨q, hq, _⟩ := hb1 _ rfl
  injection hq with hq1 hq2
  subst hq1 hq2
  exact ⟨_, _, _, _, _, _, rfl, rfl, rfl, hc2, hc3⟩
theorem MtAt.start {w : World} {base n b1 c1 : Nat} {v2 v3 : Value} {l : List Ed} (h : MtAt w base (.slice (some ⟨b1, 0, none⟩) (n + 1) c1) v2 v3 n l) {j : Nat} (hj : j ≤ n) : w.cell? ⟨b1, j, none⟩ = some (.int .i64 (belI l j)) := by
  have h1 := (Reads.of_own h.o1)
  obtain ⟨b, o, e, _, hc⟩ := ints_at h1 (k := j) (by simp [startP, stL]; omega)
  injection e with e
  injection e with e1 e2
  subst e1 e2
  have := hc j (by simp [startP, stL]; omega)
  rw [Nat.zero_add] at this
  rw [this]
  simp [startP, stL]
theorem vals_at {w : World} {A : Option Addr} {l : List Ed} (h : Reads w A (valV l)) {k : Nat} (hk : k < l.length) : ∃ b off, A = some ⟨b, off, none⟩ ∧ b < w.heap.size ∧ w.cell? ⟨b, off + k, none⟩ = some (.int .i64 l[k].2.2) := by
  obtain ⟨b, off, e, hb, hc⟩ := h (by intro h0; unfold valV at h0; rw [List.map_eq_nil_iff] at h0; rw [h0] at hk; simp at hk)
  exact ⟨b, off, e, hb, hc k _ (by simp [valV, hk])⟩
theorem cols_at {w : World} {A : Option Addr} {l : List Ed} (h : Reads w A (colV l)) {k : Nat} (hk : k < l.length) : ∃ b off, A = some ⟨b, off, none⟩ ∧ b < w.heap.size ∧ w.cell? ⟨b, off + k, none⟩ = some (.int .i64 l[k].2.1) := by
  obtain ⟨b, off, e, hb, hc⟩ := h (by intro h0; unfold colV at h0; rw [List.map_eq_nil_iff] at h0; rw [h0] at hk; simp at hk)
  exact ⟨b, off, e, hb, hc k _ (by simp [colV, hk])⟩
end Go.Proofs.YtblfingmdipopaaGreat
