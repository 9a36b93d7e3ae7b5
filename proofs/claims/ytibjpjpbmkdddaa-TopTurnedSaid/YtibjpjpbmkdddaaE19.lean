/- Do edges rise? -/
import Derived.Test.YtibjpjpbmkdddaaE13
import Derived.Test.YtibjpjpbmkdddaaE15
namespace Go.Proofs.Ytibjpjpbmkdddaa
set_option linter.unusedSimpArgs false
set_option linter.unusedVariables false
open Go.ChangeShapes Go.WideShapes Go.ChangeAt Go.RowKit
open Go.RowKit (wrap32 wrap64)
set_option maxHeartbeats 8000000

abbrev keyOf (e : Ed) : Key := (e.1, e.2.1)
noncomputable def risesE (l : List Ed) : Bool := @decide (∀ i (h : i + 1 < l.length), keyLt (keyOf l[i]) (keyOf l[i + 1]) = true) (Classical.propDecidable _)
theorem risesE_true {l : List Ed} (h : ∀ i (h : i + 1 < l.length), keyLt (keyOf l[i]) (keyOf l[i + 1]) = true) : risesE l = true := by
  unfold risesE
  exact @decide_eq_true _ (Classical.propDecidable _) h
theorem risesE_false {l : List Ed} (h : ¬ ∀ i (h : i + 1 < l.length), keyLt (keyOf l[i]) (keyOf l[i + 1]) = true) : risesE l = false := by
  unfold risesE
  exact @decide_eq_false _ (Classical.propDecidable _) h
theorem endsI_lt (a b : Ed) : (0 ≤ endsI a b) ↔ keyLt (keyOf a) (keyOf b) = false := by
  have h := endsI_neg a b
  unfold keyLt
  rw [decide_eq_false_iff_not]
  dsimp only
  omega
theorem edge_range {w : World} {A : Option Addr} {l : List Ed} (h : Reads w A (l.flatMap edV)) {k : Nat} (hk : k < l.length) : ∃ b off, A = some ⟨b, off, none⟩ ∧ w.rangeAt b (off + k * 3) (edV l[k]) := by
  obtain ⟨b, off, e, _, hc⟩ := rec_cell (m := 3) (f := edV) (fun _ _ => rfl) (by decide) h hk
  exact ⟨b, off, e, fun j u hu => by rw [Nat.add_assoc]; exact hc j u hu⟩
set_option maxRecDepth 100000 in
theorem rises_any (l : List Ed) (A : Option Addr) (c : Nat) (w : World) (hl : l.length ≤ maxLen) (hr : Reads w A (l.flatMap edV)) :
    Calls Try.prog 27 #[.slice A l.length c] w fun e w' => e = .returned (.bool (risesE l)) ∧ Kept [] w w' := by
  unfold maxLen at hl
  have HR := Lib.hid hr
  clear hr
  go_enter Try.func27, Try.ntmps27
  go_wp2_with fail
  go_loopw [6] (fun i wr => ∃ k : Nat, k ≤ l.length ∧ i = .int .i64 k ∧ Hid (∀ i (h : i + 1 < l.length), i + 1 < k → keyLt (keyOf l[i]) (keyOf l[i + 1]) = true) ∧ Hid (Kept [] w wr)) (fun i _ => l.length - (intOf i).toNat)
  case atStart => exact ⟨0, Nat.zero_le _, rfl, Lib.hid (fun i h hi => absurd hi (by omega)), Lib.hid (Kept.refl _ _)⟩
  case round =>
    obtain ⟨k, hk, rfl, HN, K0⟩ := hrel
    by_cases hlt : k < l.length
    · rcases k with _ | q
      · go_upto_region 4 with (fail)
        go_quiet (fail)
        replace K0 := Lib.hid (K0.out.drewN nq)
        generalize World.drewN wr nq = w2 at *
        go_wp2_with fail
        go_roundw
        case rel => exact ⟨1, by omega, by go_num, Lib.hid (fun i h hi => absurd hi (by omega)), K0⟩
        case measure => simp [intOf]; omega
      · go_upto_region 4 with (fail)
        obtain ⟨b, off, rfl, hx⟩ := edge_range (HR.out.kept0 K0.out) (show q < l.length by omega)
        obtain ⟨b2, o2, eA, hy⟩ := edge_range (HR.out.kept0 K0.out) (show q + 1 < l.length by omega)
        cases eA
        obtain ⟨X, hX⟩ : ∃ X, X = l[q]'(by omega) := ⟨_, rfl⟩
        obtain ⟨Y, hY⟩ : ∃ Y, Y = l[q + 1]'(by omega) := ⟨_, rfl⟩
        rw [← hX] at hx
        rw [← hY] at hy
        have HX := Lib.hid hx
        have HY := Lib.hid hy
        have EX := Lib.hid hX
        have EY := Lib.hid hY
        clear hx hy hX hY
        have n1 : ¬ l.length ≤ q := by omega
        have n2 : ¬ ((q : Int) + 1 < 0) := by omega
        have n3 : ¬ (l.length : Int) ≤ (q : Int) + 1 := by omega
        have n4 : (q : Int) + 1 < (l.length : Int) := by omega
        have n5 : q < l.length := by omega
        have n6 : ¬ l.length ≤ q + 1 := by omega
        by_cases hb : keyLt (keyOf X) (keyOf Y) = true
        · have HB := Lib.hid hb
          have HE := Lib.hid (show ¬ 0 ≤ endsI X Y from fun h => by rw [(endsI_lt X Y).1 h] at hb; cases hb)
          clear hb
          refine wp_region_held_drew (S := (fun w' => w'.rangeAt b (off + q * 3) (edV X) ∧ w'.rangeAt b (off + (q + 1) * 3) (edV Y))) (by kernel_rfl) ?_ (fun hHeld => ?_)
          · exact ⟨HX.out, HY.out⟩
          replace K0 := Lib.hid (K0.out.drew)
          replace HX := Lib.hid (show World.rangeAt (World.drew _) b (off + q * 3) (edV X) from HX.out)
          replace HY := Lib.hid (show World.rangeAt (World.drew _) b (off + (q + 1) * 3) (edV Y) from HY.out)
          refine tkYes (i := 0) (v := ?_) rfl rfl (by kernel_rfl) (by kernel_rfl) (by kernel_rfl) (fun _ _ _ h => h) (by rfl) ?_ (by assumption) ?_
          rotate_left
          · (intro w' hSw; (try dsimp only at hSw); go_simp; try with_reducible rfl)
          try simp only [Act.put, List.setIfInBounds_toArray, List.set_cons_zero, List.set_cons_succ]
          refine tkYes (i := 1) (v := ?_) rfl rfl (by kernel_rfl) (by kernel_rfl) (by kernel_rfl) (fun _ _ _ h => h) (by rfl) ?_ (by assumption) ?_
          rotate_left
          · (intro w' hSw; (try dsimp only at hSw); go_simp; try with_reducible rfl)
          try simp only [Act.put, List.setIfInBounds_toArray, List.set_cons_zero, List.set_cons_succ]
          refine tkYes (i := 2) (v := ?_) rfl rfl (by kernel_rfl) (by kernel_rfl) (by kernel_rfl) (fun _ _ _ h => h) (by rfl) ?_ (by assumption) ?_
          rotate_left
          · (intro w' hSw; (try dsimp only at hSw); go_simp; try with_reducible rfl)
          try simp only [Act.put, List.setIfInBounds_toArray, List.set_cons_zero, List.set_cons_succ]
          refine tkYes (i := 3) (v := ?_) rfl rfl (by kernel_rfl) (by kernel_rfl) (by kernel_rfl) (fun _ _ _ h => h) (by rfl) ?_ (by assumption) ?_
          rotate_left
          · (intro w' hSw; (try dsimp only at hSw); go_simp; try with_reducible rfl)
          try simp only [Act.put, List.setIfInBounds_toArray, List.set_cons_zero, List.set_cons_succ]
          refine tkYes (i := 4) (v := ?_) rfl rfl (by kernel_rfl) (by kernel_rfl) (by kernel_rfl) (fun _ _ _ h => h) (by rfl) ?_ (by assumption) ?_
          rotate_left
          · (intro w' hSw; (try dsimp only at hSw); go_simp; try with_reducible rfl)
          try simp only [Act.put, List.setIfInBounds_toArray, List.set_cons_zero, List.set_cons_succ]
          refine tkYes (i := 5) (v := .int .i64 (q : Int)) rfl rfl (by kernel_rfl) (by kernel_rfl) (by kernel_rfl) (fun _ _ _ h => h) (by rfl) ?_ (by assumption) ?_
          skip
          · (intro w' hSw; (try dsimp only at hSw); go_simp; try rw [IntWalk.i64_in _ (by omega)])
          try simp only [Act.put, List.setIfInBounds_toArray, List.set_cons_zero, List.set_cons_succ]
          refine tkYes (i := 6) (v := .pointer (some ⟨b, off + q * 3, none⟩)) rfl rfl (by kernel_rfl) (by kernel_rfl) (by kernel_rfl) (fun _ _ _ h => h) (by rfl) ?_ (by assumption) ?_
          skip
          · (intro w' hSw; (try dsimp only at hSw); go_simp; try (simp; done))
          try simp only [Act.put, List.setIfInBounds_toArray, List.set_cons_zero, List.set_cons_succ]
          refine tkLoad (i := 7) 28 (.tmp 15) b (off + q * 3) (edV X) _ rfl rfl (by kernel_rfl) (by kernel_rfl) (by kernel_rfl) (fun _ _ _ h => h) (by rfl) rfl rfl (fun w hw => hw.1) Try.underlying28 rfl infoEdge (by assumption) ?_
          try simp only [Act.put, List.setIfInBounds_toArray, List.set_cons_zero, List.set_cons_succ]
          refine tkYes (i := 8) (v := ?_) rfl rfl (by kernel_rfl) (by kernel_rfl) (by kernel_rfl) (fun _ _ _ h => h) (by rfl) ?_ (by assumption) ?_
          rotate_left
          · (intro w' hSw; (try dsimp only at hSw); go_simp; try with_reducible rfl)
          try simp only [Act.put, List.setIfInBounds_toArray, List.set_cons_zero, List.set_cons_succ]
          refine tkYes (i := 9) (v := ?_) rfl rfl (by kernel_rfl) (by kernel_rfl) (by kernel_rfl) (fun _ _ _ h => h) (by rfl) ?_ (by assumption) ?_
          rotate_left
          · (intro w' hSw; (try dsimp only at hSw); go_simp; try with_reducible rfl)
          try simp only [Act.put, List.setIfInBounds_toArray, List.set_cons_zero, List.set_cons_succ]
          refine tkYes (i := 10) (v := .pointer (some ⟨b, off + (q + 1) * 3, none⟩)) rfl rfl (by kernel_rfl) (by kernel_rfl) (by kernel_rfl) (fun _ _ _ h => h) (by rfl) ?_ (by assumption) ?_
          skip
          · (intro w' hSw; (try dsimp only at hSw); go_simp; try (simp; done))
          try simp only [Act.put, List.setIfInBounds_toArray, List.set_cons_zero, List.set_cons_succ]
          refine tkLoad (i := 11) 28 (.tmp 19) b (off + (q + 1) * 3) (edV Y) _ rfl rfl (by kernel_rfl) (by kernel_rfl) (by kernel_rfl) (fun _ _ _ h => h) (by rfl) rfl rfl (fun w hw => hw.2) Try.underlying28 rfl infoEdge (by assumption) ?_
          try simp only [Act.put, List.setIfInBounds_toArray, List.set_cons_zero, List.set_cons_succ]
          refine wpAnyH_ready (rs := [12]) (by kernel_rfl) (by simp) ?_
          refine AllReadyH.cons rfl (fun K hK => ?_) AllReadyH.nil
          go_simp
          refine (ends_any X Y _).mono ?_
          rintro _ w5 ⟨rfl, hg5⟩
          have hk5 := hg5.kept
          clear hg5
          replace K0 := Lib.hid (K0.out.trans hk5)
          replace HX := Lib.hid (show w5.rangeAt b (off + q * 3) (edV X) from fun j u hu => Kept.cell_lt hk5 (HX.out j u hu))
          replace HY := Lib.hid (show w5.rangeAt b (off + (q + 1) * 3) (edV Y) from fun j u hu => Kept.cell_lt hk5 (HY.out j u hu))
          clear hk5
          go_wp2_with fail
          refine hK.out _ _ ?_ (fun hHeld => ?_)
          · exact ⟨HX.out, HY.out⟩
          clear hK K
          try simp only [Act.put, List.setIfInBounds_toArray, List.set_cons_zero, List.set_cons_succ]
          refine tkYes (i := 13) (v := .bool false) rfl rfl (by kernel_rfl) (by kernel_rfl) (by kernel_rfl) (fun _ _ _ h => h) (by rfl) ?_ (by assumption) ?_
          skip
          · (intro w' hSw; (try dsimp only at hSw); go_simp; have hh := HE.out; first | omega | (simp; omega))
          try simp only [Act.put, List.setIfInBounds_toArray, List.set_cons_zero, List.set_cons_succ]
          refine tkYes (i := 14) (v := ?_) rfl rfl (by kernel_rfl) (by kernel_rfl) (by kernel_rfl) (fun _ _ _ h => h) (by rfl) ?_ (by assumption) ?_
          rotate_left
          · (intro w' hSw; (try dsimp only at hSw); go_simp; try with_reducible rfl)
          try simp only [Act.put, List.setIfInBounds_toArray, List.set_cons_zero, List.set_cons_succ]
          refine wpAnyH_done (by kernel_rfl) ?_ _
          go_wp2_with fail
          go_roundw
          case rel =>
            refine ⟨q + 1 + 1, by omega, by go_num, Lib.hid (fun i h hi => ?_), K0⟩
            by_cases hiq : i = q
            · subst hiq
              have := HB.out
              rw [EX.out, EY.out] at this
              exact this
            · exact HN.out i h (by omega)
          case measure => simp [intOf]; omega
        · replace hb : keyLt (keyOf X) (keyOf Y) = false := by simpa using hb
          have HB := Lib.hid hb
          have HE := Lib.hid ((endsI_lt X Y).2 hb)
          clear hb
          refine wp_region_held_drew (S := (fun w' => w'.rangeAt b (off + q * 3) (edV X) ∧ w'.rangeAt b (off + (q + 1) * 3) (edV Y))) (by kernel_rfl) ?_ (fun hHeld => ?_)
          · exact ⟨HX.out, HY.out⟩
          replace K0 := Lib.hid (K0.out.drew)
          replace HX := Lib.hid (show World.rangeAt (World.drew _) b (off + q * 3) (edV X) from HX.out)
          replace HY := Lib.hid (show World.rangeAt (World.drew _) b (off + (q + 1) * 3) (edV Y) from HY.out)
          refine tkYes (i := 0) (v := ?_) rfl rfl (by kernel_rfl) (by kernel_rfl) (by kernel_rfl) (fun _ _ _ h => h) (by rfl) ?_ (by assumption) ?_
          rotate_left
          · (intro w' hSw; (try dsimp only at hSw); go_simp; try with_reducible rfl)
          try simp only [Act.put, List.setIfInBounds_toArray, List.set_cons_zero, List.set_cons_succ]
          refine tkYes (i := 1) (v := ?_) rfl rfl (by kernel_rfl) (by kernel_rfl) (by kernel_rfl) (fun _ _ _ h => h) (by rfl) ?_ (by assumption) ?_
          rotate_left
          · (intro w' hSw; (try dsimp only at hSw); go_simp; try with_reducible rfl)
          try simp only [Act.put, List.setIfInBounds_toArray, List.set_cons_zero, List.set_cons_succ]
          refine tkYes (i := 2) (v := ?_) rfl rfl (by kernel_rfl) (by kernel_rfl) (by kernel_rfl) (fun _ _ _ h => h) (by rfl) ?_ (by assumption) ?_
          rotate_left
          · (intro w' hSw; (try dsimp only at hSw); go_simp; try with_reducible rfl)
          try simp only [Act.put, List.setIfInBounds_toArray, List.set_cons_zero, List.set_cons_succ]
          refine tkYes (i := 3) (v := ?_) rfl rfl (by kernel_rfl) (by kernel_rfl) (by kernel_rfl) (fun _ _ _ h => h) (by rfl) ?_ (by assumption) ?_
          rotate_left
          · (intro w' hSw; (try dsimp only at hSw); go_simp; try with_reducible rfl)
          try simp only [Act.put, List.setIfInBounds_toArray, List.set_cons_zero, List.set_cons_succ]
          refine tkYes (i := 4) (v := ?_) rfl rfl (by kernel_rfl) (by kernel_rfl) (by kernel_rfl) (fun _ _ _ h => h) (by rfl) ?_ (by assumption) ?_
          rotate_left
          · (intro w' hSw; (try dsimp only at hSw); go_simp; try with_reducible rfl)
          try simp only [Act.put, List.setIfInBounds_toArray, List.set_cons_zero, List.set_cons_succ]
          refine tkYes (i := 5) (v := .int .i64 (q : Int)) rfl rfl (by kernel_rfl) (by kernel_rfl) (by kernel_rfl) (fun _ _ _ h => h) (by rfl) ?_ (by assumption) ?_
          skip
          · (intro w' hSw; (try dsimp only at hSw); go_simp; try rw [IntWalk.i64_in _ (by omega)])
          try simp only [Act.put, List.setIfInBounds_toArray, List.set_cons_zero, List.set_cons_succ]
          refine tkYes (i := 6) (v := .pointer (some ⟨b, off + q * 3, none⟩)) rfl rfl (by kernel_rfl) (by kernel_rfl) (by kernel_rfl) (fun _ _ _ h => h) (by rfl) ?_ (by assumption) ?_
          skip
          · (intro w' hSw; (try dsimp only at hSw); go_simp; try (simp; done))
          try simp only [Act.put, List.setIfInBounds_toArray, List.set_cons_zero, List.set_cons_succ]
          refine tkLoad (i := 7) 28 (.tmp 15) b (off + q * 3) (edV X) _ rfl rfl (by kernel_rfl) (by kernel_rfl) (by kernel_rfl) (fun _ _ _ h => h) (by rfl) rfl rfl (fun w hw => hw.1) Try.underlying28 rfl infoEdge (by assumption) ?_
          try simp only [Act.put, List.setIfInBounds_toArray, List.set_cons_zero, List.set_cons_succ]
          refine tkYes (i := 8) (v := ?_) rfl rfl (by kernel_rfl) (by kernel_rfl) (by kernel_rfl) (fun _ _ _ h => h) (by rfl) ?_ (by assumption) ?_
          rotate_left
          · (intro w' hSw; (try dsimp only at hSw); go_simp; try with_reducible rfl)
          try simp only [Act.put, List.setIfInBounds_toArray, List.set_cons_zero, List.set_cons_succ]
          refine tkYes (i := 9) (v := ?_) rfl rfl (by kernel_rfl) (by kernel_rfl) (by kernel_rfl) (fun _ _ _ h => h) (by rfl) ?_ (by assumption) ?_
          rotate_left
          · (intro w' hSw; (try dsimp only at hSw); go_simp; try with_reducible rfl)
          try simp only [Act.put, List.setIfInBounds_toArray, List.set_cons_zero, List.set_cons_succ]
          refine tkYes (i := 10) (v := .pointer (some ⟨b, off + (q + 1) * 3, none⟩)) rfl rfl (by kernel_rfl) (by kernel_rfl) (by kernel_rfl) (fun _ _ _ h => h) (by rfl) ?_ (by assumption) ?_
          skip
          · (intro w' hSw; (try dsimp only at hSw); go_simp; try (simp; done))
          try simp only [Act.put, List.setIfInBounds_toArray, List.set_cons_zero, List.set_cons_succ]
          refine tkLoad (i := 11) 28 (.tmp 19) b (off + (q + 1) * 3) (edV Y) _ rfl rfl (by kernel_rfl) (by kernel_rfl) (by kernel_rfl) (fun _ _ _ h => h) (by rfl) rfl rfl (fun w hw => hw.2) Try.underlying28 rfl infoEdge (by assumption) ?_
          try simp only [Act.put, List.setIfInBounds_toArray, List.set_cons_zero, List.set_cons_succ]
          refine wpAnyH_ready (rs := [12]) (by kernel_rfl) (by simp) ?_
          refine AllReadyH.cons rfl (fun K hK => ?_) AllReadyH.nil
          go_simp
          refine (ends_any X Y _).mono ?_
          rintro _ w5 ⟨rfl, hg5⟩
          have hk5 := hg5.kept
          clear hg5
          replace K0 := Lib.hid (K0.out.trans hk5)
          replace HX := Lib.hid (show w5.rangeAt b (off + q * 3) (edV X) from fun j u hu => Kept.cell_lt hk5 (HX.out j u hu))
          replace HY := Lib.hid (show w5.rangeAt b (off + (q + 1) * 3) (edV Y) from fun j u hu => Kept.cell_lt hk5 (HY.out j u hu))
          clear hk5
          go_wp2_with fail
          refine hK.out _ _ ?_ (fun hHeld => ?_)
          · exact ⟨HX.out, HY.out⟩
          clear hK K
          try simp only [Act.put, List.setIfInBounds_toArray, List.set_cons_zero, List.set_cons_succ]
          refine tkYes (i := 13) (v := .bool true) rfl rfl (by kernel_rfl) (by kernel_rfl) (by kernel_rfl) (fun _ _ _ h => h) (by rfl) ?_ (by assumption) ?_
          skip
          · (intro w' hSw; (try dsimp only at hSw); go_simp; have hh := HE.out; first | omega | (simp; omega))
          try simp only [Act.put, List.setIfInBounds_toArray, List.set_cons_zero, List.set_cons_succ]
          refine tkYes (i := 14) (v := ?_) rfl rfl (by kernel_rfl) (by kernel_rfl) (by kernel_rfl) (fun _ _ _ h => h) (by rfl) ?_ (by assumption) ?_
          rotate_left
          · (intro w' hSw; (try dsimp only at hSw); go_simp; try with_reducible rfl)
          try simp only [Act.put, List.setIfInBounds_toArray, List.set_cons_zero, List.set_cons_succ]
          refine wpAnyH_done (by kernel_rfl) ?_ _
          go_wp2_with fail
          go_ret
          exact ⟨ret_bool (by
            refine (risesE_false fun h => ?_).symm
            have := h q (by omega)
            rw [← EX.out, ← EY.out, HB.out] at this
            cases this), K0.out⟩
    · obtain rfl : k = l.length := by omega
      go_wp2_with fail
      go_ret
      exact ⟨ret_bool (risesE_true fun i h => HN.out i h (by omega)).symm, K0.out⟩
end Go.Proofs.Ytibjpjpbmkdddaa
