/- The reference's Combine. -/
import Derived.Test.YtblfingmdipopaaGreatM12
import Derived.Deep.CutBlock
namespace Go.Proofs.YtblfingmdipopaaGreat
set_option linter.unusedSimpArgs false
set_option linter.unusedVariables false
open Go.ChangeShapes Go.WideShapes Go.ChangeAt Go.RowKit
open Go.RowKit (wrap32 wrap64)
set_option maxHeartbeats 8000000
section
variable {P : Program} {ops : Array Oper} {o : Oper} {a : Act} {w : World} {K : Act → World → Prop} {Q : Exit → Act → World → Prop} {E : Prop}
/-- A struct is stored into a range, as one step of a region that draws. -/
theorem step_storeMid (hg : o.guard = none) (ty : TypeId) (x y : Operand) (ho : o.op = .store ty x y) (b off : Nat) (cells : Array Value) (hx : a.eval x = .pointer (some ⟨b, off, none⟩)) (hy : a.eval y = .agg cells)
    (ht : w.there b off cells.size) (hi : (P.info? ty).map (·.size) = some cells.size) (h1 : cells.all (·.oneCell') = true) (h : K (a.put o.dst undef) (w.setCells b off cells.toList)) :
    if Region.wanted o (yielded ops a.tmps) = true then Oper.wp P o a w K Q else E := by
  rw [if_pos (by simp [Region.wanted, hg])]
  exact wp_store_mid ty x y ho b off cells hx hy ht hi h1 h
/-- A struct is loaded off a range, as one step of a region that draws. -/
theorem step_loadMid (hg : o.guard = none) (ty : TypeId) (x : Operand) (ho : o.op = .load ty x) (b off : Nat) (hx : a.eval x = .pointer (some ⟨b, off, none⟩)) (cs : List Value) (d : TypeDesc) (hc : w.rangeAt b off cs)
    (hu : P.underlying ty = some d) (hd : d.isRow = true) (hi : (P.info? ty).map (·.size) = some cs.length) (h : K (a.put o.dst (.agg cs.toArray)) w) :
    if Region.wanted o (yielded ops a.tmps) = true then Oper.wp P o a w K Q else E := by
  rw [if_pos (by simp [Region.wanted, hg])]
  exact wp_load_mid ty x ho b off hx cs d hc hu hd hi h
end
theorem infoWd : Info Tryz.prog 100 (.agg #[.int .i64 0, .int .u64 0]) 2 16 := by unfold Info; kernel_rfl
set_option maxRecDepth 100000 in
theorem refCombine_ok (r : Int) (l : List Ed) (A : Option Addr) (c : Nat) (w : World) (hr : ringIs r = true) (hl : l.length ≤ 1048576) (hA : Reads w A (l.flatMap edV)) (hw : ∀ e ∈ l, In64 e.2.2) :
    Calls Tryz.prog 46 #[.int .i64 r, .slice A l.length c] w fun e w' => ∃ v, e = .returned (.tuple #[v, .int .i64 (combP r l).1]) ∧ w'.ownsRow w.heap.size 107 3 v (combP r l).2.length ((combP r l).2.flatMap edV) ∧ Kept [] w w' := by
  have HR := Lib.hid hr
  have HA := Lib.hid hA
  have HW := Lib.hid hw
  clear hr hA hw
  obtain ⟨post, hpost⟩ : ∃ post : Ending → World → Prop, post = fun e w' => ∃ v, e = .returned (.tuple #[v, .int .i64 (combP r l).1]) ∧ w'.ownsRow w.heap.size 107 3 v (combP r l).2.length ((combP r l).2.flatMap edV) ∧ Kept [] w w' := ⟨_, rfl⟩
  rw [← hpost]
  have HPOST := Lib.hid hpost
  clear hpost
  go_enter Tryz.func46, Tryz.ntmps46
  go_wp2_with fail
  refine (refIs_any r _).mono ?_
  rintro _ w ⟨rfl, rfl⟩
  rw [HR.out]
  go_upto_block 0 with (fail)
  go_cut [6, 7] (fun v6 v7 wx => Hid (InsSt w wx (insAll r l) v6 v7))
  case first =>
    go_wp2_with fail
    go_loopw [6, 7, 8] (fun v6 v7 i wr => ∃ k : Nat, k ≤ l.length ∧ i = .int .i64 k ∧ Hid (InsSt w wr (insAll r (l.take k)) v6 v7)) (fun _ _ i _ => l.length - (intOf i).toNat)
    case atStart => exact ⟨0, Nat.zero_le _, rfl, Lib.hid (InsG.start w)⟩
    case round =>
      obtain ⟨k, hk, rfl, HI⟩ := hrel
      by_cases hlt : ¬ k < l.length
      · obtain rfl : k = l.length := by omega
        clear hlt
        go_wp2_with fail
        go_meet
        have := HI.out
        rw [List.take_length] at this
        exact Lib.hid this
      have hlt' : k < l.length := by omega
      clear hlt
      obtain ⟨v6, hv6⟩ : ∃ v, v = u6 := ⟨_, rfl⟩
      obtain ⟨v7, hv7⟩ : ∃ v, v = u7 := ⟨_, rfl⟩
      subst hv6 hv7
      have HS := Lib.hid (insAll_succ r l hlt')
      have hLl := Nat.le_trans (insAll_length r (l.take k)) (List.length_take_le' k l)
      have hin := HW.out l[k] (List.getElem_mem hlt')
      obtain ⟨x, hx⟩ : ∃ x, x = l[k] := ⟨_, rfl⟩
      rw [← hx] at hin HS
      have HXE := Lib.hid hx
      clear hx
      obtain ⟨x1, x2, x3⟩ := x
      dsimp only at hin HS
      have HIN := Lib.hid hin
      clear hin
      have HLO := Lib.hid (insAll_ok r (l.take k))
      generalize hLq : insAll r (l.take k) = L at HI HS hLl HLO
      clear hLq
      have hLl' : L.length ≤ 1048576 := by omega
      clear hLl
      obtain ⟨A6, c6, rfl⟩ := own_n HI.out.o6
      obtain ⟨A7, c7, rfl⟩ := own_n HI.out.o7
      go_upto_block 2 with (fail)
      go_cut [9] (fun q wx => ∃ p : Nat, p ≤ L.length ∧ q = .int .i64 p ∧ Hid (∀ j (hj : j < L.length), j < p → keyLt L[j].1 (x1, x2) = true) ∧ Hid (∀ h : p < L.length, keyLt L[p].1 (x1, x2) = false) ∧ Hid (InsSt w wx L (.slice A6 L.length c6) (.slice A7 L.length c7)))
      case first =>
        go_wp2_with fail
        go_loopw [9] (fun q wx => ∃ p : Nat, p ≤ L.length ∧ q = .int .i64 p ∧ Hid (∀ j (hj : j < L.length), j < p → keyLt L[j].1 (x1, x2) = true) ∧ Hid (InsSt w wx L (.slice A6 L.length c6) (.slice A7 L.length c7))) (fun q _ => L.length - (intOf q).toNat)
        case atStart => exact ⟨0, Nat.zero_le _, rfl, Lib.hid (fun j hj h => absurd h (by omega)), HI⟩
        case round =>
          clear HI
          obtain ⟨p, hp, rfl, HB, HI⟩ := hrel
          by_cases hpl : ¬ p < L.length
          · have hpl2 : ¬ (p : Int) < (L.length : Int) := by omega
            go_upto_region 9 with (fail)
            go_quiet (fail)
            replace HI := Lib.hid (HI.out.kept0 ((Kept.refl [] _).drewN nq))
            generalize World.drewN wr nq = w4 at *
            go_wp2_with fail
            go_meet
            exact ⟨p, hp, rfl, HB, Lib.hid (fun h => absurd h hpl), HI⟩
          replace hpl : p < L.length := by omega
          have hpl2 : (p : Int) < (L.length : Int) := by omega
          obtain ⟨g6, q6, e6, hg6, hlt6, hc6, hm6⟩ := own_ptr HI.out.o6 (show 0 < L.length by omega)
          cases e6
          have hr6 := own_range (f := edV) (k := 3) (fun _ => rfl) (by decide) HI.out.o6 (i := p) (by simpa using hpl)
          rw [List.getElem_map] at hr6
          obtain ⟨X, hX⟩ : ∃ X, X = L[p] := ⟨_, rfl⟩
          rw [← hX] at hr6
          have HXL := Lib.hid hX
          clear hX
          obtain ⟨⟨a1, a2⟩, au⟩ := X
          obtain ⟨bb, off, eA, hbb, hcA⟩ := rec_cell (m := 3) (f := edV) (fun _ _ => rfl) (by decide) (HA.out.kept0 HI.out.k) hlt'
          cases eA
          rw [← HXE.out] at hcA
          have H6 := Lib.hid (show wr.rangeAt g6 (p * 3) (edV (a1, a2, 0)) from hr6)
          have HX := Lib.hid (show wr.rangeAt bb (off + k * 3) (edV (x1, x2, x3)) from fun j u hu => by rw [Nat.add_assoc]; exact hcA j u hu)
          clear hr6 hcA hg6 hlt6 hbb
          unfold maxLen at hm6
          go_upto_region 9 with (fail)
          by_cases hb : keyLt (a1, a2) (x1, x2) = true
          · have HBB := Lib.hid hb
            refine wp_region_held_drew (S := (fun w' => w'.rangeAt g6 (p * 3) (edV (a1, a2, 0)) ∧ w'.rangeAt bb (off + k * 3) (edV (x1, x2, x3)))) (by kernel_rfl) ?_ (fun hHeld => ?_)
            · exact ⟨H6.out, HX.out⟩
            replace HI := Lib.hid (HI.out.kept0 ((Kept.refl [] _).drew))
            replace H6 := Lib.hid (show World.rangeAt (World.drew _) g6 (p * 3) (edV (a1, a2, 0)) from H6.out)
            replace HX := Lib.hid (show World.rangeAt (World.drew _) bb (off + k * 3) (edV (x1, x2, x3)) from HX.out)
            refine tkYes (i := 0) (v := ?_) rfl rfl (by kernel_rfl) (by kernel_rfl) (by kernel_rfl) (fun _ _ _ h => h) (by rfl) ?_ (by assumption) ?_
            rotate_left
            · (intro w' hSw; (try dsimp only at hSw); go_simp; try with_reducible rfl)
            try simp only [Act.put, List.setIfInBounds_toArray, List.set_cons_zero, List.set_cons_succ]
            refine tkYes (i := 1) (v := ?_) rfl rfl (by kernel_rfl) (by kernel_rfl) (by kernel_rfl) (fun _ _ _ h => h) (by rfl) ?_ (by assumption) ?_
            rotate_left
            · (intro w' hSw; (try dsimp only at hSw); go_simp; try with_reducible rfl)
            try simp only [Act.put, List.setIfInBounds_toArray, List.set_cons_zero, List.set_cons_succ]
            refine tkYes (i := 2) (v := ?_) rfl rfl (by kernel_rfl) (by kernel_rfl) (by kernel_rfl) (fun _ _ _ h => h) (by rfl) ?_ (by assumption) ?_
            rotate_left
            · (intro w' hSw; (try dsimp only at hSw); go_simp; try with_reducible rfl)
            try simp only [Act.put, List.setIfInBounds_toArray, List.set_cons_zero, List.set_cons_succ]
            refine tkYes (i := 3) (v := ?_) rfl rfl (by kernel_rfl) (by kernel_rfl) (by kernel_rfl) (fun _ _ _ h => h) (by rfl) ?_ (by assumption) ?_
            rotate_left
            · (intro w' hSw; (try dsimp only at hSw); go_simp; try with_reducible rfl)
            try simp only [Act.put, List.setIfInBounds_toArray, List.set_cons_zero, List.set_cons_succ]
            refine tkYes (i := 4) (v := ?_) rfl rfl (by kernel_rfl) (by kernel_rfl) (by kernel_rfl) (fun _ _ _ h => h) (by rfl) ?_ (by assumption) ?_
            rotate_left
            · (intro w' hSw; (try dsimp only at hSw); go_simp; try with_reducible rfl)
            try simp only [Act.put, List.setIfInBounds_toArray, List.set_cons_zero, List.set_cons_succ]
            refine tkYes (i := 5) (v := ?_) rfl rfl (by kernel_rfl) (by kernel_rfl) (by kernel_rfl) (fun _ _ _ h => h) (by rfl) ?_ (by assumption) ?_
            rotate_left
            · (intro w' hSw; (try dsimp only at hSw); go_simp; try with_reducible rfl)
            try simp only [Act.put, List.setIfInBounds_toArray, List.set_cons_zero, List.set_cons_succ]
            refine tkYes (i := 6) (v := ?_) rfl rfl (by kernel_rfl) (by kernel_rfl) (by kernel_rfl) (fun _ _ _ h => h) (by rfl) ?_ (by assumption) ?_
            rotate_left
            · (intro w' hSw; (try dsimp only at hSw); go_simp; try with_reducible rfl)
            try simp only [Act.put, List.setIfInBounds_toArray, List.set_cons_zero, List.set_cons_succ]
            refine tkYes (i := 7) (v := .pointer (some ⟨g6, p * 3, none⟩)) rfl rfl (by kernel_rfl) (by kernel_rfl) (by kernel_rfl) (fun _ _ _ h => h) (by rfl) ?_ (by assumption) ?_
            skip
            · (intro w' hSw; (try dsimp only at hSw); go_simp; try (simp; done))
            try simp only [Act.put, List.setIfInBounds_toArray, List.set_cons_zero, List.set_cons_succ]
            refine tkLoad (i := 8) 107 (.tmp 31) g6 (p * 3) (edV (a1, a2, 0)) _ rfl rfl (by kernel_rfl) (by kernel_rfl) (by kernel_rfl) (fun _ _ _ h => h) (by rfl) rfl rfl (fun w hw => hw.1) Tryz.underlying107 rfl infoEdge (by assumption) ?_
            try simp only [Act.put, List.setIfInBounds_toArray, List.set_cons_zero, List.set_cons_succ]
            refine tkYes (i := 9) (v := ?_) rfl rfl (by kernel_rfl) (by kernel_rfl) (by kernel_rfl) (fun _ _ _ h => h) (by rfl) ?_ (by assumption) ?_
            rotate_left
            · (intro w' hSw; (try dsimp only at hSw); go_simp; try with_reducible rfl)
            try simp only [Act.put, List.setIfInBounds_toArray, List.set_cons_zero, List.set_cons_succ]
            refine tkYes (i := 10) (v := ?_) rfl rfl (by kernel_rfl) (by kernel_rfl) (by kernel_rfl) (fun _ _ _ h => h) (by rfl) ?_ (by assumption) ?_
            rotate_left
            · (intro w' hSw; (try dsimp only at hSw); go_simp; try with_reducible rfl)
            try simp only [Act.put, List.setIfInBounds_toArray, List.set_cons_zero, List.set_cons_succ]
            refine tkYes (i := 11) (v := .pointer (some ⟨bb, off + k * 3, none⟩)) rfl rfl (by kernel_rfl) (by kernel_rfl) (by kernel_rfl) (fun _ _ _ h => h) (by rfl) ?_ (by assumption) ?_
            skip
            · (intro w' hSw; (try dsimp only at hSw); go_simp; try (simp; done))
            try simp only [Act.put, List.setIfInBounds_toArray, List.set_cons_zero, List.set_cons_succ]
            refine tkLoad (i := 12) 107 (.tmp 35) bb (off + k * 3) (edV (x1, x2, x3)) _ rfl rfl (by kernel_rfl) (by kernel_rfl) (by kernel_rfl) (fun _ _ _ h => h) (by rfl) rfl rfl (fun w hw => hw.2) Tryz.underlying107 rfl infoEdge (by assumption) ?_
            try simp only [Act.put, List.setIfInBounds_toArray, List.set_cons_zero, List.set_cons_succ]
            refine wpAnyH_ready (rs := [13]) (by kernel_rfl) (by simp) ?_
            refine AllReadyH.cons rfl (fun K hK => ?_) AllReadyH.nil
            go_simp
            refine (below_any (a1, a2, (0 : Int)) (x1, x2, x3) _).mono ?_
            rintro _ w5 ⟨rfl, hk5⟩
            rw [show keyLt ((a1, a2, (0 : Int)).1, (a1, a2, (0 : Int)).2.1) ((x1, x2, x3).1, (x1, x2, x3).2.1) = true from hb]
            replace HI := Lib.hid (HI.out.kept0 hk5)
            replace H6 := Lib.hid (show w5.rangeAt g6 (p * 3) (edV (a1, a2, 0)) from fun j u hu => Kept.cell_lt hk5 (H6.out j u hu))
            replace HX := Lib.hid (show w5.rangeAt bb (off + k * 3) (edV (x1, x2, x3)) from fun j u hu => Kept.cell_lt hk5 (HX.out j u hu))
            clear hk5
            go_wp2_with fail
            refine hK.out _ _ ?_ (fun hHeld => ?_)
            · exact ⟨H6.out, HX.out⟩
            clear hK K
            try simp only [Act.put, List.setIfInBounds_toArray, List.set_cons_zero, List.set_cons_succ]
            refine tkYes (i := 14) (v := ?_) rfl rfl (by kernel_rfl) (by kernel_rfl) (by kernel_rfl) (fun _ _ _ h => h) (by rfl) ?_ (by assumption) ?_
            rotate_left
            · (intro w' hSw; (try dsimp only at hSw); go_simp; try with_reducible rfl)
            try simp only [Act.put, List.setIfInBounds_toArray, List.set_cons_zero, List.set_cons_succ]
            refine wpAnyH_done (by kernel_rfl) ?_ _
            go_wp2_with fail
            go_roundw
            case rel =>
              refine ⟨p + 1, by omega, by go_num, Lib.hid (fun j hj hjp => ?_), HI⟩
              by_cases hjq : j = p
              · subst hjq
                rw [← HXL.out]
                exact HBB.out
              · exact HB.out j hj (by omega)
            case measure => simp [intOf]; omega
          · replace hb : keyLt (a1, a2) (x1, x2) = false := by simpa using hb
            have HBB := Lib.hid hb
            refine wp_region_held_drew (S := (fun w' => w'.rangeAt g6 (p * 3) (edV (a1, a2, 0)) ∧ w'.rangeAt bb (off + k * 3) (edV (x1, x2, x3)))) (by kernel_rfl) ?_ (fun hHeld => ?_)
            · exact ⟨H6.out, HX.out⟩
            replace HI := Lib.hid (HI.out.kept0 ((Kept.refl [] _).drew))
            replace H6 := Lib.hid (show World.rangeAt (World.drew _) g6 (p * 3) (edV (a1, a2, 0)) from H6.out)
            replace HX := Lib.hid (show World.rangeAt (World.drew _) bb (off + k * 3) (edV (x1, x2, x3)) from HX.out)
            refine tkYes (i := 0) (v := ?_) rfl rfl (by kernel_rfl) (by kernel_rfl) (by kernel_rfl) (fun _ _ _ h => h) (by rfl) ?_ (by assumption) ?_
            rotate_left
            · (intro w' hSw; (try dsimp only at hSw); go_simp; try with_reducible rfl)
            try simp only [Act.put, List.setIfInBounds_toArray, List.set_cons_zero, List.set_cons_succ]
            refine tkYes (i := 1) (v := ?_) rfl rfl (by kernel_rfl) (by kernel_rfl) (by kernel_rfl) (fun _ _ _ h => h) (by rfl) ?_ (by assumption) ?_
            rotate_left
            · (intro w' hSw; (try dsimp only at hSw); go_simp; try with_reducible rfl)
            try simp only [Act.put, List.setIfInBounds_toArray, List.set_cons_zero, List.set_cons_succ]
            refine tkYes (i := 2) (v := ?_) rfl rfl (by kernel_rfl) (by kernel_rfl) (by kernel_rfl) (fun _ _ _ h => h) (by rfl) ?_ (by assumption) ?_
            rotate_left
            · (intro w' hSw; (try dsimp only at hSw); go_simp; try with_reducible rfl)
            try simp only [Act.put, List.setIfInBounds_toArray, List.set_cons_zero, List.set_cons_succ]
            refine tkYes (i := 3) (v := ?_) rfl rfl (by kernel_rfl) (by kernel_rfl) (by kernel_rfl) (fun _ _ _ h => h) (by rfl) ?_ (by assumption) ?_
            rotate_left
            · (intro w' hSw; (try dsimp only at hSw); go_simp; try with_reducible rfl)
            try simp only [Act.put, List.setIfInBounds_toArray, List.set_cons_zero, List.set_cons_succ]
            refine tkYes (i := 4) (v := ?_) rfl rfl (by kernel_rfl) (by kernel_rfl) (by kernel_rfl) (fun _ _ _ h => h) (by rfl) ?_ (by assumption) ?_
            rotate_left
            · (intro w' hSw; (try dsimp only at hSw); go_simp; try with_reducible rfl)
            try simp only [Act.put, List.setIfInBounds_toArray, List.set_cons_zero, List.set_cons_succ]
            refine tkYes (i := 5) (v := ?_) rfl rfl (by kernel_rfl) (by kernel_rfl) (by kernel_rfl) (fun _ _ _ h => h) (by rfl) ?_ (by assumption) ?_
            rotate_left
            · (intro w' hSw; (try dsimp only at hSw); go_simp; try with_reducible rfl)
            try simp only [Act.put, List.setIfInBounds_toArray, List.set_cons_zero, List.set_cons_succ]
            refine tkYes (i := 6) (v := ?_) rfl rfl (by kernel_rfl) (by kernel_rfl) (by kernel_rfl) (fun _ _ _ h => h) (by rfl) ?_ (by assumption) ?_
            rotate_left
            · (intro w' hSw; (try dsimp only at hSw); go_simp; try with_reducible rfl)
            try simp only [Act.put, List.setIfInBounds_toArray, List.set_cons_zero, List.set_cons_succ]
            refine tkYes (i := 7) (v := .pointer (some ⟨g6, p * 3, none⟩)) rfl rfl (by kernel_rfl) (by kernel_rfl) (by kernel_rfl) (fun _ _ _ h => h) (by rfl) ?_ (by assumption) ?_
            skip
            · (intro w' hSw; (try dsimp only at hSw); go_simp; try (simp; done))
            try simp only [Act.put, List.setIfInBounds_toArray, List.set_cons_zero, List.set_cons_succ]
            refine tkLoad (i := 8) 107 (.tmp 31) g6 (p * 3) (edV (a1, a2, 0)) _ rfl rfl (by kernel_rfl) (by kernel_rfl) (by kernel_rfl) (fun _ _ _ h => h) (by rfl) rfl rfl (fun w hw => hw.1) Tryz.underlying107 rfl infoEdge (by assumption) ?_
            try simp only [Act.put, List.setIfInBounds_toArray, List.set_cons_zero, List.set_cons_succ]
            refine tkYes (i := 9) (v := ?_) rfl rfl (by kernel_rfl) (by kernel_rfl) (by kernel_rfl) (fun _ _ _ h => h) (by rfl) ?_ (by assumption) ?_
            rotate_left
            · (intro w' hSw; (try dsimp only at hSw); go_simp; try with_reducible rfl)
            try simp only [Act.put, List.setIfInBounds_toArray, List.set_cons_zero, List.set_cons_succ]
            refine tkYes (i := 10) (v := ?_) rfl rfl (by kernel_rfl) (by kernel_rfl) (by kernel_rfl) (fun _ _ _ h => h) (by rfl) ?_ (by assumption) ?_
            rotate_left
            · (intro w' hSw; (try dsimp only at hSw); go_simp; try with_reducible rfl)
            try simp only [Act.put, List.setIfInBounds_toArray, List.set_cons_zero, List.set_cons_succ]
            refine tkYes (i := 11) (v := .pointer (some ⟨bb, off + k * 3, none⟩)) rfl rfl (by kernel_rfl) (by kernel_rfl) (by kernel_rfl) (fun _ _ _ h => h) (by rfl) ?_ (by assumption) ?_
            skip
            · (intro w' hSw; (try dsimp only at hSw); go_simp; try (simp; done))
            try simp only [Act.put, List.setIfInBounds_toArray, List.set_cons_zero, List.set_cons_succ]
            refine tkLoad (i := 12) 107 (.tmp 35) bb (off + k * 3) (edV (x1, x2, x3)) _ rfl rfl (by kernel_rfl) (by kernel_rfl) (by kernel_rfl) (fun _ _ _ h => h) (by rfl) rfl rfl (fun w hw => hw.2) Tryz.underlying107 rfl infoEdge (by assumption) ?_
            try simp only [Act.put, List.setIfInBounds_toArray, List.set_cons_zero, List.set_cons_succ]
            refine wpAnyH_ready (rs := [13]) (by kernel_rfl) (by simp) ?_
            refine AllReadyH.cons rfl (fun K hK => ?_) AllReadyH.nil
            go_simp
            refine (below_any (a1, a2, (0 : Int)) (x1, x2, x3) _).mono ?_
            rintro _ w5 ⟨rfl, hk5⟩
            rw [show keyLt ((a1, a2, (0 : Int)).1, (a1, a2, (0 : Int)).2.1) ((x1, x2, x3).1, (x1, x2, x3).2.1) = false from hb]
            replace HI := Lib.hid (HI.out.kept0 hk5)
            replace H6 := Lib.hid (show w5.rangeAt g6 (p * 3) (edV (a1, a2, 0)) from fun j u hu => Kept.cell_lt hk5 (H6.out j u hu))
            replace HX := Lib.hid (show w5.rangeAt bb (off + k * 3) (edV (x1, x2, x3)) from fun j u hu => Kept.cell_lt hk5 (HX.out j u hu))
            clear hk5
            go_wp2_with fail
            refine hK.out _ _ ?_ (fun hHeld => ?_)
            · exact ⟨H6.out, HX.out⟩
            clear hK K
            try simp only [Act.put, List.setIfInBounds_toArray, List.set_cons_zero, List.set_cons_succ]
            refine tkYes (i := 14) (v := ?_) rfl rfl (by kernel_rfl) (by kernel_rfl) (by kernel_rfl) (fun _ _ _ h => h) (by rfl) ?_ (by assumption) ?_
            rotate_left
            · (intro w' hSw; (try dsimp only at hSw); go_simp; try with_reducible rfl)
            try simp only [Act.put, List.setIfInBounds_toArray, List.set_cons_zero, List.set_cons_succ]
            refine wpAnyH_done (by kernel_rfl) ?_ _
            go_wp2_with fail
            go_meet
            exact ⟨p, hp, rfl, HB, Lib.hid (fun h => by rw [← HXL.out]; exact HBB.out), HI⟩
      case rest =>
        clear HI
        obtain ⟨p, hp, rfl, HB, HN, HI⟩ := hcut
        obtain ⟨bb, off, eA, hbx, x0, y0, z0⟩ := edge_at (HA.out.kept0 HI.out.k) hlt'
        cases eA
        rw [← HXE.out] at z0
        clear x0 y0 hbx
        go_wp2_with fail
        refine (refOf_any x3 HIN.out _).mono ?_
        rintro _ w3 ⟨rfl, hk3⟩
        replace HI := Lib.hid (HI.out.kept0 hk3)
        clear hk3 z0
        have N10 := Lib.hid (own_blt HI.out.o7)
        go_upto_region 12 with (fail)
        have HZ := Lib.hid (Blk.new w3 100 (wdC (wOf x3)))
        replace HI := Lib.hid (HI.out.kept0 ((Kept.refl [] w3).alloc (.cells (wdC (wOf x3)).toArray 100)))
        generalize w3.alloc (.cells (wdC (wOf x3)).toArray 100) = w4 at *
        generalize w3.heap.size = g10 at HZ N10 ⊢
        by_cases hpl : ¬ p < L.length
        · have hpl2 : ¬ (p : Int) < (L.length : Int) := by omega
          go_quiet (fail)
          replace HI := Lib.hid (HI.out.kept0 ((Kept.refl [] _).drewN nq))
          replace HZ := Lib.hid (HZ.out.drewN nq)
          generalize World.drewN w4 nq = w5 at *
          have HNE := Lib.hid (show ∀ h : p < L.length, keyLt L[p].1 (x1, x2) = false ∧ keyLt (x1, x2) L[p].1 = true from fun h => absurd h hpl)
          go_upto_region 15 with (first | (at_builtin; refine wpList_app _ rfl (.tmp 73) (.tmp 75) _ rfl 107 (.agg #[.int .i64 0, .int .i64 0, .int .i64 0]) 3 24 Tryz.underlying54 infoEd rfl (by decide) w.heap.size (.slice A6 L.length c6) _ _ rfl (HI.out.o6.alloc _) (some ⟨_, 0, none⟩) 1 1 (edV (0, 0, 0)) rfl rfl (Reads.of_blk (Blk.new _ _ _) (fun _ _ h => h)) (by simp [edV, Value.oneCell']) (by omega) (by unfold maxLen; omega) (by have := HI.out.k.size; simp; omega) ?_; intro va wa howna hka hba; have HOa := Lib.hid howna; have Ka := Lib.hid (((KeptB.refl w.heap.size [107] _).alloc _).app hka (HI.out.o6.alloc _) (by decide)); clear howna hka hba))
          replace HZ := Lib.hid (HZ.out.keptB Ka.out (by decide))
          have H7 := Lib.hid (own_keptB HI.out.o7 Ka.out (by decide))
          have K0 := Lib.hid (HI.out.k.thenB Ka.out (Nat.le_refl _))
          have HLE := Lib.hid HI.out.le
          have HLS := Lib.hid HI.out.ls
          clear Ka HI
          go_upto_region 16 with (first | (at_builtin; refine wpList_app _ rfl (.tmp 77) (.tmp 79) _ rfl 100 (.agg #[.int .i64 0, .int .u64 0]) 2 16 Tryz.underlying158 infoWd rfl (by decide) w.heap.size (.slice A7 L.length c7) _ _ rfl (H7.out.alloc _) (some ⟨_, 0, none⟩) 1 1 (wdC (0, 0)) rfl rfl (Reads.of_blk (Blk.new _ _ _) (fun _ _ h => h)) (by simp [Value.oneCell']) (by omega) (by unfold maxLen; omega) (by have := K0.out.size; simp; omega) ?_; intro vb wb hownb hkb hbb2; have HOb := Lib.hid hownb; have Kb := Lib.hid (((KeptB.refl w.heap.size [100] _).alloc _).app hkb (H7.out.alloc _) (by decide)); have HZb := Lib.hid ((HZ.out.alloc _).kept hkb (by have := N10.out; simpa using this)); have NB := Lib.hid (show vb.ownBlock ≠ some g10 from by rcases hbb2 with e | e; (rw [e]; exact N10.out); (rw [e]; intro h; have := HZ.out.lt; simp at h; omega)); clear hownb hkb hbb2))
          have HG := Lib.hid (show InsG w wb (L.length + 1) (L.map keyE ++ [(0, 0, 0)]) (L.map (·.2) ++ [(0, 0)]) va vb from ⟨by have := own_keptB HOa.out Kb.out (by decide); simpa using this, by have := HOb.out; simpa using this, K0.out.thenB Kb.out (Nat.le_refl _), by simp, by simp⟩)
          replace HZ := HZb
          clear HZb HOa HOb Kb H7 K0 N10
          obtain ⟨A6n, c6n, rfl⟩ := own_n HG.out.o6
          obtain ⟨A7n, c7n, rfl⟩ := own_n HG.out.o7
          obtain ⟨g6n, q6n, e6n, _, _, hc6n, hm6n⟩ := own_ptr HG.out.o6 (by omega)
          obtain ⟨g7n, q7n, e7n, _, _, hc7n, hm7n⟩ := own_ptr HG.out.o7 (by omega)
          cases e6n
          cases e7n
          have HG7 := Lib.hid (show g7n ≠ g10 from fun h => NB.out (by rw [← h]; rfl))
          unfold maxLen at hm6n hm7n
          clear NB
          have N6 := Lib.hid (own_ne_blk HG.out.o6 HZ.out (by decide))
          go_wp2_with fail
          go_loopw [11] (fun qq wx => ∃ q : Nat, p ≤ q ∧ q ≤ L.length ∧ qq = .int .i64 q ∧ Hid (∃ z6 z7, InsG w wx (L.length + 1) ((L.map keyE).take q ++ z6 :: (L.map keyE).drop q) ((L.map (·.2)).take q ++ z7 :: (L.map (·.2)).drop q) (.slice (some ⟨g6n, 0, none⟩) (L.length + 1) c6n) (.slice (some ⟨g7n, 0, none⟩) (L.length + 1) c7n)) ∧ Hid (Blk wx g10 100 (wdC (wOf x3)))) (fun qq _ => (intOf qq).toNat)
          case atStart => exact ⟨L.length, hp, Nat.le_refl _, by first | rfl | (simp; done), Lib.hid ⟨(0, 0, 0), (0, 0), by have := HG.out; simpa [List.take_of_length_le, List.drop_of_length_le] using this⟩, HZ⟩
          case round =>
            clear HG HZ
            obtain ⟨q, hpq, hqL, rfl, HGE, HZ⟩ := hrel
            obtain ⟨z6, z7, hg⟩ := HGE.out
            have HG := Lib.hid hg
            clear hg HGE
            by_cases hq : p < q
            · exfalso
              omega
            · obtain rfl : q = p := by omega
              have hq2 : ¬ (q : Int) < (q : Int) := by omega
              obtain ⟨b2, o2, eA, hbx, x0, y0, z0⟩ := edge_at (HA.out.kept0 HG.out.k) hlt'
              cases eA
              rw [← HXE.out] at x0 y0
              have X0 := Lib.hid x0
              have Y0 := Lib.hid y0
              clear x0 y0 z0 hbx
              have S6 := Lib.hid (HG.out.set6 q (by omega) (x1, x2, 0))
              go_upto_region 21 with (fail)
              refine wp_region_still_tail 14 (by kernel_rfl) (by kernel_rfl) ?_
              simp only [List.take_succ_cons, List.take_zero, List.drop_succ_cons, List.drop_zero]
              change wpStill _ _ (World.drew wr) (fun a' => wpList _ _ _ _ a' (World.drew wr)) _ _
              replace HG := Lib.hid (HG.out.kept0 ((Kept.refl [] wr).drew))
              replace HZ := Lib.hid HZ.out.drew
              have x0 : (World.drew wr).cell? ⟨bb, off + k * 3, none⟩ = some (.int .i64 x1) := X0.out
              have y0 : (World.drew wr).cell? ⟨bb, off + k * 3 + 1, none⟩ = some (.int .i64 x2) := Y0.out
              clear X0 Y0 S6
              generalize World.drew wr = wx at *
              have S6 := Lib.hid (HG.out.set6 q (by omega) (x1, x2, 0))
              have hi1 : q < L.length + 1 := by omega
              have hi2 : (q : Int) < (L.length : Int) + 1 := by omega
              have hi3 : ¬ (L.length : Int) + 1 ≤ (q : Int) := by omega
              have hi4 : ¬ (q : Int) < 0 := by omega
              repeat still_step
              refine wpStill_nil ?_
              clear x0 y0
              go_upto_region 22 with (first | (refine wpList_store_mid rfl 107 (.tmp 118) (.tmp 117) rfl g6n (q * 3) (edV (x1, x2, 0)).toArray rfl rfl S6.out.2.1 infoEdge (by simp [edV, Value.oneCell']) ?_))
              replace HG := Lib.hid S6.out.1
              replace HZ := Lib.hid (HZ.out.kept S6.out.2.2 (by have := N6.out; simp [Value.ownBlock] at this; simpa using fun h => this h.symm))
              clear S6
              show Code.wp _ _ _ _ (World.setCells _ g6n (q * 3) (edV (x1, x2, 0)))
              generalize World.setCells _ g6n (q * 3) (edV (x1, x2, 0)) = wy at HG HZ ⊢
              have S7 := Lib.hid (HG.out.set7 q (by omega) (wOf x3))
              go_wp2_with (first | (refine wpList_loadBlk rfl 100 (.tmp 10) rfl g10 (wdC (wOf x3)) _ HZ.out rfl Tryz.underlying100 rfl infoWide ?_) | (refine wpList_store_mid rfl 100 (.tmp 122) (.tmp 121) rfl g7n (q * 2) (wdC (wOf x3)).toArray rfl rfl S7.out.2.1 infoWide (by simp [Value.oneCell']) ?_))
              go_roundw
              case rel =>
                refine ⟨k + 1, by omega, by go_num, ?_⟩
                have hn := insR_new r (x1, x2) (wOf x3) L q hp HB.out HNE.out
                have h3 := S7.out.1
                rw [shift_end _ q _ _ (by simpa using hp), shift_end _ q _ _ (by simpa using hp)] at h3
                rw [HS.out, hn]
                refine Lib.hid ?_
                show InsG w _ (L.take q ++ ((x1, x2), wOf x3) :: L.drop q).length ((L.take q ++ ((x1, x2), wOf x3) :: L.drop q).map keyE) ((L.take q ++ ((x1, x2), wOf x3) :: L.drop q).map (·.2)) _ _
                have e1 : (L.take q ++ ((x1, x2), wOf x3) :: L.drop q).length = L.length + 1 := by simp; omega
                have e2 : (L.take q ++ ((x1, x2), wOf x3) :: L.drop q).map keyE = (L.map keyE).take q ++ (x1, x2, 0) :: (L.map keyE).drop q := by simp [keyE]
                have e3 : (L.take q ++ ((x1, x2), wOf x3) :: L.drop q).map (·.2) = (L.map (·.2)).take q ++ (wOf x3) :: (L.map (·.2)).drop q := by simp
                rw [e1, e2, e3]
                exact h3
              case measure => simp [intOf]; omega
        replace hpl : p < L.length := by omega
        have hpl2 : (p : Int) < (L.length : Int) := by omega
        obtain ⟨g6, q6, e6, hg6, hlt6, hc6, hm6⟩ := own_ptr HI.out.o6 (show 0 < L.length by omega)
        cases e6
        have hr6 := own_range (f := edV) (k := 3) (fun _ => rfl) (by decide) HI.out.o6 (i := p) (by simpa using hpl)
        rw [List.getElem_map] at hr6
        obtain ⟨X, hX⟩ : ∃ X, X = L[p] := ⟨_, rfl⟩
        rw [← hX] at hr6
        have HXL := Lib.hid hX
        clear hX
        obtain ⟨⟨a1, a2⟩, au⟩ := X
        obtain ⟨b2, o2, eA, hbb, hcA⟩ := rec_cell (m := 3) (f := edV) (fun _ _ => rfl) (by decide) (HA.out.kept0 HI.out.k) hlt'
        cases eA
        rw [← HXE.out] at hcA
        have H6 := Lib.hid (show w4.rangeAt g6 (p * 3) (edV (a1, a2, 0)) from hr6)
        have HX := Lib.hid (show w4.rangeAt bb (off + k * 3) (edV (x1, x2, x3)) from fun j u hu => by rw [Nat.add_assoc]; exact hcA j u hu)
        clear hr6 hcA hg6 hlt6 hbb
        unfold maxLen at hm6
        have HNB := Lib.hid (show keyLt (a1, a2) (x1, x2) = false from by have := HN.out hpl; rw [← HXL.out] at this; exact this)
        by_cases hb : keyLt (x1, x2) (a1, a2) = true
        · have HBB := Lib.hid hb
          refine wp_region_held_drew (S := (fun w' => w'.rangeAt g6 (p * 3) (edV (a1, a2, 0)) ∧ w'.rangeAt bb (off + k * 3) (edV (x1, x2, x3)))) (by kernel_rfl) ?_ (fun hHeld => ?_)
          · exact ⟨H6.out, HX.out⟩
          replace HI := Lib.hid (HI.out.kept0 ((Kept.refl [] _).drew))
          replace H6 := Lib.hid (show World.rangeAt (World.drew _) g6 (p * 3) (edV (a1, a2, 0)) from H6.out)
          replace HX := Lib.hid (show World.rangeAt (World.drew _) bb (off + k * 3) (edV (x1, x2, x3)) from HX.out)
          replace HZ := Lib.hid HZ.out.drew
          refine tkYes (i := 0) (v := ?_) rfl rfl (by kernel_rfl) (by kernel_rfl) (by kernel_rfl) (fun _ _ _ h => h) (by rfl) ?_ (by assumption) ?_
          rotate_left
          · (intro w' hSw; (try dsimp only at hSw); go_simp; try with_reducible rfl)
          try simp only [Act.put, List.setIfInBounds_toArray, List.set_cons_zero, List.set_cons_succ]
          refine tkYes (i := 1) (v := ?_) rfl rfl (by kernel_rfl) (by kernel_rfl) (by kernel_rfl) (fun _ _ _ h => h) (by rfl) ?_ (by assumption) ?_
          rotate_left
          · (intro w' hSw; (try dsimp only at hSw); go_simp; try with_reducible rfl)
          try simp only [Act.put, List.setIfInBounds_toArray, List.set_cons_zero, List.set_cons_succ]
          refine tkYes (i := 2) (v := ?_) rfl rfl (by kernel_rfl) (by kernel_rfl) (by kernel_rfl) (fun _ _ _ h => h) (by rfl) ?_ (by assumption) ?_
          rotate_left
          · (intro w' hSw; (try dsimp only at hSw); go_simp; try with_reducible rfl)
          try simp only [Act.put, List.setIfInBounds_toArray, List.set_cons_zero, List.set_cons_succ]
          refine tkYes (i := 3) (v := ?_) rfl rfl (by kernel_rfl) (by kernel_rfl) (by kernel_rfl) (fun _ _ _ h => h) (by rfl) ?_ (by assumption) ?_
          rotate_left
          · (intro w' hSw; (try dsimp only at hSw); go_simp; try with_reducible rfl)
          try simp only [Act.put, List.setIfInBounds_toArray, List.set_cons_zero, List.set_cons_succ]
          refine tkYes (i := 4) (v := ?_) rfl rfl (by kernel_rfl) (by kernel_rfl) (by kernel_rfl) (fun _ _ _ h => h) (by rfl) ?_ (by assumption) ?_
          rotate_left
          · (intro w' hSw; (try dsimp only at hSw); go_simp; try with_reducible rfl)
          try simp only [Act.put, List.setIfInBounds_toArray, List.set_cons_zero, List.set_cons_succ]
          refine tkYes (i := 5) (v := ?_) rfl rfl (by kernel_rfl) (by kernel_rfl) (by kernel_rfl) (fun _ _ _ h => h) (by rfl) ?_ (by assumption) ?_
          rotate_left
          · (intro w' hSw; (try dsimp only at hSw); go_simp; try with_reducible rfl)
          try simp only [Act.put, List.setIfInBounds_toArray, List.set_cons_zero, List.set_cons_succ]
          refine tkYes (i := 6) (v := ?_) rfl rfl (by kernel_rfl) (by kernel_rfl) (by kernel_rfl) (fun _ _ _ h => h) (by rfl) ?_ (by assumption) ?_
          rotate_left
          · (intro w' hSw; (try dsimp only at hSw); go_simp; try with_reducible rfl)
          try simp only [Act.put, List.setIfInBounds_toArray, List.set_cons_zero, List.set_cons_succ]
          refine tkYes (i := 7) (v := .pointer (some ⟨bb, off + k * 3, none⟩)) rfl rfl (by kernel_rfl) (by kernel_rfl) (by kernel_rfl) (fun _ _ _ h => h) (by rfl) ?_ (by assumption) ?_
          skip
          · (intro w' hSw; (try dsimp only at hSw); go_simp; try (simp; done))
          try simp only [Act.put, List.setIfInBounds_toArray, List.set_cons_zero, List.set_cons_succ]
          refine tkLoad (i := 8) 107 (.tmp 54) bb (off + k * 3) (edV (x1, x2, x3)) _ rfl rfl (by kernel_rfl) (by kernel_rfl) (by kernel_rfl) (fun _ _ _ h => h) (by rfl) rfl rfl (fun w hw => hw.2) Tryz.underlying107 rfl infoEdge (by assumption) ?_
          try simp only [Act.put, List.setIfInBounds_toArray, List.set_cons_zero, List.set_cons_succ]
          refine tkYes (i := 9) (v := ?_) rfl rfl (by kernel_rfl) (by kernel_rfl) (by kernel_rfl) (fun _ _ _ h => h) (by rfl) ?_ (by assumption) ?_
          rotate_left
          · (intro w' hSw; (try dsimp only at hSw); go_simp; try with_reducible rfl)
          try simp only [Act.put, List.setIfInBounds_toArray, List.set_cons_zero, List.set_cons_succ]
          refine tkYes (i := 10) (v := ?_) rfl rfl (by kernel_rfl) (by kernel_rfl) (by kernel_rfl) (fun _ _ _ h => h) (by rfl) ?_ (by assumption) ?_
          rotate_left
          · (intro w' hSw; (try dsimp only at hSw); go_simp; try with_reducible rfl)
          try simp only [Act.put, List.setIfInBounds_toArray, List.set_cons_zero, List.set_cons_succ]
          refine tkYes (i := 11) (v := .pointer (some ⟨g6, p * 3, none⟩)) rfl rfl (by kernel_rfl) (by kernel_rfl) (by kernel_rfl) (fun _ _ _ h => h) (by rfl) ?_ (by assumption) ?_
          skip
          · (intro w' hSw; (try dsimp only at hSw); go_simp; try (simp; done))
          try simp only [Act.put, List.setIfInBounds_toArray, List.set_cons_zero, List.set_cons_succ]
          refine tkLoad (i := 12) 107 (.tmp 58) g6 (p * 3) (edV (a1, a2, 0)) _ rfl rfl (by kernel_rfl) (by kernel_rfl) (by kernel_rfl) (fun _ _ _ h => h) (by rfl) rfl rfl (fun w hw => hw.1) Tryz.underlying107 rfl infoEdge (by assumption) ?_
          try simp only [Act.put, List.setIfInBounds_toArray, List.set_cons_zero, List.set_cons_succ]
          refine wpAnyH_ready (rs := [13]) (by kernel_rfl) (by simp) ?_
          refine AllReadyH.cons rfl (fun K hK => ?_) AllReadyH.nil
          go_simp
          refine (below_any (x1, x2, x3) (a1, a2, (0 : Int)) _).mono ?_
          rintro _ w5 ⟨rfl, hk5⟩
          rw [show keyLt ((x1, x2, x3).1, (x1, x2, x3).2.1) ((a1, a2, (0 : Int)).1, (a1, a2, (0 : Int)).2.1) = true from hb]
          replace HI := Lib.hid (HI.out.kept0 hk5)
          replace H6 := Lib.hid (show w5.rangeAt g6 (p * 3) (edV (a1, a2, 0)) from fun j u hu => Kept.cell_lt hk5 (H6.out j u hu))
          replace HX := Lib.hid (show w5.rangeAt bb (off + k * 3) (edV (x1, x2, x3)) from fun j u hu => Kept.cell_lt hk5 (HX.out j u hu))
          replace HZ := Lib.hid (HZ.out.kept hk5 (by simp)); clear hk5
          go_wp2_with fail
          refine hK.out _ _ ?_ (fun hHeld => ?_)
          · exact ⟨H6.out, HX.out⟩
          clear hK K
          try simp only [Act.put, List.setIfInBounds_toArray, List.set_cons_zero, List.set_cons_succ]
          refine tkYes (i := 14) (v := ?_) rfl rfl (by kernel_rfl) (by kernel_rfl) (by kernel_rfl) (fun _ _ _ h => h) (by rfl) ?_ (by assumption) ?_
          rotate_left
          · (intro w' hSw; (try dsimp only at hSw); go_simp; try with_reducible rfl)
          try simp only [Act.put, List.setIfInBounds_toArray, List.set_cons_zero, List.set_cons_succ]
          refine tkYes (i := 15) (v := ?_) rfl rfl (by kernel_rfl) (by kernel_rfl) (by kernel_rfl) (fun _ _ _ h => h) (by rfl) ?_ (by assumption) ?_
          rotate_left
          · (intro w' hSw; (try dsimp only at hSw); go_simp; try with_reducible rfl)
          try simp only [Act.put, List.setIfInBounds_toArray, List.set_cons_zero, List.set_cons_succ]
          refine wpAnyH_done (by kernel_rfl) ?_ _
          have HNE := Lib.hid (show ∀ h : p < L.length, keyLt L[p].1 (x1, x2) = false ∧ keyLt (x1, x2) L[p].1 = true from fun h => ⟨by rw [← HXL.out]; exact HNB.out, by rw [← HXL.out]; exact HBB.out⟩)
          clear H6 HX
          go_upto_region 15 with (first | (at_builtin; refine wpList_app _ rfl (.tmp 73) (.tmp 75) _ rfl 107 (.agg #[.int .i64 0, .int .i64 0, .int .i64 0]) 3 24 Tryz.underlying54 infoEd rfl (by decide) w.heap.size (.slice (some ⟨g6, 0, none⟩) L.length c6) _ _ rfl (HI.out.o6.alloc _) (some ⟨_, 0, none⟩) 1 1 (edV (0, 0, 0)) rfl rfl (Reads.of_blk (Blk.new _ _ _) (fun _ _ h => h)) (by simp [edV, Value.oneCell']) (by omega) (by unfold maxLen; omega) (by have := HI.out.k.size; simp; omega) ?_; intro va wa howna hka hba; have HOa := Lib.hid howna; have Ka := Lib.hid (((KeptB.refl w.heap.size [107] _).alloc _).app hka (HI.out.o6.alloc _) (by decide)); clear howna hka hba))
          replace HZ := Lib.hid (HZ.out.keptB Ka.out (by decide))
          have H7 := Lib.hid (own_keptB HI.out.o7 Ka.out (by decide))
          have K0 := Lib.hid (HI.out.k.thenB Ka.out (Nat.le_refl _))
          have HLE := Lib.hid HI.out.le
          have HLS := Lib.hid HI.out.ls
          clear Ka HI
          go_upto_region 16 with (first | (at_builtin; refine wpList_app _ rfl (.tmp 77) (.tmp 79) _ rfl 100 (.agg #[.int .i64 0, .int .u64 0]) 2 16 Tryz.underlying158 infoWd rfl (by decide) w.heap.size (.slice A7 L.length c7) _ _ rfl (H7.out.alloc _) (some ⟨_, 0, none⟩) 1 1 (wdC (0, 0)) rfl rfl (Reads.of_blk (Blk.new _ _ _) (fun _ _ h => h)) (by simp [Value.oneCell']) (by omega) (by unfold maxLen; omega) (by have := K0.out.size; simp; omega) ?_; intro vb wb hownb hkb hbb2; have HOb := Lib.hid hownb; have Kb := Lib.hid (((KeptB.refl w.heap.size [100] _).alloc _).app hkb (H7.out.alloc _) (by decide)); have HZb := Lib.hid ((HZ.out.alloc _).kept hkb (by have := N10.out; simpa using this)); have NB := Lib.hid (show vb.ownBlock ≠ some g10 from by rcases hbb2 with e | e; (rw [e]; exact N10.out); (rw [e]; intro h; have := HZ.out.lt; simp at h; omega)); clear hownb hkb hbb2))
          have HG := Lib.hid (show InsG w wb (L.length + 1) (L.map keyE ++ [(0, 0, 0)]) (L.map (·.2) ++ [(0, 0)]) va vb from ⟨by have := own_keptB HOa.out Kb.out (by decide); simpa using this, by have := HOb.out; simpa using this, K0.out.thenB Kb.out (Nat.le_refl _), by simp, by simp⟩)
          replace HZ := HZb
          clear HZb HOa HOb Kb H7 K0 N10
          obtain ⟨A6n, c6n, rfl⟩ := own_n HG.out.o6
          obtain ⟨A7n, c7n, rfl⟩ := own_n HG.out.o7
          obtain ⟨g6n, q6n, e6n, _, _, hc6n, hm6n⟩ := own_ptr HG.out.o6 (by omega)
          obtain ⟨g7n, q7n, e7n, _, _, hc7n, hm7n⟩ := own_ptr HG.out.o7 (by omega)
          cases e6n
          cases e7n
          have HG7 := Lib.hid (show g7n ≠ g10 from fun h => NB.out (by rw [← h]; rfl))
          unfold maxLen at hm6n hm7n
          clear NB
          have N6 := Lib.hid (own_ne_blk HG.out.o6 HZ.out (by decide))
          go_wp2_with fail
          go_loopw [11] (fun qq wx => ∃ q : Nat, p ≤ q ∧ q ≤ L.length ∧ qq = .int .i64 q ∧ Hid (∃ z6 z7, InsG w wx (L.length + 1) ((L.map keyE).take q ++ z6 :: (L.map keyE).drop q) ((L.map (·.2)).take q ++ z7 :: (L.map (·.2)).drop q) (.slice (some ⟨g6n, 0, none⟩) (L.length + 1) c6n) (.slice (some ⟨g7n, 0, none⟩) (L.length + 1) c7n)) ∧ Hid (Blk wx g10 100 (wdC (wOf x3)))) (fun qq _ => (intOf qq).toNat)
          case atStart => exact ⟨L.length, hp, Nat.le_refl _, by first | rfl | (simp; done), Lib.hid ⟨(0, 0, 0), (0, 0), by have := HG.out; simpa [List.take_of_length_le, List.drop_of_length_le] using this⟩, HZ⟩
          case round =>
            clear HG HZ
            obtain ⟨q, hpq, hqL, rfl, HGE, HZ⟩ := hrel
            obtain ⟨z6, z7, hg⟩ := HGE.out
            have HG := Lib.hid hg
            clear hg HGE
            by_cases hq : p < q
            · obtain ⟨q', rfl⟩ : ∃ q', q = q' + 1 := ⟨q - 1, by omega⟩
              have hl6 : q' < ((L.map keyE).take (q' + 1) ++ z6 :: (L.map keyE).drop (q' + 1)).length := by simp; omega
              have hl7 : q' < ((L.map (·.2)).take (q' + 1) ++ z7 :: (L.map (·.2)).drop (q' + 1)).length := by simp; omega
              have r6 := own_range (f := edV) (k := 3) (fun _ => rfl) (by decide) HG.out.o6 (i := q') hl6
              have s6 := HG.out.set6 (q' + 1) (by omega) (((L.map keyE).take (q' + 1) ++ z6 :: (L.map keyE).drop (q' + 1))[q']'hl6)
              have sh6 := shift_step (L.map keyE) (q' + 1) z6 (by omega) (by simpa using hqL)
              have sh7 := shift_step (L.map (·.2)) (q' + 1) z7 (by omega) (by simpa using hqL)
              simp only [Nat.add_sub_cancel] at sh6 sh7
              rw [sh6] at s6
              generalize ((L.map keyE).take (q' + 1) ++ z6 :: (L.map keyE).drop (q' + 1))[q']'hl6 = E6 at r6 s6
              have R6 := Lib.hid r6
              have S6 := Lib.hid s6
              have SH7 := Lib.hid sh7
              have HL7 := Lib.hid hl7
              clear r6 s6 sh6 sh7 hl6 hl7
              have hq2 : (p : Int) < (q' : Int) + 1 := by omega
              go_upto_region 20 with (first | (refine wpList_load_mid rfl 107 (.tmp 94) rfl g6n (q' * 3) rfl (edV E6) _ R6.out Tryz.underlying107 rfl infoEdge ?_) | (refine wpList_store_mid rfl 107 (.tmp 96) (.tmp 95) rfl g6n ((q' + 1) * 3) (edV E6).toArray rfl rfl S6.out.2.1 infoEdge (by simp [edV, Value.oneCell']) ?_))
              replace HG := Lib.hid S6.out.1
              replace HZ := Lib.hid (HZ.out.kept S6.out.2.2 (by have := N6.out; simp [Value.ownBlock] at this; simpa using fun h => this h.symm))
              clear R6 S6
              show Code.wp _ _ _ _ (World.setCells _ g6n ((q' + 1) * 3) (edV E6))
              generalize World.setCells _ g6n ((q' + 1) * 3) (edV E6) = wy at HG HZ ⊢
              have r7 := own_range (f := fun u : Wd => wdC u) (k := 2) (fun _ => rfl) (by decide) HG.out.o7 (i := q') HL7.out
              have s7 := HG.out.set7 (q' + 1) (by omega) (((L.map (·.2)).take (q' + 1) ++ z7 :: (L.map (·.2)).drop (q' + 1))[q']'HL7.out)
              rw [SH7.out] at s7
              generalize ((L.map (·.2)).take (q' + 1) ++ z7 :: (L.map (·.2)).drop (q' + 1))[q']'HL7.out = E7 at r7 s7
              have R7 := Lib.hid r7
              have S7 := Lib.hid s7
              clear r7 s7 SH7 HL7
              go_wp2_with (first | (refine wpList_load_mid rfl 100 (.tmp 102) rfl g7n (q' * 2) rfl (wdC E7) _ R7.out Tryz.underlying100 rfl infoWide ?_) | (refine wpList_store_mid rfl 100 (.tmp 104) (.tmp 103) rfl g7n ((q' + 1) * 2) (wdC E7).toArray rfl rfl S7.out.2.1 infoWide (by simp [Value.oneCell']) ?_))
              replace HZ := Lib.hid (HZ.out.kept S7.out.2.2 (by have := HG7.out; simpa using fun h => this h.symm))
              go_roundw
              case rel => exact ⟨q', by omega, by omega, by first | rfl | (simp; done) | go_num, Lib.hid ⟨_, _, S7.out.1⟩, HZ⟩
              case measure => simp [intOf]
            · obtain rfl : q = p := by omega
              have hq2 : ¬ (q : Int) < (q : Int) := by omega
              obtain ⟨b2, o2, eA, hbx, x0, y0, z0⟩ := edge_at (HA.out.kept0 HG.out.k) hlt'
              cases eA
              rw [← HXE.out] at x0 y0
              have X0 := Lib.hid x0
              have Y0 := Lib.hid y0
              clear x0 y0 z0 hbx
              have S6 := Lib.hid (HG.out.set6 q (by omega) (x1, x2, 0))
              go_upto_region 21 with (fail)
              refine wp_region_still_tail 14 (by kernel_rfl) (by kernel_rfl) ?_
              simp only [List.take_succ_cons, List.take_zero, List.drop_succ_cons, List.drop_zero]
              change wpStill _ _ (World.drew wr) (fun a' => wpList _ _ _ _ a' (World.drew wr)) _ _
              replace HG := Lib.hid (HG.out.kept0 ((Kept.refl [] wr).drew))
              replace HZ := Lib.hid HZ.out.drew
              have x0 : (World.drew wr).cell? ⟨bb, off + k * 3, none⟩ = some (.int .i64 x1) := X0.out
              have y0 : (World.drew wr).cell? ⟨bb, off + k * 3 + 1, none⟩ = some (.int .i64 x2) := Y0.out
              clear X0 Y0 S6
              generalize World.drew wr = wx at *
              have S6 := Lib.hid (HG.out.set6 q (by omega) (x1, x2, 0))
              have hi1 : q < L.length + 1 := by omega
              have hi2 : (q : Int) < (L.length : Int) + 1 := by omega
              have hi3 : ¬ (L.length : Int) + 1 ≤ (q : Int) := by omega
              have hi4 : ¬ (q : Int) < 0 := by omega
              repeat still_step
              refine wpStill_nil ?_
              clear x0 y0
              go_upto_region 22 with (first | (refine wpList_store_mid rfl 107 (.tmp 118) (.tmp 117) rfl g6n (q * 3) (edV (x1, x2, 0)).toArray rfl rfl S6.out.2.1 infoEdge (by simp [edV, Value.oneCell']) ?_))
              replace HG := Lib.hid S6.out.1
              replace HZ := Lib.hid (HZ.out.kept S6.out.2.2 (by have := N6.out; simp [Value.ownBlock] at this; simpa using fun h => this h.symm))
              clear S6
              show Code.wp _ _ _ _ (World.setCells _ g6n (q * 3) (edV (x1, x2, 0)))
              generalize World.setCells _ g6n (q * 3) (edV (x1, x2, 0)) = wy at HG HZ ⊢
              have S7 := Lib.hid (HG.out.set7 q (by omega) (wOf x3))
              go_wp2_with (first | (refine wpList_loadBlk rfl 100 (.tmp 10) rfl g10 (wdC (wOf x3)) _ HZ.out rfl Tryz.underlying100 rfl infoWide ?_) | (refine wpList_store_mid rfl 100 (.tmp 122) (.tmp 121) rfl g7n (q * 2) (wdC (wOf x3)).toArray rfl rfl S7.out.2.1 infoWide (by simp [Value.oneCell']) ?_))
              go_roundw
              case rel =>
                refine ⟨k + 1, by omega, by go_num, ?_⟩
                have hn := insR_new r (x1, x2) (wOf x3) L q hp HB.out HNE.out
                have h3 := S7.out.1
                rw [shift_end _ q _ _ (by simpa using hp), shift_end _ q _ _ (by simpa using hp)] at h3
                rw [HS.out, hn]
                refine Lib.hid ?_
                show InsG w _ (L.take q ++ ((x1, x2), wOf x3) :: L.drop q).length ((L.take q ++ ((x1, x2), wOf x3) :: L.drop q).map keyE) ((L.take q ++ ((x1, x2), wOf x3) :: L.drop q).map (·.2)) _ _
                have e1 : (L.take q ++ ((x1, x2), wOf x3) :: L.drop q).length = L.length + 1 := by simp; omega
                have e2 : (L.take q ++ ((x1, x2), wOf x3) :: L.drop q).map keyE = (L.map keyE).take q ++ (x1, x2, 0) :: (L.map keyE).drop q := by simp [keyE]
                have e3 : (L.take q ++ ((x1, x2), wOf x3) :: L.drop q).map (·.2) = (L.map (·.2)).take q ++ (wOf x3) :: (L.map (·.2)).drop q := by simp
                rw [e1, e2, e3]
                exact h3
              case measure => simp [intOf]; omega
        · replace hb : keyLt (x1, x2) (a1, a2) = false := by simpa using hb
          have HBB := Lib.hid hb
          refine wp_region_held_drew (S := (fun w' => w'.rangeAt g6 (p * 3) (edV (a1, a2, 0)) ∧ w'.rangeAt bb (off + k * 3) (edV (x1, x2, x3)))) (by kernel_rfl) ?_ (fun hHeld => ?_)
          · exact ⟨H6.out, HX.out⟩
          replace HI := Lib.hid (HI.out.kept0 ((Kept.refl [] _).drew))
          replace H6 := Lib.hid (show World.rangeAt (World.drew _) g6 (p * 3) (edV (a1, a2, 0)) from H6.out)
          replace HX := Lib.hid (show World.rangeAt (World.drew _) bb (off + k * 3) (edV (x1, x2, x3)) from HX.out)
          replace HZ := Lib.hid HZ.out.drew
          refine tkYes (i := 0) (v := ?_) rfl rfl (by kernel_rfl) (by kernel_rfl) (by kernel_rfl) (fun _ _ _ h => h) (by rfl) ?_ (by assumption) ?_
          rotate_left
          · (intro w' hSw; (try dsimp only at hSw); go_simp; try with_reducible rfl)
          try simp only [Act.put, List.setIfInBounds_toArray, List.set_cons_zero, List.set_cons_succ]
          refine tkYes (i := 1) (v := ?_) rfl rfl (by kernel_rfl) (by kernel_rfl) (by kernel_rfl) (fun _ _ _ h => h) (by rfl) ?_ (by assumption) ?_
          rotate_left
          · (intro w' hSw; (try dsimp only at hSw); go_simp; try with_reducible rfl)
          try simp only [Act.put, List.setIfInBounds_toArray, List.set_cons_zero, List.set_cons_succ]
          refine tkYes (i := 2) (v := ?_) rfl rfl (by kernel_rfl) (by kernel_rfl) (by kernel_rfl) (fun _ _ _ h => h) (by rfl) ?_ (by assumption) ?_
          rotate_left
          · (intro w' hSw; (try dsimp only at hSw); go_simp; try with_reducible rfl)
          try simp only [Act.put, List.setIfInBounds_toArray, List.set_cons_zero, List.set_cons_succ]
          refine tkYes (i := 3) (v := ?_) rfl rfl (by kernel_rfl) (by kernel_rfl) (by kernel_rfl) (fun _ _ _ h => h) (by rfl) ?_ (by assumption) ?_
          rotate_left
          · (intro w' hSw; (try dsimp only at hSw); go_simp; try with_reducible rfl)
          try simp only [Act.put, List.setIfInBounds_toArray, List.set_cons_zero, List.set_cons_succ]
          refine tkYes (i := 4) (v := ?_) rfl rfl (by kernel_rfl) (by kernel_rfl) (by kernel_rfl) (fun _ _ _ h => h) (by rfl) ?_ (by assumption) ?_
          rotate_left
          · (intro w' hSw; (try dsimp only at hSw); go_simp; try with_reducible rfl)
          try simp only [Act.put, List.setIfInBounds_toArray, List.set_cons_zero, List.set_cons_succ]
          refine tkYes (i := 5) (v := ?_) rfl rfl (by kernel_rfl) (by kernel_rfl) (by kernel_rfl) (fun _ _ _ h => h) (by rfl) ?_ (by assumption) ?_
          rotate_left
          · (intro w' hSw; (try dsimp only at hSw); go_simp; try with_reducible rfl)
          try simp only [Act.put, List.setIfInBounds_toArray, List.set_cons_zero, List.set_cons_succ]
          refine tkYes (i := 6) (v := ?_) rfl rfl (by kernel_rfl) (by kernel_rfl) (by kernel_rfl) (fun _ _ _ h => h) (by rfl) ?_ (by assumption) ?_
          rotate_left
          · (intro w' hSw; (try dsimp only at hSw); go_simp; try with_reducible rfl)
          try simp only [Act.put, List.setIfInBounds_toArray, List.set_cons_zero, List.set_cons_succ]
          refine tkYes (i := 7) (v := .pointer (some ⟨bb, off + k * 3, none⟩)) rfl rfl (by kernel_rfl) (by kernel_rfl) (by kernel_rfl) (fun _ _ _ h => h) (by rfl) ?_ (by assumption) ?_
          skip
          · (intro w' hSw; (try dsimp only at hSw); go_simp; try (simp; done))
          try simp only [Act.put, List.setIfInBounds_toArray, List.set_cons_zero, List.set_cons_succ]
          refine tkLoad (i := 8) 107 (.tmp 54) bb (off + k * 3) (edV (x1, x2, x3)) _ rfl rfl (by kernel_rfl) (by kernel_rfl) (by kernel_rfl) (fun _ _ _ h => h) (by rfl) rfl rfl (fun w hw => hw.2) Tryz.underlying107 rfl infoEdge (by assumption) ?_
          try simp only [Act.put, List.setIfInBounds_toArray, List.set_cons_zero, List.set_cons_succ]
          refine tkYes (i := 9) (v := ?_) rfl rfl (by kernel_rfl) (by kernel_rfl) (by kernel_rfl) (fun _ _ _ h => h) (by rfl) ?_ (by assumption) ?_
          rotate_left
          · (intro w' hSw; (try dsimp only at hSw); go_simp; try with_reducible rfl)
          try simp only [Act.put, List.setIfInBounds_toArray, List.set_cons_zero, List.set_cons_succ]
          refine tkYes (i := 10) (v := ?_) rfl rfl (by kernel_rfl) (by kernel_rfl) (by kernel_rfl) (fun _ _ _ h => h) (by rfl) ?_ (by assumption) ?_
          rotate_left
          · (intro w' hSw; (try dsimp only at hSw); go_simp; try with_reducible rfl)
          try simp only [Act.put, List.setIfInBounds_toArray, List.set_cons_zero, List.set_cons_succ]
          refine tkYes (i := 11) (v := .pointer (some ⟨g6, p * 3, none⟩)) rfl rfl (by kernel_rfl) (by kernel_rfl) (by kernel_rfl) (fun _ _ _ h => h) (by rfl) ?_ (by assumption) ?_
          skip
          · (intro w' hSw; (try dsimp only at hSw); go_simp; try (simp; done))
          try simp only [Act.put, List.setIfInBounds_toArray, List.set_cons_zero, List.set_cons_succ]
          refine tkLoad (i := 12) 107 (.tmp 58) g6 (p * 3) (edV (a1, a2, 0)) _ rfl rfl (by kernel_rfl) (by kernel_rfl) (by kernel_rfl) (fun _ _ _ h => h) (by rfl) rfl rfl (fun w hw => hw.1) Tryz.underlying107 rfl infoEdge (by assumption) ?_
          try simp only [Act.put, List.setIfInBounds_toArray, List.set_cons_zero, List.set_cons_succ]
          refine wpAnyH_ready (rs := [13]) (by kernel_rfl) (by simp) ?_
          refine AllReadyH.cons rfl (fun K hK => ?_) AllReadyH.nil
          go_simp
          refine (below_any (x1, x2, x3) (a1, a2, (0 : Int)) _).mono ?_
          rintro _ w5 ⟨rfl, hk5⟩
          rw [show keyLt ((x1, x2, x3).1, (x1, x2, x3).2.1) ((a1, a2, (0 : Int)).1, (a1, a2, (0 : Int)).2.1) = false from hb]
          replace HI := Lib.hid (HI.out.kept0 hk5)
          replace H6 := Lib.hid (show w5.rangeAt g6 (p * 3) (edV (a1, a2, 0)) from fun j u hu => Kept.cell_lt hk5 (H6.out j u hu))
          replace HX := Lib.hid (show w5.rangeAt bb (off + k * 3) (edV (x1, x2, x3)) from fun j u hu => Kept.cell_lt hk5 (HX.out j u hu))
          replace HZ := Lib.hid (HZ.out.kept hk5 (by simp)); clear hk5
          go_wp2_with fail
          refine hK.out _ _ ?_ (fun hHeld => ?_)
          · exact ⟨H6.out, HX.out⟩
          clear hK K
          try simp only [Act.put, List.setIfInBounds_toArray, List.set_cons_zero, List.set_cons_succ]
          refine tkYes (i := 14) (v := ?_) rfl rfl (by kernel_rfl) (by kernel_rfl) (by kernel_rfl) (fun _ _ _ h => h) (by rfl) ?_ (by assumption) ?_
          rotate_left
          · (intro w' hSw; (try dsimp only at hSw); go_simp; try with_reducible rfl)
          try simp only [Act.put, List.setIfInBounds_toArray, List.set_cons_zero, List.set_cons_succ]
          refine tkYes (i := 15) (v := ?_) rfl rfl (by kernel_rfl) (by kernel_rfl) (by kernel_rfl) (fun _ _ _ h => h) (by rfl) ?_ (by assumption) ?_
          rotate_left
          · (intro w' hSw; (try dsimp only at hSw); go_simp; try with_reducible rfl)
          try simp only [Act.put, List.setIfInBounds_toArray, List.set_cons_zero, List.set_cons_succ]
          refine wpAnyH_done (by kernel_rfl) ?_ _
          go_upto_region 13 with (fail)
          obtain ⟨g7, q7, e7, hg7, hlt7, hc7, hm7⟩ := own_ptr HI.out.o7 (show 0 < L.length by omega)
          cases e7
          clear H6 HX
          unfold maxLen at hm7
          have hr7 := own_range (f := fun u : Wd => wdC u) (k := 2) (fun _ => rfl) (by decide) HI.out.o7 (i := p) (by simpa using hpl)
          rw [List.getElem_map, ← HXL.out] at hr7
          have H7 := Lib.hid (show w5.rangeAt g7 (p * 2) (wdC au) from hr7)
          have HAU := Lib.hid (show WdOk au from by have := HLO.out L[p] (List.getElem_mem hpl); rw [← HXL.out] at this; exact this)
          have HG7 := Lib.hid (show g7 ≠ g10 from fun h => N10.out (by rw [← h]; rfl))
          clear hr7 hg7 hlt7
          refine wp_region_held_drew (S := (fun w' => w'.rangeAt g10 0 (wdC (wOf x3)))) (by kernel_rfl) ?_ (fun hHeld => ?_)
          · exact HZ.out.cell2
          replace HI := Lib.hid (HI.out.kept0 ((Kept.refl [] _).drew))
          replace HZ := Lib.hid HZ.out.drew
          replace H7 := Lib.hid (show World.rangeAt (World.drew _) g7 (p * 2) (wdC au) from H7.out)
          refine tkYes (i := 0) (v := ?_) rfl rfl (by kernel_rfl) (by kernel_rfl) (by kernel_rfl) (fun _ _ _ h => h) (by rfl) ?_ (by assumption) ?_
          rotate_left
          · (intro w' hSw; (try dsimp only at hSw); go_simp; try with_reducible rfl)
          try simp only [Act.put, List.setIfInBounds_toArray, List.set_cons_zero, List.set_cons_succ]
          refine tkYes (i := 1) (v := ?_) rfl rfl (by kernel_rfl) (by kernel_rfl) (by kernel_rfl) (fun _ _ _ h => h) (by rfl) ?_ (by assumption) ?_
          rotate_left
          · (intro w' hSw; (try dsimp only at hSw); go_simp; try with_reducible rfl)
          try simp only [Act.put, List.setIfInBounds_toArray, List.set_cons_zero, List.set_cons_succ]
          refine tkYes (i := 2) (v := ?_) rfl rfl (by kernel_rfl) (by kernel_rfl) (by kernel_rfl) (fun _ _ _ h => h) (by rfl) ?_ (by assumption) ?_
          rotate_left
          · (intro w' hSw; (try dsimp only at hSw); go_simp; try with_reducible rfl)
          try simp only [Act.put, List.setIfInBounds_toArray, List.set_cons_zero, List.set_cons_succ]
          refine tkYes (i := 3) (v := ?_) rfl rfl (by kernel_rfl) (by kernel_rfl) (by kernel_rfl) (fun _ _ _ h => h) (by rfl) ?_ (by assumption) ?_
          rotate_left
          · (intro w' hSw; (try dsimp only at hSw); go_simp; try with_reducible rfl)
          try simp only [Act.put, List.setIfInBounds_toArray, List.set_cons_zero, List.set_cons_succ]
          refine tkYes (i := 4) (v := ?_) rfl rfl (by kernel_rfl) (by kernel_rfl) (by kernel_rfl) (fun _ _ _ h => h) (by rfl) ?_ (by assumption) ?_
          rotate_left
          · (intro w' hSw; (try dsimp only at hSw); go_simp; try with_reducible rfl)
          try simp only [Act.put, List.setIfInBounds_toArray, List.set_cons_zero, List.set_cons_succ]
          refine tkYes (i := 5) (v := .pointer (some ⟨g7, p * 2, none⟩)) rfl rfl (by kernel_rfl) (by kernel_rfl) (by kernel_rfl) (fun _ _ _ h => h) (by rfl) ?_ (by assumption) ?_
          skip
          · (intro w' hSw; (try dsimp only at hSw); go_simp; try (simp; done))
          try simp only [Act.put, List.setIfInBounds_toArray, List.set_cons_zero, List.set_cons_succ]
          refine tkLoad (i := 7) 100 (.tmp 10) g10 0 (wdC (wOf x3)) _ rfl rfl (by kernel_rfl) (by kernel_rfl) (by kernel_rfl) (fun _ _ _ h => h) (by rfl) rfl rfl (fun w hw => hw) Tryz.underlying100 rfl infoWide (by assumption) ?_
          try simp only [Act.put, List.setIfInBounds_toArray, List.set_cons_zero, List.set_cons_succ]
          refine wpAnyH_ready (rs := [6]) (by kernel_rfl) (by simp) ?_
          refine AllReadyH.cons rfl (fun K hK => ?_) AllReadyH.nil
          refine step_loadMid rfl 100 (.tmp 68) rfl g7 (p * 2) rfl (wdC au) _ H7.out Tryz.underlying100 rfl infoWide ?_
          refine hK.out _ _ ?_ (fun hHeld => ?_)
          · exact HZ.out.cell2
          clear hK K
          try simp only [Act.put, List.setIfInBounds_toArray, List.set_cons_zero, List.set_cons_succ]
          refine wpAnyH_ready (rs := [8]) (by kernel_rfl) (by simp) ?_
          refine AllReadyH.cons rfl (fun K hK => ?_) AllReadyH.nil
          go_simp
          refine (refRingAdd_any r au (wOf x3) HAU.out (wOf_ok x3) _).mono ?_
          rintro _ w6 ⟨rfl, hk6⟩
          replace HI := Lib.hid (HI.out.kept0 hk6)
          replace HZ := Lib.hid (HZ.out.kept hk6 (by simp))
          clear hk6
          go_wp2_with fail
          refine hK.out _ _ ?_ (fun hHeld => ?_)
          · exact HZ.out.cell2
          clear hK K
          try simp only [Act.put, List.setIfInBounds_toArray, List.set_cons_zero, List.set_cons_succ]
          refine tkYes (i := 9) (v := .pointer (some ⟨g7, p * 2, none⟩)) rfl rfl (by kernel_rfl) (by kernel_rfl) (by kernel_rfl) (fun _ _ _ h => h) (by rfl) ?_ (by assumption) ?_
          skip
          · (intro w' hSw; (try dsimp only at hSw); go_simp; try (simp; done))
          try simp only [Act.put, List.setIfInBounds_toArray, List.set_cons_zero, List.set_cons_succ]
          have HST := HI.out.set7 p hpl (rAdd r au (wOf x3))
          refine wpAnyH_ready (rs := [10]) (by kernel_rfl) (by simp) ?_
          refine AllReadyH.cons rfl (fun K hK => ?_) AllReadyH.nil
          refine step_storeMid rfl 100 (.tmp 72) (.tmp 71) rfl g7 (p * 2) (wdC (rAdd r au (wOf x3))).toArray rfl rfl HST.2.1 infoWide (by simp [Value.oneCell']) ?_
          replace HI := Lib.hid HST.1
          replace HZ := Lib.hid (HZ.out.kept HST.2.2 (by have := HG7.out; simpa using fun h => this h.symm))
          clear HST
          refine hK.out _ _ ?_ (fun hHeld => ?_)
          · exact HZ.out.cell2
          clear hK K
          try simp only [Act.put, List.setIfInBounds_toArray, List.set_cons_zero, List.set_cons_succ]
          refine wpAnyH_done (by kernel_rfl) ?_ _
          go_wp2_with fail
          go_roundw
          case rel =>
            refine ⟨k + 1, by omega, by go_num, ?_⟩
            have hq : insAll r (l.take (k + 1)) = L.set p (L[p].1, rAdd r L[p].2 (wOf x3)) := by
              rw [HS.out]
              exact insR_old r (x1, x2) (wOf x3) L p hpl HB.out (by rw [← HXL.out]; exact HNB.out) (by rw [← HXL.out]; exact HBB.out)
            have h2 := set_keyE L p hpl (rAdd r L[p].2 (wOf x3))
            have h3 := HI.out
            have hau : L[p].2 = au := by rw [← HXL.out]
            rw [hq]
            refine Lib.hid ?_
            show InsG w _ (L.set p (L[p].1, rAdd r L[p].2 (wOf x3))).length ((L.set p (L[p].1, rAdd r L[p].2 (wOf x3))).map keyE) ((L.set p (L[p].1, rAdd r L[p].2 (wOf x3))).map (·.2)) _ _
            rw [h2.1, h2.2, List.length_set, hau]
            exact h3
          case measure => simp [intOf]; omega
  case rest =>
    have HI := hcut
    have HOK := Lib.hid (insAll_ok r l)
    have HLL := Lib.hid (Nat.le_trans (insAll_length r l) hl)
    have HC := Lib.hid (show combP r l = if (insAll r l).all (fun x => (wNarrow x.2).2) = true then (0, (insAll r l).map edK) else (12, []) by rw [combP_ref, if_neg (by rw [HR.out]; simp)])
    clear hcut
    generalize insAll r l = M at HI HOK HLL HC
    obtain ⟨A6, c6, e6⟩ := own_n HI.out.o6
    obtain ⟨A7, c7, e7⟩ := own_n HI.out.o7
    subst e6 e7
    have H6 := Lib.hid (show wc.ownsRow w.heap.size 107 3 (.slice A6 M.length c6) M.length (((M.take 0).map edK ++ (M.drop 0).map keyE).flatMap edV) from by have := HI.out.o6; simpa using this)
    have H7 := Lib.hid HI.out.o7
    have K0 := Lib.hid HI.out.k
    have hM := HLL.out
    clear HI
    go_wp2_with fail
    go_loopw [12] (fun i wx => ∃ k : Nat, k ≤ M.length ∧ i = .int .i64 k ∧ Hid (∀ j (hj : j < M.length), j < k → (wNarrow M[j].2).2 = true) ∧ Hid (wx.ownsRow w.heap.size 107 3 (.slice A6 M.length c6) M.length (((M.take k).map edK ++ (M.drop k).map keyE).flatMap edV)) ∧ Hid (wx.ownsRow w.heap.size 100 2 (.slice A7 M.length c7) M.length ((M.map (·.2)).flatMap wdC)) ∧ Hid (Kept [] w wx)) (fun i _ => M.length - (intOf i).toNat)
    case atStart => exact ⟨0, Nat.zero_le _, rfl, Lib.hid (fun j hj h => absurd h (by omega)), H6, H7, K0⟩
    case round =>
      clear H6 H7 K0
      obtain ⟨k, hk, rfl, HN, H6, H7, K0⟩ := hrel
      by_cases hlt : k < M.length
      · obtain ⟨g7, q7, e7, hg7, hlt7, hc7, hm7⟩ := own_ptr H7.out (show 0 < M.length by omega)
        cases e7
        obtain ⟨g6, q6, e6, hg6, hlt6, hc6, hm6⟩ := own_ptr H6.out (show 0 < M.length by omega)
        cases e6
        unfold maxLen at hm7 hm6
        have hr7 := own_range (f := fun u : Wd => wdC u) (k := 2) (fun _ => rfl) (by decide) H7.out (i := k) (by simpa using hlt)
        rw [List.getElem_map] at hr7
        have R7 := Lib.hid hr7
        have HOX := Lib.hid (HOK.out M[k] (List.getElem_mem hlt))
        clear hr7 hlt7 hlt6
        have HG6 := Lib.hid hg6
        clear hg6 hg7
        obtain ⟨X, hX⟩ : ∃ X, X = M[k] := ⟨_, rfl⟩
        rw [← hX] at R7 HOX
        have HXM := Lib.hid hX
        clear hX
        obtain ⟨⟨a1, a2⟩, au⟩ := X
        dsimp only at R7 HOX
        go_wp2_with (first | (refine wpList_load_mid rfl 100 (.tmp 132) rfl g7 (k * 2) rfl (wdC au) _ R7.out Tryz.underlying100 rfl infoWide ?_))
        refine (refNarrow_any au HOX.out _).mono ?_
        rintro _ w5 ⟨rfl, hk5⟩
        replace H6 := Lib.hid (own_kept0 H6.out hk5)
        replace H7 := Lib.hid (own_kept0 H7.out hk5)
        replace K0 := Lib.hid (K0.out.trans hk5)
        clear hk5 R7
        by_cases hnb : (wNarrow au).2 = true
        · rw [hnb]
          have HNB := Lib.hid hnb
          clear hnb
          have hel : k < ((M.take k).map edK ++ (M.drop k).map keyE).length := by simp; omega
          have hek : ((M.take k).map edK ++ (M.drop k).map keyE)[k]'hel = keyE M[k] := by
            rw [List.getElem_append_right (by simp; omega)]
            simp [Nat.min_eq_left hk]
          have hst := own_setCell H6.out (k * 3 + 2) (.int .i64 (wNarrow au).1)
          rw [flatMap_cell _ k hel, hek] at hst
          have hrg := own_range (f := edV) (k := 3) (fun _ => rfl) (by decide) H6.out (i := k) hel
          rw [hek] at hrg
          have hce : w5.cell? ⟨g6, k * 3 + 2, none⟩ = some (.int .i64 0) := hrg 2 _ rfl
          have hfr : w5.frozen? ⟨g6, k * 3 + 2, none⟩ = false := by
            have hB := own_setCell H6.out (k * 3 + 2) (.int .i64 0)
            have hx : (((M.take k).map edK ++ (M.drop k).map keyE).flatMap edV)[k * 3 + 2]? = some (.int .i64 0) := by
              rw [flatMap_get _ edV 3 (fun _ _ => rfl) k 2 hel (by decide), hek]
              rfl
            exact (hB.2.1 _ hx).2
          have hls : ((M.take k).map edK ++ (M.drop k).map keyE).set k ((keyE M[k]).1, (keyE M[k]).2.1, (wNarrow au).1) = (M.take (k + 1)).map edK ++ (M.drop (k + 1)).map keyE := by
            rw [List.set_append_right _ _ (by simp; omega)]
            have e0 : k - ((M.take k).map edK).length = 0 := by simp; omega
            rw [e0, List.drop_eq_getElem_cons hlt, List.map_cons, List.set_cons_zero, List.take_succ_eq_append_getElem hlt, List.map_append, List.append_assoc]
            rw [show au = M[k].2 by rw [← HXM.out]]
            rfl
          rw [hls] at hst
          have f6 : KeptB w.heap.size [107] w5 (w5.setCell ⟨g6, k * 3 + 2, none⟩ (.int .i64 (wNarrow au).1)) := (KeptB.refl _ _ w5).app (by simpa [Value.ownBlock] using (Kept.refl [g6] w5).setCell (p := ⟨g6, k * 3 + 2, none⟩) (.inl (by simp)) (.int .i64 (wNarrow au).1)) H6.out (by decide)
          have H6' := Lib.hid hst.1
          have H7' := Lib.hid (own_keptB H7.out f6 (by decide))
          have K0' := Lib.hid (K0.out.thenB f6 (Nat.le_refl _))
          have hgl := hst.2.2
          clear hst hrg hls f6 hel hek H6 H7 K0
          go_wp2_with fail
          go_roundw
          case rel =>
            refine ⟨k + 1, by omega, by go_num, Lib.hid (fun j hj hjk => ?_), H6', H7', K0'⟩
            by_cases hjq : j = k
            · subst hjq
              rw [← HXM.out]
              exact HNB.out
            · exact HN.out j hj (by omega)
          case measure => simp [intOf]; omega
        · replace hnb : (wNarrow au).2 = false := by simpa using hnb
          rw [hnb]
          have HNB := Lib.hid hnb
          clear hnb
          go_wp2_with fail
          show post (.returned (.tuple #[.slice none 0 0, .int .i64 12])) _
          rw [HPOST.out]
          have hall : ¬ (M.all fun x => (wNarrow x.2).2) = true := by
            rw [List.all_eq_true]
            intro h
            have := h M[k] (List.getElem_mem hlt)
            rw [← HXM.out] at this
            rw [HNB.out] at this
            cases this
          have hc := HC.out
          rw [if_neg hall] at hc
          exact ⟨_, by rw [hc], by rw [hc]; exact World.ownsRow_nil _ _ _ _, K0.out⟩
      · obtain rfl : k = M.length := by omega
        go_wp2_with fail
        show post (.returned (.tuple #[.slice A6 M.length c6, .int .i64 0])) _
        rw [HPOST.out]
        have hall : (M.all fun x => (wNarrow x.2).2) = true := by
          rw [List.all_eq_true]
          intro x hx
          obtain ⟨j, hj, rfl⟩ := List.getElem_of_mem hx
          exact HN.out j hj hj
        have hc := HC.out
        rw [if_pos hall] at hc
        refine ⟨_, by rw [hc], ?_, K0.out⟩
        rw [hc]
        have := H6.out
        simpa using this
end Go.Proofs.YtblfingmdipopaaGreat
