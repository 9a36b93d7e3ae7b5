/- What is wrong with a graph: the reference's Right. -/
import Derived.Test.YtfnhfmffkjljnaaGreatE17
namespace Go.Proofs.YtfnhfmffkjljnaaGreat
set_option linter.unusedSimpArgs false
set_option linter.unusedVariables false
open Go.ChangeShapes Go.WideShapes Go.ChangeAt Go.RowKit
open Go.RowKit (wrap32 wrap64)
set_option maxHeartbeats 8000000

set_option maxRecDepth 100000 in
theorem refRight_any (n : Int) (l : List Ed) (A : Option Addr) (c : Nat) (w : World) (hl : l.length ≤ maxLen) (hr : Reads w A (l.flatMap edV)) :
    Calls Tryz.prog 17 #[.agg #[.int .i64 n, .slice A l.length c]] w fun e w' => e = .returned (.int .i64 (rightP n l)) ∧ Kept [] w w' := by
  unfold maxLen at hl
  have HR := Lib.hid hr
  have HB := Lib.hid (Blk.new w 24 (grV n A l.length c))
  have K0 := Lib.hid ((Kept.refl [] w).alloc (.cells #[.int .i64 n, .slice A l.length c] 24))
  clear hr
  by_cases h1 : n < 0
  · rw [show rightP n l = 3 from if_pos h1]
    go_enter Tryz.func17, Tryz.ntmps17
    go_wp2_with fail
    first | (go_ret; exact ⟨rfl, K0.out⟩) | exact ⟨rfl, K0.out⟩
  by_cases h2 : 4096 < n
  · rw [show rightP n l = 5 by unfold rightP; rw [if_neg h1, if_pos h2]]
    go_enter Tryz.func17, Tryz.ntmps17
    go_wp2_with fail
    first | (go_ret; exact ⟨rfl, K0.out⟩) | exact ⟨rfl, K0.out⟩
  by_cases h3 : 65536 < l.length
  · rw [show rightP n l = 5 by unfold rightP; rw [if_neg h1, if_neg h2, if_pos h3]]
    go_enter Tryz.func17, Tryz.ntmps17
    go_wp2_with fail
    first | (go_ret; exact ⟨rfl, K0.out⟩) | exact ⟨rfl, K0.out⟩
  obtain ⟨post, hpost⟩ : ∃ post : Ending → World → Prop, post = fun e w' => e = .returned (.int .i64 (rightP n l)) ∧ Kept [] w w' := ⟨_, rfl⟩
  rw [← hpost]
  have HPOST := Lib.hid hpost
  have HP := Lib.hid (show rightP n l = if l.any (outE n) = true then 3 else if l.any badW = true then 7 else 0 by unfold rightP; rw [if_neg h1, if_neg h2, if_neg h3])
  clear hpost
  go_enter Tryz.func17, Tryz.ntmps17
  go_upto_block 0 with (fail)
  generalize (w.alloc (.cells #[.int .i64 n, .slice A l.length c] 24)) = w2 at *
  generalize w.heap.size = g at HB ⊢
  go_wp2_with fail
  go_loopw [3] (fun i wr => ∃ k : Nat, k ≤ l.length ∧ i = .int .i64 k ∧ Hid (∀ j (hj : j < l.length), j < k → outE n l[j] = false) ∧ Hid (Blk wr g 24 (grV n A l.length c)) ∧ Hid (Kept [] w wr)) (fun i _ => l.length - (intOf i).toNat)
  case atStart => exact ⟨0, Nat.zero_le _, rfl, Lib.hid (fun j hj h => absurd h (by omega)), HB, K0⟩
  case round =>
    clear HB K0
    obtain ⟨k, hk, rfl, HN, HB, K0⟩ := hrel
    have y0 := HB.out.cell 0
    have y1 := HB.out.cell 1
    have hgl := HB.out.lt
    simp only [List.getElem?_cons_zero, List.getElem?_cons_succ] at y0 y1
    by_cases hlt : k < l.length
    · obtain ⟨b, off, rfl, hbl, c0, c1, c2⟩ := edge_at (HR.out.kept0 K0.out) hlt
      obtain ⟨x, hx⟩ : ∃ x, x = l[k] := ⟨_, rfl⟩
      rw [← hx] at c0 c1 c2
      have HX := Lib.hid hx
      clear hx
      obtain ⟨x1, x2, x3⟩ := x
      dsimp only at c0 c1 c2
      by_cases a0 : x1 < 0
      · have HBD := Lib.hid (show l.any (outE n) = true from any_true hlt (by rw [← HX.out]; simp [outE, outV]; omega))
        go_wp2_with fail
        show post (.returned (.int .i64 3)) _
        rw [HPOST.out]
        exact ⟨by rw [HP.out, if_pos HBD.out], K0.out.alloc _⟩
      by_cases a1 : n ≤ x1
      · have HBD := Lib.hid (show l.any (outE n) = true from any_true hlt (by rw [← HX.out]; simp [outE, outV]; omega))
        go_wp2_with fail
        show post (.returned (.int .i64 3)) _
        rw [HPOST.out]
        exact ⟨by rw [HP.out, if_pos HBD.out], K0.out.alloc _⟩
      by_cases a2 : x2 < 0
      · have HBD := Lib.hid (show l.any (outE n) = true from any_true hlt (by rw [← HX.out]; simp [outE, outV]; omega))
        go_wp2_with fail
        show post (.returned (.int .i64 3)) _
        rw [HPOST.out]
        exact ⟨by rw [HP.out, if_pos HBD.out], K0.out.alloc _⟩
      by_cases a3 : n ≤ x2
      · have HBD := Lib.hid (show l.any (outE n) = true from any_true hlt (by rw [← HX.out]; simp [outE, outV]; omega))
        go_wp2_with fail
        show post (.returned (.int .i64 3)) _
        rw [HPOST.out]
        exact ⟨by rw [HP.out, if_pos HBD.out], K0.out.alloc _⟩
      have HGD := Lib.hid (show outE n l[k] = false by rw [← HX.out]; simp [outE, outV]; omega)
      replace HB := Lib.hid (HB.out.alloc (.cells #[.int .i64 x1, .int .i64 x2, .int .i64 x3] 52))
      replace K0 := Lib.hid (K0.out.alloc (.cells #[.int .i64 x1, .int .i64 x2, .int .i64 x3] 52))
      go_wp2_with fail
      go_roundw
      case rel =>
        refine ⟨k + 1, by omega, by go_num, Lib.hid (fun j hj hjk => ?_), HB, K0⟩
        rcases Nat.lt_succ_iff_lt_or_eq.1 hjk with h | rfl
        · exact HN.out j hj h
        · exact HGD.out
      case measure => simp [intOf]; omega
    · obtain rfl : k = l.length := by omega
      have HA1 := Lib.hid (show l.any (outE n) = false from any_false (fun j hj => HN.out j hj hj))
      clear HN hlt
      go_wp2_with fail
      go_loopw [5] (fun i wx => ∃ k : Nat, k ≤ l.length ∧ i = .int .i64 k ∧ Hid (∀ j (hj : j < l.length), j < k → badW l[j] = false) ∧ Hid (Blk wx g 24 (grV n A l.length c)) ∧ Hid (Kept [] w wx)) (fun i _ => l.length - (intOf i).toNat)
      case atStart => exact ⟨0, Nat.zero_le _, rfl, Lib.hid (fun j hj h => absurd h (by omega)), HB, K0⟩
      case round =>
        clear HB K0 y0 y1 hgl
        obtain ⟨k, hk, rfl, HN, HB, K0⟩ := hrel
        have y1 := HB.out.cell 1
        simp only [List.getElem?_cons_zero, List.getElem?_cons_succ] at y1
        by_cases hlt : k < l.length
        · obtain ⟨b, off, rfl, hbl, c0, c1, c2⟩ := edge_at (HR.out.kept0 K0.out) hlt
          obtain ⟨x, hx⟩ : ∃ x, x = l[k] := ⟨_, rfl⟩
          rw [← hx] at c0 c1 c2
          have HX := Lib.hid hx
          clear hx
          obtain ⟨x1, x2, x3⟩ := x
          dsimp only at c0 c1 c2
          by_cases a0 : x3 < 0
          · have HBD := Lib.hid (show l.any badW = true from any_true hlt (by rw [← HX.out]; simp [badW]; omega))
            go_wp2_with fail
            show post (.returned (.int .i64 7)) _
            rw [HPOST.out]
            exact ⟨by rw [HP.out, if_neg (by rw [HA1.out]; simp), if_pos HBD.out], K0.out⟩
          by_cases a1 : 2147483647 < x3
          · have HBD := Lib.hid (show l.any badW = true from any_true hlt (by rw [← HX.out]; simp [badW]; omega))
            go_wp2_with fail
            show post (.returned (.int .i64 7)) _
            rw [HPOST.out]
            exact ⟨by rw [HP.out, if_neg (by rw [HA1.out]; simp), if_pos HBD.out], K0.out⟩
          have HGD := Lib.hid (show badW l[k] = false by rw [← HX.out]; simp [badW]; omega)
          go_wp2_with fail
          go_roundw
          case rel =>
            refine ⟨k + 1, by omega, by go_num, Lib.hid (fun j hj hjk => ?_), HB, K0⟩
            rcases Nat.lt_succ_iff_lt_or_eq.1 hjk with h | rfl
            · exact HN.out j hj h
            · exact HGD.out
          case measure => simp [intOf]; omega
        · obtain rfl : k = l.length := by omega
          have HA2 := Lib.hid (show l.any badW = false from any_false (fun j hj => HN.out j hj hj))
          clear HN hlt
          go_wp2_with fail
          show post (.returned (.int .i64 0)) _
          rw [HPOST.out]
          exact ⟨by rw [HP.out, if_neg (by rw [HA1.out]; simp), if_neg (by rw [HA2.out]; simp)], K0.out⟩
end Go.Proofs.YtfnhfmffkjljnaaGreat
