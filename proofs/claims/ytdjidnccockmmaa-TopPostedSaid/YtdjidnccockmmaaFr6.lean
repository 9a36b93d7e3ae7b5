/- Frames: what is wrong with one, as the document says. -/
import Derived.Test.YtdjidnccockmmaaFr5
namespace Go.Proofs.Ytdjidnccockmmaa
set_option linter.unusedSimpArgs false
set_option linter.unusedVariables false
open Go.ChangeShapes Go.WideShapes Go.ChangeAt Go.RowKit
open Go.RowKit (wrap32 wrap64)
set_option maxHeartbeats 4000000

set_option maxRecDepth 100000 in
theorem refRight_any (F : Fr) (A1 A2 A3 : Option Addr) (c1 c2 c3 : Nat) (w : World) (hF : FrIn w F A1 A2 A3) :
    Calls Try.prog 37 #[.agg #[.int .i64 F.kind, .int .i64 F.src, .int .i64 F.dst, .int .i64 F.seq, .int .i64 F.round, .int .i64 F.vn, .slice A1 F.items.length c1, .slice A2 F.sums.length c2, .slice A3 F.trips.length c3, .int .i64 F.n, .bool F.over]] w fun e w' => e = .returned (.int .i64 F.wrong) ∧ Kept [] w w' := by
  have HX := Lib.hid (Blk.new w 60 (frC F A1 A2 A3 c1 c2 c3))
  have HF := Lib.hid (hF.kept0 ((Kept.refl [] w).alloc (.cells (frC F A1 A2 A3 c1 c2 c3).toArray 60)))
  have K0 := Lib.hid ((Kept.refl [] w).alloc (.cells (frC F A1 A2 A3 c1 c2 c3).toArray 60))
  clear hF
  by_cases a1 : F.kind < 1
  · go_enter Try.func37, Try.ntmps37
    go_wp2_with fail
    go_ret
    exact ⟨ret_int (by unfold Fr.wrong; rw [if_pos (by omega)]), K0.out⟩
  by_cases a2 : 7 < F.kind
  · go_enter Try.func37, Try.ntmps37
    go_wp2_with fail
    go_ret
    exact ⟨ret_int (by unfold Fr.wrong; rw [if_pos (by omega)]), K0.out⟩
  have hw1 : F.wrong = if F.headOk = false then 3 else if vecRight F.vn F.items = false then 7 else if F.sums.any badSum = true then 3
    else if risesS (-1) F.sums = false then 6 else if 65536 < F.trips.length then 5 else if F.trips.any badTrip = true then 3 else 0 := by
    unfold Fr.wrong; rw [if_neg (by omega)]
  have W1 := Lib.hid hw1
  clear hw1
  by_cases d0 : F.src < 0
  · go_enter Try.func37, Try.ntmps37
    go_wp2_with fail
    go_ret
    exact ⟨ret_int (by rw [W1.out, if_pos (by simp [Fr.headOk, inR]; omega)]), K0.out⟩
  by_cases d1 : 64 ≤ F.src
  · go_enter Try.func37, Try.ntmps37
    go_wp2_with fail
    go_ret
    exact ⟨ret_int (by rw [W1.out, if_pos (by simp [Fr.headOk, inR]; omega)]), K0.out⟩
  by_cases d2 : F.dst < 0
  · go_enter Try.func37, Try.ntmps37
    go_wp2_with fail
    go_ret
    exact ⟨ret_int (by rw [W1.out, if_pos (by simp [Fr.headOk, inR]; omega)]), K0.out⟩
  by_cases d3 : 64 ≤ F.dst
  · go_enter Try.func37, Try.ntmps37
    go_wp2_with fail
    go_ret
    exact ⟨ret_int (by rw [W1.out, if_pos (by simp [Fr.headOk, inR]; omega)]), K0.out⟩
  by_cases d4 : F.seq < 0
  · go_enter Try.func37, Try.ntmps37
    go_wp2_with fail
    go_ret
    exact ⟨ret_int (by rw [W1.out, if_pos (by simp [Fr.headOk, inR]; omega)]), K0.out⟩
  by_cases d5 : 2147483647 < F.seq
  · go_enter Try.func37, Try.ntmps37
    go_wp2_with fail
    go_ret
    exact ⟨ret_int (by rw [W1.out, if_pos (by simp [Fr.headOk, inR]; omega)]), K0.out⟩
  by_cases d6 : F.round < 0
  · go_enter Try.func37, Try.ntmps37
    go_wp2_with fail
    go_ret
    exact ⟨ret_int (by rw [W1.out, if_pos (by simp [Fr.headOk, inR]; omega)]), K0.out⟩
  by_cases d7 : 8192 < F.round
  · go_enter Try.func37, Try.ntmps37
    go_wp2_with fail
    go_ret
    exact ⟨ret_int (by rw [W1.out, if_pos (by simp [Fr.headOk, inR]; omega)]), K0.out⟩
  have W2 := Lib.hid (W1.out.trans (if_neg (by simp [Fr.headOk, inR]; omega)))
  clear W1
  go_enter Try.func37, Try.ntmps37
  go_wp2_with fail
  refine (refVecRight_any F.vn F.items A1 c1 _ HF.out.li HF.out.items).mono ?_
  rintro e w1 ⟨rfl, hk⟩
  have KW := Lib.hid hk
  clear hk
  cases b5 : vecRight F.vn F.items
  · go_wp2_with fail
    go_ret
    exact ⟨ret_int (by rw [W2.out, if_pos b5]), K0.out.trans KW.out⟩
  have W3 := Lib.hid (W2.out.trans (if_neg (by simp [b5])))
  clear W2 b5
  clear a1 a2 d0 d1 d2 d3 d4 d5 d6 d7
  go_wp2_with fail
  have hls := HF.out.ls
  have hlt3 := HF.out.lt
  unfold maxLen at hls hlt3
  go_loopw [3] (fun i wr => ∃ k : Nat, k ≤ F.sums.length ∧ i = .int .i64 k ∧ Hid (∀ j (hj : j < F.sums.length), j < k → badSum F.sums[j] = false) ∧ Hid (Kept [] (w.alloc (.cells (frC F A1 A2 A3 c1 c2 c3).toArray 60)) wr)) (fun i _ => F.sums.length - (intOf i).toNat)
  case atStart => exact ⟨0, Nat.zero_le _, rfl, Lib.hid (fun _ _ h => absurd h (Nat.not_lt_zero _)), KW⟩
  case round =>
    obtain ⟨k, hk, rfl, HN, KR⟩ := hrel
    clear hlt3
    have hx7 := (HX.out.kept KR.out (by simp)).cell 7
    simp only [List.getElem?_cons_zero, List.getElem?_cons_succ] at hx7
    by_cases hlt : k < F.sums.length
    · obtain ⟨b, off, rfl, hbl, s0, s1, s2⟩ := sum_at (HF.out.sums.kept0 KR.out) hlt
      clear s1 s2
      by_cases g1 : F.sums[k].1 < 0
      · go_wp2_with fail
        go_ret
        exact ⟨ret_int (by rw [W3.out, if_pos (any_true hlt (by simp [badSum, inR]; omega))]), K0.out.trans KR.out⟩
      by_cases g2 : 4096 ≤ F.sums[k].1
      · go_wp2_with fail
        have G1 : ¬ F.sums[k].1 < 0 := by omega
        go_wp2_with fail
        go_ret
        exact ⟨ret_int (by rw [W3.out, if_pos (any_true hlt (by simp [badSum, inR]; omega))]), K0.out.trans KR.out⟩
      have HB := Lib.hid (show badSum F.sums[k] = false by simp [badSum, inR]; omega)
      go_wp2_with fail
      go_roundw
      case rel =>
        refine ⟨k + 1, by omega, by go_num, Lib.hid (fun j hj hjk => ?_), KR⟩
        rcases Nat.lt_succ_iff_lt_or_eq.1 hjk with h | rfl
        · exact HN.out j hj h
        · exact HB.out
      case measure => simp [intOf]; omega
    have HB := Lib.hid (any_false (fun j hj => HN.out j hj (by omega)))
    have W4 := Lib.hid (W3.out.trans (if_neg (by rw [HB.out]; simp)))
    clear W3
    go_wp2_with fail
    have hfirst : ∃ last : Int, risesS (-1) F.sums = risesS last (F.sums.drop 1) ∧ ∀ hm : 0 < F.sums.length, last = F.sums[0].1 := by
      by_cases h0 : 0 < F.sums.length
      · refine ⟨F.sums[0].1, ?_, fun _ => rfl⟩
        have h := risesS_drop (-1) h0
        rw [List.drop_zero] at h
        have hb := HB.out
        rw [List.any_eq_false] at hb
        have hb := hb _ (List.getElem_mem h0)
        simp [badSum, inR] at hb
        rw [h]; simp [show (-1 : Int) < F.sums[0].1 by omega]
      · have : F.sums = [] := List.eq_nil_of_length_eq_zero (by omega)
        exact ⟨-1, by rw [this]; rfl, fun h => absurd h h0⟩
    have HFI := Lib.hid hfirst
    clear hfirst hx7 hk hlt HN
    go_loopw [4] (fun i wr => ∃ (m : Nat) (last : Int), m ≤ F.sums.length ∧ i = .int .i64 (m + 1 : Nat) ∧ Hid (risesS (-1) F.sums = risesS last (F.sums.drop (m + 1))) ∧ Hid (∀ hm : m < F.sums.length, last = F.sums[m].1) ∧ Hid (Kept [] (w.alloc (.cells (frC F A1 A2 A3 c1 c2 c3).toArray 60)) wr)) (fun i _ => F.sums.length + 1 - (intOf i).toNat)
    case atStart =>
      obtain ⟨last, h1, h2⟩ := HFI.out
      exact ⟨0, last, Nat.zero_le _, by simp, Lib.hid h1, Lib.hid h2, KR⟩
    case round =>
      obtain ⟨m, last, hm, rfl, HN, HL, KR⟩ := hrel
      have hx7 := (HX.out.kept KR.out (by simp)).cell 7
      simp only [List.getElem?_cons_zero, List.getElem?_cons_succ] at hx7
      by_cases hlt : m + 1 < F.sums.length
      · obtain ⟨b, off, rfl, hbl, s0, s1, s2⟩ := sum_at (HF.out.sums.kept0 KR.out) hlt
        have hml : m < F.sums.length := by omega
        obtain ⟨b', off', hbe, hbl', p0, p1, p2⟩ := sum_at (HF.out.sums.kept0 KR.out) hml
        injection hbe with hbe
        injection hbe with hb1 hb2
        subst hb1 hb2
        have hlast := HL.out hml
        subst hlast
        clear p1 p2 s1 s2
        have HRD := Lib.hid (risesS_drop F.sums[m].1 hlt)
        by_cases g3 : F.sums[m + 1].1 ≤ F.sums[m].1
        · go_wp2_with fail
          go_quiet (fail)
          go_wp2_with fail
          go_ret
          refine ⟨ret_int ?_, K0.out.trans (KR.out.drewN _)⟩
          rw [W4.out, HN.out, HRD.out, if_pos]
          simp; omega
        · go_wp2_with fail
          go_quiet (fail)
          go_wp2_with fail
          go_roundw
          case rel =>
            refine ⟨m + 1, F.sums[m + 1].1, by omega, by go_num, Lib.hid ?_, Lib.hid (fun _ => rfl), Lib.hid (KR.out.drewN _)⟩
            rw [HN.out, HRD.out]
            have : decide (F.sums[m].1 < F.sums[m + 1].1) = true := by simp; omega
            rw [this]; simp
          case measure => simp [intOf]; omega
      have W5 := Lib.hid (W4.out.trans (if_neg (by rw [HN.out, List.drop_eq_nil_of_le (by omega)]; simp [risesS])))
      clear W4
      have hx8 := (HX.out.kept KR.out (by simp)).cell 8
      simp only [List.getElem?_cons_zero, List.getElem?_cons_succ] at hx8
      have hlt3 := HF.out.lt
      unfold maxLen at hlt3
      by_cases g4 : 65536 < F.trips.length
      · go_wp2_with fail
        go_ret
        exact ⟨ret_int (by rw [W5.out, if_pos g4]), K0.out.trans KR.out⟩
      have W6 := Lib.hid (W5.out.trans (if_neg g4))
      clear W5
      go_wp2_with fail
      clear hx7 hx8 hlt hm
      go_loopw [5] (fun i wr => ∃ k : Nat, k ≤ F.trips.length ∧ i = .int .i64 k ∧ Hid (∀ j (hj : j < F.trips.length), j < k → badTrip F.trips[j] = false) ∧ Hid (Kept [] (w.alloc (.cells (frC F A1 A2 A3 c1 c2 c3).toArray 60)) wr)) (fun i _ => F.trips.length - (intOf i).toNat)
      case atStart => exact ⟨0, Nat.zero_le _, rfl, Lib.hid (fun _ _ h => absurd h (Nat.not_lt_zero _)), KR⟩
      case round =>
        obtain ⟨k, hk, rfl, HM, KR⟩ := hrel
        have hx8 := (HX.out.kept KR.out (by simp)).cell 8
        simp only [List.getElem?_cons_zero, List.getElem?_cons_succ] at hx8
        by_cases hlt : k < F.trips.length
        · obtain ⟨b, off, rfl, hbl, s0, s1, s2⟩ := trip_at (HF.out.trips.kept0 KR.out) hlt
          by_cases g0 : F.trips[k].1 < 0
          · go_wp2_with fail
            go_ret
            exact ⟨ret_int (by rw [W6.out, if_pos (any_true hlt (by simp [badTrip, inR]; omega))]), K0.out.trans (KR.out.alloc _)⟩
          by_cases g1 : 4096 ≤ F.trips[k].1
          · go_wp2_with fail
            go_ret
            exact ⟨ret_int (by rw [W6.out, if_pos (any_true hlt (by simp [badTrip, inR]; omega))]), K0.out.trans (KR.out.alloc _)⟩
          by_cases g2 : F.trips[k].2.1 < 0
          · go_wp2_with fail
            go_ret
            exact ⟨ret_int (by rw [W6.out, if_pos (any_true hlt (by simp [badTrip, inR]; omega))]), K0.out.trans (KR.out.alloc _)⟩
          by_cases g3 : 4096 ≤ F.trips[k].2.1
          · go_wp2_with fail
            go_ret
            exact ⟨ret_int (by rw [W6.out, if_pos (any_true hlt (by simp [badTrip, inR]; omega))]), K0.out.trans (KR.out.alloc _)⟩
          have HBk := Lib.hid (show badTrip F.trips[k] = false by simp [badTrip, inR]; omega)
          go_wp2_with fail
          go_roundw
          case rel =>
            refine ⟨k + 1, by omega, by go_num, Lib.hid (fun j hj hjk => ?_), Lib.hid (KR.out.alloc _)⟩
            rcases Nat.lt_succ_iff_lt_or_eq.1 hjk with h | rfl
            · exact HM.out j hj h
            · exact HBk.out
          case measure => simp [intOf]; omega
        have HBB := Lib.hid (any_false (fun j hj => HM.out j hj (by omega)))
        have W7 := Lib.hid (W6.out.trans (if_neg (by rw [HBB.out]; simp)))
        go_wp2_with fail
        go_ret
        exact ⟨ret_int W7.out.symm, K0.out.trans KR.out⟩
end Go.Proofs.Ytdjidnccockmmaa
