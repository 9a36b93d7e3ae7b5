/- Frames: is a vector one that can be? The document's. -/
import Derived.Test.YtdjidnccockmmaaFr3
namespace Go.Proofs.Ytdjidnccockmmaa
set_option linter.unusedSimpArgs false
set_option linter.unusedVariables false
open Go.ChangeShapes Go.WideShapes Go.ChangeAt Go.RowKit
open Go.RowKit (wrap32 wrap64)
set_option maxHeartbeats 2000000

/-- The document's: one item after the other. -/
theorem refVecRight_any (n : Int) (l : List (Int × Int)) (A : Option Addr) (c : Nat) (w : World) (hl : l.length ≤ maxLen) (hr : Reads w A (l.flatMap readV)) :
    Calls Try.prog 78 #[.agg #[.int .i64 n, .slice A l.length c]] w fun e w' => e = .returned (.bool (vecRight n l)) ∧ Kept [] w w' := by
  unfold maxLen at hl
  have HX := Lib.hid (Blk.new w 56 [.int .i64 n, .slice A l.length c])
  have HR := Lib.hid (hr.kept0 ((Kept.refl [] w).alloc (.cells #[.int .i64 n, .slice A l.length c] 56)))
  have K0 := Lib.hid ((Kept.refl [] w).alloc (.cells #[.int .i64 n, .slice A l.length c] 56))
  clear hr
  by_cases h1 : n < 0
  · go_enter Try.func78, Try.ntmps78
    go_wp2_with fail
    go_ret
    exact ⟨ret_bool (by simp [vecRight, inR]; omega), K0.out⟩
  by_cases h2 : 4096 < n
  · go_enter Try.func78, Try.ntmps78
    go_wp2_with fail
    go_ret
    exact ⟨ret_bool (by simp [vecRight, inR]; omega), K0.out⟩
  have HV := Lib.hid (show vecRight n l = risesIn n (-1) l by simp [vecRight, inR]; omega)
  go_enter Try.func78, Try.ntmps78
  go_wp2_with fail
  go_loopw [3] (fun i wr => ∃ (k : Nat) (last : Int), k ≤ l.length ∧ i = .int .i64 k ∧ Hid (risesIn n (-1) l = risesIn n last (l.drop k)) ∧ Hid (-1 ≤ last ∧ (k = 0 → last = -1) ∧ ∀ (m : Nat) (hm : m < l.length), k = m + 1 → last = l[m].1) ∧ Hid (Kept [] (w.alloc (.cells #[.int .i64 n, .slice A l.length c] 56)) wr)) (fun i _ => l.length - (intOf i).toNat)
  case atStart => exact ⟨0, -1, Nat.zero_le _, rfl, Lib.hid rfl, Lib.hid ⟨by omega, fun _ => rfl, fun _ _ h => absurd h (by omega)⟩, Lib.hid (Kept.refl _ _)⟩
  case round =>
    obtain ⟨k, last, hk, rfl, HN, HL, KW⟩ := hrel
    have hx0 := (HX.out.kept KW.out (by simp)).cell 0
    have hx1 := (HX.out.kept KW.out (by simp)).cell 1
    simp only [List.getElem?_cons_zero, List.getElem?_cons_succ] at hx0 hx1
    by_cases hlt : k < l.length
    · obtain ⟨b, off, rfl, hbl, h0, h1'⟩ := read_at (HR.out.kept0 KW.out) hlt
      have HRD := Lib.hid (risesIn_drop n last hlt)
      by_cases g1 : l[k].1 < 0
      · go_wp2_with fail
        go_quiet (fail)
        go_wp2_with fail
        go_ret
        refine ⟨ret_bool ?_, K0.out.trans (KW.out.drewN _)⟩
        rw [HV.out, HN.out, HRD.out]
        have := HL.out.1
        simp; omega
      by_cases g2 : n ≤ l[k].1
      · go_wp2_with fail
        have G1 : ¬ l[k].1 < 0 := by omega
        go_quiet (fail)
        go_wp2_with fail
        go_ret
        refine ⟨ret_bool ?_, K0.out.trans (KW.out.drewN _)⟩
        rw [HV.out, HN.out, HRD.out]
        simp; omega
      have next : -1 ≤ last → last < l[k].1 → Hid (risesIn n (-1) l = risesIn n l[k].1 (l.drop (k + 1))) ∧ Hid (-1 ≤ l[k].1 ∧ (k + 1 = 0 → l[k].1 = -1) ∧ ∀ (m : Nat) (hm : m < l.length), k + 1 = m + 1 → l[k].1 = l[m].1) := by
        intro _ h
        refine ⟨Lib.hid ?_, Lib.hid ⟨by omega, fun h => absurd h (by omega), fun m hm h => ?_⟩⟩
        · rw [HN.out, HRD.out]
          have : (decide (last < l[k].1) && decide (l[k].1 < n)) = true := by simp; omega
          rw [this]; simp
        · obtain rfl : k = m := by omega
          rfl
      have NEXT := Lib.hid next
      clear next
      by_cases hz : k = 0
      · have hz0 : ¬ (0 : Int) < (k : Int) := by omega
        have HZ := Lib.hid hz
        clear hz
        go_wp2_with fail
        have G1 : ¬ l[k].1 < 0 := by omega
        have G2 : ¬ n ≤ l[k].1 := by omega
        have G3 : ¬ 0 < k := by have := HZ.out; omega
        have G4 : decide ((0 : Int) < (k : Int)) = false := by simp; exact HZ.out
        go_quiet (fail)
        go_wp2_with fail
        go_roundw
        case rel =>
          have hh := HL.out.2.1 HZ.out
          obtain ⟨a1, a2⟩ := NEXT.out HL.out.1 (by omega)
          exact ⟨k + 1, _, by omega, by go_num, a1, a2, Lib.hid (KW.out.drewN _)⟩
        case measure => simp [intOf]; omega
      obtain ⟨m, rfl⟩ : ∃ m, k = m + 1 := ⟨k - 1, by omega⟩
      have hml : m < l.length := by omega
      obtain ⟨b', off', hbe, hbl', p0, p1⟩ := read_at (HR.out.kept0 KW.out) hml
      injection hbe with hbe
      injection hbe with hb1 hb2
      subst hb1 hb2
      have hlast := HL.out.2.2 m hml rfl
      subst hlast
      go_wp2_with fail
      have G1 : ¬ l[m + 1].1 < 0 := by omega
      have G2 : ¬ n ≤ l[m + 1].1 := by omega
      by_cases g3 : l[m + 1].1 ≤ l[m].1
      · go_quiet (fail)
        go_wp2_with fail
        go_ret
        refine ⟨ret_bool ?_, K0.out.trans (KW.out.drewN _)⟩
        rw [HV.out, HN.out, HRD.out]
        simp; omega
      · go_quiet (fail)
        go_wp2_with fail
        go_roundw
        case rel =>
          obtain ⟨a1, a2⟩ := NEXT.out HL.out.1 (by omega)
          exact ⟨m + 1 + 1, _, by omega, by go_num, a1, a2, Lib.hid (KW.out.drewN _)⟩
        case measure => simp [intOf]; omega
    · go_wp2_with fail
      go_ret
      refine ⟨ret_bool ?_, K0.out.trans KW.out⟩
      rw [HV.out, HN.out, List.drop_eq_nil_of_le (by omega)]
      simp [risesIn]
end Go.Proofs.Ytdjidnccockmmaa
