/- Are edges, graphs the same? -/
import Derived.Test.YtibjpjpbmkdddaaE11
namespace Go.Proofs.Ytibjpjpbmkdddaa
set_option linter.unusedSimpArgs false
set_option linter.unusedVariables false
open Go.ChangeShapes Go.WideShapes Go.ChangeAt Go.RowKit
open Go.RowKit (wrap32 wrap64)
set_option maxHeartbeats 4000000

theorem equalE_any (l m : List Ed) (A B : Option Addr) (c d : Nat) (w : World) (hl : l.length ≤ maxLen) (hm : m.length ≤ maxLen) (hr : Reads w A (l.flatMap edV)) (hrm : Reads w B (m.flatMap edV)) :
    Calls Try.prog 75 #[.slice A l.length c, .slice B m.length d] w fun e w' => e = .returned (.bool (decide (l = m))) ∧ Kept [] w w' := by
  unfold maxLen at hl hm
  have HR := Lib.hid hr
  have HM := Lib.hid hrm
  clear hr hrm
  by_cases hlen : l.length = m.length
  · go_enter Try.func75, Try.ntmps75
    go_wp2_with fail
    go_loopw [13] (fun i wr => ∃ k : Nat, k ≤ l.length ∧ i = .int .i64 k ∧ Hid (∀ j (hj : j < l.length), j < k → l[j] = m[j]'(by omega)) ∧ Hid (Kept [] w wr)) (fun i _ => l.length - (intOf i).toNat)
    case atStart => exact ⟨0, Nat.zero_le _, rfl, Lib.hid (fun j _ h => absurd h (Nat.not_lt_zero _)), Lib.hid (Kept.refl _ _)⟩
    case round =>
      obtain ⟨k, hk, rfl, HN, KW⟩ := hrel
      by_cases hlt : k < l.length
      · have hltm : k < m.length := by omega
        obtain ⟨b, off, rfl, hbl, h0, h1, h2⟩ := edge_at (HR.out.kept0 KW.out) hlt
        obtain ⟨b2, off2, rfl, hbl2, p0, p1, p2⟩ := edge_at (HM.out.kept0 KW.out) hltm
        have F3 := guardEdge
        by_cases he : l[k] = m[k]
        · have F4 : ∀ w, (binOp .neq 28 (.agg #[.int .i64 l[k].1, .int .i64 l[k].2.1, .int .i64 l[k].2.2]) (.agg #[.int .i64 (m[k]'(by omega)).1, .int .i64 (m[k]'(by omega)).2.1, .int .i64 (m[k]'(by omega)).2.2])).run Try.prog w = .ok (.bool false) w := fun w => (neqEdge l[k] m[k] w).trans (by rw [he]; simp)
          have HE := Lib.hid he
          clear he
          go_wp2_with fail
          go_quiet (fail)
          go_wp2_with fail
          go_roundw
          case rel =>
            refine ⟨k + 1, by omega, by go_num, Lib.hid (fun j hj hjk => ?_), Lib.hid (KW.out.drewN _)⟩
            rcases Nat.lt_succ_iff_lt_or_eq.1 hjk with h | rfl
            · exact HN.out j hj h
            · exact HE.out
          case measure => simp [intOf]; omega
        · have F4 : ∀ w, (binOp .neq 28 (.agg #[.int .i64 l[k].1, .int .i64 l[k].2.1, .int .i64 l[k].2.2]) (.agg #[.int .i64 (m[k]'(by omega)).1, .int .i64 (m[k]'(by omega)).2.1, .int .i64 (m[k]'(by omega)).2.2])).run Try.prog w = .ok (.bool true) w := fun w => (neqEdge l[k] m[k] w).trans (by rw [decide_eq_false he]; rfl)
          have HE := Lib.hid he
          clear he
          go_wp2_with fail
          go_quiet (fail)
          go_wp2_with fail
          go_ret
          refine ⟨ret_bool ?_, KW.out.drewN _⟩
          have : ¬ l = m := fun h => HE.out (by simp only [h])
          simp [this]
      · go_wp2_with fail
        go_ret
        refine ⟨ret_bool ?_, KW.out⟩
        have : l = m := list_same (by omega) (fun j hj => HN.out j hj (by omega))
        simp [this]
  · have hne : ¬ l = m := fun h => hlen (by rw [h])
    have HE := Lib.hid hne
    clear hne
    go_enter Try.func75, Try.ntmps75
    go_wp2_with fail
    go_ret
    exact ⟨ret_bool (decide_eq_false HE.out).symm, Kept.refl _ _⟩
theorem same_any (n k : Int) (l m : List Ed) (A B : Option Addr) (c d : Nat) (w : World) (hl : l.length ≤ maxLen) (hm : m.length ≤ maxLen) (hr : Reads w A (l.flatMap edV)) (hrm : Reads w B (m.flatMap edV)) :
    Calls Try.prog 25 #[.agg #[.int .i64 n, .slice A l.length c], .agg #[.int .i64 k, .slice B m.length d]] w fun e w' => e = .returned (.bool (decide (n = k) && decide (l = m))) ∧ Kept [] w w' := by
  have HL := Lib.hid hl
  have HM := Lib.hid hm
  have K0 := Lib.hid (((Kept.refl [] w).alloc (.cells #[.int .i64 n, .slice A l.length c] 24)).alloc (.cells #[.int .i64 k, .slice B m.length d] 24))
  have HR := Lib.hid (hr.kept0 K0.out)
  have HS := Lib.hid (hrm.kept0 K0.out)
  clear hl hm hr hrm
  by_cases h : n = k
  · subst h
    rw [show (decide (n = n) && decide (l = m)) = decide (l = m) by simp]
    obtain ⟨z, hz⟩ : ∃ z, z = decide (l = m) := ⟨_, rfl⟩
    rw [← hz]
    have HZ := Lib.hid hz.symm
    clear hz
    cases z
    all_goals
      go_enter Try.func25, Try.ntmps25
      go_wp2_with fail
      refine (equalE_any l m A B c d _ HL.out HM.out HR.out HS.out).mono ?_
      rintro _ w3 ⟨rfl, hk⟩
      rw [HZ.out]
      have K := Lib.hid (K0.out.trans hk)
      clear hk
      go_wp2_with fail
      go_ret
      exact ⟨rfl, K.out⟩
  · rw [decide_eq_false h, Bool.false_and]
    go_enter Try.func25, Try.ntmps25
    go_wp2_with fail
    go_ret
    exact ⟨rfl, K0.out⟩
end Go.Proofs.Ytibjpjpbmkdddaa
