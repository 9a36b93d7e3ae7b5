/- Are numbers the same? A graph of few edges; the fixed graph. -/
import Derived.Test.YtfnhfmffkjljnaaE29
import Derived.Test.YtfnhfmffkjljnaaE28
import Derived.Test.YtfnhfmffkjljnaaE25
import Derived.Test.YtfnhfmffkjljnaaE20
import Derived.Test.YtfnhfmffkjljnaaE18
namespace Go.Proofs.Ytfnhfmffkjljnaa
set_option linter.unusedSimpArgs false
set_option linter.unusedVariables false
open Go.ChangeShapes Go.WideShapes Go.ChangeAt Go.RowKit
open Go.RowKit (wrap32 wrap64)
set_option maxHeartbeats 8000000

theorem int_at {w : World} {A : Option Addr} {l : List Int} (h : Reads w A (l.map vI)) {k : Nat} (hk : k < l.length) :
    ∃ b off, A = some ⟨b, off, none⟩ ∧ b < w.heap.size ∧ w.cell? ⟨b, off + k, none⟩ = some (.int .i64 l[k]) := by
  obtain ⟨b, off, e, hb, hc⟩ := h (by intro h0; rw [List.map_eq_nil_iff] at h0; rw [h0] at hk; simp at hk)
  exact ⟨b, off, e, hb, hc k _ (by rw [List.getElem?_map, List.getElem?_eq_getElem hk]; rfl)⟩
theorem sameInts_any (l m : List Int) (A B : Option Addr) (c d : Nat) (w : World) (hl : l.length ≤ maxLen) (hm : m.length ≤ maxLen) (hr : Reads w A (l.map vI)) (hrm : Reads w B (m.map vI)) :
    Calls Try.prog 32 #[.slice A l.length c, .slice B m.length d] w fun e w' => e = .returned (.bool (decide (l = m))) ∧ Kept [] w w' := by
  unfold maxLen at hl hm
  have HR := Lib.hid hr
  have HM := Lib.hid hrm
  clear hr hrm
  by_cases hlen : l.length = m.length
  · go_enter Try.func32, Try.ntmps32
    go_wp2_with fail
    go_loopw [5] (fun i wr => ∃ k : Nat, k ≤ l.length ∧ i = .int .i64 k ∧ Hid (∀ j (hj : j < l.length), j < k → l[j] = m[j]'(by omega)) ∧ Hid (Kept [] w wr)) (fun i _ => l.length - (intOf i).toNat)
    case atStart => exact ⟨0, Nat.zero_le _, rfl, Lib.hid (fun j _ h => absurd h (Nat.not_lt_zero _)), Lib.hid (Kept.refl _ _)⟩
    case round =>
      obtain ⟨k, hk, rfl, HN, KW⟩ := hrel
      by_cases hlt : k < l.length
      · have hltm : k < m.length := by omega
        obtain ⟨b, off, rfl, hbl, h0⟩ := int_at (HR.out.kept0 KW.out) hlt
        obtain ⟨b2, off2, rfl, hbl2, p0⟩ := int_at (HM.out.kept0 KW.out) hltm
        by_cases he : l[k] = m[k]
        · have HE := Lib.hid he
          go_wp2_with fail
          go_quiet (fail)
          go_wp2_with fail
          go_roundw
          case rel =>
            refine ⟨k + 1, by omega, by go_num, Lib.hid (fun j hj hjk => ?_), Lib.hid (KW.out.drewN _)⟩
            rcases Nat.lt_succ_iff_lt_or_eq.1 hjk with h | rfl
            · exact HN.out j hj h
            · exact HE.out
          case measure => simp [intOf]; omega
        · have HE := Lib.hid he
          go_wp2_with fail
          go_quiet (fail)
          go_wp2_with fail
          go_ret
          refine ⟨ret_bool ?_, KW.out.drewN _⟩
          have : ¬ l = m := fun h => HE.out (by simp only [h])
          simp [this]
      · go_wp2_with fail
        go_ret
        refine ⟨ret_bool ?_, KW.out⟩
        have : l = m := list_same (by omega) (fun j hj => HN.out j hj (by omega))
        simp [this]
  · have hne : ¬ l = m := fun h => hlen (by rw [h])
    have HE := Lib.hid hne
    clear hne
    go_enter Try.func32, Try.ntmps32
    go_wp2_with fail
    go_ret
    exact ⟨ret_bool (decide_eq_false HE.out).symm, Kept.refl _ _⟩
theorem few_any (n : Int) (l : List Ed) (A : Option Addr) (c : Nat) (w : World) (hl : l.length ≤ maxLen) (hc : l.length ≤ c) (hcm : c ≤ maxLen) :
    Calls Try.prog 13 #[.agg #[.int .i64 n, .slice A l.length c]] w fun e w' => e = .returned (.agg #[.int .i64 n, .slice A (l.take 60).length c]) ∧ Kept [] w w' := by
  unfold maxLen at hl hcm
  have K0 := Lib.hid (((Kept.refl [] w).alloc (.cells #[.int .i64 n, .slice A l.length c] 24)).alloc (.cells #[.int .i64 0, .slice none 0 0] 24))
  by_cases h : l.length ≤ 60
  · rw [List.take_of_length_le h]
    go_enter Try.func13, Try.ntmps13
    go_wp2_with fail
    refine bodyPost_ret (v := .agg #[.int .i64 n, .slice A l.length c]) (by simp [results, Try.results13, go_sem]) rfl ?_
    exact ⟨rfl, ((Kept.refl [] w).alloc _).alloc _⟩
  · rw [show (l.take 60).length = 60 by rw [List.length_take]; omega]
    go_enter Try.func13, Try.ntmps13
    go_wp2_with fail
    refine bodyPost_ret (v := .agg #[.int .i64 n, .slice A 60 c]) (by simp [results, Try.results13, go_sem]) rfl ?_
    exact ⟨rfl, ((Kept.refl [] w).alloc _).alloc _⟩
abbrev E3 : List Ed := [(1, 2, 5), (0, 0, 1), (1, 2, 3)]
theorem E3_in : ∀ e ∈ E3, In64 e.2.2 := by intro e he; simp at he; rcases he with rfl | rfl | rfl <;> (unfold In64; decide)
theorem E3_canon : canonP E3 = [(0, 0, 1), (1, 2, 3)] := by rw [canonP_E E3_in]; decide
theorem E3_comb : combP 5 E3 = (0, [(0, 0, 1), (1, 2, 8)]) := by rw [combP_ref]; decide
theorem E3_turn : canonP (madeP turnE allE E3) = [(0, 0, 1), (2, 1, 3)] := by rw [canonP_E (turnL_in E3_in)]; decide
theorem E3_both : bothP E3 = [(0, 0, 1), (1, 2, 3), (2, 1, 3)] := by
  have h := app_in E3_in (canonP_in (turnL_in E3_in))
  unfold bothP
  rw [canonP_E h, show turnL E3 = madeP turnE allE E3 from rfl, E3_turn]
  decide
theorem E3_simple : canonP (madeP id noLoop E3) = [(1, 2, 3)] := by rw [canonP_E (madeP_in (f := id) (p := noLoop) (fun e h => h) E3_in)]; decide
theorem E3_plain : canonP (madeP oneE allE E3) = [(0, 0, 1), (1, 2, 1)] := by rw [canonP_E (madeP_in (f := oneE) (p := allE) (fun e h => by unfold In64 oneE; dsimp only; omega) E3_in)]; decide
theorem E3_lower : canonP (madeP id lowE E3) = [] := by rw [canonP_E (madeP_in (f := id) (p := lowE) (fun e h => h) E3_in)]; decide
theorem E3_outs : countP selO 3 E3 = [1, 2, 0] := by decide
theorem E3_ins : countP selI 3 E3 = [1, 0, 2] := by decide
theorem E3_right : rightP 3 E3 = 0 := by decide
theorem E0_right : rightP (-1) [] = 3 := by decide
theorem E3_rises : risesE [(0, 0, 1), (1, 2, 3)] = true := by rw [← E3_canon]; exact canon_rises E3_in
end Go.Proofs.Ytfnhfmffkjljnaa
