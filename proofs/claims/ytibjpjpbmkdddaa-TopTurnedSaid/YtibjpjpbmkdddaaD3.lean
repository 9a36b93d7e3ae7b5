/- dcsc.place: where a column stands. -/
import Derived.Test.YtibjpjpbmkdddaaD2
namespace Go.Proofs.Ytibjpjpbmkdddaa
set_option linter.unusedSimpArgs false
set_option linter.unusedVariables false
open Go.ChangeShapes Go.WideShapes Go.ChangeAt Go.RowKit
open Go.RowKit (wrap32 wrap64)
set_option maxHeartbeats 8000000

def PlaceIs (l : List Ed) (k z : Int) : Prop := (∃ i, ∃ h : i < (atP l).length, z = (i : Int) ∧ (atP l)[i] = k) ∨ (z = -1 ∧ k ∉ atP l)
set_option maxRecDepth 100000 in
theorem place_any (n base : Nat) (k : Int) (l : List Ed) (v1 v2 v3 v4 : Value) (w : World) (hok : MtOk n l) (hm : DcAt w base v1 v2 v3 v4 l) :
    Calls Try.prog 62 #[.agg #[.int .i64 n, .int .i64 n, v1, v2, v3, v4], .int .i64 k] w fun e w' => ∃ z, e = .returned (.int .i64 z) ∧ PlaceIs l k z ∧ Kept [] w w' := by
  have hsr := risesL_sortR hok.rises
  have hal := Nat.le_trans (atP_len l) hok.len
  have HAS := Lib.hid (fun i j (hij : i < j) (hj : j < (atP l).length) => at_sorted hsr hij hj)
  obtain ⟨A1, c1, b2, c2, A3, c3, A4, c4, rfl, rfl, rfl, rfl, _, _⟩ := hm.form
  have HX := Lib.hid (Blk.new w 49 [.int .i64 n, .int .i64 n, .slice A1 (atP l).length c1, .slice (some ⟨b2, 0, none⟩) ((atP l).length + 1) c2, .slice A3 l.length c3, .slice A4 l.length c4])
  have K0 := Lib.hid ((Kept.refl [] w).alloc (.cells #[.int .i64 n, .int .i64 n, .slice A1 (atP l).length c1, .slice (some ⟨b2, 0, none⟩) ((atP l).length + 1) c2, .slice A3 l.length c3, .slice A4 l.length c4] 49))
  have HM := Lib.hid (hm.kept0 K0.out)
  obtain ⟨post, hpost⟩ : ∃ post : Ending → World → Prop, post = (fun e w' => ∃ z, e = .returned (.int .i64 z) ∧ PlaceIs l k z ∧ Kept [] w w') := ⟨_, rfl⟩
  rw [← hpost]
  have HPOST := Lib.hid hpost
  clear hm hok hsr hpost
  go_enter Try.func62, Try.ntmps62
  go_upto_region 1 with (fail)
  generalize w.alloc (.cells #[.int .i64 n, .int .i64 n, .slice A1 (atP l).length c1, .slice (some ⟨b2, 0, none⟩) ((atP l).length + 1) c2, .slice A3 l.length c3, .slice A4 l.length c4] 49) = w1 at *
  generalize w.heap.size = g1 at HX ⊢
  have y2 := HX.out.cell 2
  simp only [List.getElem?_cons_zero, List.getElem?_cons_succ] at y2
  go_step3
  go_wp2_with fail
  go_quiet (fail)
  have k3 : Kept [] w1 (w1.drewN nq) := (Kept.refl [] w1).drewN _
  replace HX := Lib.hid (HX.out.kept k3 (by simp))
  replace HM := Lib.hid (HM.out.kept0 k3)
  replace K0 := Lib.hid (K0.out.trans k3)
  clear k3 y2
  generalize w1.drewN nq = w2 at *
  go_wp2_with fail
  go_step3
  go_wp2_with fail
  go_loopw [5, 6] (fun lo hi wr => ∃ a b : Nat, a ≤ b ∧ b ≤ (atP l).length ∧ lo = .int .i64 a ∧ hi = .int .i64 b ∧ Hid (∀ j (hj : j < (atP l).length), j < a → (atP l)[j] < k) ∧ Hid (∀ j (hj : j < (atP l).length), b ≤ j → k < (atP l)[j]) ∧ wr = w2) (fun lo hi _ => (intOf hi - intOf lo).toNat)
  case atStart => exact ⟨0, _, Nat.zero_le _, Nat.le_refl _, rfl, rfl, Lib.hid (fun j _ h => absurd h (Nat.not_lt_zero _)), Lib.hid (fun j h1 h2 => by omega), by trivial⟩
  case round =>
    obtain ⟨a, b, hab, hbl, rfl, rfl, HLO, HHI, hw⟩ := hrel
    subst hw
    by_cases hlt : a < b
    · obtain ⟨h, hh⟩ : ∃ h : Nat, h = (b - a) / 2 := ⟨_, rfl⟩
      have hh1 : a + h < b := by omega
      have HQ : ((b : Int) - (a : Int)).tdiv 2 = (h : Int) := by
        rw [Int.tdiv_eq_ediv_of_nonneg (by omega)]
        omega
      have hwq : IntKind.i64.wrap ((b : Int) - (a : Int)) = (b : Int) - (a : Int) := by rw [IntKind.wrap_i64]; omega
      obtain ⟨m, hmq⟩ : ∃ m, m = a + h := ⟨_, rfl⟩
      have hml : m < (atP l).length := by omega
      obtain ⟨bB, oB, hB, hbB, hcB⟩ := ints_at (Reads.of_own HM.out.o1) hml
      have cB := hcB m hml
      obtain ⟨x, hx⟩ : ∃ x, x = (atP l)[m] := ⟨_, rfl⟩
      rw [← hx] at cB
      have HXQ := Lib.hid hx
      clear hx hcB
      have hab2 : (a : Int) + (h : Int) = (m : Int) := by omega
      have ham : a ≤ m := by omega
      have hmb : m < b := by omega
      clear hmq hh hh1
      have y2 := HX.out.cell 2
      simp only [List.getElem?_cons_zero, List.getElem?_cons_succ] at y2
      by_cases h1 : x = k
      · go_wp2_with fail
        rw [HPOST.out]
        refine ⟨_, rfl, .inl ⟨m, hml, rfl, ?_⟩, K0.out⟩
        rw [← HXQ.out]
        exact h1
      · by_cases h2 : x < k
        · go_wp2_with fail
          go_roundw
          case rel =>
            refine ⟨m + 1, b, by omega, hbl, by go_num, rfl, Lib.hid (fun j hj hjm => ?_), HHI, by trivial⟩
            rcases Nat.lt_succ_iff_lt_or_eq.1 hjm with h3 | rfl
            · have := HAS.out j m h3 hml
              have h4 := HXQ.out
              omega
            · have h4 := HXQ.out
              omega
          case measure => simp [intOf]; omega
        · go_wp2_with fail
          go_roundw
          case rel =>
            refine ⟨a, m, by omega, by omega, rfl, by go_num, HLO, Lib.hid (fun j hj hjm => ?_), by trivial⟩
            have h4 := HXQ.out
            rcases Nat.lt_or_eq_of_le hjm with h3 | rfl
            · have := HAS.out m j h3 hj
              omega
            · omega
          case measure => simp [intOf]; omega
    · go_wp2_with fail
      rw [HPOST.out]
      refine ⟨_, rfl, .inr ⟨rfl, fun hm => ?_⟩, K0.out⟩
      obtain ⟨j, hj, hje⟩ := List.getElem_of_mem hm
      rcases Nat.lt_or_ge j a with h3 | h3
      · have := HLO.out j hj h3
        omega
      · have := HHI.out j hj (by omega)
        omega
end Go.Proofs.Ytibjpjpbmkdddaa
