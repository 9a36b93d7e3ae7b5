/- Frames: the library's searches in lists of structs, at the functions that frame hands them. -/
import Derived.Test.YtdjidnccockmmaaFr1
namespace Go.Proofs.Ytdjidnccockmmaa
set_option linter.unusedSimpArgs false
set_option linter.unusedVariables false
open Go.ChangeShapes Go.WideShapes Go.ChangeAt Go.RowKit
open Go.RowKit (wrap32 wrap64)
set_option maxHeartbeats 2000000

/-- The cells of the k-th record. -/
theorem rec_cell {α : Type} {w : World} {A : Option Addr} {l : List α} {f : α → List Value} {m : Nat} (hf : ∀ x ∈ l, (f x).length = m) (hm : 0 < m) (h : Reads w A (l.flatMap f)) {k : Nat} (hk : k < l.length) :
    ∃ b off, A = some ⟨b, off, none⟩ ∧ b < w.heap.size ∧ ∀ j u, (f l[k])[j]? = some u → w.cell? ⟨b, off + (k * m + j), none⟩ = some u := by
  have hne : l.flatMap f ≠ [] := by
    intro h0
    have := flatMap_length l f m hf
    rw [h0] at this
    have : 0 < l.length * m := Nat.mul_pos (by omega) hm
    simp at *
    omega
  obtain ⟨b, off, e, hb, hc⟩ := h hne
  refine ⟨b, off, e, hb, fun j u hu => hc _ _ ?_⟩
  have hj : j < m := by rw [← hf _ (List.getElem_mem hk)]; exact (List.getElem?_eq_some_iff.1 hu).1
  rw [flatMap_get l f m hf k j hk hj]
  exact hu
theorem sum_at {w : World} {A : Option Addr} {l : List (Int × Int × Nat)} (h : Reads w A (l.flatMap sumV)) {k : Nat} (hk : k < l.length) :
    ∃ b off, A = some ⟨b, off, none⟩ ∧ b < w.heap.size ∧ w.cell? ⟨b, off + k * 3, none⟩ = some (.int .i64 l[k].1) ∧ w.cell? ⟨b, off + k * 3 + 1, none⟩ = some (.int .i64 l[k].2.1) ∧ w.cell? ⟨b, off + k * 3 + 2, none⟩ = some (.int .u64 (l[k].2.2 : Int)) := by
  obtain ⟨b, off, e, hb, hc⟩ := rec_cell (m := 3) (fun _ _ => rfl) (by decide) h hk
  exact ⟨b, off, e, hb, hc 0 _ rfl, hc 1 _ rfl, hc 2 _ rfl⟩
theorem trip_at {w : World} {A : Option Addr} {l : List (Int × Int × Int)} (h : Reads w A (l.flatMap tripV)) {k : Nat} (hk : k < l.length) :
    ∃ b off, A = some ⟨b, off, none⟩ ∧ b < w.heap.size ∧ w.cell? ⟨b, off + k * 3, none⟩ = some (.int .i64 l[k].1) ∧ w.cell? ⟨b, off + k * 3 + 1, none⟩ = some (.int .i64 l[k].2.1) ∧ w.cell? ⟨b, off + k * 3 + 2, none⟩ = some (.int .i64 l[k].2.2) := by
  obtain ⟨b, off, e, hb, hc⟩ := rec_cell (m := 3) (fun _ _ => rfl) (by decide) h hk
  exact ⟨b, off, e, hb, hc 0 _ rfl, hc 1 _ rfl, hc 2 _ rfl⟩

theorem any_false {α : Type} {l : List α} {p : α → Bool} (h : ∀ j (hj : j < l.length), p l[j] = false) : l.any p = false := by
  rw [List.any_eq_false]
  intro x hx
  obtain ⟨j, hj, rfl⟩ := List.getElem_of_mem hx
  simp [h j hj]
theorem any_true {α : Type} {l : List α} {p : α → Bool} {k : Nat} (hk : k < l.length) (h : p l[k] = true) : l.any p = true :=
  List.any_eq_true.2 ⟨_, List.getElem_mem hk, h⟩

theorem indexSum_any (l : List (Int × Int × Nat)) (A : Option Addr) (c : Nat) (w : World) (hl : l.length ≤ maxLen) (hr : Reads w A (l.flatMap sumV)) :
    Calls Try.prog 104 #[.slice A l.length c, .func (.func 75) #[] #[]] w fun e w' => ∃ r : Int, e = .returned (.int .i64 r) ∧ decide (0 ≤ r) = l.any badSum ∧ Kept [] w w' := by
  unfold maxLen at hl
  have HR := Lib.hid hr
  clear hr
  go_enter Try.func104, Try.ntmps104
  go_wp2_with fail
  go_loopw [8] (fun i wr => ∃ k : Nat, k ≤ l.length ∧ i = .int .i64 k ∧ Hid (∀ j (hj : j < l.length), j < k → badSum l[j] = false) ∧ Hid (Kept [] w wr)) (fun i _ => l.length - (intOf i).toNat)
  case atStart => exact ⟨0, Nat.zero_le _, rfl, Lib.hid (fun j _ h => absurd h (Nat.not_lt_zero _)), Lib.hid (Kept.refl _ _)⟩
  case round =>
    obtain ⟨k, hk, rfl, HN, KW⟩ := hrel
    by_cases hlt : k < l.length
    · obtain ⟨b, off, rfl, hbl, h0, h1, h2⟩ := sum_at (HR.out.kept0 KW.out) hlt
      by_cases hb : badSum l[k] = true
      · have HB := Lib.hid hb
        clear hb
        go_wp2_with fail
        refine (badSum_any l[k] _).mono ?_
        rintro e w1 ⟨rfl, hk1⟩
        rw [HB.out]
        have KW := Lib.hid (KW.out.trans hk1)
        clear hk1 h0 h1 h2
        go_wp2_with fail
        go_ret
        exact ⟨_, rfl, by rw [any_true hlt HB.out]; simp, KW.out⟩
      · have HB := Lib.hid (Bool.eq_false_iff.2 hb)
        clear hb
        go_wp2_with fail
        refine (badSum_any l[k] _).mono ?_
        rintro e w1 ⟨rfl, hk1⟩
        rw [HB.out]
        have KW := Lib.hid (KW.out.trans hk1)
        clear hk1 h0 h1 h2
        go_wp2_with fail
        go_roundw
        case rel =>
          refine ⟨k + 1, by omega, by go_num, Lib.hid (fun j hj hjk => ?_), KW⟩
          rcases Nat.lt_succ_iff_lt_or_eq.1 hjk with h | rfl
          · exact HN.out j hj h
          · exact HB.out
        case measure => simp [intOf]; omega
    · go_wp2_with fail
      go_ret
      exact ⟨_, rfl, by rw [any_false (fun j hj => HN.out j hj (by omega))]; simp, KW.out⟩
theorem containsSum_any (l : List (Int × Int × Nat)) (A : Option Addr) (c : Nat) (w : World) (hl : l.length ≤ maxLen) (hr : Reads w A (l.flatMap sumV)) :
    Calls Try.prog 74 #[.slice A l.length c, .func (.func 75) #[] #[]] w fun e w' => e = .returned (.bool (l.any badSum)) ∧ Kept [] w w' := by
  have HR := Lib.hid hr
  clear hr
  go_enter Try.func74, Try.ntmps74
  go_wp2_with fail
  refine (indexSum_any l A c _ hl HR.out).mono ?_
  rintro e w1 ⟨r, rfl, hr, hk⟩
  have HE := Lib.hid hr
  clear hr
  go_wp2_with fail
  go_ret
  exact ⟨ret_bool HE.out, hk⟩

theorem indexTrip_any (l : List (Int × Int × Int)) (A : Option Addr) (c : Nat) (w : World) (hl : l.length ≤ maxLen) (hr : Reads w A (l.flatMap tripV)) :
    Calls Try.prog 105 #[.slice A l.length c, .func (.func 77) #[] #[]] w fun e w' => ∃ r : Int, e = .returned (.int .i64 r) ∧ decide (0 ≤ r) = l.any badTrip ∧ Kept [] w w' := by
  unfold maxLen at hl
  have HR := Lib.hid hr
  clear hr
  go_enter Try.func105, Try.ntmps105
  go_wp2_with fail
  go_loopw [8] (fun i wr => ∃ k : Nat, k ≤ l.length ∧ i = .int .i64 k ∧ Hid (∀ j (hj : j < l.length), j < k → badTrip l[j] = false) ∧ Hid (Kept [] w wr)) (fun i _ => l.length - (intOf i).toNat)
  case atStart => exact ⟨0, Nat.zero_le _, rfl, Lib.hid (fun j _ h => absurd h (Nat.not_lt_zero _)), Lib.hid (Kept.refl _ _)⟩
  case round =>
    obtain ⟨k, hk, rfl, HN, KW⟩ := hrel
    by_cases hlt : k < l.length
    · obtain ⟨b, off, rfl, hbl, h0, h1, h2⟩ := trip_at (HR.out.kept0 KW.out) hlt
      by_cases hb : badTrip l[k] = true
      · have HB := Lib.hid hb
        clear hb
        go_wp2_with fail
        refine (badTrip_any l[k] _).mono ?_
        rintro e w1 ⟨rfl, hk1⟩
        rw [HB.out]
        have KW := Lib.hid (KW.out.trans hk1)
        clear hk1 h0 h1 h2
        go_wp2_with fail
        go_ret
        exact ⟨_, rfl, by rw [any_true hlt HB.out]; simp, KW.out⟩
      · have HB := Lib.hid (Bool.eq_false_iff.2 hb)
        clear hb
        go_wp2_with fail
        refine (badTrip_any l[k] _).mono ?_
        rintro e w1 ⟨rfl, hk1⟩
        rw [HB.out]
        have KW := Lib.hid (KW.out.trans hk1)
        clear hk1 h0 h1 h2
        go_wp2_with fail
        go_roundw
        case rel =>
          refine ⟨k + 1, by omega, by go_num, Lib.hid (fun j hj hjk => ?_), KW⟩
          rcases Nat.lt_succ_iff_lt_or_eq.1 hjk with h | rfl
          · exact HN.out j hj h
          · exact HB.out
        case measure => simp [intOf]; omega
    · go_wp2_with fail
      go_ret
      exact ⟨_, rfl, by rw [any_false (fun j hj => HN.out j hj (by omega))]; simp, KW.out⟩
theorem containsTrip_any (l : List (Int × Int × Int)) (A : Option Addr) (c : Nat) (w : World) (hl : l.length ≤ maxLen) (hr : Reads w A (l.flatMap tripV)) :
    Calls Try.prog 76 #[.slice A l.length c, .func (.func 77) #[] #[]] w fun e w' => e = .returned (.bool (l.any badTrip)) ∧ Kept [] w w' := by
  have HR := Lib.hid hr
  clear hr
  go_enter Try.func76, Try.ntmps76
  go_wp2_with fail
  refine (indexTrip_any l A c _ hl HR.out).mono ?_
  rintro e w1 ⟨r, rfl, hr, hk⟩
  have HE := Lib.hid hr
  clear hr
  go_wp2_with fail
  go_ret
  exact ⟨ret_bool HE.out, hk⟩
end Go.Proofs.Ytdjidnccockmmaa
