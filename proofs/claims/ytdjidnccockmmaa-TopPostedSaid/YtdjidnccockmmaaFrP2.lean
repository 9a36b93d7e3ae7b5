/- Frames, in plain words: what is written is read as it was, and what is read is written so (no program in sight). -/
import Derived.Test.YtdjidnccockmmaaFrP1
namespace Go.Proofs.Ytdjidnccockmmaa
set_option linter.unusedSimpArgs false
set_option linter.unusedVariables false
open Go.RowKit (wrap32 wrap64)

theorem u32_nat {n : Int} (h0 : 0 ≤ n) (h : n < 4294967296) : u32of n = n.toNat := by unfold u32of; omega
theorem fours1 {n : Int} (h0 : 0 ≤ n) (h : n < 4294967296) : fours [n] = le n.toNat 4 := by simp [fours, u32_nat h0 h]
theorem eights1 (n : Int) : eights [n] = le (u64of n) 8 := by simp [eights]
/-- A number of four bytes, up to most. -/
theorem good4 (most e : Int) (he : e ≠ 0) (hm : most < 4294967296) : Good (fun R => R.rd 4 0 most e) (fun n => fours [n]) (fun n => 0 ≤ n ∧ n ≤ most) :=
  (good_rd 4 0 most e 4294967296 (by decide) he (Int.le_refl _) (by omega)).congr (fun _ => rfl) (fun v hv => (fours1 hv.1 (by have := hv.2; omega)).symm) (fun _ => Iff.rfl)
theorem b8_le {n : Int} (h0 : 0 ≤ n) (h : n < 256) : [b8 n] = le n.toNat 1 := by
  have e : (n % 256).toNat = n.toNat := by omega
  simp [b8, le, e]
/-- A number of one byte, from low on, up to most. -/
theorem good1 (low most e : Int) (he : e ≠ 0) (h0 : 0 ≤ low) (hm : most < 256) : Good (fun R => R.rd 1 low most e) (fun n => [b8 n]) (fun n => low ≤ n ∧ n ≤ most) :=
  (good_rd 1 low most e 256 (by decide) he h0 (by omega)).congr (fun _ => rfl) (fun v hv => (b8_le (by have := hv.1; omega) (by have := hv.2; omega)).symm) (fun _ => Iff.rfl)
theorem good8 : Good Rd.word (fun n => eights [n]) In64' := good_word.congr (fun _ => rfl) (fun v _ => (eights1 v).symm) (fun _ => Iff.rfl)
/-- A place behind another one. -/
theorem good_rise (last most : Int) (hm : most < 4294967296) : Good (fun R => R.rise last most) (fun n => fours [n]) (fun n => (0 ≤ n ∧ n ≤ most) ∧ last < n) := by
  have h4 := good4 most 3 (by decide) hm
  refine ⟨?_, ?_, ?_, ?_⟩
  · rintro b pos v y hpos ⟨h1, h2⟩ hd
    have := h4.full b pos v y hpos h1 hd
    simp only [Rd.rise]
    rw [this]
    simp only []
    rw [if_pos h2]
  · rintro b pos v z hpos ⟨h1, h2⟩ hd hz
    have := h4.cut b pos v z hpos h1 hd hz
    simp only [Rd.rise]
    rw [this]
  · intro b pos v R hpos h
    simp only [Rd.rise] at h
    rcases hx : (Rd.mk b pos 0 0).rd 4 0 most 3 with x | ⟨n, R1⟩
    · rw [hx] at h; cases h
    · rw [hx] at h
      simp only [] at h
      split at h
      · rename_i hlt
        injection h with h
        injection h with h1 h2
        subst h1 h2
        obtain ⟨a1, a2⟩ := h4.sound b pos n R1 hpos hx
        exact ⟨⟨a1, hlt⟩, a2⟩
      · cases h
  · intro b pos e a hpos h
    simp only [Rd.rise] at h
    rcases hx : (Rd.mk b pos 0 0).rd 4 0 most 3 with ⟨e', a'⟩ | ⟨n, R1⟩
    · rw [hx] at h
      injection h with h
      injection h with h1 h2
      subst h1 h2
      exact h4.bad b pos _ _ hpos hx
    · rw [hx] at h
      simp only [] at h
      split at h
      · cases h
      · injection h with h
        injection h with h1 h2
        subst h1 h2
        exact ⟨by decide, by show (0 : Int) ≤ (pos : Int); omega, by show (pos : Int) ≤ _; omega⟩

/-! The lists. -/
/-- A list that is read behind acc. -/
def tailOf {α : Type} (acc u : List α) : List α := u.drop acc.length
def okItems (vn : Int) (k : Nat) (last : Int) (acc u : List (Int × Int)) : Prop := ∃ l, u = acc ++ l ∧ l.length = k ∧ risesIn vn last l = true ∧ (∀ r ∈ l, 0 ≤ r.1 ∧ In64' r.2)
theorem tailOf_app {α : Type} (acc l : List α) : tailOf acc (acc ++ l) = l := by simp [tailOf]

theorem good_items (vn : Int) (hv : vn < 4294967296) : ∀ (k : Nat) (last : Int) (acc : List (Int × Int)), -1 ≤ last →
    Good (fun R => Rd.items vn k last R acc) (fun u => (tailOf acc u).flatMap itemB) (okItems vn k last acc) := by
  intro k
  induction k with
  | zero =>
    intro last acc _
    refine (Good.pure acc).congr (fun _ => rfl) (fun v hv => ?_) (fun v => ?_)
    · subst hv; simp [tailOf]
    · unfold okItems
      constructor
      · rintro rfl; exact ⟨[], by simp, rfl, rfl, by simp⟩
      · rintro ⟨l, rfl, h, _⟩; rw [List.eq_nil_of_length_eq_zero h]; simp
  | succ k ih =>
    intro last acc hl
    have hb := (good_rise last (vn - 1) (by omega)).bind (q := fun n R => R.word.bind fun y => Rd.items vn k n y.2 (acc ++ [(n, y.1)])) (β := List (Int × Int))
      (fun u => ((tailOf acc u).headD (0, 0)).1) (encQ := fun n u => eights [((tailOf acc u).headD (0, 0)).2] ++ (tailOf (acc ++ [(n, ((tailOf acc u).headD (0, 0)).2)]) u).flatMap itemB)
      (okQ := fun n u => In64' ((tailOf acc u).headD (0, 0)).2 ∧ okItems vn k n (acc ++ [(n, ((tailOf acc u).headD (0, 0)).2)]) u)
      (fun n hn => good8.bind (q := fun y R => Rd.items vn k n R (acc ++ [(n, y)])) (fun u => ((tailOf acc u).headD (0, 0)).2) (fun y _ => ih n (acc ++ [(n, y)]) (by have := hn.1.1; omega))
        (fun y u _ hu => by obtain ⟨l, rfl, _⟩ := hu; simp [tailOf]))
      (fun n u _ hu => by obtain ⟨_, l, h, _⟩ := hu; rw [h]; simp [tailOf])
    refine hb.congr (fun R => rfl) (fun u hu => ?_) (fun u => ?_)
    · obtain ⟨_, _, l, h, _⟩ := hu
      generalize hx : ((tailOf acc u).headD (0, 0)).1 = x at h ⊢
      generalize hy : ((tailOf acc u).headD (0, 0)).2 = y at h ⊢
      subst h
      simp [tailOf, itemB]
    · constructor
      · rintro ⟨⟨⟨h1, h2⟩, h3⟩, h4, l, h5, h6, h7, h8⟩
        generalize ((tailOf acc u).headD (0, 0)).1 = x at *
        generalize ((tailOf acc u).headD (0, 0)).2 = y at *
        refine ⟨(x, y) :: l, by rw [h5]; simp, by simp [h6], ?_, ?_⟩
        · simp only [risesIn, h7, Bool.and_true, Bool.and_eq_true, decide_eq_true_eq]; omega
        · intro r hr
          rcases List.mem_cons.1 hr with rfl | hr
          · exact ⟨h1, h4⟩
          · exact h8 r hr
      · rintro ⟨l, rfl, h6, h7, h8⟩
        match l, h6 with
        | (x, y) :: l, h6 =>
          have e : tailOf acc (acc ++ (x, y) :: l) = (x, y) :: l := tailOf_app _ _
          rw [e]
          simp only [List.headD_cons]
          simp only [risesIn, Bool.and_eq_true, decide_eq_true_eq] at h7
          obtain ⟨⟨h9, h10⟩, h11⟩ := h7
          exact ⟨⟨⟨(h8 (x, y) (by simp)).1, by omega⟩, h9⟩, (h8 (x, y) (by simp)).2, l, by simp, by simpa using h6, h11, fun r hr => h8 r (by simp [hr])⟩
end Go.Proofs.Ytdjidnccockmmaa
