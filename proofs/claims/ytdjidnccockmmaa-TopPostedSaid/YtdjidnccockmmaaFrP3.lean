/- Frames, in plain words: the other lists, and all of a frame (no program in sight). -/
import Derived.Test.YtdjidnccockmmaaFrP2
import Derived.Test.YtdjidnccockmmaaFr20
namespace Go.Proofs.Ytdjidnccockmmaa
set_option linter.unusedSimpArgs false
set_option linter.unusedVariables false
open Go.RowKit (wrap32 wrap64)

def okSums (k : Nat) (last : Int) (acc u : List (Int × Int × Nat)) : Prop := ∃ l, u = acc ++ l ∧ l.length = k ∧ risesS last l = true ∧ (∀ r ∈ l, (0 ≤ r.1 ∧ r.1 ≤ 4095) ∧ In64' r.2.1 ∧ Lt64 r.2.2)
theorem wrap_lt64 {m : Nat} (h : Lt64 m) : In64' (wrap64 (m : Int)) ∧ u64of (wrap64 (m : Int)) = m := wrap_of_lt h
theorem u64_cast {m : Nat} (h : Lt64 m) : u64of (m : Int) = m := by unfold u64of; unfold Lt64 at h; omega
/-- The low word of a sum. -/
theorem good_lo : Good (fun R => R.word.bind fun z => .ok (u64of z.1, z.2)) (fun m : Nat => eights [(m : Int)]) Lt64 := by
  have h := good8.bind (q := fun z R => .ok (u64of z, R)) (fun m : Nat => wrap64 (m : Int)) (encQ := fun _ _ => []) (okQ := fun z m => m = u64of z) (fun z _ => Good.pure (u64of z))
    (fun z m hz hm => by subst hm; exact wrap64_u64of z hz.1 hz.2)
  refine h.congr (fun _ => rfl) (fun m hm => ?_) (fun m => ?_)
  · have e : u64of (wrap64 (m : Int)) = m := hm.2.symm
    have hl : Lt64 m := by rw [← e]; exact u64of_lt _
    simp [eights, e, u64_cast hl]
  · constructor
    · rintro ⟨_, h2⟩; rw [h2]; exact u64of_lt _
    · intro hl; exact ⟨(wrap_lt64 hl).1, (wrap_lt64 hl).2.symm⟩
theorem good_sums : ∀ (k : Nat) (last : Int) (acc : List (Int × Int × Nat)), -1 ≤ last →
    Good (fun R => Rd.sums k last R acc) (fun u => (tailOf acc u).flatMap sumB) (okSums k last acc) := by
  intro k
  induction k with
  | zero =>
    intro last acc _
    refine (Good.pure acc).congr (fun _ => rfl) (fun v hv => ?_) (fun v => ?_)
    · subst hv; simp [tailOf]
    · unfold okSums
      constructor
      · rintro rfl; exact ⟨[], by simp, rfl, rfl, by simp⟩
      · rintro ⟨l, rfl, h, _⟩; rw [List.eq_nil_of_length_eq_zero h]; simp
  | succ k ih =>
    intro last acc hl
    have hb := (good_rise last 4095 (by decide)).bind (q := fun n R => R.word.bind fun y => (y.2.word.bind fun z => .ok (u64of z.1, z.2)).bind fun z => Rd.sums k n z.2 (acc ++ [(n, y.1, z.1)])) (β := List (Int × Int × Nat))
      (fun u => ((tailOf acc u).headD (0, 0, 0)).1)
      (encQ := fun n u => eights [((tailOf acc u).headD (0, 0, 0)).2.1] ++ (eights [(((tailOf acc u).headD (0, 0, 0)).2.2 : Int)] ++ (tailOf (acc ++ [(n, ((tailOf acc u).headD (0, 0, 0)).2.1, ((tailOf acc u).headD (0, 0, 0)).2.2)]) u).flatMap sumB))
      (okQ := fun n u => In64' ((tailOf acc u).headD (0, 0, 0)).2.1 ∧ (Lt64 ((tailOf acc u).headD (0, 0, 0)).2.2 ∧ okSums k n (acc ++ [(n, ((tailOf acc u).headD (0, 0, 0)).2.1, ((tailOf acc u).headD (0, 0, 0)).2.2)]) u))
      (fun n hn => good8.bind (q := fun y R => (R.word.bind fun z => .ok (u64of z.1, z.2)).bind fun z => Rd.sums k n z.2 (acc ++ [(n, y, z.1)])) (fun u => ((tailOf acc u).headD (0, 0, 0)).2.1)
        (encQ := fun y u => eights [(((tailOf acc u).headD (0, 0, 0)).2.2 : Int)] ++ (tailOf (acc ++ [(n, y, ((tailOf acc u).headD (0, 0, 0)).2.2)]) u).flatMap sumB)
        (okQ := fun y u => Lt64 ((tailOf acc u).headD (0, 0, 0)).2.2 ∧ okSums k n (acc ++ [(n, y, ((tailOf acc u).headD (0, 0, 0)).2.2)]) u)
        (fun y _ => good_lo.bind (q := fun z R => Rd.sums k n R (acc ++ [(n, y, z)])) (fun u => ((tailOf acc u).headD (0, 0, 0)).2.2) (fun z _ => ih n (acc ++ [(n, y, z)]) (by have := hn.1.1; omega))
          (fun z u _ hu => by obtain ⟨l, rfl, _⟩ := hu; simp [tailOf]))
        (fun y u _ hu => by obtain ⟨_, l, h, _⟩ := hu; rw [h]; simp [tailOf]))
      (fun n u _ hu => by obtain ⟨_, _, l, h, _⟩ := hu; rw [h]; simp [tailOf])
    refine hb.congr (fun R => ?_) (fun u hu => ?_) (fun u => ?_)
    · rw [Rd.sums]
      congr 1; funext x; congr 1; funext y; rw [ebind]; rfl
    · obtain ⟨_, _, _, l, h, _⟩ := hu
      generalize hx : ((tailOf acc u).headD (0, 0, 0)).1 = x at h ⊢
      generalize hy : ((tailOf acc u).headD (0, 0, 0)).2.1 = y at h ⊢
      generalize hz : ((tailOf acc u).headD (0, 0, 0)).2.2 = z at h ⊢
      subst h
      simp [tailOf, sumB, eights]
    · constructor
      · rintro ⟨⟨⟨h1, h2⟩, h3⟩, h4, h4', l, h5, h6, h7, h8⟩
        generalize ((tailOf acc u).headD (0, 0, 0)).1 = x at *
        generalize ((tailOf acc u).headD (0, 0, 0)).2.1 = y at *
        generalize ((tailOf acc u).headD (0, 0, 0)).2.2 = z at *
        refine ⟨(x, y, z) :: l, by rw [h5]; simp, by simp [h6], ?_, ?_⟩
        · simp only [risesS, h7, Bool.and_true, decide_eq_true_eq]; omega
        · intro r hr
          rcases List.mem_cons.1 hr with rfl | hr
          · exact ⟨⟨h1, h2⟩, h4, h4'⟩
          · exact h8 r hr
      · rintro ⟨l, rfl, h6, h7, h8⟩
        match l, h6 with
        | (x, y, z) :: l, h6 =>
          have e : tailOf acc (acc ++ (x, y, z) :: l) = (x, y, z) :: l := tailOf_app _ _
          rw [e]
          simp only [List.headD_cons]
          simp only [risesS, Bool.and_eq_true, decide_eq_true_eq] at h7
          obtain ⟨h9, h11⟩ := h7
          have hh := h8 _ (List.mem_cons_self)
          exact ⟨⟨hh.1, h9⟩, hh.2.1, hh.2.2, l, by simp, by simpa using h6, h11, fun r hr => h8 r (by simp [hr])⟩
def okTrips (k : Nat) (acc u : List (Int × Int × Int)) : Prop := ∃ l, u = acc ++ l ∧ l.length = k ∧ (∀ r ∈ l, (0 ≤ r.1 ∧ r.1 ≤ 4095) ∧ (0 ≤ r.2.1 ∧ r.2.1 ≤ 4095) ∧ In64' r.2.2)
theorem fours2 (a b : Int) : fours [a, b] = fours [a] ++ fours [b] := by simp [fours]
theorem good_trips : ∀ (k : Nat) (acc : List (Int × Int × Int)), Good (fun R => Rd.trips k R acc) (fun u => (tailOf acc u).flatMap tripB) (okTrips k acc) := by
  intro k
  induction k with
  | zero =>
    intro acc
    refine (Good.pure acc).congr (fun _ => rfl) (fun v hv => ?_) (fun v => ?_)
    · subst hv; simp [tailOf]
    · unfold okTrips
      constructor
      · rintro rfl; exact ⟨[], by simp, rfl, by simp⟩
      · rintro ⟨l, rfl, h, _⟩; rw [List.eq_nil_of_length_eq_zero h]; simp
  | succ k ih =>
    intro acc
    have hb := (good4 4095 3 (by decide) (by decide)).bind (q := fun n R => (R.rd 4 0 4095 3).bind fun y => y.2.word.bind fun z => Rd.trips k z.2 (acc ++ [(n, y.1, z.1)])) (β := List (Int × Int × Int))
      (fun u => ((tailOf acc u).headD (0, 0, 0)).1)
      (encQ := fun n u => fours [((tailOf acc u).headD (0, 0, 0)).2.1] ++ (eights [((tailOf acc u).headD (0, 0, 0)).2.2] ++ (tailOf (acc ++ [(n, ((tailOf acc u).headD (0, 0, 0)).2.1, ((tailOf acc u).headD (0, 0, 0)).2.2)]) u).flatMap tripB))
      (okQ := fun n u => (0 ≤ ((tailOf acc u).headD (0, 0, 0)).2.1 ∧ ((tailOf acc u).headD (0, 0, 0)).2.1 ≤ 4095) ∧ (In64' ((tailOf acc u).headD (0, 0, 0)).2.2 ∧ okTrips k (acc ++ [(n, ((tailOf acc u).headD (0, 0, 0)).2.1, ((tailOf acc u).headD (0, 0, 0)).2.2)]) u))
      (fun n hn => (good4 4095 3 (by decide) (by decide)).bind (q := fun y R => R.word.bind fun z => Rd.trips k z.2 (acc ++ [(n, y, z.1)])) (fun u => ((tailOf acc u).headD (0, 0, 0)).2.1)
        (encQ := fun y u => eights [((tailOf acc u).headD (0, 0, 0)).2.2] ++ (tailOf (acc ++ [(n, y, ((tailOf acc u).headD (0, 0, 0)).2.2)]) u).flatMap tripB)
        (okQ := fun y u => In64' ((tailOf acc u).headD (0, 0, 0)).2.2 ∧ okTrips k (acc ++ [(n, y, ((tailOf acc u).headD (0, 0, 0)).2.2)]) u)
        (fun y _ => good8.bind (q := fun z R => Rd.trips k R (acc ++ [(n, y, z)])) (fun u => ((tailOf acc u).headD (0, 0, 0)).2.2) (fun z _ => ih (acc ++ [(n, y, z)]))
          (fun z u _ hu => by obtain ⟨l, rfl, _⟩ := hu; simp [tailOf]))
        (fun y u _ hu => by obtain ⟨_, l, h, _⟩ := hu; rw [h]; simp [tailOf]))
      (fun n u _ hu => by obtain ⟨_, _, l, h, _⟩ := hu; rw [h]; simp [tailOf])
    refine hb.congr (fun R => rfl) (fun u hu => ?_) (fun u => ?_)
    · obtain ⟨_, _, _, l, h, _⟩ := hu
      generalize hx : ((tailOf acc u).headD (0, 0, 0)).1 = x at h ⊢
      generalize hy : ((tailOf acc u).headD (0, 0, 0)).2.1 = y at h ⊢
      generalize hz : ((tailOf acc u).headD (0, 0, 0)).2.2 = z at h ⊢
      subst h
      simp [tailOf, tripB, fours2]
    · constructor
      · rintro ⟨h1, h2, h4, l, h5, h6, h8⟩
        generalize ((tailOf acc u).headD (0, 0, 0)).1 = x at *
        generalize ((tailOf acc u).headD (0, 0, 0)).2.1 = y at *
        generalize ((tailOf acc u).headD (0, 0, 0)).2.2 = z at *
        refine ⟨(x, y, z) :: l, by rw [h5]; simp, by simp [h6], ?_⟩
        intro r hr
        rcases List.mem_cons.1 hr with rfl | hr
        · exact ⟨h1, h2, h4⟩
        · exact h8 r hr
      · rintro ⟨l, rfl, h6, h8⟩
        match l, h6 with
        | (x, y, z) :: l, h6 =>
          have e : tailOf acc (acc ++ (x, y, z) :: l) = (x, y, z) :: l := tailOf_app _ _
          rw [e]
          simp only [List.headD_cons]
          have hh := h8 _ (List.mem_cons_self)
          exact ⟨hh.1, hh.2.1, hh.2.2, l, by simp, by simpa using h6, fun r hr => h8 r (by simp [hr])⟩
end Go.Proofs.Ytdjidnccockmmaa
