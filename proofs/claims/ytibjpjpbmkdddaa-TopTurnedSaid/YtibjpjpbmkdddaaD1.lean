/- The columns of a matrix, as plain lists: which are not empty, and where each begins. -/
import Derived.Test.YtibjpjpbmkdddaaC7
namespace Go.Proofs.Ytibjpjpbmkdddaa
set_option linter.unusedSimpArgs false
set_option linter.unusedVariables false
/-- The rows that are not empty. -/
def atP (l : List Ed) : List Int := l.foldl (fun A e => if A.getLast? = some e.1 then A else A ++ [e.1]) []
theorem atP_snoc (p : List Ed) (x : Ed) : atP (p ++ [x]) = if (atP p).getLast? = some x.1 then atP p else atP p ++ [x.1] := by
  unfold atP
  rw [List.foldl_append]
  rfl
structure AtOk (l : List Ed) : Prop where
  rises : (atP l).Pairwise (· < ·)
  mem : ∀ k, k ∈ atP l ↔ ∃ e ∈ l, e.1 = k
  last : (atP l).getLast? = (l.getLast?).map (·.1)
theorem sortR_last {p : List Ed} (h : SortR p) {z : Ed} (hz : p.getLast? = some z) : ∀ e ∈ p, e.1 ≤ z.1 := by
  obtain ⟨ys, rfl⟩ := List.getLast?_eq_some_iff.1 hz
  intro e he
  unfold SortR at h
  rw [List.pairwise_append] at h
  rcases List.mem_append.1 he with h1 | h1
  · exact h.2.2 e h1 z (by simp)
  · rw [List.mem_singleton.1 h1]
    exact Int.le_refl _
theorem sortR_take {l : List Ed} (h : SortR l) (k : Nat) : SortR (l.take k) := List.Pairwise.sublist (List.take_sublist k l) h
theorem sortR_snoc {p : List Ed} {x : Ed} (h : SortR (p ++ [x])) : SortR p ∧ ∀ e ∈ p, e.1 ≤ x.1 := by
  unfold SortR at h
  rw [List.pairwise_append] at h
  exact ⟨h.1, fun e he => h.2.2 e he x (by simp)⟩
/-- A new row begins behind p: all that stand in p are less. -/
theorem new_less {p : List Ed} {x : Ed} (ok : AtOk p) (h : SortR (p ++ [x])) (hn : ¬ (atP p).getLast? = some x.1) : ∀ e ∈ p, e.1 < x.1 := by
  intro e he
  have h1 := (sortR_snoc h).2 e he
  rcases Int.lt_or_eq_of_le h1 with h2 | h2
  · exact h2
  · exfalso
    apply hn
    rw [ok.last]
    cases hz : p.getLast? with
    | none =>
      rw [List.getLast?_eq_none_iff] at hz
      rw [hz] at he
      cases he
    | some z =>
      have h3 := sortR_last (sortR_snoc h).1 hz e he
      have h4 := (sortR_snoc h).2 z (List.mem_of_getLast? hz)
      simp
      omega
theorem at_ok_snoc {p : List Ed} {x : Ed} (ok : AtOk p) (h : SortR (p ++ [x])) : AtOk (p ++ [x]) := by
  by_cases hn : (atP p).getLast? = some x.1
  · have e : atP (p ++ [x]) = atP p := by rw [atP_snoc, if_pos hn]
    refine ⟨by rw [e]; exact ok.rises, fun k => ?_, by rw [e, hn]; simp⟩
    rw [e, ok.mem]
    constructor
    · rintro ⟨y, hy, rfl⟩
      exact ⟨y, by simp [hy], rfl⟩
    · rintro ⟨y, hy, rfl⟩
      rcases List.mem_append.1 hy with h1 | h1
      · exact ⟨y, h1, rfl⟩
      · rw [List.mem_singleton.1 h1]
        exact (ok.mem x.1).1 (List.mem_of_getLast? hn)
  · have e : atP (p ++ [x]) = atP p ++ [x.1] := by rw [atP_snoc, if_neg hn]
    refine ⟨?_, fun k => ?_, by rw [e]; simp⟩
    · rw [e, List.pairwise_append]
      refine ⟨ok.rises, by simp, fun a ha b hb => ?_⟩
      rw [List.mem_singleton.1 hb]
      obtain ⟨y, hy, rfl⟩ := (ok.mem a).1 ha
      exact new_less ok h hn y hy
    · rw [e, List.mem_append, ok.mem]
      constructor
      · rintro (⟨y, hy, rfl⟩ | hk)
        · exact ⟨y, by simp [hy], rfl⟩
        · exact ⟨x, by simp, (List.mem_singleton.1 hk).symm⟩
      · rintro ⟨y, hy, rfl⟩
        rcases List.mem_append.1 hy with h1 | h1
        · exact .inl ⟨y, h1, rfl⟩
        · rw [List.mem_singleton.1 h1]
          exact .inr (by simp)
theorem at_ok_take {l : List Ed} (h : SortR l) : ∀ k, k ≤ l.length → AtOk (l.take k)
  | 0, _ => ⟨by simp [atP], by simp [atP], by simp [atP]⟩
  | k + 1, hk => by
    have hs := sortR_take h (k + 1)
    rw [List.take_succ_eq_append_getElem (by omega)] at hs ⊢
    exact at_ok_snoc (at_ok_take h k (by omega)) hs
theorem at_ok {l : List Ed} (h : SortR l) : AtOk l := by
  have := at_ok_take h l.length (Nat.le_refl _)
  rwa [List.take_length] at this
/-- How many stand in rows below k. -/
def blI (l : List Ed) (k : Int) : Int := ((l.filter (fun e => decide (e.1 < k))).length : Int)
theorem blI_bel (l : List Ed) (i : Nat) : blI l i = belI l i := rfl
/-- Where each row begins, and the end. -/
def stP (l : List Ed) : List Int := (atP l).map (blI l) ++ [(l.length : Int)]
theorem stP_length (l : List Ed) : (stP l).length = (atP l).length + 1 := by simp [stP]
theorem blI_snoc (p : List Ed) (x : Ed) {k : Int} (h : k ≤ x.1) : blI (p ++ [x]) k = blI p k := by
  unfold blI
  rw [List.filter_append]
  simp [show ¬ x.1 < k by omega]
theorem stP_snoc {p : List Ed} {x : Ed} (ok : AtOk p) (h : SortR (p ++ [x])) : stP (p ++ [x]) = (if (atP p).getLast? = some x.1 then stP p else stP p ++ [0]).set (atP (p ++ [x])).length ((p.length : Int) + 1) := by
  have hm : (atP p).map (blI (p ++ [x])) = (atP p).map (blI p) := List.map_congr_left (fun k hk => by
    obtain ⟨y, hy, rfl⟩ := (ok.mem k).1 hk
    exact blI_snoc p x ((sortR_snoc h).2 y hy))
  by_cases hn : (atP p).getLast? = some x.1
  · rw [if_pos hn, atP_snoc, if_pos hn]
    unfold stP
    rw [atP_snoc, if_pos hn, hm, List.set_append]
    simp
  · rw [if_neg hn, atP_snoc, if_neg hn]
    unfold stP
    rw [atP_snoc, if_neg hn, List.map_append, hm]
    have e : blI (p ++ [x]) x.1 = (p.length : Int) := by
      rw [blI_snoc p x (Int.le_refl _)]
      unfold blI
      rw [List.filter_eq_self.2 (fun e he => by simpa using new_less ok h hn e he)]
    rw [List.set_append]
    simp [e]
theorem at_sorted {l : List Ed} (h : SortR l) {i j : Nat} (hij : i < j) (hj : j < (atP l).length) : (atP l)[i]'(by omega) < (atP l)[j] := (List.pairwise_iff_getElem.1 (at_ok h).rises) i j (by omega) hj hij
theorem at_get_mem {l : List Ed} (h : SortR l) {i : Nat} (hi : i < (atP l).length) : ∃ e ∈ l, e.1 = (atP l)[i] := ((at_ok h).mem _).1 (List.getElem_mem hi)
theorem at_of_mem {l : List Ed} (h : SortR l) {e : Ed} (he : e ∈ l) : ∃ j, ∃ hj : j < (atP l).length, (atP l)[j] = e.1 := List.getElem_of_mem (((at_ok h).mem e.1).2 ⟨e, he, rfl⟩)
/-- Where a row begins, and where the next one does. -/
theorem stP_at {l : List Ed} (h : SortR l) {i : Nat} (hi : i < (atP l).length) : (stP l)[i]'(by rw [stP_length]; omega) = blI l ((atP l)[i]) ∧ (stP l)[i + 1]'(by rw [stP_length]; omega) = blI l ((atP l)[i] + 1) := by
  have lt_of : ∀ {j k : Nat} (hj : j < (atP l).length) (hk : k < (atP l).length), (atP l)[j] < (atP l)[k] → j < k := fun {j k} hj hk hlt => by
    rcases Nat.lt_trichotomy j k with h1 | h1 | h1
    · exact h1
    · subst h1; omega
    · have := at_sorted h h1 hj; omega
  constructor
  · simp [stP, List.getElem_append, hi]
  · by_cases h2 : i + 1 < (atP l).length
    · have e1 : (stP l)[i + 1]'(by rw [stP_length]; omega) = blI l ((atP l)[i + 1]) := by simp [stP, List.getElem_append, h2]
      rw [e1]
      unfold blI
      congr 2
      refine List.filter_congr (fun e he => ?_)
      obtain ⟨j, hj, hje⟩ := at_of_mem h he
      have h3 := at_sorted h (show i < i + 1 by omega) h2
      by_cases h4 : e.1 < (atP l)[i + 1]
      · have h5 : j < i + 1 := lt_of hj h2 (by omega)
        have h6 : e.1 ≤ (atP l)[i] := by
          rcases Nat.lt_or_ge j i with h7 | h7
          · have := at_sorted h h7 hi; omega
          · obtain rfl : j = i := by omega
            omega
        simp [h4]; omega
      · simp [h4]; omega
    · have e1 : (stP l)[i + 1]'(by rw [stP_length]; omega) = (l.length : Int) := by
        have hq : i + 1 = (atP l).length := by omega
        simp [stP, List.getElem_append, hq]
      rw [e1]
      unfold blI
      rw [List.filter_eq_self.2 (fun e he => ?_)]
      obtain ⟨j, hj, hje⟩ := at_of_mem h he
      simp
      rcases Nat.lt_or_ge j i with h7 | h7
      · have := at_sorted h h7 hi; omega
      · obtain rfl : j = i := by omega
        omega
theorem stP_end (l : List Ed) : (stP l)[(atP l).length]'(by rw [stP_length]; omega) = (l.length : Int) := by simp [stP]
theorem blI_in (l : List Ed) (k : Int) : 0 ≤ blI l k ∧ blI l k ≤ l.length := by
  have := List.length_filter_le (fun e : Ed => decide (e.1 < k)) l
  unfold blI
  omega
theorem stP_in (l : List Ed) : ∀ x ∈ stP l, 0 ≤ x ∧ x ≤ l.length := by
  intro x hx
  rcases List.mem_append.1 hx with h | h
  · obtain ⟨k, _, rfl⟩ := List.mem_map.1 h
    exact blI_in l k
  · rw [List.mem_singleton.1 h]; omega
theorem stP_zero {l : List Ed} (h : SortR l) : (stP l)[0]'(by rw [stP_length]; omega) = 0 := by
  rcases Nat.eq_zero_or_pos (atP l).length with h0 | h0
  · have hl : l = [] := by
      cases l with
      | nil => rfl
      | cons x l =>
        obtain ⟨j, hj, _⟩ := at_of_mem h (List.mem_cons_self (a := x) (l := l))
        omega
    subst hl
    rfl
  · rw [(stP_at h h0).1]
    unfold blI
    rw [List.filter_eq_nil_iff.2 (fun e he => ?_)]
    · rfl
    · obtain ⟨j, hj, hje⟩ := at_of_mem h he
      simp
      rcases Nat.eq_zero_or_pos j with h7 | h7
      · subst h7; omega
      · have := at_sorted h h7 hj; omega
theorem rowL_len {l : List Ed} (i : Nat) : (belI l i) + ((rowL l i).length : Int) = belI l (i + 1) := by
  rw [belI_succ]
  have e : cntI l (i + 1) = ((rowL l i).length : Int) := by
    unfold cntI rowL
    congr 2
    refine List.filter_congr (fun e _ => ?_)
    by_cases he : e.1 = (i : Int) <;> simp [he]
  omega
theorem stP_rises {l : List Ed} (h : SortR l) (h0 : ∀ e ∈ l, 0 ≤ e.1) : ∀ j (hj : j + 1 < (stP l).length), (stP l)[j] < (stP l)[j + 1] := fun j hj => by
  have hj' : j < (atP l).length := by rw [stP_length] at hj; omega
  obtain ⟨e1, e2⟩ := stP_at h hj'
  rw [e1, e2]
  obtain ⟨e, he, hee⟩ := at_get_mem h hj'
  obtain ⟨i, hi⟩ := Int.eq_ofNat_of_zero_le (h0 e he)
  rw [← hee, hi, show ((i : Int) + 1) = ((i + 1 : Nat) : Int) by omega, blI_bel, blI_bel, ← rowL_len]
  have : 0 < (rowL l i).length := List.length_pos_of_mem (List.mem_filter.2 ⟨he, by simpa using hi⟩)
  omega
theorem at_in {l : List Ed} (h : SortR l) {n : Nat} (hn : ∀ e ∈ l, 0 ≤ e.1 ∧ e.1 < n) : ∀ k ∈ atP l, 0 ≤ k ∧ k < n := fun k hk => by
  obtain ⟨e, he, rfl⟩ := ((at_ok h).mem k).1 hk
  exact hn e he
end Go.Proofs.Ytibjpjpbmkdddaa
