/- Levels and paths in lockstep. Conditions: edges of weight 1. -/
import Derived.Test.YtblfingmdipopaaGreatM44
namespace Go.Proofs.YtblfingmdipopaaGreat
set_option linter.unusedSimpArgs false
set_option linter.unusedVariables false
open Go.RowKit
/-- An edge's vertex that tells. -/
def litR (b : Nat) (l : List Ed) (i : Nat) : Bool := (rowL l i).any (fun e => b.testBit e.2.1.toNat)
theorem out_bits (κ : Int) (A : List Int) (b n : Nat) (hn : n ≤ 60) (hb : b < 2 ^ n) : bitsP (atsP (outL κ A b n)) = b := by
  have hd := dn_ok (outL_ok κ A b hn)
  apply Nat.eq_of_testBit_eq
  intro i
  rw [hd.has i]
  by_cases h : (i : Int) ∈ atsP (outL κ A b n)
  · rw [decide_eq_true h]
    exact ((outL_at κ A b n i).1 h).2.symm
  · rw [decide_eq_false h]
    cases hi : b.testBit i with
    | false => rfl
    | true =>
      have h1 : i < n := by
        rcases Nat.lt_or_ge i n with h1 | h1
        · exact h1
        · rw [Nat.testBit_lt_two_pow (Nat.lt_of_lt_of_le hb (Nat.pow_le_pow_right (by decide) h1))] at hi
          cases hi
      exact absurd ((outL_at κ A b n i).2 ⟨h1, hi⟩) h
theorem out_val (κ : Int) (A : List Int) (b n : Nat) (hn : n ≤ 60) {j : Nat} (hj : j < n) (hb : b.testBit j = true) : (valsP n (outL κ A b n)).getD j 0 = tellV κ j (A.getD j 0) := by
  have hd := dn_ok (outL_ok κ A b hn)
  have hm : ((0 : Int), (j : Int), tellV κ j (A.getD j 0)) ∈ outL κ A b n := by
    unfold outL
    exact List.mem_filterMap.2 ⟨j, List.mem_range.2 hj, by simp [hb]⟩
  have h1 := hd.val _ hm
  rw [List.getD_eq_getElem?_getD]
  simp only [Int.toNat_natCast] at h1
  rw [h1]
  rfl
/-- What a vertex gets in a superstep of levels. -/
theorem got1 (n : Nat) (l : List Ed) (x : StV) (i : Nat) (hn : n ≤ 60) (hb : x.b < 2 ^ n) (hw : ∀ e ∈ l, e.2.2 = 1) (hin : ∀ e ∈ l, 0 ≤ e.2.1 ∧ e.2.1 < n) (hi : i < n) :
    (gotI 1 n l x i).isSome = (qP 1 x.A n i && litR x.b l i) := by
  rw [gotI_eq, out_bits 1 x.A x.b n hn hb]
  have hf := rowR_fold (r := 4) (b := x.b) (V := valsP n (outL 1 x.A x.b n)) (fun s => 0 ≤ s ∧ s < 60) (by
    intro p q hp hq
    unfold addV
    simp only [show ¬ (4 : Int) = 2 by decide, if_false]
    split <;> assumption) (rowL l i) none (by simp) (by
    intro e he hbt
    have he2 := (mem_rowL.1 he).1
    have h1 := hin e he2
    have h2 : e.2.1.toNat < n := by omega
    rw [out_val 1 x.A x.b n hn h2 hbt, hw e he2]
    unfold mulV tellV infV
    simp only [show ¬ (4 : Int) = 2 by decide, if_false, if_true]
    rw [if_neg (by omega)]
    omega)
  have hr : ringP 1 = 4 := rfl
  rw [hr]
  change (if _ then nzO 4 ((rowL l i).foldl (stepR 4 x.b _) none) else none).isSome = _
  have ho : oP 1 = false := by decide
  rw [ho]
  cases hq : qP 1 x.A n i with
  | false => simp
  | true =>
    rw [if_pos (show i < n ∧ (true != false) = true from ⟨hi, rfl⟩)]
    have h2 : (nzO 4 ((rowL l i).foldl (stepR 4 x.b (valsP n (outL 1 x.A x.b n))) none)).isSome = ((rowL l i).foldl (stepR 4 x.b (valsP n (outL 1 x.A x.b n))) none).isSome := by
      cases hs : (rowL l i).foldl (stepR 4 x.b (valsP n (outL 1 x.A x.b n))) none with
      | none => rfl
      | some s =>
        have := hf.1 s hs
        unfold nzO zeroV infV
        simp only [Option.filter, show ¬ (4 : Int) = 2 by decide, if_false]
        rw [if_pos (by simp; omega)]
    rw [h2, hf.2]
    simp [litR]
/-- What a vertex gets in a superstep of paths whose frontier has t. -/
theorem got2 (n : Nat) (l : List Ed) (x : StV) (t : Int) (ht : 0 ≤ t ∧ t ≤ 60) (i : Nat) (hn : n ≤ 60) (hb : x.b < 2 ^ n) (hw : ∀ e ∈ l, e.2.2 = 1) (hin : ∀ e ∈ l, 0 ≤ e.2.1 ∧ e.2.1 < n) (hi : i < n) (hA : ∀ j, j < n → x.b.testBit j = true → x.A.getD j 0 = t) :
    gotI 2 n l x i = if litR x.b l i = true then some (t + 1) else none := by
  rw [gotI_eq, out_bits 2 x.A x.b n hn hb]
  have hf := rowR_fold (r := 1) (b := x.b) (V := valsP n (outL 2 x.A x.b n)) (fun s => s = t + 1) (by
    intro p q hp hq
    unfold addV
    simp only [show ¬ (1 : Int) = 2 by decide, if_false]
    split <;> assumption) (rowL l i) none (by simp) (by
    intro e he hbt
    have he2 := (mem_rowL.1 he).1
    have h1 := hin e he2
    have h2 : e.2.1.toNat < n := by omega
    rw [out_val 2 x.A x.b n hn h2 hbt, hw e he2, show tellV 2 e.2.1.toNat (x.A.getD e.2.1.toNat 0) = t from hA _ h2 hbt]
    unfold mulV infV
    simp only [show ¬ (1 : Int) = 2 by decide, show ¬ (1 : Int) = 4 by decide, if_false]
    rw [if_neg (by omega), if_neg (by omega)]
    omega)
  have hr : ringP 2 = 1 := rfl
  rw [hr]
  have ho : oP 2 = true := by decide
  have hq : qP 2 x.A n i = false := by simp [qP]
  rw [ho, hq, if_pos (show i < n ∧ (false != true) = true from ⟨hi, rfl⟩)]
  change nzO 1 ((rowL l i).foldl (stepR 1 x.b _) none) = _
  have h2 := hf.2
  have h3 := hf.1
  cases hs : (rowL l i).foldl (stepR 1 x.b (valsP n (outL 2 x.A x.b n))) none with
  | none =>
    rw [hs] at h2
    have h4 : litR x.b l i = false := by unfold litR; simpa using h2.symm
    rw [h4]
    rfl
  | some s =>
    rw [hs] at h2
    have h4 : litR x.b l i = true := by unfold litR; simpa using h2.symm
    have h5 := h3 s hs
    rw [h4, h5, if_pos rfl]
    unfold nzO zeroV infV
    simp only [Option.filter, show ¬ (1 : Int) = 2 by decide, if_false]
    rw [if_pos (by simp; omega)]
end Go.Proofs.YtblfingmdipopaaGreat

/- Levels and paths in lockstep, by induction. Conditions: edges of weight 1. -/
namespace Go.Proofs.YtblfingmdipopaaGreat
set_option linter.unusedSimpArgs false
set_option linter.unusedVariables false
open Go.RowKit
structure LockP (n : Nat) (t : Nat) (L P : StV) : Prop where
  bits : L.b = P.b
  rel : ∀ i, i < n → (L.A.getD i 0 = -1 ∧ P.A.getD i 0 = infV) ∨ (L.A.getD i 0 = P.A.getD i 0 ∧ 0 ≤ L.A.getD i 0 ∧ L.A.getD i 0 ≤ (t : Int))
  front : ∀ i, i < n → L.b.testBit i = true → L.A.getD i 0 = (t : Int)
theorem qP_one (A : List Int) {n i : Nat} (hi : i < n) : qP 1 A n i = (A.getD i 0 == -1) := by
  unfold qP
  rw [onP_test]
  simp [hi, frP]
theorem lock0 (n s : Nat) (l : List Ed) : LockP n 0 (runS 1 n s l 0) (runS 2 n s l 0) := by
  refine ⟨rfl, fun i hi => ?_, fun i hi h => ?_⟩
  · rw [runS_A0 _ _ _ _ hi, runS_A0 _ _ _ _ hi]
    unfold firstA
    by_cases h : i = s
    · right
      simp [h]
    · left
      simp [h]
  · rw [runS_A0 _ _ _ _ hi]
    rw [runS_b0] at h
    simp at h
    simp [firstA, h.2]
theorem lock_step {n s t : Nat} {l : List Ed} (hn : n ≤ 60) (ht : t + 1 ≤ 60) (hw : ∀ e ∈ l, e.2.2 = 1) (hin : ∀ e ∈ l, 0 ≤ e.2.1 ∧ e.2.1 < n) (h : LockP n t (runS 1 n s l t) (runS 2 n s l t)) : LockP n (t + 1) (runS 1 n s l (t + 1)) (runS 2 n s l (t + 1)) := by
  have hbL := runS_lt 1 n s l t
  have hbP := runS_lt 2 n s l t
  have hfr : ∀ j, j < n → (runS 2 n s l t).b.testBit j = true → (runS 2 n s l t).A.getD j 0 = (t : Int) := by
    intro j hj hb
    rw [← h.bits] at hb
    have h1 := h.front j hj hb
    rcases h.rel j hj with ⟨h2, _⟩ | ⟨h2, _, _⟩
    · omega
    · omega
  have key : ∀ i, i < n → ∃ f : Bool, newB 1 ((runS 1 n s l t).A.getD i 0) ((gotI 1 n l (runS 1 n s l t) i).getD 0) (gotI 1 n l (runS 1 n s l t) i).isSome = f ∧ newB 2 ((runS 2 n s l t).A.getD i 0) ((gotI 2 n l (runS 2 n s l t) i).getD 0) (gotI 2 n l (runS 2 n s l t) i).isSome = f ∧ (f = true → (gotI 2 n l (runS 2 n s l t) i).getD 0 = (t : Int) + 1) := by
    intro i hi
    have g1 := got1 n l (runS 1 n s l t) i hn hbL hw hin hi
    have g2 := got2 n l (runS 2 n s l t) (t : Int) (by omega) i hn hbP hw hin hi hfr
    rw [qP_one _ hi, h.bits] at g1
    refine ⟨_, rfl, ?_, ?_⟩
    · unfold newB
      rw [g1, g2]
      have hrel := h.rel i hi
      generalize (runS 1 n s l t).A.getD i 0 = a at hrel ⊢
      generalize (runS 2 n s l t).A.getD i 0 = p at hrel ⊢
      cases hl : litR (runS 2 n s l t).b l i with
      | false => simp
      | true =>
        rcases hrel with ⟨h2, h3⟩ | ⟨h2, h3, h4⟩
        · subst h2 h3
          have h6 : (t : Int) + 1 < infV := by unfold infV; omega
          simp [h6]
        · subst h2
          have h5 : (a == -1) = false := beq_false_of_ne (by omega)
          have h6 : ¬ (t : Int) + 1 < a := by omega
          simp [h5, h6]
    · unfold newB
      rw [g1, g2]
      cases hl : litR (runS 2 n s l t).b l i with
      | false => simp
      | true => simp
  refine ⟨?_, fun i hi => ?_, fun i hi hb => ?_⟩
  · apply Nat.eq_of_testBit_eq
    intro i
    rw [runS_b, runS_b]
    by_cases hi : i < n
    · obtain ⟨f, h1, h2, _⟩ := key i hi
      rw [h1, h2]
    · simp [hi]
  · obtain ⟨f, h1, h2, h3⟩ := key i hi
    rw [runS_A _ _ _ _ _ hi, runS_A _ _ _ _ _ hi]
    unfold newA
    rw [h1, h2]
    cases f with
    | false =>
      rcases h.rel i hi with ⟨h4, h5⟩ | ⟨h4, h5, h6⟩
      · exact .inl ⟨by simpa using h4, by simpa using h5⟩
      · refine .inr ⟨by simpa using h4, by simpa using h5, ?_⟩
        simp only [Bool.false_eq_true, if_false]
        omega
    | true =>
      right
      rw [h3 rfl]
      simp
      omega
  · obtain ⟨f, h1, h2, h3⟩ := key i hi
    rw [runS_b, h1] at hb
    rw [runS_A _ _ _ _ _ hi]
    unfold newA
    rw [h1]
    have hf : f = true := by simpa [hi] using hb
    rw [hf]
    simp
end Go.Proofs.YtblfingmdipopaaGreat
