/- A run of levels ends by round n, and a run of paths with it. Conditions: edges of weight 1. -/
import Derived.Test.YtblfingmdipopaaGreatM45
import Derived.Test.YtblfingmdipopaaGreatM14
namespace Go.Proofs.YtblfingmdipopaaGreat
set_option linter.unusedSimpArgs false
set_option linter.unusedVariables false
open Go.RowKit
theorem countP_le {p q : Nat → Bool} : ∀ (L : List Nat), (∀ i ∈ L, q i = true → p i = true) → L.countP q ≤ L.countP p
  | [], _ => by simp
  | i :: L, h => by
    have ih := countP_le (p := p) (q := q) L (fun j hj => h j (List.mem_cons_of_mem _ hj))
    have h1 := h i (List.mem_cons_self ..)
    rw [List.countP_cons, List.countP_cons]
    cases hq : q i with
    | false => simp; omega
    | true => rw [h1 hq]; simp; omega
theorem countP_lt {p q : Nat → Bool} {j : Nat} (hp : p j = true) (hq : q j = false) : ∀ (L : List Nat), (∀ i ∈ L, q i = true → p i = true) → j ∈ L → L.countP q < L.countP p
  | [], _, hj => by cases hj
  | i :: L, h, hj => by
    have hL := fun k hk => h k (List.mem_cons_of_mem _ hk)
    rw [List.countP_cons, List.countP_cons]
    rcases List.mem_cons.1 hj with rfl | hj
    · have := countP_le L hL
      rw [hp, hq]
      simp
      omega
    · have ih := countP_lt hp hq L hL hj
      have h1 := h i (List.mem_cons_self ..)
      cases hqi : q i with
      | false => simp; omega
      | true => rw [h1 hqi]; simp; omega
/-- How many vertices are free. -/
def freeC (n : Nat) (x : StV) : Nat := (List.range n).countP (fun i => x.A.getD i 0 == -1)
theorem free0 {n s : Nat} (l : List Ed) (hs : s < n) : freeC n (runS 1 n s l 0) + 1 ≤ n := by
  have h := countP_lt (p := fun _ => true) (q := fun i => (runS 1 n s l 0).A.getD i 0 == -1) (j := s) rfl (by
    try simp only []
    rw [runS_A0 _ _ _ _ hs]
    simp [firstA]) (List.range n) (fun _ _ _ => rfl) (List.mem_range.2 hs)
  simp only [List.countP_true, List.length_range] at h
  exact h
theorem free_step {n s t : Nat} {l : List Ed} (hb : (runS 1 n s l (t + 1)).b ≠ 0) : freeC n (runS 1 n s l (t + 1)) < freeC n (runS 1 n s l t) := by
  obtain ⟨j, hj, hbj⟩ := bit_of_ne hb (runS_lt 1 n s l (t + 1))
  rw [runS_b] at hbj
  have hb2 : newB 1 ((runS 1 n s l t).A.getD j 0) ((gotI 1 n l (runS 1 n s l t) j).getD 0) (gotI 1 n l (runS 1 n s l t) j).isSome = true := by
    simpa [hj] using hbj
  refine countP_lt (j := j) ?_ ?_ _ ?_ (List.mem_range.2 hj)
  · unfold newB at hb2
    simp only [if_true, Bool.and_eq_true] at hb2
    exact hb2.2
  · try simp only []
    rw [runS_A _ _ _ _ _ hj]
    unfold newA
    rw [hb2]
    try simp only [if_true]
    exact beq_false_of_ne (by omega)
  · intro i hi h
    have hi2 := List.mem_range.1 hi
    try simp only [] at h ⊢
    rw [runS_A _ _ _ _ _ hi2] at h
    unfold newA at h
    split at h
    · try simp only [if_true] at h
      exact absurd h (by rw [beq_false_of_ne (by omega)]; decide)
    · exact h
theorem free_all {n s : Nat} {l : List Ed} (hs : s < n) : ∀ t, (∀ u, u ≤ t → (runS 1 n s l u).b ≠ 0) → freeC n (runS 1 n s l t) + t + 1 ≤ n
  | 0, _ => free0 l hs
  | t + 1, h => by
    have ih := free_all (l := l) hs t (fun u hu => h u (by omega))
    have := free_step (h (t + 1) (Nat.le_refl _))
    omega
/-- The first number at which something holds. -/
theorem first_of (p : Nat → Prop) [DecidablePred p] : ∀ m, (∀ u, u < m → ¬ p u) → ∀ d, p (m + d) → ∃ T, T ≤ m + d ∧ p T ∧ ∀ t, t < T → ¬ p t
  | m, hm, 0, h => ⟨m, Nat.le_refl _, h, hm⟩
  | m, hm, d + 1, h => by
    by_cases hp : p m
    · exact ⟨m, by omega, hp, hm⟩
    · obtain ⟨T, h1, h2, h3⟩ := first_of p (m + 1) (fun u hu => by
        rcases Nat.lt_or_ge u m with h4 | h4
        · exact hm u h4
        · obtain rfl : u = m := by omega
          exact hp) d (by rw [show m + 1 + d = m + (d + 1) by omega]; exact h)
      exact ⟨T, by omega, h2, h3⟩
/-- Both runs end at the same round. -/
theorem runs_end {n s : Nat} {l : List Ed} (hn : n ≤ 60) (hs : s < n) (hw : ∀ e ∈ l, e.2.2 = 1) (hin : ∀ e ∈ l, 0 ≤ e.2.1 ∧ e.2.1 < n) :
    ∃ T, T ≤ n ∧ (runS 1 n s l T).b = 0 ∧ (∀ t, t < T → (runS 1 n s l t).b ≠ 0) ∧ ∀ t, t ≤ T → LockP n t (runS 1 n s l t) (runS 2 n s l t) := by
  have h0 : ∃ t, t ≤ n ∧ (runS 1 n s l t).b = 0 := by
    by_cases h : ∃ t, t ≤ n ∧ (runS 1 n s l t).b = 0
    · exact h
    · exfalso
      have := free_all (l := l) hs n (fun u hu hb => h ⟨u, hu, hb⟩)
      omega
  obtain ⟨t, ht, hb⟩ := h0
  obtain ⟨T, h1, h2, h3⟩ := first_of (fun t => (runS 1 n s l t).b = 0) 0 (fun u hu => absurd hu (by omega)) t (by rw [Nat.zero_add]; exact hb)
  refine ⟨T, by omega, h2, h3, ?_⟩
  intro t
  induction t with
  | zero => intro _; exact lock0 n s l
  | succ t ih => intro ht2; exact lock_step hn (by omega) hw hin (ih (by omega))
/-- What is told fits. -/
theorem tell_ok {n t : Nat} {L P : StV} (hn : n ≤ 60) (ht : t ≤ 60) (hbL : L.b < 2 ^ n) (h : LockP n t L P) : (∀ i : Nat, L.b.testBit i = true → OkV (ringP 1) (tellV 1 i (L.A.getD i 0))) ∧ ∀ i : Nat, P.b.testBit i = true → OkV (ringP 2) (tellV 2 i (P.A.getD i 0)) := by
  have hi : ∀ i : Nat, L.b.testBit i = true → i < n := fun i hb => by
    rcases Nat.lt_or_ge i n with h1 | h1
    · exact h1
    · rw [Nat.testBit_lt_two_pow (Nat.lt_of_lt_of_le hbL (Nat.pow_le_pow_right (by decide) h1))] at hb
      cases hb
  constructor
  · intro i hb
    have := hi i hb
    unfold OkV tellV
    simp only [show ringP 1 = 4 from rfl, show ¬ (4 : Int) = 2 by decide, if_false, if_true]
    unfold infV
    omega
  · intro i hb
    rw [← h.bits] at hb
    have h1 := hi i hb
    have h2 := h.front i h1 hb
    unfold OkV tellV
    simp only [show ringP 2 = 1 from rfl, show ¬ (1 : Int) = 2 by decide, show ¬ (2 : Int) = 1 by decide, if_false]
    unfold infV
    rcases h.rel i h1 with ⟨h3, _⟩ | ⟨h3, _, _⟩ <;> omega
end Go.Proofs.YtblfingmdipopaaGreat

/- What is wrong with a graph: Right, the program's and the reference's. -/
namespace Go.Proofs.YtblfingmdipopaaGreat
set_option linter.unusedSimpArgs false
set_option linter.unusedVariables false
open Go.ChangeShapes Go.WideShapes Go.ChangeAt Go.RowKit
open Go.RowKit (wrap32 wrap64)
set_option maxHeartbeats 8000000
set_option maxRecDepth 100000 in
theorem right_any (n : Int) (l : List Ed) (A : Option Addr) (c : Nat) (w : World) (hl : l.length ≤ maxLen) (hr : Reads w A (l.flatMap edV)) :
    Calls Tryz.prog 108 #[.agg #[.int .i64 n, .slice A l.length c]] w fun e w' => e = .returned (.int .i64 (rightP n l)) ∧ Kept [] w w' := by
  have hl' := hl
  unfold maxLen at hl'
  have hsf : ∀ (a : Addr) (f : Fn) (x cb : Array Value) (wx : World), (store a (.func f x cb)).run Tryz.prog wx = stored Tryz.prog wx a (.func f x cb) .plain := fun a f x cb wx => run_store _ wx a _ _ rfl
  have HL := Lib.hid hl
  have HR := Lib.hid hr
  have HO := Lib.hid (show OutAt ((w.alloc (.cells #[.int .i64 n, .slice A l.length c] 56)).alloc (.cells #[.func (.func 144) #[] #[.pointer (some ⟨w.heap.size, 0, none⟩)]] 172)) w.heap.size (w.heap.size + 1) n A l.length c from
    ⟨(Blk.new w 56 (grV n A l.length c)).alloc _, Blk.new1F w (.cells #[.int .i64 n, .slice A l.length c] 56) 172 [.func (.func 144) #[] #[.pointer (some ⟨w.heap.size, 0, none⟩)]]⟩)
  have K0 := Lib.hid (((Kept.refl [] w).alloc (.cells #[.int .i64 n, .slice A l.length c] 56)).alloc (.cells #[.func (.func 144) #[] #[.pointer (some ⟨w.heap.size, 0, none⟩)]] 172))
  clear hl hr
  by_cases h1 : n < 0
  · rw [show rightP n l = 3 from if_pos h1]
    go_enter Tryz.func108, Tryz.ntmps108
    go_upto_region 2 with (fail)
    generalize ((w.alloc (.cells #[.int .i64 n, .slice A l.length c] 56)).alloc (.cells #[.func (.func 144) #[] #[.pointer (some ⟨w.heap.size, 0, none⟩)]] 172)) = w2 at *
    generalize w.heap.size + 1 = g3 at HO ⊢
    generalize w.heap.size = g1 at HO ⊢
    have y0 := HO.out.b1.cell 0
    have y1 := HO.out.b1.cell 1
    simp only [List.getElem?_cons_zero, List.getElem?_cons_succ] at y0 y1
    go_wp2_with fail
    go_ret
    exact ⟨rfl, K0.out⟩
  by_cases h2 : 4096 < n
  · rw [show rightP n l = 5 by unfold rightP; rw [if_neg h1, if_pos h2]]
    go_enter Tryz.func108, Tryz.ntmps108
    go_upto_region 2 with (fail)
    generalize ((w.alloc (.cells #[.int .i64 n, .slice A l.length c] 56)).alloc (.cells #[.func (.func 144) #[] #[.pointer (some ⟨w.heap.size, 0, none⟩)]] 172)) = w2 at *
    generalize w.heap.size + 1 = g3 at HO ⊢
    generalize w.heap.size = g1 at HO ⊢
    have y0 := HO.out.b1.cell 0
    have y1 := HO.out.b1.cell 1
    simp only [List.getElem?_cons_zero, List.getElem?_cons_succ] at y0 y1
    go_wp2_with fail
    go_ret
    exact ⟨rfl, K0.out⟩
  by_cases h3 : 65536 < l.length
  · rw [show rightP n l = 5 by unfold rightP; rw [if_neg h1, if_neg h2, if_pos h3]]
    go_enter Tryz.func108, Tryz.ntmps108
    go_upto_region 2 with (fail)
    generalize ((w.alloc (.cells #[.int .i64 n, .slice A l.length c] 56)).alloc (.cells #[.func (.func 144) #[] #[.pointer (some ⟨w.heap.size, 0, none⟩)]] 172)) = w2 at *
    generalize w.heap.size + 1 = g3 at HO ⊢
    generalize w.heap.size = g1 at HO ⊢
    have y0 := HO.out.b1.cell 0
    have y1 := HO.out.b1.cell 1
    simp only [List.getElem?_cons_zero, List.getElem?_cons_succ] at y0 y1
    go_wp2_with fail
    go_ret
    exact ⟨rfl, K0.out⟩
  by_cases h4 : l.any (outE n) = true
  · rw [show rightP n l = 3 by unfold rightP; rw [if_neg h1, if_neg h2, if_neg h3, if_pos h4]]
    have HB := Lib.hid h4
    clear h4
    go_enter Tryz.func108, Tryz.ntmps108
    go_upto_region 2 with (fail)
    generalize ((w.alloc (.cells #[.int .i64 n, .slice A l.length c] 56)).alloc (.cells #[.func (.func 144) #[] #[.pointer (some ⟨w.heap.size, 0, none⟩)]] 172)) = w2 at *
    generalize w.heap.size + 1 = g3 at HO ⊢
    generalize w.heap.size = g1 at HO ⊢
    have y0 := HO.out.b1.cell 0
    have y1 := HO.out.b1.cell 1
    simp only [List.getElem?_cons_zero, List.getElem?_cons_succ] at y0 y1
    go_wp2_with fail
    refine (containsEO g1 g3 n A l.length c l A c _ HL.out (HR.out.kept0 K0.out) HO.out).mono ?_
    rintro _ w3 ⟨rfl, hk⟩
    rw [HB.out]
    replace K0 := Lib.hid (K0.out.trans hk)
    replace HO := Lib.hid (HO.out.kept0 hk)
    clear hk y0 y1
    have y1 := HO.out.b1.cell 1
    simp only [List.getElem?_cons_zero, List.getElem?_cons_succ] at y1
    go_wp2_with fail
    go_ret
    exact ⟨rfl, K0.out⟩
  replace h4 : l.any (outE n) = false := by simpa using h4
  have HB := Lib.hid h4
  by_cases h5 : l.any badW = true
  · rw [show rightP n l = 7 by unfold rightP; rw [if_neg h1, if_neg h2, if_neg h3, if_neg (by rw [h4]; simp), if_pos h5]]
    have HC := Lib.hid h5
    clear h4 h5
    go_enter Tryz.func108, Tryz.ntmps108
    go_upto_region 2 with (fail)
    generalize ((w.alloc (.cells #[.int .i64 n, .slice A l.length c] 56)).alloc (.cells #[.func (.func 144) #[] #[.pointer (some ⟨w.heap.size, 0, none⟩)]] 172)) = w2 at *
    generalize w.heap.size + 1 = g3 at HO ⊢
    generalize w.heap.size = g1 at HO ⊢
    have y0 := HO.out.b1.cell 0
    have y1 := HO.out.b1.cell 1
    simp only [List.getElem?_cons_zero, List.getElem?_cons_succ] at y0 y1
    go_wp2_with fail
    refine (containsEO g1 g3 n A l.length c l A c _ HL.out (HR.out.kept0 K0.out) HO.out).mono ?_
    rintro _ w3 ⟨rfl, hk⟩
    rw [HB.out]
    replace K0 := Lib.hid (K0.out.trans hk)
    replace HO := Lib.hid (HO.out.kept0 hk)
    clear hk y0 y1
    have y1 := HO.out.b1.cell 1
    simp only [List.getElem?_cons_zero, List.getElem?_cons_succ] at y1
    go_wp2_with fail
    refine (containsEW l A c _ HL.out (HR.out.kept0 K0.out)).mono ?_
    rintro _ w4 ⟨rfl, hk⟩
    rw [HC.out]
    replace K0 := Lib.hid (K0.out.trans hk)
    clear hk y1
    go_wp2_with fail
    go_ret
    exact ⟨rfl, K0.out⟩
  · rw [show rightP n l = 0 by unfold rightP; rw [if_neg h1, if_neg h2, if_neg h3, if_neg (by rw [h4]; simp), if_neg h5]]
    replace h5 : l.any badW = false := by simpa using h5
    have HC := Lib.hid h5
    clear h4 h5
    go_enter Tryz.func108, Tryz.ntmps108
    go_upto_region 2 with (fail)
    generalize ((w.alloc (.cells #[.int .i64 n, .slice A l.length c] 56)).alloc (.cells #[.func (.func 144) #[] #[.pointer (some ⟨w.heap.size, 0, none⟩)]] 172)) = w2 at *
    generalize w.heap.size + 1 = g3 at HO ⊢
    generalize w.heap.size = g1 at HO ⊢
    have y0 := HO.out.b1.cell 0
    have y1 := HO.out.b1.cell 1
    simp only [List.getElem?_cons_zero, List.getElem?_cons_succ] at y0 y1
    go_wp2_with fail
    refine (containsEO g1 g3 n A l.length c l A c _ HL.out (HR.out.kept0 K0.out) HO.out).mono ?_
    rintro _ w3 ⟨rfl, hk⟩
    rw [HB.out]
    replace K0 := Lib.hid (K0.out.trans hk)
    replace HO := Lib.hid (HO.out.kept0 hk)
    clear hk y0 y1
    have y1 := HO.out.b1.cell 1
    simp only [List.getElem?_cons_zero, List.getElem?_cons_succ] at y1
    go_wp2_with fail
    refine (containsEW l A c _ HL.out (HR.out.kept0 K0.out)).mono ?_
    rintro _ w4 ⟨rfl, hk⟩
    rw [HC.out]
    replace K0 := Lib.hid (K0.out.trans hk)
    clear hk y1
    go_wp2_with fail
    go_ret
    exact ⟨rfl, K0.out⟩
end Go.Proofs.YtblfingmdipopaaGreat
