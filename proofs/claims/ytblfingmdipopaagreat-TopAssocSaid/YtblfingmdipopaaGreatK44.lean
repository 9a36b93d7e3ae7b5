/- Plain: a matrix times a matrix, times a vector, is the one times what the other and the vector come to. Conditions: values of the ring. -/
import Derived.Test.YtblfingmdipopaaGreatK39
import Derived.Test.YtblfingmdipopaaGreatK43
namespace Go.Proofs.YtblfingmdipopaaGreat
set_option linter.unusedSimpArgs false
set_option linter.unusedVariables false
open Go.RowKit
set_option maxHeartbeats 2000000
/-- A value as a way: of the or's truths one is no way, one costs nothing. -/
def phi (r a : Int) : Int := if r = 2 then (if a = 0 then infV else 0) else a
theorem phi_in {r a : Int} (h : OkV r a) : 0 ≤ phi r a ∧ phi r a ≤ infV := by
  have h2 := okV_in h
  unfold phi
  split
  · split <;> simp
  · exact h2
theorem phi_zero (r : Int) : phi r (zeroV r) = infV := by
  unfold phi zeroV
  split <;> simp
theorem phi_add (r a b t : Int) : phi r (addV r a b) ≤ t ↔ phi r a ≤ t ∨ phi r b ≤ t := by
  have hi : infV = 4611686018427387904 := rfl
  unfold phi addV
  by_cases h : r = 2
  · subst h
    by_cases ha : a = 0 <;> by_cases hb : b = 0 <;> simp [ha, hb] <;> omega
  · simp only [h, if_false]
    split <;> omega
theorem phi_mul {r a x t : Int} (hr : r = 1 ∨ r = 2) (ha : OkV r a) (hx : OkV r x) (ht : t < infV) : phi r (mulV r a x) ≤ t ↔ phi r a + phi r x ≤ t := by
  have h1 := okV_in ha
  have h2 := okV_in hx
  rcases hr with rfl | rfl
  · unfold phi mulV
    simp only [show ¬ ((1 : Int) = 2) by decide, show ¬ ((1 : Int) = 4) by decide, if_false]
    split
    · omega
    · split <;> omega
  · have hi : infV = 4611686018427387904 := rfl
    unfold phi mulV
    by_cases ea : a = 0 <;> by_cases eb : x = 0 <;> simp only [ea, eb, infV, if_true, if_false, or_self, or_true, true_or, Int.reduceNeg, show ¬ ((1 : Int) = 0) by decide, show ((2 : Int) = 2) = True by simp] at ht ⊢ <;> omega
theorem phi_inj {r a b : Int} (ha : OkV r a) (hb : OkV r b) (h : phi r a = phi r b) : a = b := by
  unfold phi at h
  unfold OkV at ha hb
  split at h
  · rename_i e
    rw [if_pos e] at ha hb
    split at h <;> split at h <;> first | omega | exact absurd h (by decide)
  · exact h
/-- What was summed costs at most so much. -/
def leO (r : Int) (o : Option Int) (t : Int) : Prop := ∃ s, o = some s ∧ phi r s ≤ t
theorem leO_none (r t : Int) : ¬ leO r none t := by rintro ⟨s, h, _⟩; cases h
theorem leO_some (r s t : Int) : leO r (some s) t ↔ phi r s ≤ t := by simp [leO]
theorem leO_sum (r : Int) (o : Option Int) (x t : Int) : leO r (sumO r o x) t ↔ leO r o t ∨ phi r x ≤ t := by
  cases o with
  | none => simp [leO, sumO]
  | some s => simp [leO, sumO, phi_add]
/-- What is not zero of a sum. -/
def nzO (r : Int) (o : Option Int) : Option Int := o.filter (fun s => s != zeroV r)
theorem leO_get {r : Int} {o : Option Int} {t : Int} (ht : t < infV) : leO r o t ↔ phi r (o.getD (zeroV r)) ≤ t := by
  cases o with
  | none =>
    simp only [Option.getD_none, phi_zero]
    exact ⟨fun h => absurd h (leO_none r t), fun h => by omega⟩
  | some s => simp [leO]
theorem nzO_get (r : Int) (o : Option Int) : nzO r o = if o.getD (zeroV r) = zeroV r then none else some (o.getD (zeroV r)) := by
  unfold nzO
  cases o with
  | none => simp
  | some s =>
    by_cases h : s = zeroV r <;> simp [h, Option.filter]
theorem okO_get {r : Int} {o : Option Int} (h : OkO r o) : OkV r (o.getD (zeroV r)) := by
  cases o with
  | none => exact zeroV_ok r
  | some s => exact h
theorem nzO_eq {r : Int} {o o' : Option Int} (ho : OkO r o) (ho' : OkO r o') (h : ∀ t, t < infV → (leO r o t ↔ leO r o' t)) : nzO r o = nzO r o' := by
  have i1 := phi_in (okO_get ho)
  have i2 := phi_in (okO_get ho')
  have e : o.getD (zeroV r) = o'.getD (zeroV r) := by
    refine phi_inj (okO_get ho) (okO_get ho') ?_
    rcases Int.lt_trichotomy (phi r (o.getD (zeroV r))) (phi r (o'.getD (zeroV r))) with hlt | he | hlt
    · have h1 : phi r (o.getD (zeroV r)) < infV := by omega
      have h2 := (h _ h1)
      rw [leO_get h1, leO_get h1] at h2
      have := h2.1 (Int.le_refl _)
      omega
    · exact he
    · have h1 : phi r (o'.getD (zeroV r)) < infV := by omega
      have h2 := (h _ h1)
      rw [leO_get h1, leO_get h1] at h2
      have := h2.2 (Int.le_refl _)
      omega
  rw [nzO_get, nzO_get, e]
theorem leO_row {r : Int} {b : Nat} {V : List Int} {t : Int} (hr : r = 1 ∨ r = 2) (ht : t < infV) (hv : ∀ i : Nat, b.testBit i = true → OkV r (V.getD i 0)) : ∀ (L : List Ed) (o : Option Int), (∀ e ∈ L, OkV r e.2.2) →
    (leO r (L.foldl (stepR r b V) o) t ↔ leO r o t ∨ ∃ e ∈ L, b.testBit e.2.1.toNat = true ∧ phi r e.2.2 + phi r (V.getD e.2.1.toNat 0) ≤ t)
  | [], o, _ => by simp
  | e :: L, o, h => by
    rw [List.foldl_cons, leO_row hr ht hv L _ (fun x hx => h x (by simp [hx]))]
    have he := h e (by simp)
    unfold stepR
    by_cases hb : b.testBit e.2.1.toNat = true
    · rw [if_pos hb, leO_sum, phi_mul hr he (hv _ hb) ht]
      simp [hb, or_assoc]
    · rw [if_neg hb]
      simp [hb]
/-- The products of a row of the one with the rows of the other. -/
def pairsR (r : Int) (LB A : List Ed) : List (Int × Int) := A.flatMap (fun a => (rowL LB a.2.1.toNat).map (fun b => (b.2.1, mulV r a.2.2 b.2.2)))
/-- What those of a column come to. -/
def cellR (r : Int) (T : List (Int × Int)) (c : Int) : Option Int := T.foldl (fun o x => if x.1 = c then sumO r o x.2 else o) none
theorem leO_cell0 {r : Int} {c t : Int} : ∀ (T : List (Int × Int)) (o : Option Int), leO r (T.foldl (fun o x => if x.1 = c then sumO r o x.2 else o) o) t ↔ leO r o t ∨ ∃ x ∈ T, x.1 = c ∧ phi r x.2 ≤ t
  | [], o => by simp
  | x :: T, o => by
    rw [List.foldl_cons, leO_cell0 T]
    by_cases hc : x.1 = c
    · rw [if_pos hc, leO_sum]
      simp [hc, or_assoc]
    · rw [if_neg hc]
      simp [hc]
theorem leO_cell {r : Int} {c t : Int} (T : List (Int × Int)) : leO r (cellR r T c) t ↔ ∃ x ∈ T, x.1 = c ∧ phi r x.2 ≤ t := by
  unfold cellR
  rw [leO_cell0]
  simp [leO]
theorem cellR_ok {r : Int} {c : Int} {T : List (Int × Int)} (h : ∀ x ∈ T, OkV r x.2) : OkO r (cellR r T c) := by
  unfold cellR
  suffices ∀ (T : List (Int × Int)) (o : Option Int), OkO r o → (∀ x ∈ T, OkV r x.2) → OkO r (T.foldl (fun o x => if x.1 = c then sumO r o x.2 else o) o) from this T none trivial h
  intro T
  induction T with
  | nil => intro o ho _; exact ho
  | cons x T ih =>
    intro o ho h
    rw [List.foldl_cons]
    refine ih _ ?_ (fun y hy => h y (by simp [hy]))
    split
    · exact sumO_ok ho (h x (by simp))
    · exact ho
theorem cellR_snoc (r : Int) (T : List (Int × Int)) (x : Int × Int) (c : Int) : cellR r (T ++ [x]) c = if x.1 = c then sumO r (cellR r T c) x.2 else cellR r T c := by
  unfold cellR
  rw [List.foldl_append]
  rfl
theorem mem_rowL {l : List Ed} {i : Nat} {e : Ed} : e ∈ rowL l i ↔ e ∈ l ∧ e.1 = (i : Int) := by
  unfold rowL
  simp
theorem pairs_ok {r : Int} {LB A : List Ed} (hA : ∀ e ∈ A, OkV r e.2.2) (hB : ∀ e ∈ LB, OkV r e.2.2) : ∀ x ∈ pairsR r LB A, OkV r x.2 := by
  intro x hx
  unfold pairsR at hx
  obtain ⟨a, ha, hx⟩ := List.mem_flatMap.1 hx
  obtain ⟨b, hb, rfl⟩ := List.mem_map.1 hx
  exact mulV_ok (hA a ha) (hB b (mem_rowL.1 hb).1)
/-- What each place of a third matrix comes to. -/
def cellsR (r : Int) (LA LB LM : List Ed) : List Ed := LM.filterMap (fun e => (cellR r (pairsR r LB (rowL LA e.1.toNat)) e.2.1).map (fun s => (e.1, e.2.1, s)))
/-- The matrix of those that are not zero. -/
def multR (r : Int) (LA LB LM : List Ed) : List Ed := (cellsR r LA LB LM).filter (fun e => e.2.2 != zeroV r)
theorem rises_filterMap {f : Ed → Option Ed} (hf : ∀ x y, f x = some y → keyOf y = keyOf x) : ∀ {l : List Ed}, RisesL l → RisesL (l.filterMap f)
  | [], _ => by simp [RisesL]
  | x :: l, h => by
    have h2 := List.pairwise_cons.1 h
    have ih : RisesL (l.filterMap f) := rises_filterMap hf h2.2
    rcases hx : f x with _ | y
    · rw [List.filterMap_cons_none hx]
      exact ih
    · rw [List.filterMap_cons_some hx]
      refine List.Pairwise.cons (fun z hz => ?_) ih
      obtain ⟨q, hq, hz⟩ := List.mem_filterMap.1 hz
      rw [hf _ _ hx, hf _ _ hz]
      exact h2.1 q hq
theorem cells_rises (r : Int) (LA LB : List Ed) {LM : List Ed} (h : RisesL LM) : RisesL (cellsR r LA LB LM) := by
  refine rises_filterMap (fun x y hxy => ?_) h
  obtain ⟨s, _, rfl⟩ := Option.map_eq_some_iff.1 hxy
  rfl
theorem cells_mem {r : Int} {LA LB LM : List Ed} {e : Ed} (h : e ∈ cellsR r LA LB LM) : (∃ m ∈ LM, m.1 = e.1 ∧ m.2.1 = e.2.1) ∧ cellR r (pairsR r LB (rowL LA e.1.toNat)) e.2.1 = some e.2.2 := by
  obtain ⟨m, hm, h⟩ := List.mem_filterMap.1 h
  obtain ⟨s, hs, rfl⟩ := Option.map_eq_some_iff.1 h
  exact ⟨⟨m, hm, rfl, rfl⟩, hs⟩
theorem cells_ok {r : Int} {LA LB LM : List Ed} (hA : ∀ e ∈ LA, OkV r e.2.2) (hB : ∀ e ∈ LB, OkV r e.2.2) : ∀ e ∈ cellsR r LA LB LM, OkV r e.2.2 := by
  intro e he
  have h1 := (cells_mem he).2
  have h2 := cellR_ok (c := e.2.1) (pairs_ok (A := rowL LA e.1.toNat) (fun x hx => hA x (mem_rowL.1 hx).1) hB)
  rw [h1] at h2
  exact h2
theorem mult_rises (r : Int) (LA LB : List Ed) {LM : List Ed} (h : RisesL LM) : RisesL (multR r LA LB LM) := List.Pairwise.filter _ (cells_rises r LA LB h)
theorem mult_ok {r : Int} {LA LB LM : List Ed} (hA : ∀ e ∈ LA, OkV r e.2.2) (hB : ∀ e ∈ LB, OkV r e.2.2) : ∀ e ∈ multR r LA LB LM, OkV r e.2.2 := fun e he => cells_ok hA hB e (List.mem_filter.1 he).1
/-- The items of sums, row by row. -/
theorem items_sums (r : Int) (b : Nat) (V : List Int) (l : List Ed) (is : List Nat) : itemsR r (sumsR r b V l is) = is.filterMap (fun i => (nzO r (rowR r b V (rowL l i))).map (fun s => ((0 : Int), (i : Int), s))) := by
  unfold itemsR sumsR nzO
  rw [List.filter_filterMap, List.map_filterMap]
  congr 1
  funext i
  cases rowR r b V (rowL l i) with
  | none => rfl
  | some s =>
    by_cases h : s = zeroV r <;> simp [h, Option.filter]
theorem filterMap_same {α β : Type} {f g : α → Option β} : ∀ {l : List α}, (∀ x ∈ l, f x = g x) → l.filterMap f = l.filterMap g
  | [], _ => rfl
  | x :: l, h => by
    have ih := filterMap_same (l := l) (fun y hy => h y (by simp [hy]))
    rw [List.filterMap_cons, List.filterMap_cons, h x (by simp), ih]
theorem mem_askN {n i : Nat} : i ∈ askN n (fun _ => false) true ↔ i < n := by
  unfold askN
  simp
/-- The items of a vector lie in it, and rise. -/
theorem items_ok (r : Int) (b : Nat) (V : List Int) (l : List Ed) {n : Nat} (hn : n ≤ 4096) : VcOk n (itemsR r (sumsR r b V l (askN n (fun _ => false) true))) := by
  have hmem : ∀ e ∈ itemsR r (sumsR r b V l (askN n (fun _ => false) true)), ∃ i : Nat, i < n ∧ ∃ s, e = ((0 : Int), (i : Int), s) := by
    intro e he
    rw [items_sums] at he
    obtain ⟨i, hi, h⟩ := List.mem_filterMap.1 he
    obtain ⟨s, _, rfl⟩ := Option.map_eq_some_iff.1 h
    exact ⟨i, mem_askN.1 hi, s, rfl⟩
  refine ⟨?_, ?_, ?_, hn⟩
  · have h1 := sumsR_rise r b V l _ (askN_rise n (fun _ => false) true)
    unfold itemsR RisesL
    rw [List.pairwise_map]
    refine (h1.filter _).imp (fun {x y} h => ?_)
    simp [keyLt, keyOf]
    omega
  · intro e he
    obtain ⟨i, hi, s, rfl⟩ := hmem e he
    exact ⟨rfl, by simp, by simpa using hi⟩
  · unfold itemsR
    rw [List.length_map]
    refine Nat.le_trans (List.length_filter_le _ _) (Nat.le_trans (sumsR_len r b V l _) ?_)
    unfold askN
    refine Nat.le_trans (List.length_filter_le _ _) ?_
    simp
    omega
theorem items_val {r : Int} {b : Nat} {V : List Int} {l : List Ed} {N n : Nat} (hb : b < 2 ^ N) (hl : V.length = N) (hv : OkVec r b V) (ho : ∀ e ∈ l, OkV r e.2.2) : ∀ e ∈ itemsR r (sumsR r b V l (askN n (fun _ => false) true)), OkV r e.2.2 := by
  intro e he
  rw [items_sums] at he
  obtain ⟨i, hi, h⟩ := List.mem_filterMap.1 he
  obtain ⟨s, hs, rfl⟩ := Option.map_eq_some_iff.1 h
  have h1 := rowR_ok hb hl hv (rowL l i) (fun e he => ho e (mem_rowL.1 he).1)
  have h2 := (Option.filter_eq_some_iff.1 hs).1
  rw [h2] at h1
  exact h1
theorem dn_get {N b : Nat} {X : List Ed} {V : List Int} (h : DnOk N X b V) {e : Ed} (he : e ∈ X) : V.getD e.2.1.toNat 0 = e.2.2 := by
  rw [List.getD_eq_getElem?_getD, h.val e he]
  rfl
theorem dn_vec {r : Int} {N b : Nat} {X : List Ed} {V : List Int} (h : DnOk N X b V) (hx : ∀ e ∈ X, OkV r e.2.2) : OkVec r b V := by
  intro i hi x hv
  rw [h.has i] at hi
  have hi := of_decide_eq_true hi
  obtain ⟨e, he, h2⟩ := List.mem_map.1 hi
  have h3 := h.val e he
  rw [h2, Int.toNat_natCast, hv] at h3
  injection h3 with h3
  rw [h3]
  exact hx e he
theorem vec_get {r : Int} {N b : Nat} {V : List Int} (hb : b < 2 ^ N) (hl : V.length = N) (h : OkVec r b V) : ∀ i : Nat, b.testBit i = true → OkV r (V.getD i 0) := by
  intro i hi
  have hlt : i < N := by
    refine Nat.lt_of_not_le (fun hle => ?_)
    rw [Nat.testBit_lt_two_pow (Nat.lt_of_lt_of_le hb (Nat.pow_le_pow_right (by decide) hle))] at hi
    cases hi
  rw [List.getD_eq_getElem?_getD, List.getElem?_eq_getElem (by omega)]
  exact h i hi _ (List.getElem?_eq_getElem (by omega))
/-- A MATRIX TIMES A MATRIX, TIMES A VECTOR. -/
theorem assoc_plain {r : Int} (hr : r = 1 ∨ r = 2) {n k j bX bY : Nat} {LA LB X : List Ed} {VX VY : List Int} (hk : k ≤ 4096) (hA : MtOkM n k LA) (hB : MtOkM k j LB) (vA : ∀ e ∈ LA, OkV r e.2.2) (vB : ∀ e ∈ LB, OkV r e.2.2)
    (hX : DnOk j X bX VX) (vX : ∀ e ∈ X, OkV r e.2.2) (hY : DnOk k (itemsR r (sumsR r bX VX LB (askN k (fun _ => false) true))) bY VY) :
    itemsR r (sumsR r bX VX (multR r LA LB (onesL n j)) (askN n (fun _ => false) true)) = itemsR r (sumsR r bY VY LA (askN n (fun _ => false) true)) := by
  have oX := dn_vec hX vX
  have gX := vec_get hX.lt hX.len oX
  have vY := items_val (n := k) hX.lt hX.len oX vB
  have oY := dn_vec hY vY
  have gY := vec_get hY.lt hY.len oY
  have vM := mult_ok (LM := onesL n j) vA vB
  rw [items_sums, items_sums]
  refine filterMap_same (fun i hi => ?_)
  have hi := mem_askN.1 hi
  congr 1
  refine nzO_eq (rowR_ok hX.lt hX.len oX _ (fun e he => vM e (mem_rowL.1 he).1)) (rowR_ok hY.lt hY.len oY _ (fun e he => vA e (mem_rowL.1 he).1)) (fun t ht => ?_)
  unfold rowR
  rw [leO_row hr ht gX _ _ (fun e he => vM e (mem_rowL.1 he).1), leO_row hr ht gY _ _ (fun e he => vA e (mem_rowL.1 he).1)]
  simp only [leO_none, false_or]
  constructor
  · rintro ⟨e, he, hb, hle⟩
    obtain ⟨he, h1⟩ := mem_rowL.1 he
    obtain ⟨hm, _⟩ := List.mem_filter.1 he
    obtain ⟨_, hc⟩ := cells_mem hm
    have p3 := (phi_in (gX _ hb)).1
    have h2 : leO r (cellR r (pairsR r LB (rowL LA e.1.toNat)) e.2.1) (t - phi r (VX.getD e.2.1.toNat 0)) := ⟨_, hc, by omega⟩
    rw [leO_cell] at h2
    obtain ⟨x, hx, hxc, hxl⟩ := h2
    obtain ⟨a, ha, hx⟩ := List.mem_flatMap.1 hx
    obtain ⟨q, hq, rfl⟩ := List.mem_map.1 hx
    rw [h1, Int.toNat_natCast] at ha
    obtain ⟨ha1, ha2⟩ := mem_rowL.1 ha
    obtain ⟨hq1, hq2⟩ := mem_rowL.1 hq
    dsimp only at hxc hxl
    rw [phi_mul hr (vA _ ha1) (vB _ hq1) (by omega)] at hxl
    have p1 := (phi_in (vA _ ha1)).1
    have p2 := (phi_in (vB _ hq1)).1
    have i1 := hA.inn a ha1
    have hlk : a.2.1.toNat < k := by omega
    have h3 : leO r (rowR r bX VX (rowL LB a.2.1.toNat)) (t - phi r a.2.2) := by
      unfold rowR
      rw [leO_row hr (by omega) gX _ _ (fun e he => vB e (mem_rowL.1 he).1)]
      exact .inr ⟨q, hq, by rw [hxc]; exact hb, by rw [hxc]; omega⟩
    obtain ⟨s, hs, hsl⟩ := h3
    have hnz : s ≠ zeroV r := by
      rintro rfl
      rw [phi_zero] at hsl
      omega
    have hmem : ((0 : Int), ((a.2.1.toNat : Nat) : Int), s) ∈ itemsR r (sumsR r bX VX LB (askN k (fun _ => false) true)) := by
      rw [items_sums]
      refine List.mem_filterMap.2 ⟨a.2.1.toNat, mem_askN.2 hlk, ?_⟩
      rw [hs]
      simp [nzO, Option.filter, hnz]
    refine ⟨a, ha, ?_, ?_⟩
    · rw [hY.has]
      exact decide_eq_true (List.mem_map.2 ⟨_, hmem, rfl⟩)
    · have := dn_get hY hmem
      simp only [Int.toNat_natCast] at this
      rw [this]
      omega
  · rintro ⟨a, ha, hb, hle⟩
    obtain ⟨ha1, ha2⟩ := mem_rowL.1 ha
    have p1 := (phi_in (vA _ ha1)).1
    have hb2 := hb
    rw [hY.has] at hb2
    obtain ⟨y, hy, hy2⟩ := List.mem_map.1 (of_decide_eq_true hb2)
    have hyv := dn_get hY hy
    rw [hy2, Int.toNat_natCast] at hyv
    rw [hyv] at hle
    rw [items_sums] at hy
    obtain ⟨i2, hi2, hy⟩ := List.mem_filterMap.1 hy
    obtain ⟨s, hs, rfl⟩ := Option.map_eq_some_iff.1 hy
    dsimp only at hy2 hle
    have hi3 : i2 = a.2.1.toNat := by omega
    subst hi3
    have hs2 := (Option.filter_eq_some_iff.1 hs).1
    have h3 : leO r (rowR r bX VX (rowL LB a.2.1.toNat)) (t - phi r a.2.2) := ⟨s, hs2, by omega⟩
    unfold rowR at h3
    rw [leO_row hr (by omega) gX _ _ (fun e he => vB e (mem_rowL.1 he).1)] at h3
    simp only [leO_none, false_or] at h3
    obtain ⟨q, hq, hqb, hql⟩ := h3
    obtain ⟨hq1, hq2⟩ := mem_rowL.1 hq
    have p2 := (phi_in (vB _ hq1)).1
    have p3 := (phi_in (gX _ hqb)).1
    have h4 : leO r (cellR r (pairsR r LB (rowL LA i)) q.2.1) (t - phi r (VX.getD q.2.1.toNat 0)) := by
      rw [leO_cell]
      refine ⟨(q.2.1, mulV r a.2.2 q.2.2), List.mem_flatMap.2 ⟨a, ha, List.mem_map.2 ⟨q, hq, rfl⟩⟩, rfl, ?_⟩
      dsimp only
      rw [phi_mul hr (vA _ ha1) (vB _ hq1) (by omega)]
      omega
    obtain ⟨u, hu, hul⟩ := h4
    have hnz : u ≠ zeroV r := by
      rintro rfl
      rw [phi_zero] at hul
      omega
    have iq := hB.inn q hq1
    refine ⟨((i : Int), q.2.1, u), mem_rowL.2 ⟨List.mem_filter.2 ⟨List.mem_filterMap.2 ⟨((i : Int), q.2.1, 1), mem_onesL.2 ⟨i, q.2.1.toNat, hi, by omega, ?_⟩, ?_⟩, ?_⟩, rfl⟩, hqb, by dsimp only; omega⟩
    · rw [Int.toNat_of_nonneg iq.2.1]
    · dsimp only
      rw [Int.toNat_natCast, hu]
      rfl
    · simpa using hnz
end Go.Proofs.YtblfingmdipopaaGreat
