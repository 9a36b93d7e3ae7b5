/- Edges combined: what the reference's insertion comes to is the same. No program in sight. -/
import Derived.Test.YtblfingmdipopaaGreatM10
namespace Go.Proofs.YtblfingmdipopaaGreat
set_option linter.unusedSimpArgs false
set_option linter.unusedVariables false
set_option maxHeartbeats 1000000
open Go.Shelf
abbrev Key := Int × Int
def keyLt (a b : Key) : Bool := decide (a.1 < b.1 ∨ (a.1 = b.1 ∧ a.2 < b.2))
theorem keyLt_irrefl (a : Key) : keyLt a a = false := by simp [keyLt]
theorem keyLt_trans {a b c : Key} (h1 : keyLt a b = true) (h2 : keyLt b c = true) : keyLt a c = true := by
  unfold keyLt at *; simp only [decide_eq_true_eq] at *; omega
theorem keyLt_ne {a b : Key} (h : keyLt a b = true) : a ≠ b := by rintro rfl; rw [keyLt_irrefl] at h; cases h
theorem keyLt_total {a b : Key} (h1 : keyLt a b = false) (h2 : keyLt b a = false) : a = b := by
  unfold keyLt at *; simp only [decide_eq_false_iff_not] at *
  obtain ⟨a1, a2⟩ := a
  obtain ⟨b1, b2⟩ := b
  dsimp only at *
  obtain rfl : a1 = b1 := by omega
  obtain rfl : a2 = b2 := by omega
  rfl
/-- One edge more is put to those that rise. -/
def insR (r : Int) (K : Key) (w : Wd) : List (Key × Wd) → List (Key × Wd)
  | [] => [(K, w)]
  | x :: L => if keyLt x.1 K = true then x :: insR r K w L else if keyLt K x.1 = true then (K, w) :: x :: L else (x.1, rAdd r x.2 w) :: L
def Rising (L : List (Key × Wd)) : Prop := L.Pairwise (fun x y => keyLt x.1 y.1 = true)
theorem insR_keys (r : Int) (K : Key) (w : Wd) : ∀ (L : List (Key × Wd)) (x : Key × Wd), x ∈ insR r K w L → x.1 = K ∨ x ∈ L
  | [], x, h => by simp [insR] at h; simp [h]
  | y :: L, x, h => by
    unfold insR at h
    split at h
    · rcases List.mem_cons.1 h with rfl | h
      · exact .inr (by simp)
      · rcases insR_keys r K w L x h with h | h
        · exact .inl h
        · exact .inr (by simp [h])
    · split at h
      · rcases List.mem_cons.1 h with rfl | h
        · exact .inl rfl
        · exact .inr h
      · rename_i h1 h2
        rcases List.mem_cons.1 h with rfl | h
        · exact .inl (keyLt_total (by simpa using h1) (by simpa using h2))
        · exact .inr (by simp [h])
theorem insR_rising (r : Int) (K : Key) (w : Wd) : ∀ {L : List (Key × Wd)}, Rising L → Rising (insR r K w L)
  | [], _ => by simp [insR, Rising]
  | y :: L, h => by
    unfold Rising at h
    rw [List.pairwise_cons] at h
    unfold insR
    split
    · rename_i h1
      unfold Rising
      rw [List.pairwise_cons]
      refine ⟨fun x hx => ?_, insR_rising r K w h.2⟩
      rcases insR_keys r K w L x hx with e | e
      · rw [e]; exact h1
      · exact h.1 x e
    · split
      · rename_i h1 h2
        unfold Rising
        rw [List.pairwise_cons, List.pairwise_cons]
        refine ⟨fun x hx => ?_, h⟩
        rcases List.mem_cons.1 hx with rfl | hx
        · exact h2
        · exact keyLt_trans h2 (h.1 x hx)
      · unfold Rising
        rw [List.pairwise_cons]
        exact ⟨fun x hx => h.1 x hx, h.2⟩
theorem rising_one {L : List (Key × Wd)} (h : Rising L) {k : Key} {u v : Wd} (h1 : (k, u) ∈ L) (h2 : (k, v) ∈ L) : u = v := by
  induction L with
  | nil => cases h1
  | cons x L ih =>
    unfold Rising at h
    rw [List.pairwise_cons] at h
    rcases List.mem_cons.1 h1 with e1 | h1'
    · rcases List.mem_cons.1 h2 with e2 | h2'
      · exact congrArg Prod.snd (e1.trans e2.symm)
      · exact absurd (show x.1 = k from (congrArg Prod.fst e1).symm) (show x.1 ≠ k from keyLt_ne (h.1 (k, v) h2'))
    · rcases List.mem_cons.1 h2 with e2 | h2'
      · exact absurd (show x.1 = k from (congrArg Prod.fst e2).symm) (show x.1 ≠ k from keyLt_ne (h.1 (k, u) h1'))
      · exact ih h.2 h1' h2'
theorem mem_insR (r : Int) (K : Key) (w : Wd) : ∀ {L : List (Key × Wd)}, Rising L → ∀ (k : Key) (u : Wd), (k, u) ∈ insR r K w L ↔ (k ≠ K ∧ (k, u) ∈ L) ∨ (k = K ∧ ((∃ u0, (K, u0) ∈ L ∧ u = rAdd r u0 w) ∨ ((∀ u0, (K, u0) ∉ L) ∧ u = w)))
  | [], _, k, u => by simp [insR]
  | x :: L, h, k, u => by
    unfold Rising at h
    rw [List.pairwise_cons] at h
    obtain ⟨xk, xu⟩ := x
    unfold insR
    split
    · rename_i h1
      have hne : xk ≠ K := keyLt_ne h1
      rw [List.mem_cons, mem_insR r K w h.2 k u]
      constructor
      · rintro (e | ⟨h2, h3⟩ | ⟨h2, h3⟩)
        · injection e with e1 e2
          subst e1; subst e2
          exact .inl ⟨hne, by simp⟩
        · exact .inl ⟨h2, by simp [h3]⟩
        · refine .inr ⟨h2, ?_⟩
          rcases h3 with ⟨u0, h4, h5⟩ | ⟨h4, h5⟩
          · exact .inl ⟨u0, by simp [h4], h5⟩
          · refine .inr ⟨fun u0 hm => ?_, h5⟩
            rcases List.mem_cons.1 hm with e | hm
            · exact hne (congrArg Prod.fst e).symm
            · exact h4 u0 hm
      · rintro (⟨h2, h3⟩ | ⟨h2, h3⟩)
        · rcases List.mem_cons.1 h3 with e | h3
          · exact .inl e
          · exact .inr (.inl ⟨h2, h3⟩)
        · refine .inr (.inr ⟨h2, ?_⟩)
          rcases h3 with ⟨u0, h4, h5⟩ | ⟨h4, h5⟩
          · rcases List.mem_cons.1 h4 with e | h4
            · exact absurd (congrArg Prod.fst e).symm hne
            · exact .inl ⟨u0, h4, h5⟩
          · exact .inr ⟨fun u0 hm => h4 u0 (by simp [hm]), h5⟩
    · split
      · rename_i h1 h2
        have hno : ∀ u0, (K, u0) ∉ (xk, xu) :: L := by
          intro u0 hm
          rcases List.mem_cons.1 hm with e | hm
          · exact keyLt_ne h2 (congrArg Prod.fst e)
          · have := h.1 _ hm
            exact keyLt_ne (keyLt_trans h2 this) rfl
        constructor
        · intro hm
          rcases List.mem_cons.1 hm with e | hm2
          · injection e with e1 e2
            exact .inr ⟨e1, .inr ⟨hno, e2⟩⟩
          · refine .inl ⟨?_, hm2⟩
            intro e
            rw [e] at hm2
            exact hno _ hm2
        · rintro (⟨h3, h4⟩ | ⟨rfl, ⟨u0, h4, _⟩ | ⟨_, rfl⟩⟩)
          · exact List.mem_cons_of_mem _ h4
          · exact absurd h4 (hno u0)
          · simp
      · rename_i h1 h2
        obtain rfl : xk = K := keyLt_total (by simpa using h1) (by simpa using h2)
        constructor
        · intro hm
          rcases List.mem_cons.1 hm with e | hm
          · injection e with e1 e2
            exact .inr ⟨e1, .inl ⟨xu, by simp, e2⟩⟩
          · exact .inl ⟨fun e => keyLt_ne (h.1 _ hm) e.symm, by simp [hm]⟩
        · rintro (⟨h3, h4⟩ | ⟨h3, ⟨u0, h4, h5⟩ | ⟨h4, _⟩⟩)
          · rcases List.mem_cons.1 h4 with e | h4'
            · exact absurd (congrArg Prod.fst e) h3
            · exact List.mem_cons_of_mem _ h4'
          · rcases List.mem_cons.1 h4 with e | h4'
            · have e2 : u0 = xu := congrArg Prod.snd e
              rw [h3, h5, e2]
              exact List.mem_cons_self
            · exact absurd rfl (show xk ≠ xk from keyLt_ne (h.1 (xk, u0) h4'))
          · exact absurd List.mem_cons_self (h4 xu)
/-! The map's side. -/
theorem getK_cons (k : Key) (x : KE) (l : List KE) : getK k (x :: l) = if k == x.1 then some x.2.1 else getK k l := by
  have hs : ∀ (l : List KE) (i j : Nat), (findK k l i).map (·.2) = (findK k l j).map (·.2) := by
    intro l
    induction l with
    | nil => intros; rfl
    | cons y l ih =>
      intro i j
      unfold findK
      split
      · rfl
      · exact ih _ _
  unfold getK
  conv => lhs; unfold findK
  split
  · rfl
  · exact hs _ _ _
theorem getK_put_same (k : Key) (v : Wd) (c : Nat) : ∀ l : List KE, getK k (putK k v c l) = some v
  | [] => by simp [putK, getK_cons]
  | x :: l => by
    unfold putK
    split
    · rename_i h; rw [getK_cons]; simp [h]
    · rename_i h; rw [getK_cons, if_neg h, getK_put_same k v c l]
theorem getK_put_ne {k n : Key} (h : k ≠ n) (v : Wd) (c : Nat) : ∀ l : List KE, getK k (putK n v c l) = getK k l
  | [] => by
    have hb : (k == n) = false := by simpa using h
    simp [putK, getK_cons, hb]
  | x :: l => by
    unfold putK
    split
    · rename_i hx
      have : n = x.1 := by simpa using hx
      have hb : (k == x.1) = false := by rw [← this]; simpa using h
      rw [getK_cons, getK_cons]
      simp [hb]
    · rw [getK_cons, getK_cons, getK_put_ne h v c l]
/-- Each key is there once. -/
def Once (l : List KE) : Prop := (l.map (·.1)).Nodup
theorem putK_keys (k : Key) (v : Wd) (c : Nat) : ∀ l : List KE, (putK k v c l).map (·.1) = if k ∈ l.map (·.1) then l.map (·.1) else l.map (·.1) ++ [k]
  | [] => by simp [putK]
  | x :: l => by
    unfold putK
    by_cases h : (k == x.1) = true
    · have : k = x.1 := by simpa using h
      rw [if_pos h]; simp [this]
    · have hne : k ≠ x.1 := by simpa using h
      rw [if_neg h, List.map_cons, putK_keys k v c l]
      by_cases hm : k ∈ l.map (·.1)
      · rw [if_pos hm, if_pos (by simp only [List.map_cons, List.mem_cons]; exact .inr hm)]; rfl
      · rw [if_neg hm, if_neg (by simp only [List.map_cons, List.mem_cons]; rintro (h | h); exact hne h; exact hm h)]; rfl
theorem Once.put {l : List KE} (h : Once l) (k : Key) (v : Wd) (c : Nat) : Once (putK k v c l) := by
  unfold Once at *
  rw [putK_keys]
  split
  · exact h
  · rename_i hm
    rw [List.nodup_append]
    exact ⟨h, by simp, fun a ha b hb => by simp at hb; subst hb; rintro rfl; exact hm ha⟩
theorem mem_getK {l : List KE} (h : Once l) {x : KE} (hx : x ∈ l) : getK x.1 l = some x.2.1 := by
  induction l with
  | nil => cases hx
  | cons y l ih =>
    unfold Once at h
    rw [List.map_cons, List.nodup_cons] at h
    rw [getK_cons]
    rcases List.mem_cons.1 hx with rfl | hx
    · simp
    · have hne : ¬ (x.1 == y.1) = true := by
        intro e
        have : x.1 = y.1 := by simpa using e
        exact h.1 (this ▸ List.mem_map.2 ⟨x, hx, rfl⟩)
      rw [if_neg hne]
      exact ih h.2 hx
theorem getK_mem {l : List KE} {k : Key} {u : Wd} (h : getK k l = some u) : ∃ x ∈ l, x.1 = k ∧ x.2.1 = u := by
  induction l with
  | nil => cases h
  | cons y l ih =>
    rw [getK_cons] at h
    split at h
    · rename_i hb
      injection h with h
      exact ⟨y, by simp, (by simpa using hb : k = y.1).symm, h⟩
    · obtain ⟨x, hx, h1, h2⟩ := ih h
      exact ⟨x, by simp [hx], h1, h2⟩
/-! Both. -/
def insAll (r : Int) (l : List Ed) : List (Key × Wd) := l.foldl (fun L e => insR r (e.1, e.2.1) (wOf e.2.2) L) []
structure Both (L : List (Key × Wd)) (l : List KE) : Prop where
  rise : Rising L
  once : Once l
  same : ∀ k u, (k, u) ∈ L ↔ getK k l = some u
theorem Both.step {r : Int} {L : List (Key × Wd)} {s : List KE × Nat} (h : Both L s.1) (e : Ed) : Both (insR r (e.1, e.2.1) (wOf e.2.2) L) (stepK r s e).1 := by
  refine ⟨insR_rising r _ _ h.rise, h.once.put _ _ _, fun k u => ?_⟩
  rw [mem_insR r _ _ h.rise]
  unfold stepK
  dsimp only
  by_cases hk : k = (e.1, e.2.1)
  · subst hk
    rw [getK_put_same]
    cases hq : getK (e.1, e.2.1) s.1 with
    | none =>
      have hno : ∀ u0, ((e.1, e.2.1), u0) ∉ L := fun u0 hm => by have := (h.same _ _).1 hm; rw [hq] at this; cases this
      constructor
      · rintro (⟨h1, _⟩ | ⟨_, ⟨u0, h2, _⟩ | ⟨_, rfl⟩⟩)
        · exact absurd rfl h1
        · exact absurd h2 (hno u0)
        · rfl
      · intro hu
        injection hu with hu
        exact .inr ⟨rfl, .inr ⟨hno, hu.symm⟩⟩
    | some v =>
      have hin := (h.same _ _).2 hq
      constructor
      · rintro (⟨h1, _⟩ | ⟨_, ⟨u0, h2, rfl⟩ | ⟨h2, _⟩⟩)
        · exact absurd rfl h1
        · rw [rising_one h.rise h2 hin]
        · exact absurd hin (h2 v)
      · intro hu
        injection hu with hu
        exact .inr ⟨rfl, .inl ⟨v, hin, hu.symm⟩⟩
  · rw [getK_put_ne hk, ← h.same]
    constructor
    · rintro (⟨_, h2⟩ | ⟨h1, _⟩)
      · exact h2
      · exact absurd h1 hk
    · exact fun h2 => .inl ⟨hk, h2⟩
theorem both_all (r : Int) (l : List Ed) : Both (insAll r l) (sumsK r l).1 := by
  unfold insAll sumsK
  suffices ∀ (l : List Ed) (L : List (Key × Wd)) (s : List KE × Nat), Both L s.1 → Both (l.foldl (fun L e => insR r (e.1, e.2.1) (wOf e.2.2) L) L) (l.foldl (stepK r) s).1 from
    this l [] ([], 0) ⟨List.Pairwise.nil, List.nodup_nil, fun k u => by simp [getK, findK]⟩
  intro l
  induction l with
  | nil => intro L s h; exact h
  | cons e l ih => intro L s h; exact ih _ _ (h.step e)
theorem nodup_of_map {α β : Type} (f : α → β) : ∀ {l : List α}, (l.map f).Nodup → l.Nodup
  | [], _ => List.nodup_nil
  | x :: l, h => by
    rw [List.map_cons, List.nodup_cons] at h
    rw [List.nodup_cons]
    exact ⟨fun hm => h.1 (List.mem_map.2 ⟨x, hm, rfl⟩), nodup_of_map f h.2⟩
theorem perm_of_mem {α : Type} [BEq α] [LawfulBEq α] {l m : List α} (hl : l.Nodup) (hm : m.Nodup) (h : ∀ a, a ∈ l ↔ a ∈ m) : l.Perm m := by
  rw [List.perm_iff_count]
  intro a
  have h1 := List.nodup_iff_count.1 hl a
  have h2 := List.nodup_iff_count.1 hm a
  by_cases hx : a ∈ l
  · have := List.count_pos_iff.2 hx
    have := List.count_pos_iff.2 ((h a).1 hx)
    omega
  · rw [List.count_eq_zero_of_not_mem hx, List.count_eq_zero_of_not_mem (fun hy => hx ((h a).2 hy))]
theorem Rising.nodup {L : List (Key × Wd)} (h : Rising L) : L.Nodup := List.Pairwise.imp (fun hxy e => keyLt_ne hxy (congrArg Prod.fst e)) h
theorem Both.perm {L : List (Key × Wd)} {l : List KE} (h : Both L l) : L.Perm (l.map fun x => (x.1, x.2.1)) := by
  refine perm_of_mem h.rise.nodup ?_ (fun a => ?_)
  · refine nodup_of_map (fun x : Key × Wd => x.1) ?_
    rw [List.map_map]
    exact h.once
  · obtain ⟨k, u⟩ := a
    rw [h.same, List.mem_map]
    constructor
    · intro hq
      obtain ⟨x, hx, h1, h2⟩ := getK_mem hq
      exact ⟨x, hx, by rw [h1, h2]⟩
    · rintro ⟨x, hx, e⟩
      injection e with e1 e2
      rw [← e1, ← e2]
      exact mem_getK h.once hx
/-- An edge of those that rise. -/
def edK (x : Key × Wd) : Ed := (x.1.1, x.1.2, (wNarrow x.2).1)
theorem rising_sorted {L : List (Key × Wd)} (h : Rising L) : (L.map edK).Pairwise (fun a b => (!(ltOf orderI) b a) = true) := by
  rw [List.pairwise_map]
  refine List.Pairwise.imp (fun {x y} hxy => ?_) h
  rw [leOrder]
  unfold keyLt at hxy
  simp only [decide_eq_true_eq] at hxy
  unfold edK
  dsimp only
  omega
/-- What Combine comes to, by the reference's own way. -/
theorem combP_ref (r : Int) (l : List Ed) : combP r l = if ringIs r = false then (8, []) else if (insAll r l).all (fun x => (wNarrow x.2).2) = true then (0, (insAll r l).map edK) else (12, []) := by
  unfold combP
  have hb := both_all r l
  have hp := hb.perm
  have e1 : (insAll r l).all (fun x => (wNarrow x.2).2) = (sumsK r l).1.all (fun x => (wNarrow x.2.1).2) := by
    rw [hp.all_eq, List.all_map]
    rfl
  have e2 : sortE ((sumsK r l).1.map edOf) = (insAll r l).map edK := by
    refine (sorted_unique (rising_sorted hb.rise) (sortE_sorted _) ?_).symm
    refine (hp.map edK).trans ?_
    rw [List.map_map]
    exact (List.mergeSort_perm _ _).symm
  rw [e1, e2]
end Go.Proofs.YtblfingmdipopaaGreat
