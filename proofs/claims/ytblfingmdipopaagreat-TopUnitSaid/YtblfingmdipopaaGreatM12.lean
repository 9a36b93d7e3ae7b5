/- A record in the middle of an owned row is stored anew; the reference's below. -/
import Derived.Test.YtblfingmdipopaaGreatM11
namespace Go.Proofs.YtblfingmdipopaaGreat
set_option linter.unusedSimpArgs false
set_option linter.unusedVariables false
open Go.ChangeShapes Go.WideShapes Go.ChangeAt Go.RowKit
open Go.RowKit (wrap32 wrap64)
set_option maxHeartbeats 4000000
theorem Blk.setMid {g : Nat} {t : TypeId} : ∀ (news : List Value) (w : World) (o : Nat) (cs : List Value), o + news.length ≤ cs.length → Blk w g t cs → Blk (w.setCells g o news) g t (cs.take o ++ news ++ cs.drop (o + news.length)) ∧ Kept [g] w (w.setCells g o news)
  | [], w, o, cs, hl, h => by
    rw [World.setCells]
    simp only [List.append_nil, List.length_nil, Nat.add_zero, List.take_append_drop]
    exact ⟨h, Kept.refl _ _⟩
  | v :: r, w, o, cs, hl, h => by
    simp at hl
    obtain ⟨h1, h2⟩ := Blk.setMid r (w.setCell ⟨g, o, none⟩ v) (o + 1) (cs.set o v) (by simp; omega) (h.set o v)
    rw [World.setCells]
    refine ⟨?_, ((Kept.refl [g] w).setCell (p := ⟨g, o, none⟩) (.inl (by simp)) v).trans h2⟩
    have e : (cs.set o v).take (o + 1) = cs.take o ++ [v] := by
      rw [List.take_succ_eq_append_getElem (by simp; omega), List.take_set_of_le (Nat.le_refl _)]
      simp
    have e2 : (cs.set o v).drop (o + 1 + r.length) = cs.drop (o + (v :: r).length) := by
      rw [List.drop_set_of_lt (by omega)]
      simp only [List.length_cons]
      congr 1
      omega
    rw [e, e2] at h1
    simpa using h1
theorem flatMap_set {α : Type} (f : α → List Value) (k : Nat) (hk : ∀ x, (f x).length = k) : ∀ (l : List α) (i : Nat) (x : α), i < l.length → (l.set i x).flatMap f = (l.flatMap f).take (i * k) ++ f x ++ (l.flatMap f).drop (i * k + k)
  | [], _, _, h => absurd h (by simp)
  | y :: l, 0, x, _ => by
    simp only [List.set_cons_zero, List.flatMap_cons, Nat.zero_mul, List.take_zero, List.nil_append, Nat.zero_add]
    rw [List.drop_append_of_le_length (by rw [hk]; omega), List.drop_of_length_le (by rw [hk]; omega)]
    simp
  | y :: l, i + 1, x, h => by
    have h' : i < l.length := by simpa using h
    simp only [List.set_cons_succ, List.flatMap_cons]
    rw [flatMap_set f k hk l i x h']
    have e1 : (f y ++ l.flatMap f).take ((i + 1) * k) = f y ++ (l.flatMap f).take (i * k) := by
      rw [List.take_append, hk, List.take_of_length_le (by rw [hk, Nat.succ_mul]; omega)]
      congr 2
      rw [Nat.succ_mul]; omega
    have e2 : (f y ++ l.flatMap f).drop ((i + 1) * k + k) = (l.flatMap f).drop (i * k + k) := by
      rw [List.drop_append, hk, List.drop_of_length_le (by rw [hk, Nat.succ_mul]; omega)]
      simp only [List.nil_append]
      congr 1
      rw [Nat.succ_mul]; omega
    rw [e1, e2]
    simp
theorem take_mid (c a : List Value) (o k N : Nat) (ha : a.length = k) (h1 : o + k ≤ N) (h2 : N ≤ c.length) : (c.take o ++ a ++ c.drop (o + k)).take N = (c.take N).take o ++ a ++ (c.take N).drop (o + k) := by
  have hl : (c.take o ++ a).length = o + k := by simp [ha]; omega
  rw [List.take_append, List.take_of_length_le (by omega), hl, List.take_take, Nat.min_eq_left (by omega), List.drop_take]
section
variable {α : Type} {w : World} {base : Nat} {e : TypeId} {k n g cap : Nat} {l : List α} {f : α → List Value}
/-- A record of an owned row is set. -/
theorem own_setRec (hk : ∀ x, (f x).length = k) (h : w.ownsRow base e k (.slice (some ⟨g, 0, none⟩) n cap) n (l.flatMap f)) (hn : l.length = n) (i : Nat) (hi : i < n) (x : α) :
    (w.setCells g (i * k) (f x)).ownsRow base e k (.slice (some ⟨g, 0, none⟩) n cap) n ((l.set i x).flatMap f) ∧ Kept [g] w (w.setCells g (i * k) (f x)) ∧ w.there g (i * k) k := by
  rcases h.2 with ⟨e0, _⟩ | ⟨g', cap', cur, e0, hb, hg, hc, hm, hs, ht⟩
  · cases e0
  injection e0 with e1 _ e3
  injection e1 with e1
  injection e1 with e1
  subst e1; subst e3
  have hik : i * k + k ≤ n * k := by
    have := Nat.mul_le_mul_right k (show i + 1 ≤ n by omega)
    rw [Nat.succ_mul] at this
    exact this
  have hnk : n * k ≤ cap * k := Nat.mul_le_mul_right k hc
  have hB : Blk w g e cur.toList := by unfold Blk; simpa using hg
  obtain ⟨h1, h2⟩ := Blk.setMid (f x) w (i * k) cur.toList (by rw [hk]; simp; omega) hB
  refine ⟨⟨?_, .inr ⟨g, cap, _, rfl, hb, h1, hc, hm, ?_, ?_⟩⟩, h2, fun j hj => ?_⟩
  · rw [flatMap_length _ _ k (fun y _ => hk y), List.length_set, hn]
  · simp [hk]
    omega
  · rw [hk]
    rw [flatMap_set f k hk l i x (by omega), ← ht]
    exact take_mid cur.toList (f x) (i * k) k (n * k) (hk x) hik (by simp; omega)
  · rw [hB.cell, hB.frozen]
    exact ⟨by rw [List.getElem?_eq_getElem (by simp; omega)]; rfl, rfl⟩
end
theorem below_any (a b : Ed) (w : World) : Calls Tryz.prog 80 #[.agg (edV a).toArray, .agg (edV b).toArray] w fun e w' => e = .returned (.bool (keyLt (a.1, a.2.1) (b.1, b.2.1))) ∧ Kept [] w w' := by
  obtain ⟨a1, a2, a3⟩ := a
  obtain ⟨b1, b2, b3⟩ := b
  show Calls Tryz.prog 80 #[.agg #[.int .i64 a1, .int .i64 a2, .int .i64 a3], .agg #[.int .i64 b1, .int .i64 b2, .int .i64 b3]] w fun e w' => e = .returned (.bool (keyLt (a1, a2) (b1, b2))) ∧ Kept [] w w'
  by_cases h1 : a1 < b1
  · rw [show keyLt (a1, a2) (b1, b2) = true by simp [keyLt, h1]]
    go_enter Tryz.func80, Tryz.ntmps80
    go_wp2
    first | (go_ret; exact ⟨rfl, ((Kept.refl _ _).alloc _).alloc _⟩) | exact ⟨rfl, ((Kept.refl _ _).alloc _).alloc _⟩
  · by_cases h2 : a1 = b1
    · subst h2
      by_cases h3 : a2 < b2
      · rw [show keyLt (a1, a2) (a1, b2) = true by simp [keyLt, h3]]
        go_enter Tryz.func80, Tryz.ntmps80
        go_wp2
        first | (go_ret; exact ⟨rfl, ((Kept.refl _ _).alloc _).alloc _⟩) | exact ⟨rfl, ((Kept.refl _ _).alloc _).alloc _⟩
      · rw [show keyLt (a1, a2) (a1, b2) = false by simp [keyLt]; omega]
        go_enter Tryz.func80, Tryz.ntmps80
        go_wp2
        first | (go_ret; exact ⟨ret_bool (by simp), ((Kept.refl _ _).alloc _).alloc _⟩) | exact ⟨ret_bool (by simp), ((Kept.refl _ _).alloc _).alloc _⟩
    · rw [show keyLt (a1, a2) (b1, b2) = false by simp [keyLt, h2]; omega]
      go_enter Tryz.func80, Tryz.ntmps80
      go_wp2
      first | (go_ret; exact ⟨ret_bool (by simp), ((Kept.refl _ _).alloc _).alloc _⟩) | exact ⟨ret_bool (by simp), ((Kept.refl _ _).alloc _).alloc _⟩
end Go.Proofs.YtblfingmdipopaaGreat

/- The reference's Combine: its state, and what a round makes of it. -/
namespace Go.Proofs.YtblfingmdipopaaGreat
set_option linter.unusedSimpArgs false
set_option linter.unusedVariables false
open Go.ChangeShapes Go.WideShapes Go.ChangeAt Go.RowKit
open Go.RowKit (wrap32 wrap64)
set_option maxHeartbeats 2000000
theorem insAll_succ (r : Int) (l : List Ed) {k : Nat} (h : k < l.length) : insAll r (l.take (k + 1)) = insR r (l[k].1, l[k].2.1) (wOf l[k].2.2) (insAll r (l.take k)) := by
  unfold insAll
  rw [List.take_succ_eq_append_getElem h, List.foldl_append]
  rfl
theorem insR_length (r : Int) (K : Key) (w : Wd) : ∀ L : List (Key × Wd), (insR r K w L).length ≤ L.length + 1
  | [] => by simp [insR]
  | x :: L => by
    unfold insR
    split
    · simp only [List.length_cons]; have := insR_length r K w L; omega
    · split <;> simp
theorem insAll_length (r : Int) (l : List Ed) : (insAll r l).length ≤ l.length := by
  unfold insAll
  suffices ∀ (l : List Ed) (L : List (Key × Wd)), (l.foldl (fun L e => insR r (e.1, e.2.1) (wOf e.2.2) L) L).length ≤ L.length + l.length from by simpa using this l []
  intro l
  induction l with
  | nil => intro L; simp
  | cons e l ih =>
    intro L
    have h1 := ih (insR r (e.1, e.2.1) (wOf e.2.2) L)
    have h2 := insR_length r (e.1, e.2.1) (wOf e.2.2) L
    simp only [List.foldl_cons, List.length_cons]
    omega
theorem insAll_ok (r : Int) (l : List Ed) : ∀ x ∈ insAll r l, WdOk x.2 := by
  intro x hx
  have h := (both_all r l).perm.mem_iff.1 hx
  obtain ⟨y, hy, e⟩ := List.mem_map.1 h
  have := sumsK_ok r l y hy
  rw [← e]
  exact this
/-- Where an edge is put. -/
theorem insR_new (r : Int) (K : Key) (w : Wd) : ∀ (L : List (Key × Wd)) (p : Nat), p ≤ L.length → (∀ j (hj : j < L.length), j < p → keyLt L[j].1 K = true) → (∀ h : p < L.length, keyLt L[p].1 K = false ∧ keyLt K L[p].1 = true) →
    insR r K w L = L.take p ++ (K, w) :: L.drop p
  | [], p, hp, _, _ => by
    obtain rfl : p = 0 := by simpa using hp
    rfl
  | x :: L, 0, _, _, h2 => by
    have h := h2 (by simp)
    simp only [List.getElem_cons_zero] at h
    unfold insR
    rw [if_neg (by rw [h.1]; simp), if_pos h.2]
    rfl
  | x :: L, p + 1, hp, h1, h2 => by
    have h0 := h1 0 (by simp) (by omega)
    simp only [List.getElem_cons_zero] at h0
    unfold insR
    rw [if_pos h0, insR_new r K w L p (by simpa using hp) (fun j hj hjp => by have := h1 (j + 1) (by simpa using hj) (by omega); simpa using this) (fun h => by have := h2 (by simpa using h); simpa using this)]
    rfl
theorem insR_old (r : Int) (K : Key) (w : Wd) : ∀ (L : List (Key × Wd)) (p : Nat) (hp : p < L.length), (∀ j (hj : j < L.length), j < p → keyLt L[j].1 K = true) → keyLt L[p].1 K = false → keyLt K L[p].1 = false →
    insR r K w L = L.set p (L[p].1, rAdd r L[p].2 w)
  | [], p, hp, _, _, _ => absurd hp (by simp)
  | x :: L, 0, _, _, h2, h3 => by
    simp only [List.getElem_cons_zero] at h2 h3
    unfold insR
    rw [if_neg (by rw [h2]; simp), if_neg (by rw [h3]; simp)]
    rfl
  | x :: L, p + 1, hp, h1, h2, h3 => by
    have h0 := h1 0 (by simp) (by omega)
    simp only [List.getElem_cons_zero] at h0
    unfold insR
    rw [if_pos h0, insR_old r K w L p (by simpa using hp) (fun j hj hjp => by have := h1 (j + 1) (by simpa using hj) (by omega); simpa using this) (by simpa using h2) (by simpa using h3)]
    rfl
/-- Two rows that the call owns: edges, and their sums. -/
structure InsG (w0 w : World) (n : Nat) (EL : List Ed) (SL : List Wd) (v6 v7 : Value) : Prop where
  o6 : w.ownsRow w0.heap.size 107 3 v6 n (EL.flatMap edV)
  o7 : w.ownsRow w0.heap.size 100 2 v7 n (SL.flatMap wdC)
  k : Kept [] w0 w
  le : EL.length = n
  ls : SL.length = n
def keyE (x : Key × Wd) : Ed := (x.1.1, x.1.2, 0)
abbrev InsSt (w0 w : World) (L : List (Key × Wd)) (v6 v7 : Value) : Prop := InsG w0 w L.length (L.map keyE) (L.map (·.2)) v6 v7
section
variable {w0 w w' : World} {n : Nat} {EL : List Ed} {SL : List Wd} {v6 v7 : Value}
theorem InsG.kept0 (h : InsG w0 w n EL SL v6 v7) (hk : Kept [] w w') : InsG w0 w' n EL SL v6 v7 := ⟨own_kept0 h.o6 hk, own_kept0 h.o7 hk, h.k.trans hk, h.le, h.ls⟩
theorem InsG.start (w0 : World) : InsG w0 w0 0 [] [] (.slice none 0 0) (.slice none 0 0) := ⟨World.ownsRow_nil _ _ _ _, World.ownsRow_nil _ _ _ _, Kept.refl _ _, rfl, rfl⟩
theorem own_ptr {w : World} {base : Nat} {e : TypeId} {k n : Nat} {v : Value} {xs : List Value} (h : w.ownsRow base e k v n xs) (h0 : 0 < n) : ∃ g cap, v = .slice (some ⟨g, 0, none⟩) n cap ∧ base ≤ g ∧ g < w.heap.size ∧ n ≤ cap ∧ cap ≤ maxLen := by
  rcases h.2 with ⟨_, e0⟩ | ⟨g, cap, cur, rfl, hb, hg, hn, hm, _⟩
  · omega
  · exact ⟨g, cap, rfl, hb, (Array.getElem?_eq_some_iff.1 hg).1, hn, hm⟩
/-- A record of an owned row stands there as a range. -/
theorem own_range {α : Type} {w : World} {base : Nat} {e : TypeId} {k n g cap : Nat} {l : List α} {f : α → List Value} (hk : ∀ x, (f x).length = k) (h0 : 0 < k) (h : w.ownsRow base e k (.slice (some ⟨g, 0, none⟩) n cap) n (l.flatMap f)) {i : Nat} (hi : i < l.length) : w.rangeAt g (i * k) (f l[i]) := by
  obtain ⟨b, off, e1, hb, hc⟩ := rec_cell (m := k) (fun x _ => hk x) h0 (Reads.of_own h) hi
  injection e1 with e1
  injection e1 with e1 e2
  subst e1; subst e2
  intro j u hu
  have := hc j u hu
  rwa [Nat.zero_add] at this
theorem InsG.set6 {g cap : Nat} (h : InsG w0 w n EL SL (.slice (some ⟨g, 0, none⟩) n cap) v7) (i : Nat) (hi : i < n) (x : Ed) :
    InsG w0 (w.setCells g (i * 3) (edV x)) n (EL.set i x) SL (.slice (some ⟨g, 0, none⟩) n cap) v7 ∧ w.there g (i * 3) 3 ∧ Kept [g] w (w.setCells g (i * 3) (edV x)) := by
  obtain ⟨h1, h2, h3⟩ := own_setRec (f := edV) (k := 3) (fun _ => rfl) h.o6 h.le i hi x
  have hb : w0.heap.size ≤ g := by
    rcases h.o6.2 with ⟨e0, _⟩ | ⟨g', cap', cur, e0, hb, _⟩
    · cases e0
    · injection e0 with e1; injection e1 with e1; injection e1 with e1; subst e1; exact hb
  have f : KeptB w0.heap.size [107] w (w.setCells g (i * 3) (edV x)) := (KeptB.refl _ _ w).app (by simpa [Value.ownBlock] using h2) h.o6 (by decide)
  exact ⟨⟨h1, own_keptB h.o7 f (by decide), h.k.thenB f (Nat.le_refl _), by rw [List.length_set]; exact h.le, h.ls⟩, h3, h2⟩
theorem InsG.set7 {g cap : Nat} (h : InsG w0 w n EL SL v6 (.slice (some ⟨g, 0, none⟩) n cap)) (i : Nat) (hi : i < n) (x : Wd) :
    InsG w0 (w.setCells g (i * 2) (wdC x)) n EL (SL.set i x) v6 (.slice (some ⟨g, 0, none⟩) n cap) ∧ w.there g (i * 2) 2 ∧ Kept [g] w (w.setCells g (i * 2) (wdC x)) := by
  obtain ⟨h1, h2, h3⟩ := own_setRec (f := fun u : Wd => wdC u) (k := 2) (fun _ => rfl) h.o7 h.ls i hi x
  have f : KeptB w0.heap.size [100] w (w.setCells g (i * 2) (wdC x)) := (KeptB.refl _ _ w).app (by simpa [Value.ownBlock] using h2) h.o7 (by decide)
  exact ⟨⟨own_keptB h.o6 f (by decide), h1, h.k.thenB f (Nat.le_refl _), h.le, by rw [List.length_set]; exact h.ls⟩, h3, h2⟩
end
theorem flatMap_cell (l : List Ed) (i : Nat) (hi : i < l.length) (m : Int) : (l.flatMap edV).set (i * 3 + 2) (.int .i64 m) = (l.set i (l[i].1, l[i].2.1, m)).flatMap edV := by
  have h1 := flatMap_set edV 3 (fun _ => rfl) l i l[i] hi
  rw [List.set_getElem_self] at h1
  rw [flatMap_set edV 3 (fun _ => rfl) l i _ hi]
  have hl : ((l.flatMap edV).take (i * 3)).length = i * 3 := by
    rw [List.length_take, flatMap_length _ _ 3 (fun _ _ => rfl)]
    omega
  conv => lhs; rw [h1]
  rw [List.append_assoc, List.set_append_right _ _ (by omega), hl, show i * 3 + 2 - i * 3 = 2 by omega]
  simp [edV]
theorem own_setCell {w : World} {base : Nat} {e : TypeId} {k n g cap : Nat} {xs : List Value} (h : w.ownsRow base e k (.slice (some ⟨g, 0, none⟩) n cap) n xs) (j : Nat) (u : Value) :
    (w.setCell ⟨g, j, none⟩ u).ownsRow base e k (.slice (some ⟨g, 0, none⟩) n cap) n (xs.set j u) ∧ (∀ v, xs[j]? = some v → w.cell? ⟨g, j, none⟩ = some v ∧ w.frozen? ⟨g, j, none⟩ = false) ∧ g < w.heap.size := by
  rcases h.2 with ⟨e0, _⟩ | ⟨g', cap', cur, e0, hb, hg, hc, hm, hs, ht⟩
  · cases e0
  injection e0 with e1 _ e3
  injection e1 with e1
  injection e1 with e1
  subst e1; subst e3
  have hB : Blk w g e cur.toList := by unfold Blk; simpa using hg
  refine ⟨⟨by rw [List.length_set]; exact h.1, .inr ⟨g, cap, _, rfl, hb, hB.set j u, hc, hm, by simpa using hs, ?_⟩⟩, fun v hv => ?_, hB.lt⟩
  · rw [← ht, List.take_set]
  · rw [hB.cell, hB.frozen]
    refine ⟨?_, rfl⟩
    rw [← ht, List.getElem?_take] at hv
    split at hv
    · exact hv
    · cases hv
theorem set_keyE (L : List (Key × Wd)) (p : Nat) (hp : p < L.length) (u : Wd) : (L.set p (L[p].1, u)).map keyE = L.map keyE ∧ (L.set p (L[p].1, u)).map (·.2) = (L.map (·.2)).set p u := by
  refine ⟨?_, by rw [List.map_set]⟩
  rw [List.map_set]
  have e : keyE (L[p].1, u) = (L.map keyE)[p]'(by simpa using hp) := by simp [keyE]
  rw [e, List.set_getElem_self]
/-- One step of the shift to the right. -/
theorem shift_step {α : Type} (l : List α) (k : Nat) (z : α) (h0 : 0 < k) (hk : k ≤ l.length) : (l.take k ++ z :: l.drop k).set k ((l.take k ++ z :: l.drop k)[k - 1]'(by simp; omega)) = l.take (k - 1) ++ l[k - 1]'(by omega) :: l.drop (k - 1) := by
  have e1 : (l.take k ++ z :: l.drop k)[k - 1]'(by simp; omega) = l[k - 1]'(by omega) := by
    rw [List.getElem_append_left (by simp; omega)]
    simp
  rw [e1, List.set_append_right _ _ (by simp; omega)]
  have e2 : k - (l.take k).length = 0 := by simp; omega
  rw [e2, List.set_cons_zero]
  have e3 : l.take k = l.take (k - 1) ++ [l[k - 1]'(by omega)] := by
    obtain ⟨j, rfl⟩ : ∃ j, k = j + 1 := ⟨k - 1, by omega⟩
    simp only [Nat.add_sub_cancel]
    exact List.take_succ_eq_append_getElem (by omega)
  have e4 : l.drop (k - 1) = l[k - 1]'(by omega) :: l.drop k := by
    obtain ⟨j, rfl⟩ : ∃ j, k = j + 1 := ⟨k - 1, by omega⟩
    simp only [Nat.add_sub_cancel]
    exact List.drop_eq_getElem_cons (by omega)
  rw [e3, e4, List.append_assoc]
  rfl
theorem shift_end {α : Type} (l : List α) (p : Nat) (z x : α) (hp : p ≤ l.length) : (l.take p ++ z :: l.drop p).set p x = l.take p ++ x :: l.drop p := by
  rw [List.set_append_right _ _ (by simp; omega)]
  have e2 : p - (l.take p).length = 0 := by simp; omega
  rw [e2, List.set_cons_zero]
end Go.Proofs.YtblfingmdipopaaGreat
