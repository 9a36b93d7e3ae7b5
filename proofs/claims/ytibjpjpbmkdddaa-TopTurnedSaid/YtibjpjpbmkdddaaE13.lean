/- A record in the middle of an owned row is stored anew; the reference's below. -/
import Derived.Test.YtibjpjpbmkdddaaE12
namespace Go.Proofs.Ytibjpjpbmkdddaa
set_option linter.unusedSimpArgs false
set_option linter.unusedVariables false
open Go.ChangeShapes Go.WideShapes Go.ChangeAt Go.RowKit
open Go.RowKit (wrap32 wrap64)
set_option maxHeartbeats 4000000

theorem Blk.setMid {g : Nat} {t : TypeId} : ∀ (news : List Value) (w : World) (o : Nat) (cs : List Value), o + news.length ≤ cs.length → Blk w g t cs → Blk (w.setCells g o news) g t (cs.take o ++ news ++ cs.drop (o + news.length)) ∧ Kept [g] w (w.setCells g o news)
  | [], w, o, cs, hl, h => by
    rw [World.setCells]
    simp only [List.append_nil, List.length_nil, Nat.add_zero, List.take_append_drop]
    exact ⟨h, Kept.refl _ _⟩
  | v :: r, w, o, cs, hl, h => by
    simp at hl
    obtain ⟨h1, h2⟩ := Blk.setMid r (w.setCell ⟨g, o, none⟩ v) (o + 1) (cs.set o v) (by simp; omega) (h.set o v)
    rw [World.setCells]
    refine ⟨?_, ((Kept.refl [g] w).setCell (p := ⟨g, o, none⟩) (.inl (by simp)) v).trans h2⟩
    have e : (cs.set o v).take (o + 1) = cs.take o ++ [v] := by
      rw [List.take_succ_eq_append_getElem (by simp; omega), List.take_set_of_le (Nat.le_refl _)]
      simp
    have e2 : (cs.set o v).drop (o + 1 + r.length) = cs.drop (o + (v :: r).length) := by
      rw [List.drop_set_of_lt (by omega)]
      simp only [List.length_cons]
      congr 1
      omega
    rw [e, e2] at h1
    simpa using h1
theorem flatMap_set {α : Type} (f : α → List Value) (k : Nat) (hk : ∀ x, (f x).length = k) : ∀ (l : List α) (i : Nat) (x : α), i < l.length → (l.set i x).flatMap f = (l.flatMap f).take (i * k) ++ f x ++ (l.flatMap f).drop (i * k + k)
  | [], _, _, h => absurd h (by simp)
  | y :: l, 0, x, _ => by
    simp only [List.set_cons_zero, List.flatMap_cons, Nat.zero_mul, List.take_zero, List.nil_append, Nat.zero_add]
    rw [List.drop_append_of_le_length (by rw [hk]; omega), List.drop_of_length_le (by rw [hk]; omega)]
    simp
  | y :: l, i + 1, x, h => by
    have h' : i < l.length := by simpa using h
    simp only [List.set_cons_succ, List.flatMap_cons]
    rw [flatMap_set f k hk l i x h']
    have e1 : (f y ++ l.flatMap f).take ((i + 1) * k) = f y ++ (l.flatMap f).take (i * k) := by
      rw [List.take_append, hk, List.take_of_length_le (by rw [hk, Nat.succ_mul]; omega)]
      congr 2
      rw [Nat.succ_mul]; omega
    have e2 : (f y ++ l.flatMap f).drop ((i + 1) * k + k) = (l.flatMap f).drop (i * k + k) := by
      rw [List.drop_append, hk, List.drop_of_length_le (by rw [hk, Nat.succ_mul]; omega)]
      simp only [List.nil_append]
      congr 1
      rw [Nat.succ_mul]; omega
    rw [e1, e2]
    simp
theorem take_mid (c a : List Value) (o k N : Nat) (ha : a.length = k) (h1 : o + k ≤ N) (h2 : N ≤ c.length) : (c.take o ++ a ++ c.drop (o + k)).take N = (c.take N).take o ++ a ++ (c.take N).drop (o + k) := by
  have hl : (c.take o ++ a).length = o + k := by simp [ha]; omega
  rw [List.take_append, List.take_of_length_le (by omega), hl, List.take_take, Nat.min_eq_left (by omega), List.drop_take]
section
variable {α : Type} {w : World} {base : Nat} {e : TypeId} {k n g cap : Nat} {l : List α} {f : α → List Value}
/-- A record of an owned row is set. -/
theorem own_setRec (hk : ∀ x, (f x).length = k) (h : w.ownsRow base e k (.slice (some ⟨g, 0, none⟩) n cap) n (l.flatMap f)) (hn : l.length = n) (i : Nat) (hi : i < n) (x : α) :
    (w.setCells g (i * k) (f x)).ownsRow base e k (.slice (some ⟨g, 0, none⟩) n cap) n ((l.set i x).flatMap f) ∧ Kept [g] w (w.setCells g (i * k) (f x)) ∧ w.there g (i * k) k := by
  rcases h.2 with ⟨e0, _⟩ | ⟨g', cap', cur, e0, hb, hg, hc, hm, hs, ht⟩
  · cases e0
  injection e0 with e1 _ e3
  injection e1 with e1
  injection e1 with e1
  subst e1; subst e3
  have hik : i * k + k ≤ n * k := by
    have := Nat.mul_le_mul_right k (show i + 1 ≤ n by omega)
    rw [Nat.succ_mul] at this
    exact this
  have hnk : n * k ≤ cap * k := Nat.mul_le_mul_right k hc
  have hB : Blk w g e cur.toList := by unfold Blk; simpa using hg
  obtain ⟨h1, h2⟩ := Blk.setMid (f x) w (i * k) cur.toList (by rw [hk]; simp; omega) hB
  refine ⟨⟨?_, .inr ⟨g, cap, _, rfl, hb, h1, hc, hm, ?_, ?_⟩⟩, h2, fun j hj => ?_⟩
  · rw [flatMap_length _ _ k (fun y _ => hk y), List.length_set, hn]
  · simp [hk]
    omega
  · rw [hk]
    rw [flatMap_set f k hk l i x (by omega), ← ht]
    exact take_mid cur.toList (f x) (i * k) k (n * k) (hk x) hik (by simp; omega)
  · rw [hB.cell, hB.frozen]
    exact ⟨by rw [List.getElem?_eq_getElem (by simp; omega)]; rfl, rfl⟩
end
end Go.Proofs.Ytibjpjpbmkdddaa
