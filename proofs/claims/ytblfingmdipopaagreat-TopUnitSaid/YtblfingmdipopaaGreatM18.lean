/- Do edges rise? -/
import Derived.Test.YtblfingmdipopaaGreatM12
import Derived.Test.YtblfingmdipopaaGreatM13
import Derived.Test.YtblfingmdipopaaGreatM16
namespace Go.Proofs.YtblfingmdipopaaGreat
set_option linter.unusedSimpArgs false
set_option linter.unusedVariables false
open Go.ChangeShapes Go.WideShapes Go.ChangeAt Go.RowKit
open Go.RowKit (wrap32 wrap64)
set_option maxHeartbeats 8000000
abbrev keyOf (e : Ed) : Key := (e.1, e.2.1)
end Go.Proofs.YtblfingmdipopaaGreat

/- What is canonical: plain laws. No program in sight. -/
namespace Go.Proofs.YtblfingmdipopaaGreat
set_option linter.unusedSimpArgs false
set_option linter.unusedVariables false
set_option maxHeartbeats 1000000
theorem wMin_of {a b : Int} (ha : In64 a) (hb : In64 b) : wMin (wOf a) (wOf b) = if a ≤ b then wOf a else wOf b := by
  unfold In64 at ha hb
  have h : wCmp (wOf a) (wOf b) ≤ 0 ↔ a ≤ b := by
    unfold wCmp orI cmpI wOf
    dsimp only
    by_cases h1 : a < 0 <;> by_cases h2 : b < 0
    · rw [if_pos h1, if_pos h2, if_neg (show ¬ (-1 : Int) < -1 by omega), if_neg (show ¬ (-1 : Int) < -1 by omega), if_pos rfl]
      split
      · omega
      · split <;> omega
    · rw [if_pos h1, if_neg h2]
      simp
      omega
    · rw [if_neg h1, if_pos h2]
      simp
      omega
    · rw [if_neg h1, if_neg h2, if_neg (show ¬ (0 : Int) < 0 by omega), if_neg (show ¬ (0 : Int) < 0 by omega), if_pos rfl]
      split
      · omega
      · split <;> omega
  unfold wMin
  by_cases hab : a ≤ b
  · rw [if_pos hab, if_pos (h.2 hab)]
  · rw [if_neg hab, if_neg (fun hc => hab (h.1 hc))]
def toK (e : Ed) : Key × Wd := (keyOf e, wOf e.2.2)
/-- An edge is put to those that rise; of the same ends the least. -/
def insE (e : Ed) : List Ed → List Ed
  | [] => [e]
  | x :: L => if keyLt (keyOf x) (keyOf e) = true then x :: insE e L else if keyLt (keyOf e) (keyOf x) = true then e :: x :: L else (if x.2.2 ≤ e.2.2 then x else e) :: L
def RisesL (l : List Ed) : Prop := l.Pairwise (fun x y => keyLt (keyOf x) (keyOf y) = true)
/-- Each edge of the one has one in the other, of the same ends and no heavier. -/
def Dom (l m : List Ed) : Prop := ∀ e ∈ l, ∃ x ∈ m, keyOf x = keyOf e ∧ x.2.2 ≤ e.2.2
theorem insE_key {e x : Ed} (h1 : ¬ keyLt (keyOf x) (keyOf e) = true) (h2 : ¬ keyLt (keyOf e) (keyOf x) = true) : keyOf x = keyOf e := keyLt_total (by simpa using h1) (by simpa using h2)
theorem insE_mem {e x : Ed} : ∀ {L : List Ed}, x ∈ insE e L → x = e ∨ x ∈ L
  | [], h => by simp [insE] at h; exact .inl h
  | y :: L, h => by
    unfold insE at h
    split at h
    · rcases List.mem_cons.1 h with rfl | h
      · exact .inr (by simp)
      · rcases insE_mem h with h | h
        · exact .inl h
        · exact .inr (by simp [h])
    · split at h
      · rcases List.mem_cons.1 h with rfl | h
        · exact .inl rfl
        · exact .inr h
      · rcases List.mem_cons.1 h with h | h
        · split at h
          · exact .inr (by simp [h])
          · exact .inl h
        · exact .inr (by simp [h])
theorem insE_to (e : Ed) (he : In64 e.2.2) : ∀ (L : List Ed), (∀ x ∈ L, In64 x.2.2) → insR 1 (keyOf e) (wOf e.2.2) (L.map toK) = (insE e L).map toK
  | [], _ => rfl
  | x :: L, h => by
    have hx := h x (by simp)
    show insR 1 (keyOf e) (wOf e.2.2) ((keyOf x, wOf x.2.2) :: L.map toK) = _
    unfold insR insE
    dsimp only
    by_cases h1 : keyLt (keyOf x) (keyOf e) = true
    · rw [if_pos h1, if_pos h1, List.map_cons, ← insE_to e he L (fun y hy => h y (by simp [hy]))]
      rfl
    · rw [if_neg h1, if_neg h1]
      by_cases h2 : keyLt (keyOf e) (keyOf x) = true
      · rw [if_pos h2, if_pos h2, List.map_cons, List.map_cons]; rfl
      · rw [if_neg h2, if_neg h2]
        have hk := insE_key h1 h2
        rw [show rAdd 1 (wOf x.2.2) (wOf e.2.2) = wMin (wOf x.2.2) (wOf e.2.2) by unfold rAdd; simp, wMin_of hx he, List.map_cons]
        by_cases hle : x.2.2 ≤ e.2.2
        · rw [if_pos hle, if_pos hle]; rfl
        · rw [if_neg hle, if_neg hle]; unfold toK; rw [hk]
theorem insE_rises (e : Ed) : ∀ {L : List Ed}, RisesL L → RisesL (insE e L)
  | [], _ => by unfold insE RisesL; simp
  | x :: L, h => by
    unfold RisesL at h
    rw [List.pairwise_cons] at h
    unfold insE
    split
    · rename_i h1
      unfold RisesL
      rw [List.pairwise_cons]
      refine ⟨fun y hy => ?_, insE_rises e h.2⟩
      rcases insE_mem hy with rfl | hy
      · exact h1
      · exact h.1 y hy
    · split
      · rename_i h1 h2
        unfold RisesL
        rw [List.pairwise_cons, List.pairwise_cons]
        refine ⟨fun y hy => ?_, h⟩
        rcases List.mem_cons.1 hy with rfl | hy
        · exact h2
        · exact keyLt_trans h2 (h.1 y hy)
      · rename_i h1 h2
        have hk := insE_key h1 h2
        unfold RisesL
        rw [List.pairwise_cons]
        refine ⟨fun y hy => ?_, h.2⟩
        split
        · exact h.1 y hy
        · rw [← hk]; exact h.1 y hy
theorem insE_dom (e : Ed) : ∀ {L : List Ed}, Dom (e :: L) (insE e L)
  | [] => by
    intro y hy
    exact ⟨y, by unfold insE; simpa using hy, rfl, Int.le_refl _⟩
  | x :: L => by
    intro y hy
    unfold insE
    split
    · by_cases hyx : y = x
      · subst hyx; exact ⟨y, by simp, rfl, Int.le_refl _⟩
      · obtain ⟨z, hz, hz2⟩ := insE_dom e (L := L) y (by
          rcases List.mem_cons.1 hy with h | h
          · simp [h]
          · rcases List.mem_cons.1 h with h | h
            · exact absurd h hyx
            · simp [h])
        exact ⟨z, by simp [hz], hz2⟩
    · split
      · exact ⟨y, hy, rfl, Int.le_refl _⟩
      · rename_i h1 h2
        have hk := insE_key h1 h2
        rcases List.mem_cons.1 hy with rfl | hy
        · by_cases hle : x.2.2 ≤ y.2.2
          · rw [if_pos hle]; exact ⟨x, by simp, hk, hle⟩
          · rw [if_neg hle]; exact ⟨y, by simp, rfl, Int.le_refl _⟩
        · rcases List.mem_cons.1 hy with rfl | hy
          · by_cases hle : y.2.2 ≤ e.2.2
            · rw [if_pos hle]; exact ⟨y, by simp, rfl, Int.le_refl _⟩
            · rw [if_neg hle]; exact ⟨e, by simp, hk.symm, by omega⟩
          · exact ⟨y, by simp [hy], rfl, Int.le_refl _⟩
theorem Dom.refl (l : List Ed) : Dom l l := fun e he => ⟨e, he, rfl, Int.le_refl _⟩
theorem Dom.trans {l m n : List Ed} (h : Dom l m) (k : Dom m n) : Dom l n := fun e he => by
  obtain ⟨x, hx, e1, l1⟩ := h e he
  obtain ⟨y, hy, e2, l2⟩ := k x hx
  exact ⟨y, hy, e2.trans e1, Int.le_trans l2 l1⟩
theorem Dom.append {l m n : List Ed} (h : Dom l n) (k : Dom m n) : Dom (l ++ m) n := fun e he => by
  rcases List.mem_append.1 he with he | he
  · exact h e he
  · exact k e he
theorem Dom.left {l m : List Ed} (n : List Ed) (h : Dom l m) : Dom l (m ++ n) := fun e he => by
  obtain ⟨x, hx, r⟩ := h e he
  exact ⟨x, List.mem_append_left _ hx, r⟩
theorem Dom.right {l m : List Ed} (n : List Ed) (h : Dom l m) : Dom l (n ++ m) := fun e he => by
  obtain ⟨x, hx, r⟩ := h e he
  exact ⟨x, List.mem_append_right _ hx, r⟩
abbrev turnL (l : List Ed) : List Ed := madeP turnE allE l
theorem turnL_map (l : List Ed) : turnL l = l.map turnE := by unfold turnL madeP; rw [show l.filter allE = l from List.filter_eq_self.2 (fun _ _ => rfl)]
theorem Dom.turn {l m : List Ed} (h : Dom l m) : Dom (turnL l) (turnL m) := by
  rw [turnL_map, turnL_map]
  intro e he
  obtain ⟨y, hy, rfl⟩ := List.mem_map.1 he
  obtain ⟨x, hx, e1, l1⟩ := h y hy
  refine ⟨turnE x, List.mem_map.2 ⟨x, hx, rfl⟩, ?_, l1⟩
  have e2 := congrArg Prod.fst e1
  have e3 := congrArg Prod.snd e1
  exact Prod.ext e3 e2
def canonE (l : List Ed) : List Ed := l.foldl (fun L e => insE e L) []
theorem canonE_all (l : List Ed) (h : ∀ e ∈ l, In64 e.2.2) : ∀ (L : List Ed) (D : List Ed), (∀ x ∈ L, In64 x.2.2) → RisesL L → (∀ x ∈ L, x ∈ D) → Dom D L →
    l.foldl (fun M e => insR 1 (e.1, e.2.1) (wOf e.2.2) M) (L.map toK) = (l.foldl (fun L e => insE e L) L).map toK ∧ RisesL (l.foldl (fun L e => insE e L) L) ∧ (∀ x ∈ l.foldl (fun L e => insE e L) L, x ∈ D ++ l) ∧ Dom (D ++ l) (l.foldl (fun L e => insE e L) L) := by
  induction l with
  | nil => intro L D h1 h2 h3 h4; rw [List.append_nil]; exact ⟨rfl, h2, h3, h4⟩
  | cons e l ih =>
    intro L D h1 h2 h3 h4
    have he := h e (by simp)
    rw [List.foldl_cons, List.foldl_cons]
    rw [show insR 1 (e.1, e.2.1) (wOf e.2.2) (L.map toK) = (insE e L).map toK from insE_to e he L h1]
    have := ih (fun x hx => h x (by simp [hx])) (insE e L) (D ++ [e]) (fun x hx => by
        rcases insE_mem hx with rfl | hx
        · exact he
        · exact h1 x hx) (insE_rises e h2) (fun x hx => by
        rcases insE_mem hx with rfl | hx
        · simp
        · simp [h3 x hx]) (Dom.append (h4.trans (fun x hx => insE_dom e x (by simp [hx]))) (fun x hx => insE_dom e x (by simp at hx; simp [hx])))
    rw [List.append_assoc, List.singleton_append] at this
    exact this
theorem canonP_E {l : List Ed} (h : ∀ e ∈ l, In64 e.2.2) : canonP l = canonE l := by
  obtain ⟨h1, h2, h3, h4⟩ := canonE_all l h [] [] (by simp) (by unfold RisesL; simp) (by simp) (by intro x hx; cases hx)
  rw [List.nil_append] at h3 h4
  have hi : insAll 1 l = (canonE l).map toK := h1
  unfold canonP
  rw [combP_ref, if_neg (by decide), hi]
  have hn : ∀ x ∈ canonE l, wNarrow (wOf x.2.2) = (x.2.2, true) := fun x hx => wNarrow_of (h x (h3 x hx))
  rw [if_pos (by rw [List.all_map, List.all_eq_true]; intro x hx; show (wNarrow (wOf x.2.2)).2 = true; rw [hn x hx])]
  show ((canonE l).map toK).map edK = canonE l
  rw [List.map_map]
  refine (List.map_congr_left (fun x hx => ?_)).trans (List.map_id _)
  show ((keyOf x).1, (keyOf x).2, (wNarrow (wOf x.2.2)).1) = x
  rw [hn x hx]
/-- What is canonical: it rises, holds edges that there are, and each edge there is has one there that is no heavier. -/
theorem canonP_spec {l : List Ed} (h : ∀ e ∈ l, In64 e.2.2) : RisesL (canonP l) ∧ (∀ x ∈ canonP l, x ∈ l) ∧ Dom l (canonP l) := by
  obtain ⟨h1, h2, h3, h4⟩ := canonE_all l h [] [] (by simp) (by unfold RisesL; simp) (by simp) (by intro x hx; cases hx)
  rw [List.nil_append] at h3 h4
  rw [canonP_E h]
  exact ⟨h2, h3, h4⟩
theorem canonP_length (l : List Ed) : (canonP l).length ≤ l.length := by
  unfold canonP
  rw [combP_ref, if_neg (by decide)]
  split
  · dsimp only; rw [List.length_map]; exact insAll_length 1 l
  · exact Nat.zero_le _
theorem risesL_one {l : List Ed} (h : RisesL l) {x y : Ed} (hx : x ∈ l) (hy : y ∈ l) (hk : keyOf x = keyOf y) : x = y := by
  induction l with
  | nil => cases hx
  | cons z l ih =>
    unfold RisesL at h
    rw [List.pairwise_cons] at h
    rcases List.mem_cons.1 hx with rfl | hx' <;> rcases List.mem_cons.1 hy with rfl | hy'
    · rfl
    · exact absurd hk (keyLt_ne (h.1 y hy'))
    · exact absurd hk.symm (keyLt_ne (h.1 x hx'))
    · exact ih h.2 hx' hy'
theorem risesL_ext : ∀ {l m : List Ed}, RisesL l → RisesL m → (∀ x, x ∈ l ↔ x ∈ m) → l = m
  | [], [], _, _, _ => rfl
  | [], y :: m, _, _, h => by have := (h y).2 (by simp); cases this
  | x :: l, [], _, _, h => by have := (h x).1 (by simp); cases this
  | x :: l, y :: m, h1, h2, h => by
    unfold RisesL at h1 h2
    rw [List.pairwise_cons] at h1 h2
    have e : x = y := by
      rcases List.mem_cons.1 ((h x).1 (by simp)) with e | hx
      · exact e
      · rcases List.mem_cons.1 ((h y).2 (by simp)) with e | hy
        · exact e.symm
        · have := keyLt_trans (h1.1 y hy) (h2.1 x hx)
          rw [keyLt_irrefl] at this
          cases this
    subst e
    congr 1
    refine risesL_ext h1.2 h2.2 (fun z => ⟨fun hz => ?_, fun hz => ?_⟩)
    · rcases List.mem_cons.1 ((h z).1 (by simp [hz])) with rfl | hz'
      · exact absurd rfl (keyLt_ne (h1.1 z hz))
      · exact hz'
    · rcases List.mem_cons.1 ((h z).2 (by simp [hz])) with rfl | hz'
      · exact absurd rfl (keyLt_ne (h2.1 z hz))
      · exact hz'
theorem turnL_in {l : List Ed} (h : ∀ e ∈ l, In64 e.2.2) : ∀ e ∈ turnL l, In64 e.2.2 := madeP_in (f := turnE) (p := allE) (fun e h => h) h
end Go.Proofs.YtblfingmdipopaaGreat

/- How many edges go from, come to each vertex: the program's and the reference's. -/
namespace Go.Proofs.YtblfingmdipopaaGreat
set_option linter.unusedSimpArgs false
set_option linter.unusedVariables false
open Go.ChangeShapes Go.WideShapes Go.ChangeAt Go.RowKit
open Go.RowKit (wrap32 wrap64)
set_option maxHeartbeats 8000000
theorem infoInt : Info Tryz.prog 3 (.int .i64 0) 1 8 := by unfold Info; kernel_rfl
abbrev vI (x : Int) : Value := .int .i64 x
/-- One more at v. -/
def cntS (N : Nat) (L : List Int) (v : Int) : List Int := if 0 ≤ v ∧ v < N then L.set v.toNat (L.getD v.toNat 0 + 1) else L
def cntL (sel : Ed → Int) (N : Nat) (l : List Ed) : List Int := l.foldl (fun L e => cntS N L (sel e)) (List.replicate N 0)
/-- Of each vertex how many edges have it as an end. -/
def countP (sel : Ed → Int) (n : Int) (l : List Ed) : List Int := if n < 0 ∨ 4096 < n then [] else cntL sel n.toNat l
end Go.Proofs.YtblfingmdipopaaGreat

/- Plain laws: as many edges come to a vertex as go from it when all are turned. -/
namespace Go.Proofs.YtblfingmdipopaaGreat
set_option linter.unusedSimpArgs false
set_option linter.unusedVariables false
theorem RisesL.nodup {l : List Ed} (h : RisesL l) : l.Nodup := List.Pairwise.imp (fun hxy e => keyLt_ne hxy (congrArg keyOf e)) h
theorem mem_turnL {x : Ed} {l : List Ed} : x ∈ turnL l ↔ turnE x ∈ l := by
  rw [turnL_map, List.mem_map]
  constructor
  · rintro ⟨a, ha, rfl⟩; exact ha
  · intro h; exact ⟨_, h, rfl⟩
end Go.Proofs.YtblfingmdipopaaGreat
