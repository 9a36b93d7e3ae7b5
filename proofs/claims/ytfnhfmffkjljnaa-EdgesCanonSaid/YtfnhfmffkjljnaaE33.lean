/- Plain laws: as many edges come to a vertex as go from it when all are turned. -/
import Derived.Test.YtfnhfmffkjljnaaE29
import Derived.Test.YtfnhfmffkjljnaaE26
namespace Go.Proofs.Ytfnhfmffkjljnaa
set_option linter.unusedSimpArgs false
set_option linter.unusedVariables false

theorem RisesL.nodup {l : List Ed} (h : RisesL l) : l.Nodup := List.Pairwise.imp (fun hxy e => keyLt_ne hxy (congrArg keyOf e)) h
theorem turnE_turnE (e : Ed) : turnE (turnE e) = e := rfl
theorem mem_turnL {x : Ed} {l : List Ed} : x ∈ turnL l ↔ turnE x ∈ l := by
  rw [turnL_map, List.mem_map]
  constructor
  · rintro ⟨a, ha, rfl⟩; exact ha
  · intro h; exact ⟨_, h, rfl⟩
theorem turn_perm {l : List Ed} (h : ∀ e ∈ l, In64 e.2.2) : (canonP (turnL l)).Perm (turnL (canonP l)) := by
  have h1 : ∀ x ∈ canonP l, turnE x ∈ canonP (turnL l) := fun x hx => by
    rw [← turn_turn h] at hx
    have := (canonP_spec (turnL_in (canonP_in (turnL_in h)))).2.1 x hx
    exact mem_turnL.1 this
  have h2 : ∀ x ∈ canonP (turnL l), turnE x ∈ canonP l := fun x hx => by
    rw [← turn_turn (turnL_in h), turnL_turnL] at hx
    have := (canonP_spec (turnL_in (canonP_in h))).2.1 x hx
    exact mem_turnL.1 this
  refine perm_of_mem (canonP_spec (turnL_in h)).1.nodup ?_ (fun a => ?_)
  · rw [turnL_map, List.Nodup, List.pairwise_map]
    exact List.Pairwise.imp (fun hxy he => hxy (by have := congrArg turnE he; exact this)) (canonP_spec h).1.nodup
  · rw [mem_turnL]
    exact ⟨h2 a, fun ha => by have := h1 _ ha; exact this⟩
theorem cntS_comm (N : Nat) (L : List Int) (u v : Int) : cntS N (cntS N L u) v = cntS N (cntS N L v) u := by
  unfold cntS
  by_cases h : u = v
  · subst h; rfl
  · by_cases hu : 0 ≤ u ∧ u < N <;> by_cases hv : 0 ≤ v ∧ v < N
    · rw [if_pos hu, if_pos hv, if_pos hv, if_pos hu]
      have hne : u.toNat ≠ v.toNat := by omega
      have e1 : ∀ x, (L.set u.toNat x).getD v.toNat 0 = L.getD v.toNat 0 := fun x => by simp [List.getD, List.getElem?_set, hne]
      have e2 : ∀ x, (L.set v.toNat x).getD u.toNat 0 = L.getD u.toNat 0 := fun x => by simp [List.getD, List.getElem?_set, Ne.symm hne]
      rw [e1, e2, List.set_comm _ _ hne]
    · simp only [if_pos hu, if_neg hv]
    · simp only [if_neg hu, if_pos hv]
    · simp only [if_neg hu, if_neg hv]
theorem cntL_perm (sel : Ed → Int) (N : Nat) {l m : List Ed} (h : l.Perm m) : cntL sel N l = cntL sel N m := by
  unfold cntL
  exact h.foldl_eq' (fun x _ y _ z => cntS_comm N z _ _) _
theorem cntL_turn (N : Nat) (l : List Ed) : cntL selO N (turnL l) = cntL selI N l := by
  unfold cntL
  rw [turnL_map, List.foldl_map]
  rfl
theorem turned_counts {l : List Ed} (h : ∀ e ∈ l, In64 e.2.2) (n : Int) : countP selO n (canonP (turnL l)) = countP selI n (canonP l) := by
  unfold countP
  split
  · rfl
  · rw [cntL_perm selO _ (turn_perm h), cntL_turn]
theorem countP_length {sel : Ed → Int} {n : Int} {l : List Ed} : (countP sel n l).length ≤ 4096 := by
  unfold countP
  split
  · simp
  · rw [(cntL_facts sel _ l).1]; omega
end Go.Proofs.Ytfnhfmffkjljnaa
