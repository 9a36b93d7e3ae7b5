/- A map by two numbers that is ranged over; what Combine's first loop makes. -/
import Derived.Test.YtibjpjpbmkdddaaE8
namespace Go.Proofs.Ytibjpjpbmkdddaa
set_option linter.unusedSimpArgs false
set_option linter.unusedVariables false
open Go.ChangeShapes Go.WideShapes Go.ChangeAt Go.RowKit
open Go.RowKit (wrap32 wrap64)
open Go.ChangeMaps (setBlock)
set_option maxHeartbeats 4000000

/-- Block r goes through the map at block b: done has come out, todo is left. -/
structure RangeK (w : World) (b r : Nat) (l : List KE) (c : Nat) (done todo : List KE) : Prop where
  map : MapK w b l c
  it : w.heap[r]? = some (.mapIter (some b) c (done.map (·.2.2)).toArray c)
  perm : (done ++ todo).Perm l
section
variable {P : Program} {w : World} {b r c : Nat} {l done todo : List KE}
theorem RangeK.lt (h : RangeK w b r l c done todo) : r < w.heap.size := (Array.getElem?_eq_some_iff.1 h.it).1
theorem RangeK.ne (h : RangeK w b r l c done todo) : b ≠ r := by
  rintro rfl
  have h1 := h.map.at_
  rw [h.it] at h1
  cases h1
theorem RangeK.kept {w' : World} {L : List Nat} (h : RangeK w b r l c done todo) (hk : Kept L w w') (hb : b ∉ L) (hr : r ∉ L) : RangeK w' b r l c done todo :=
  ⟨h.map.kept hk hb, (hk.block r h.lt hr).trans h.it, h.perm⟩
theorem born_inj {l : List KE} (hn : (l.map (·.2.2)).Nodup) {x y : KE} (hx : x ∈ l) (hy : y ∈ l) (h : x.2.2 = y.2.2) : x = y := by
  induction l with
  | nil => cases hx
  | cons a l ih =>
    rw [List.map_cons, List.nodup_cons] at hn
    rcases List.mem_cons.1 hx with rfl | hx'
    · rcases List.mem_cons.1 hy with rfl | hy'
      · rfl
      · exact absurd (h ▸ List.mem_map.2 ⟨y, hy', rfl⟩) hn.1
    · rcases List.mem_cons.1 hy with rfl | hy'
      · exact absurd (h ▸ List.mem_map.2 ⟨x, hx', rfl⟩) hn.1
      · exact ih hn.2 hx' hy'
theorem RangeK.next (h : RangeK w b r l c done todo) (ty : TypeId) :
    (todo = [] ∧ (Instr.next (.pointer (some ⟨r, 0, none⟩)) false ty).run P w = .ok (.tuple #[.bool false]) w) ∨
    ∃ x todo' w', (Instr.next (.pointer (some ⟨r, 0, none⟩)) false ty).run P w = .ok (.tuple #[.bool true, keyV x.1, wdV x.2.1]) w' ∧ RangeK w' b r l c (done ++ [x]) todo' ∧ todo'.length + 1 = todo.length ∧ Kept [r] w w' ∧
      (Instr.entry (.pointer (some ⟨r, 0, none⟩))).run P w' = .ok (.tuple #[keyV x.1, wdV x.2.1]) w' := by
  have hnd : ((done ++ todo).map (·.2.2)).Nodup := (h.perm.map _).nodup_iff.2 h.map.nodup
  rcases run_next_at (P := P) w ty r b c c (done.map (·.2.2)).toArray (l.map entK).toArray c h.it h.map.at_ (by
    intro x hx
    obtain ⟨y, hy, rfl⟩ := List.mem_map.1 (show x ∈ l.map entK from hx)
    exact h.map.born y hy) (Nat.le_refl _) with ⟨h0, hrun⟩ | ⟨e, he, w1, hw1, hrun⟩
  · refine .inl ⟨?_, hrun⟩
    rcases todo with _ | ⟨y, todo⟩
    · rfl
    · exfalso
      have hy : y ∈ l := h.perm.mem_iff.1 (by simp)
      have hnot : y.2.2 ∉ done.map (·.2.2) := by
        rw [List.map_append, List.nodup_append] at hnd
        intro hm
        exact hnd.2.2 _ hm _ (by simp) rfl
      have hin : entK y ∈ (leftOf (l.map entK).toArray (done.map (·.2.2)).toArray).toList := by
        unfold leftOf
        simp only [Array.toList_filter, List.mem_filter]
        refine ⟨List.mem_map.2 ⟨y, hy, rfl⟩, ?_⟩
        simpa using hnot
      have := List.length_pos_of_mem hin
      simp at this
      omega
  · unfold leftOf at he
    simp only [Array.toList_filter, List.mem_filter] at he
    obtain ⟨he1, he2⟩ := he
    obtain ⟨x, hx, rfl⟩ := List.mem_map.1 he1
    have hnot : x.2.2 ∉ done.map (·.2.2) := by simpa using he2
    have hxt : x ∈ todo := by
      rcases List.mem_append.1 (h.perm.mem_iff.2 hx) with hd | ht
      · exact absurd (List.mem_map.2 ⟨x, hd, rfl⟩) hnot
      · exact ht
    obtain ⟨t1, t2, rfl⟩ := List.append_of_mem hxt
    have hk1 : Kept [r] w w1 := by rcases hw1 with rfl | rfl; exact Kept.refl _ _; exact (Kept.refl _ _).drew
    have hk : Kept [r] w (setBlock w1 r (.mapIter (some b) c ((done.map (·.2.2)).toArray.push x.2.2) c)) := Kept.turn hk1 (.inl (by simp)) _
    have hlt1 : r < w1.heap.size := Nat.lt_of_lt_of_le h.lt hk1.size
    have hR : RangeK (setBlock w1 r (.mapIter (some b) c ((done.map (·.2.2)).toArray.push x.2.2) c)) b r l c (done ++ [x]) (t1 ++ t2) := by
      refine ⟨h.map.kept hk (by simpa using h.ne), ?_, ?_⟩
      · simp [setBlock, hlt1]
      · refine List.Perm.trans ?_ h.perm
        rw [List.append_assoc]
        refine List.Perm.append_left _ ?_
        simp only [List.singleton_append]
        exact List.perm_middle.symm
    refine .inr ⟨x, t1 ++ t2, _, hrun, hR, by simp; omega, hk, ?_⟩
    refine run_entry_at _ r b c (done.map (·.2.2)).toArray (l.map entK).toArray c (entK x) ?_ hR.map.at_ he1 ?_
    · simp [setBlock, hlt1]
    · have := h.map.nodup
      simpa [List.map_map, Function.comp_def] using this

/-! The same at the walk's operations. -/
variable {ops : Array Oper} {rest : List Oper} {o : Oper} {a : Act} {Q : Exit → Act → World → Prop}
theorem wpList_rangeK (hgd : o.guard = none) (m : Operand) (t kt et : TypeId) (hop : o.op = Op.range t m) (ht : P.underlying t = some (.map kt et)) (b c : Nat) (l : List KE) (h : MapK w b l c) (hm : a.eval m = .map (some b))
    (hK : RangeK (w.alloc (.mapIter (some b) c #[] c)) b w.heap.size l c [] l → wpList P ops Q rest (a.put o.dst (.pointer (some ⟨w.heap.size, 0, none⟩))) (w.alloc (.mapIter (some b) c #[] c))) : wpList P ops Q (o :: rest) a w := by
  refine wpList_plain hgd fun K' hK' => ?_
  have hrun := run_range_map (P := P) w t kt et b (l.map entK).toArray c ht h.at_
  unfold Oper.wp
  simp [execOp, hop, hm, hrun, Result.andThen]
  exact hK' _ _ (hK ⟨h.kept ((Kept.refl [] w).alloc _) (by simp), heap_alloc_new _ _, by simp⟩)
theorem wpList_nextK (hgd : o.guard = none) (it : Operand) (hop : o.op = Op.next it false) (b r c : Nat) (l done todo : List KE) (h : RangeK w b r l c done todo) (hit : a.eval it = .pointer (some ⟨r, 0, none⟩))
    (h0 : todo = [] → wpList P ops Q rest (a.put o.dst (.tuple #[.bool false])) w)
    (h1 : ∀ x todo' w', RangeK w' b r l c (done ++ [x]) todo' → todo'.length + 1 = todo.length → Kept [r] w w' → (Instr.entry (.pointer (some ⟨r, 0, none⟩))).run P w' = .ok (.tuple #[keyV x.1, wdV x.2.1]) w' →
      wpList P ops Q rest (a.put o.dst (.tuple #[.bool true, keyV x.1, wdV x.2.1])) w') : wpList P ops Q (o :: rest) a w := by
  refine wpList_plain hgd fun K' hK' => ?_
  unfold Oper.wp
  rcases h.next (P := P) o.type with ⟨h2, hrun⟩ | ⟨x, todo', w', hrun, hR, hl, hk, hen⟩
  · simp [execOp, hop, hit, hrun, Result.andThen]
    exact hK' _ _ (h0 h2)
  · simp [execOp, hop, hit, hrun, Result.andThen]
    exact hK' _ _ (h1 x todo' w' hR hl hk hen)
end
/-- One edge more is put to the sums. -/
def stepK (r : Int) (s : List KE × Nat) (e : Ed) : List KE × Nat :=
  (putK (e.1, e.2.1) (match getK (e.1, e.2.1) s.1 with | some u => rAdd r u (wOf e.2.2) | none => wOf e.2.2) s.2 s.1, if (findK (e.1, e.2.1) s.1 0).isSome then s.2 else s.2 + 1)
def sumsK (r : Int) (l : List Ed) : List KE × Nat := l.foldl (stepK r) ([], 0)
theorem sumsK_succ (r : Int) (l : List Ed) {k : Nat} (h : k < l.length) : sumsK r (l.take (k + 1)) = stepK r (sumsK r (l.take k)) l[k] := by
  unfold sumsK
  rw [List.take_succ_eq_append_getElem h, List.foldl_append]
  rfl
theorem getK_ok {l : List KE} (h : ∀ x ∈ l, WdOk x.2.1) {k : Int × Int} {u : Wd} (hu : getK k l = some u) : WdOk u := by
  unfold getK at hu
  cases hq : findK k l 0 with
  | none => rw [hq] at hu; cases hu
  | some p =>
    obtain ⟨j, v⟩ := p
    rw [hq] at hu
    obtain ⟨q, x, _, h2, _, h4, _⟩ := findK_some (0, 0) 0 hq
    simp at hu
    subst hu
    rw [← h4]
    exact h x (List.mem_of_getElem? h2)
theorem putK_ok {k : Int × Int} {v : Wd} {c : Nat} (hv : WdOk v) : ∀ {l : List KE}, (∀ x ∈ l, WdOk x.2.1) → ∀ x ∈ putK k v c l, WdOk x.2.1
  | [], _, x, hx => by simp [putK] at hx; subst hx; exact hv
  | y :: l, h, x, hx => by
    unfold putK at hx
    split at hx
    · rcases List.mem_cons.1 hx with rfl | hx
      · exact hv
      · exact h x (by simp [hx])
    · rcases List.mem_cons.1 hx with rfl | hx
      · exact h _ (by simp)
      · exact putK_ok hv (fun z hz => h z (by simp [hz])) x hx
theorem stepK_ok (r : Int) {s : List KE × Nat} (h : ∀ x ∈ s.1, WdOk x.2.1) (e : Ed) : ∀ x ∈ (stepK r s e).1, WdOk x.2.1 := by
  refine putK_ok ?_ h
  cases hq : getK (e.1, e.2.1) s.1 with
  | none => exact wOf_ok _
  | some u => exact rAdd_ok r (getK_ok h hq) (wOf_ok _)
theorem sumsK_ok (r : Int) (l : List Ed) : ∀ x ∈ (sumsK r l).1, WdOk x.2.1 := by
  unfold sumsK
  suffices ∀ (l : List Ed) (s : List KE × Nat), (∀ x ∈ s.1, WdOk x.2.1) → ∀ x ∈ (l.foldl (stepK r) s).1, WdOk x.2.1 from this l _ (by simp)
  intro l
  induction l with
  | nil => intro s h; exact h
  | cons e l ih => intro s h; exact ih _ (stepK_ok r h e)
end Go.Proofs.Ytibjpjpbmkdddaa
