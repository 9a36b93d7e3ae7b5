/- Maps that a call made, keyed by whole numbers, known whole: raw laws. -/
import Derived.Test.YtblfingmdipopaaGreatK01
import Derived.MapKept
import Derived.ChangeMaps5
namespace Go.Proofs.YtblfingmdipopaaGreat
set_option linter.unusedSimpArgs false
set_option linter.unusedVariables false
open Go.RowKit
open Go.ChangeMaps (setBlock)
open Go.MapKept
set_option maxHeartbeats 1000000

/-- An entry: its key, its value, when it came. -/
abbrev ent (x : Int × Value × Nat) : MapEntry := ⟨.int .i64 x.1, x.2.1, x.2.2⟩
/-- Block b is a map of just those entries. -/
def MapB (w : World) (b : Nat) (l : List (Int × Value × Nat)) (c : Nat) : Prop := w.heap[b]? = some (.map (l.map ent).toArray c)
def findI (k : Int) : List (Int × Value × Nat) → Nat → Option (Nat × Value)
  | [], _ => none
  | x :: l, i => if k == x.1 then some (i, x.2.1) else findI k l (i + 1)
/-- What stands under a key. -/
def getL (k : Int) (l : List (Int × Value × Nat)) : Option Value := (findI k l 0).map (·.2)
/-- A key is set. -/
def putL (k : Int) (v : Value) (c : Nat) : List (Int × Value × Nat) → List (Int × Value × Nat)
  | [] => [(k, v, c)]
  | x :: l => if k == x.1 then (x.1, v, x.2.2) :: l else x :: putL k v c l
/-- A key is struck. -/
def delL (k : Int) : List (Int × Value × Nat) → List (Int × Value × Nat)
  | [] => []
  | x :: l => if k == x.1 then l else x :: delL k l
theorem findNow_i (k : Int) : ∀ (l : List (Int × Value × Nat)) (i : Nat), Instr.findNow (.int .i64) (.int .i64 k) (l.map ent) i = some (findI k l i)
  | [], _ => rfl
  | x :: l, i => by
    simp only [List.map_cons, Instr.findNow, Instr.sameNow, ent, if_true, findI]
    by_cases h : k = x.1
    · simp [h]
    · have hb : (k == x.1) = false := by rw [beq_eq_false_iff_ne]; exact h
      rw [hb]
      simp only [Bool.false_eq_true, if_false]
      exact findNow_i k l (i + 1)
theorem findI_none {k : Int} : ∀ {l : List (Int × Value × Nat)} {i : Nat} (v : Value) (c : Nat), findI k l i = none → putL k v c l = l ++ [(k, v, c)] ∧ delL k l = l
  | [], _, _, _, _ => ⟨rfl, rfl⟩
  | x :: l, i, v, c, h => by
    unfold findI at h
    split at h
    · cases h
    · rename_i hb
      obtain ⟨h1, h2⟩ := findI_none v c h
      simp only [putL, delL, hb, Bool.false_eq_true, if_false, h1, h2, List.cons_append, and_self]
theorem findI_some {k : Int} : ∀ {l : List (Int × Value × Nat)} {i j : Nat} {u : Value} (v : Value) (c : Nat), findI k l i = some (j, u) →
    ∃ q x, j = i + q ∧ l[q]? = some x ∧ x.1 = k ∧ x.2.1 = u ∧ putL k v c l = l.modify q (fun y => (y.1, v, y.2.2)) ∧ delL k l = l.eraseIdx q
  | [], _, _, _, _, _, h => by cases h
  | x :: l, i, j, u, v, c, h => by
    unfold findI at h
    split at h
    · rename_i hb
      injection h with h
      injection h with h1 h2
      have hk : k = x.1 := by simpa using hb
      refine ⟨0, x, by omega, rfl, hk.symm, h2, ?_, ?_⟩
      · simp only [putL, hb, if_true]; rfl
      · simp only [delL, hb, if_true]; rfl
    · rename_i hb
      obtain ⟨q, y, h1, h2, h3, h4, h5, h6⟩ := findI_some v c h
      refine ⟨q + 1, y, by omega, by simpa using h2, h3, h4, ?_, ?_⟩
      · simp only [putL, hb, Bool.false_eq_true, if_false, h5]; rfl
      · simp only [delL, hb, Bool.false_eq_true, if_false, h6]; rfl

theorem erase_map {α β : Type} (f : α → β) : ∀ (l : List α) (j : Nat), (l.map f).eraseIdx j = (l.eraseIdx j).map f
  | [], _ => by simp
  | x :: l, 0 => by simp
  | x :: l, j + 1 => by simp [erase_map f l j]
section
variable {P : Program} {w : World} {b c : Nat} {l : List (Int × Value × Nat)} {t k e : TypeId}
theorem MapB.kept {w' : World} {L : List Nat} (h : MapB w b l c) (hk : Kept L w w') (hb : b ∉ L) : MapB w' b l c :=
  (hk.block b (Array.getElem?_eq_some_iff.1 h).1 hb).trans h
theorem MapB.drew (h : MapB w b l c) : MapB w.drew b l c := h
theorem MapB.lt (h : MapB w b l c) : b < w.heap.size := (Array.getElem?_eq_some_iff.1 h).1
theorem Kept.turn {a w : World} {L : List Nat} (h : Kept L a w) {b : Nat} (hb : b ∈ L ∨ a.heap.size ≤ b) (o : Obj) : Kept L a (setBlock w b o) :=
  ⟨h.os, h.tape, h.output, by simpa [setBlock] using h.size, fun i hi hl => by
    have hne : b ≠ i := by rintro rfl; rcases hb with hb | hb; exact hl hb; omega
    have := h.block i hi hl
    simpa [setBlock, hne] using this⟩
theorem run_update_i (ht : P.underlying t = some (.map k e)) (hk : P.underlying k = some (.int .i64)) (h : MapB w b l c) (K : Int) (v : Value) :
    ∃ w', (Instr.mapUpdate t (.map (some b)) (.int .i64 K) v).run P w = .ok () w' ∧ MapB w' b (putL K v c l) (if (findI K l 0).isSome then c else c + 1) ∧ Kept [b] w w' := by
  have hf : (Instr.findKey k (.int .i64 K) (l.map ent)).run P w = .ok (findI K l 0) w := run_findKey hk (findNow_i K l 0)
  have hc : (Instr.checkKey false 10000 k (.int .i64 K)).run P w = .ok () w := run_checkKey (n := 9999) hk (by simp [IsKey]) false
  have hlt := h.lt
  have hg : (getObj b).run P w = .ok (.map (l.map ent).toArray c) w := Go.MapKept.run_getObj_map h
  have hs := fun o => Go.MapKept.run_setObj_map (P := P) (w := w) (r := b) o h
  cases hq : findI K l 0 with
  | none =>
    rw [hq] at hf
    refine ⟨setBlock w b (.map ((putL K v c l).map ent).toArray (c + 1)), ?_, ?_, (Kept.refl [b] w).turn (.inl (by simp)) _⟩
    · obtain ⟨h1, _⟩ := findI_none v c hq
      simp only [Instr.mapUpdate, Sem.run_bind, run_underlying ht, Result.andThen_ok, hg, hc, List.toList_toArray, hf, hs]
      rw [h1]
      simp [setBlock]
    · simp [MapB, setBlock, hlt]
  | some r =>
    obtain ⟨j, u⟩ := r
    rw [hq] at hf
    obtain ⟨q, x, h1, h2, h3, h4, h5, _⟩ := findI_some v c hq
    obtain rfl : j = q := by omega
    refine ⟨setBlock w b (.map ((putL K v c l).map ent).toArray c), ?_, ?_, (Kept.refl [b] w).turn (.inl (by simp)) _⟩
    · have hlq : j < l.length := (List.getElem?_eq_some_iff.1 h2).1
      have hx : l[j] = x := by rw [List.getElem?_eq_getElem hlq] at h2; exact Option.some.inj h2
      have hst : (Instr.keyThatStays ((((l.map ent).toArray[j]?).map (·.key)).getD (.int .i64 K)) (.int .i64 K)).run P w = .ok (.int .i64 K) w := by
        have : (((l.map ent).toArray[j]?).map (·.key)).getD (.int .i64 K) = .int .i64 K := by simp [hlq, hx, h3]
        rw [this]
        simp [Instr.keyThatStays, Instr.sameBits]
      simp only [Instr.mapUpdate, Sem.run_bind, run_underlying ht, Result.andThen_ok, hg, hc, List.toList_toArray, hf, hst, hs]
      rw [h5]
      have e1 : ((l.map ent).toArray.modify j fun e => { e with key := Value.int .i64 K, val := v }) = ((l.modify j fun y => (y.1, v, y.2.2)).map ent).toArray := by
        apply Array.ext'
        simp only [Array.toList_modify, List.toList_toArray]
        apply List.ext_getElem?
        intro i
        simp only [List.getElem?_modify, List.getElem?_map]
        by_cases hi : j = i
        · subst hi
          simp [h2, ent, h3]
        · simp [hi]
      rw [e1]
      rfl
    · simp [MapB, setBlock, hlt]
theorem run_lookup_i (ht : P.underlying t = some (.map k e)) (hk : P.underlying k = some (.int .i64)) (h : MapB w b l c) (K : Int) (ok : Bool) (z : Value) (hz : (zeroValue e).run P w = .ok z w) :
    (Instr.lookup t (.map (some b)) (.int .i64 K) ok).run P w = .ok (if ok then .tuple #[(getL K l).getD z, .bool (getL K l).isSome] else (getL K l).getD z) w := by
  have hf : (Instr.findKey k (.int .i64 K) (l.map ent)).run P w = .ok (findI K l 0) w := run_findKey hk (findNow_i K l 0)
  have hc : ∀ q : Bool, (Instr.checkKey q 10000 k (.int .i64 K)).run P w = .ok () w := fun q => run_checkKey (n := 9999) hk (by simp [IsKey]) q
  have hg : (getObj b).run P w = .ok (.map (l.map ent).toArray c) w := Go.MapKept.run_getObj_map h
  unfold getL
  cases hq : findI K l 0 with
  | none =>
    rw [hq] at hf
    cases ok <;> simp [Instr.lookup, Sem.run_bind, run_underlying ht, Result.andThen_ok, hg, hc, hf, hz]
  | some r =>
    rw [hq] at hf
    cases ok <;> simp [Instr.lookup, Sem.run_bind, run_underlying ht, Result.andThen_ok, hg, hc, hf, hz]
theorem run_delete_i (ht : P.underlying t = some (.map k e)) (hk : P.underlying k = some (.int .i64)) (h : MapB w b l c) (K : Int) (ty : TypeId) :
    ∃ w', (Builtin.delete_ #[t, k] ty #[.map (some b), .int .i64 K]).run P w = .ok (.tuple #[]) w' ∧ MapB w' b (delL K l) c ∧ Kept [b] w w' := by
  have hf : (Instr.findKey k (.int .i64 K) (l.map ent)).run P w = .ok (findI K l 0) w := run_findKey hk (findNow_i K l 0)
  have hc : ∀ q : Bool, (Instr.checkKey q 10000 k (.int .i64 K)).run P w = .ok () w := fun q => run_checkKey (n := 9999) hk (by simp [IsKey]) q
  have hg : (getObj b).run P w = .ok (.map (l.map ent).toArray c) w := Go.MapKept.run_getObj_map h
  have hs := fun o => Go.MapKept.run_setObj_map (P := P) (w := w) (r := b) o h
  have hlt := h.lt
  refine ⟨setBlock w b (.map ((delL K l).map ent).toArray c), ?_, ?_, (Kept.refl [b] w).turn (.inl (by simp)) _⟩
  · cases hq : findI K l 0 with
    | none =>
      rw [hq] at hf
      obtain ⟨_, h1⟩ := findI_none (.int .i64 0) 0 hq
      rw [h1]
      simp [Builtin.delete_, Sem.run_bind, run_underlying ht, Result.andThen_ok, hg, hc, hf, hs, setBlock]
    | some r =>
      obtain ⟨j, u⟩ := r
      rw [hq] at hf
      obtain ⟨q, x, h1, h2, h3, h4, _, h6⟩ := findI_some (.int .i64 0) 0 hq
      obtain rfl : j = q := by omega
      have hlq : j < l.length := (List.getElem?_eq_some_iff.1 h2).1
      have e1 : (l.map ent).toArray.eraseIdxIfInBounds j = ((l.eraseIdx j).map ent).toArray := by
        apply Array.ext'
        unfold Array.eraseIdxIfInBounds
        rw [dif_pos (by simpa using hlq)]
        simp [erase_map]
      rw [h6]
      simp [Builtin.delete_, Sem.run_bind, run_underlying ht, Result.andThen_ok, hg, hc, hf, hs, e1, erase_map, setBlock]
  · simp [MapB, setBlock, hlt]

/-! The same at the walk's operations. -/
variable {ops : Array Oper} {rest : List Oper} {o : Oper} {a : Act} {Q : Exit → Act → World → Prop}
theorem wpList_updateB (hgd : o.guard = none) (m x y : Operand) (t : TypeId) (hop : o.op = Op.mapUpdate t m x y) (k e : TypeId) (ht : P.underlying t = some (.map k e)) (hk : P.underlying k = some (.int .i64))
    (b c : Nat) (l : List (Int × Value × Nat)) (h : MapB w b l c) (hm : a.eval m = .map (some b)) (K : Int) (hx : a.eval x = .int .i64 K) (v : Value) (hv : a.eval y = v)
    (hK : ∀ w', MapB w' b (putL K v c l) (if (findI K l 0).isSome then c else c + 1) → Kept [b] w w' → wpList P ops Q rest (a.put o.dst undef) w') : wpList P ops Q (o :: rest) a w := by
  refine wpList_plain hgd fun K' hK' => ?_
  obtain ⟨w', hrun, r1, r2⟩ := run_update_i ht hk h K v
  unfold Oper.wp
  simp [execOp, hop, hm, hx, hv, hrun, Result.andThen]
  exact hK' _ _ (hK w' r1 r2)
theorem wpList_lookupB (hgd : o.guard = none) (m x : Operand) (t : TypeId) (ok : Bool) (hop : o.op = Op.lookup t m x ok) (k e : TypeId) (ht : P.underlying t = some (.map k e)) (hk : P.underlying k = some (.int .i64)) (z : Value) (hz : (zeroValue e).run P w = .ok z w)
    (b c : Nat) (l : List (Int × Value × Nat)) (h : MapB w b l c) (hm : a.eval m = .map (some b)) (K : Int) (hx : a.eval x = .int .i64 K)
    (hK : wpList P ops Q rest (a.put o.dst (if ok then .tuple #[(getL K l).getD z, .bool (getL K l).isSome] else (getL K l).getD z)) w) : wpList P ops Q (o :: rest) a w := by
  refine wpList_plain hgd fun K' hK' => ?_
  have hrun := run_lookup_i ht hk h K ok z hz
  unfold Oper.wp
  simp [execOp, hop, hm, hx, hrun, Result.andThen]
  exact hK' _ _ hK
theorem wpList_deleteB (hgd : o.guard = none) (m x : Operand) (t k : TypeId) (hop : o.op = Op.call { callee := Callee.builtin Builtin.delete, args := #[m, x], argTypes := #[t, k] }) (e : TypeId) (ht : P.underlying t = some (.map k e)) (hk : P.underlying k = some (.int .i64))
    (b c : Nat) (l : List (Int × Value × Nat)) (h : MapB w b l c) (hm : a.eval m = .map (some b)) (K : Int) (hx : a.eval x = .int .i64 K)
    (hK : ∀ w', MapB w' b (delL K l) c → Kept [b] w w' → wpList P ops Q rest (a.put o.dst (.tuple #[])) w') : wpList P ops Q (o :: rest) a w := by
  refine wpList_plain hgd fun K' hK' => ?_
  obtain ⟨w', hrun, r1, r2⟩ := run_delete_i ht hk h K o.type
  unfold Oper.wp
  simp [execOp, hop, resolve, invoke, builtin, hm, hx, hrun, Result.andThen]
  exact hK' _ _ (hK w' r1 r2)
end
end Go.Proofs.YtblfingmdipopaaGreat
