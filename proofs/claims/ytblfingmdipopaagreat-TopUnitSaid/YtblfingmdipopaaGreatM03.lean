/- Maps that a call made, keyed by two whole numbers, of wide numbers: raw laws. -/
import Derived.Test.YtblfingmdipopaaGreatM02
import Derived.MapKept
import Derived.ChangeMaps5
import Derived.ChangeKeysEq
import Derived.WideKeyRuns
import Derived.Maps.RangeRun
namespace Go.Proofs.YtblfingmdipopaaGreat
set_option linter.unusedSimpArgs false
set_option linter.unusedVariables false
open Go.RowKit
open Go.ChangeMaps (setBlock)
open Go.MapKept
set_option maxHeartbeats 1000000
/-- A wide number: its high and its low half. -/
abbrev Wd := Int × Nat
abbrev keyV (k : Int × Int) : Value := .agg #[.int .i64 k.1, .int .i64 k.2]
abbrev wdV (u : Wd) : Value := .agg #[.int .i64 u.1, .int .u64 (u.2 : Int)]
abbrev KE := (Int × Int) × Wd × Nat
abbrev entK (x : KE) : MapEntry := ⟨keyV x.1, wdV x.2.1, x.2.2⟩
/-- Block b is a map of just those entries, each with a stamp of its own. -/
structure MapK (w : World) (b : Nat) (l : List KE) (c : Nat) : Prop where
  at_ : w.heap[b]? = some (.map (l.map entK).toArray c)
  born : ∀ x ∈ l, x.2.2 < c
  nodup : (l.map (·.2.2)).Nodup
def findK (k : Int × Int) : List KE → Nat → Option (Nat × Wd)
  | [], _ => none
  | x :: l, i => if k == x.1 then some (i, x.2.1) else findK k l (i + 1)
/-- What stands under a key. -/
def getK (k : Int × Int) (l : List KE) : Option Wd := (findK k l 0).map (·.2)
/-- A key is set. -/
def putK (k : Int × Int) (v : Wd) (c : Nat) : List KE → List KE
  | [] => [(k, v, c)]
  | x :: l => if k == x.1 then (x.1, v, x.2.2) :: l else x :: putK k v c l
section
variable {P : Program} {kt e : TypeId}
theorem part_i (he : P.underlying e = some (.int .i64)) (hp : P.plainKey e = true) (a b : Int) (w : World) : (part e #[.int .i64 a, .int .i64 b] 0).run P w = .ok (.int .i64 a) w ∧ (part e #[.int .i64 a, .int .i64 b] 1).run P w = .ok (.int .i64 b) w :=
  ⟨run_part_plain w hp rfl, run_part_plain w hp rfl⟩
theorem equal_i (he : P.underlying e = some (.int .i64)) (a b : Int) (d : Nat) (w : World) : (Op.equalIn (d + 1) e (.int .i64 a) (.int .i64 b)).run P w = .ok (a == b) w := by
  simp only [Op.equalIn, Sem.run_bind, run_underlying he, Result.andThen_ok, if_true, Sem.run_pure]
theorem equal_k (hk : P.underlying kt = some (.array 2 e)) (he : P.underlying e = some (.int .i64)) (hp : P.plainKey e = true) (hc : P.cellsOf e = 1) (k m : Int × Int) (w : World) :
    (Op.equal kt (keyV k) (keyV m)).run P w = .ok (k == m) w := by
  obtain ⟨i, hi⟩ := info_of_underlying he
  unfold Op.equal
  have hd : ∃ d, Op.maxDepth = d + 2 := ⟨Op.maxDepth - 2, by decide⟩
  obtain ⟨d, hd⟩ := hd
  rw [hd, run_equalIn_array w (d + 1) _ _ hk hi, hc]
  obtain ⟨a, b⟩ := k
  obtain ⟨x, y⟩ := m
  have p0 : ∀ w, (part e #[.int .i64 a, .int .i64 b] 0).run P w = .ok (.int .i64 a) w := fun w => (part_i he hp a b w).1
  have p1 : ∀ w, (part e #[.int .i64 a, .int .i64 b] 1).run P w = .ok (.int .i64 b) w := fun w => (part_i he hp a b w).2
  have q0 : ∀ w, (part e #[.int .i64 x, .int .i64 y] 0).run P w = .ok (.int .i64 x) w := fun w => (part_i he hp x y w).1
  have q1 : ∀ w, (part e #[.int .i64 x, .int .i64 y] 1).run P w = .ok (.int .i64 y) w := fun w => (part_i he hp x y w).2
  simp only [show List.range 2 = [0, 1] from rfl, Op.eqItems, Nat.zero_mul, Nat.one_mul, Sem.run_bind, p0, p1, q0, q1, Result.andThen_ok, equal_i he]
  by_cases h1 : a = x
  · by_cases h2 : b = y
    · subst h1 h2; simp [Sem.run_pure, Sem.run_bind, p0, p1, q0, q1, equal_i he]
    · subst h1; simp [h2, Sem.run_pure, Sem.run_bind, p0, p1, q0, q1, equal_i he]
  · simp [h1, Sem.run_pure]
theorem ask_k (hk : P.underlying kt = some (.array 2 e)) (he : P.underlying e = some (.int .i64)) (hp : P.plainKey e = true) (hc : P.cellsOf e = 1) (k : Int × Int) (w : World) : ∀ (l : List KE) (i : Nat), (Instr.findAsking kt (keyV k) (l.map entK) i).run P w = .ok ((findK k l i).map fun r => (r.1, wdV r.2)) w
  | [], _ => rfl
  | x :: l, i => by
    simp only [List.map_cons, Instr.findAsking, Sem.run_bind, equal_k hk he hp hc, Result.andThen_ok, findK]
    by_cases h : (k == x.1) = true
    · simp [h, Sem.run_pure]
    · simp only [h, if_false, Bool.false_eq_true]
      exact ask_k hk he hp hc k w l (i + 1)
theorem find_k (hk : P.underlying kt = some (.array 2 e)) (he : P.underlying e = some (.int .i64)) (hp : P.plainKey e = true) (hc : P.cellsOf e = 1) (k : Int × Int) (l : List KE) (w : World) : (Instr.findKey kt (keyV k) (l.map entK)).run P w = .ok ((findK k l 0).map fun r => (r.1, wdV r.2)) w := by
  rw [run_findKey_eq w (by rw [hk])]
  exact ask_k hk he hp hc k w l 0
theorem check_k (hk : P.underlying kt = some (.array 2 e)) (he : P.underlying e = some (.int .i64)) (hp : P.plainKey e = true) (hc : P.cellsOf e = 1) (k : Int × Int) (em : Bool) (w : World) : (Instr.checkKey em 10000 kt (keyV k)).run P w = .ok () w := by
  obtain ⟨i, hi⟩ := info_of_underlying he
  have p0 : ∀ w, (part e #[.int .i64 k.1, .int .i64 k.2] 0).run P w = .ok (.int .i64 k.1) w := fun w => (part_i he hp k.1 k.2 w).1
  have p1 : ∀ w, (part e #[.int .i64 k.1, .int .i64 k.2] 1).run P w = .ok (.int .i64 k.2) w := fun w => (part_i he hp k.1 k.2 w).2
  have ps : ∀ w, (sizeOf e).run P w = .ok 1 w := fun w => by rw [run_sizeOf w hi, hc]
  rw [show (10000 : Nat) = 9998 + 1 + 1 from rfl]
  unfold Instr.checkKey
  simp only [Sem.run_bind, run_underlying hk, Result.andThen_ok, Std.Legacy.Range.forIn_eq_forIn_range', Std.Legacy.Range.size, Nat.sub_zero, Nat.add_one_sub_one, Nat.div_one]
  simp only [show List.range' 0 2 1 = [0, 1] from rfl, List.forIn_cons, List.forIn_nil, Sem.run_bind, ps, Result.andThen_ok, Nat.zero_mul, Nat.one_mul, p0, p1, Sem.run_pure]
  unfold Instr.checkKey
  simp [Sem.run_bind, run_underlying he, Result.andThen_ok, Sem.run_pure, ps, p0, p1]
theorem findK_none {k : Int × Int} : ∀ {l : List KE} {i : Nat} (v : Wd) (c : Nat), findK k l i = none → putK k v c l = l ++ [(k, v, c)]
  | [], _, _, _, _ => rfl
  | x :: l, i, v, c, h => by
    unfold findK at h
    split at h
    · cases h
    · rename_i hb
      simp only [putK, hb, Bool.false_eq_true, if_false, findK_none v c h, List.cons_append]
theorem findK_some {k : Int × Int} : ∀ {l : List KE} {i j : Nat} {u : Wd} (v : Wd) (c : Nat), findK k l i = some (j, u) →
    ∃ q x, j = i + q ∧ l[q]? = some x ∧ x.1 = k ∧ x.2.1 = u ∧ putK k v c l = l.modify q (fun y => (y.1, v, y.2.2))
  | [], _, _, _, _, _, h => by cases h
  | x :: l, i, j, u, v, c, h => by
    unfold findK at h
    split at h
    · rename_i hb
      injection h with h
      injection h with h1 h2
      have hk : k = x.1 := by simpa using hb
      refine ⟨0, x, by omega, rfl, hk.symm, h2, ?_⟩
      simp only [putK, hb, if_true]; rfl
    · rename_i hb
      obtain ⟨q, y, h1, h2, h3, h4, h5⟩ := findK_some v c h
      refine ⟨q + 1, y, by omega, by simpa using h2, h3, h4, ?_⟩
      simp only [putK, hb, Bool.false_eq_true, if_false, h5]; rfl
theorem bits_k (k : Int × Int) : Instr.sameBits 10000 (keyV k) (keyV k) = true := by
  rw [show (10000 : Nat) = 9999 + 1 from rfl]
  simp [Instr.sameBits]
end
section
variable {P : Program} {w : World} {b c : Nat} {l : List KE} {t kt et e : TypeId}
theorem MapK.kept {w' : World} {L : List Nat} (h : MapK w b l c) (hk : Kept L w w') (hb : b ∉ L) : MapK w' b l c :=
  ⟨(hk.block b (Array.getElem?_eq_some_iff.1 h.at_).1 hb).trans h.at_, h.born, h.nodup⟩
theorem MapK.lt (h : MapK w b l c) : b < w.heap.size := (Array.getElem?_eq_some_iff.1 h.at_).1
theorem Kept.turn {a w : World} {L : List Nat} (h : Kept L a w) {b : Nat} (hb : b ∈ L ∨ a.heap.size ≤ b) (o : Obj) : Kept L a (setBlock w b o) :=
  ⟨h.os, h.tape, h.output, by simpa [setBlock] using h.size, fun i hi hl => by
    have hne : b ≠ i := by rintro rfl; rcases hb with hb | hb; exact hl hb; omega
    have := h.block i hi hl
    simpa [setBlock, hne] using this⟩
theorem modify_map2 {l : List KE} (q : Nat) (v : Wd) : (l.modify q (fun y => (y.1, v, y.2.2))).map (·.2.2) = l.map (·.2.2) := by
  apply List.ext_getElem?
  intro i
  simp only [List.getElem?_map, List.getElem?_modify]
  by_cases h : q = i
  · subst h; cases l[q]? <;> simp
  · simp [h]
/-- What a map by two numbers is: its types. -/
structure MapT (P : Program) (t kt et e : TypeId) : Prop where
  ht : P.underlying t = some (.map kt et)
  hk : P.underlying kt = some (.array 2 e)
  he : P.underlying e = some (.int .i64)
  hp : P.plainKey e = true
  hc : P.cellsOf e = 1
theorem run_update_k (T : MapT P t kt et e) (h : MapK w b l c) (K : Int × Int) (v : Wd) :
    ∃ w', (Instr.mapUpdate t (.map (some b)) (keyV K) (wdV v)).run P w = .ok () w' ∧ MapK w' b (putK K v c l) (if (findK K l 0).isSome then c else c + 1) ∧ Kept [b] w w' := by
  have hf : (Instr.findKey kt (keyV K) (l.map entK)).run P w = .ok ((findK K l 0).map fun r => (r.1, wdV r.2)) w := find_k T.hk T.he T.hp T.hc K l w
  have hc : (Instr.checkKey false 10000 kt (keyV K)).run P w = .ok () w := check_k T.hk T.he T.hp T.hc K false w
  have hlt := h.lt
  have hg : (getObj b).run P w = .ok (.map (l.map entK).toArray c) w := Go.MapKept.run_getObj_map h.at_
  have hs := fun o => Go.MapKept.run_setObj_map (P := P) (w := w) (r := b) o h.at_
  cases hq : findK K l 0 with
  | none =>
    rw [hq] at hf
    refine ⟨setBlock w b (.map ((putK K v c l).map entK).toArray (c + 1)), ?_, ⟨?_, ?_, ?_⟩, (Kept.refl [b] w).turn (.inl (by simp)) _⟩
    · have h1 := findK_none v c hq
      simp only [Instr.mapUpdate, Sem.run_bind, run_underlying T.ht, Result.andThen_ok, hg, hc, List.toList_toArray, hf, hs, Option.map_none]
      rw [h1]
      simp [setBlock]
    · simp [setBlock, hlt]
    · rw [findK_none v c hq]
      intro x hx
      rcases List.mem_append.1 hx with hx | hx
      · have := h.born x hx; simp; omega
      · simp at hx; subst hx; simp
    · rw [findK_none v c hq, List.map_append, List.nodup_append]
      refine ⟨h.nodup, by simp, fun a ha z hz => ?_⟩
      obtain ⟨x, hx, rfl⟩ := List.mem_map.1 ha
      have := h.born x hx
      simp at hz
      omega
  | some r =>
    obtain ⟨j, u⟩ := r
    rw [hq] at hf
    obtain ⟨q, x, h1, h2, h3, h4, h5⟩ := findK_some v c hq
    obtain rfl : j = q := by omega
    refine ⟨setBlock w b (.map ((putK K v c l).map entK).toArray c), ?_, ⟨?_, ?_, ?_⟩, (Kept.refl [b] w).turn (.inl (by simp)) _⟩
    · have hlq : j < l.length := (List.getElem?_eq_some_iff.1 h2).1
      have hx : l[j] = x := by rw [List.getElem?_eq_getElem hlq] at h2; exact Option.some.inj h2
      have hst : (Instr.keyThatStays ((((l.map entK).toArray[j]?).map (·.key)).getD (keyV K)) (keyV K)).run P w = .ok (keyV K) w := by
        have : (((l.map entK).toArray[j]?).map (·.key)).getD (keyV K) = keyV K := by simp [hlq, hx, h3]
        rw [this]
        simp only [Instr.keyThatStays, bits_k, if_true, Sem.run_pure]
      simp only [Instr.mapUpdate, Sem.run_bind, run_underlying T.ht, Result.andThen_ok, hg, hc, List.toList_toArray, hf, hst, hs, Option.map_some]
      rw [h5]
      have e1 : ((l.map entK).toArray.modify j fun e => { e with key := keyV K, val := wdV v }) = ((l.modify j fun y => (y.1, v, y.2.2)).map entK).toArray := by
        apply Array.ext'
        simp only [Array.toList_modify, List.toList_toArray]
        apply List.ext_getElem?
        intro i
        simp only [List.getElem?_modify, List.getElem?_map]
        by_cases hi : j = i
        · subst hi
          simp [h2, entK, h3]
        · simp [hi]
      rw [e1]
      rfl
    · simp [setBlock, hlt]
    · rw [h5]
      intro y hy
      have : y.2.2 ∈ (l.modify j (fun y => (y.1, v, y.2.2))).map (·.2.2) := List.mem_map.2 ⟨y, hy, rfl⟩
      rw [modify_map2] at this
      obtain ⟨z, hz, e⟩ := List.mem_map.1 this
      rw [← e]
      simpa using h.born z hz
    · rw [h5, modify_map2]; exact h.nodup
theorem run_lookup_k (T : MapT P t kt et e) (h : MapK w b l c) (K : Int × Int) (ok : Bool) (hz : (zeroValue et).run P w = .ok (wdV (0, 0)) w) :
    (Instr.lookup t (.map (some b)) (keyV K) ok).run P w = .ok (if ok then .tuple #[wdV ((getK K l).getD (0, 0)), .bool (getK K l).isSome] else wdV ((getK K l).getD (0, 0))) w := by
  have hf : (Instr.findKey kt (keyV K) (l.map entK)).run P w = .ok ((findK K l 0).map fun r => (r.1, wdV r.2)) w := find_k T.hk T.he T.hp T.hc K l w
  have hc : ∀ q : Bool, (Instr.checkKey q 10000 kt (keyV K)).run P w = .ok () w := fun q => check_k T.hk T.he T.hp T.hc K q w
  have hg : (getObj b).run P w = .ok (.map (l.map entK).toArray c) w := Go.MapKept.run_getObj_map h.at_
  unfold getK
  cases hq : findK K l 0 with
  | none =>
    rw [hq] at hf
    simp only [Option.map_none] at hf
    cases ok <;> simp [Instr.lookup, Sem.run_bind, run_underlying T.ht, Result.andThen_ok, hg, hc, hf, hz]
  | some r =>
    rw [hq] at hf
    simp only [Option.map_some] at hf
    cases ok <;> simp [Instr.lookup, Sem.run_bind, run_underlying T.ht, Result.andThen_ok, hg, hc, hf, hz]
/-! The same at the walk's operations. -/
variable {ops : Array Oper} {rest : List Oper} {o : Oper} {a : Act} {Q : Exit → Act → World → Prop}
theorem wpList_updateK (hgd : o.guard = none) (m x y : Operand) (t : TypeId) (hop : o.op = Op.mapUpdate t m x y) (kt et e : TypeId) (T : MapT P t kt et e)
    (b c : Nat) (l : List KE) (h : MapK w b l c) (hm : a.eval m = .map (some b)) (K : Int × Int) (hx : a.eval x = keyV K) (v : Wd) (hv : a.eval y = wdV v)
    (hK : ∀ w', MapK w' b (putK K v c l) (if (findK K l 0).isSome then c else c + 1) → Kept [b] w w' → wpList P ops Q rest (a.put o.dst undef) w') : wpList P ops Q (o :: rest) a w := by
  refine wpList_plain hgd fun K' hK' => ?_
  obtain ⟨w', hrun, r1, r2⟩ := run_update_k T h K v
  unfold Oper.wp
  simp [execOp, hop, hm, hx, hv, hrun, Result.andThen]
  exact hK' _ _ (hK w' r1 r2)
theorem wpList_lookupK (hgd : o.guard = none) (m x : Operand) (t : TypeId) (ok : Bool) (hop : o.op = Op.lookup t m x ok) (kt et e : TypeId) (T : MapT P t kt et e) (hz : (zeroValue et).run P w = .ok (wdV (0, 0)) w)
    (b c : Nat) (l : List KE) (h : MapK w b l c) (hm : a.eval m = .map (some b)) (K : Int × Int) (hx : a.eval x = keyV K)
    (hK : wpList P ops Q rest (a.put o.dst (if ok then .tuple #[wdV ((getK K l).getD (0, 0)), .bool (getK K l).isSome] else wdV ((getK K l).getD (0, 0)))) w) : wpList P ops Q (o :: rest) a w := by
  refine wpList_plain hgd fun K' hK' => ?_
  have hrun := run_lookup_k T h K ok hz
  unfold Oper.wp
  simp [execOp, hop, hm, hx, hrun, Result.andThen]
  exact hK' _ _ hK
end
end Go.Proofs.YtblfingmdipopaaGreat
