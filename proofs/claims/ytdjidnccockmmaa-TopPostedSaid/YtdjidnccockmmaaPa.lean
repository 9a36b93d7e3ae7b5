/- The box: out. -/
import Derived.Test.YtdjidnccockmmaaLib
import Derived.MapKept
import Derived.ChangeMaps5
import Derived.Test.YtdjidnccockmmaaLaw7
import Derived.Shelf.Lay
import Derived.Ground.NamesProg
import Derived.Ground.Names2Prog
import Derived.Shelf.Slices.Turned
import Derived.Shelf.Slices.Delete
import Derived.Lib.OwnBridge
/- Maps that a call made, keyed by whole numbers, known whole: raw laws. -/
namespace Go.Proofs.Ytdjidnccockmmaa
set_option linter.unusedSimpArgs false
set_option linter.unusedVariables false
open Go.RowKit
open Go.ChangeMaps (setBlock)
open Go.MapKept
set_option maxHeartbeats 1000000

/-- An entry: its key, its value, when it came. -/
abbrev ent (x : Int × Value × Nat) : MapEntry := ⟨.int .i64 x.1, x.2.1, x.2.2⟩
/-- Block b is a map of just those entries. -/
def MapB (w : World) (b : Nat) (l : List (Int × Value × Nat)) (c : Nat) : Prop := w.heap[b]? = some (.map (l.map ent).toArray c)
def findI (k : Int) : List (Int × Value × Nat) → Nat → Option (Nat × Value)
  | [], _ => none
  | x :: l, i => if k == x.1 then some (i, x.2.1) else findI k l (i + 1)
/-- What stands under a key. -/
def getL (k : Int) (l : List (Int × Value × Nat)) : Option Value := (findI k l 0).map (·.2)
/-- A key is set. -/
def putL (k : Int) (v : Value) (c : Nat) : List (Int × Value × Nat) → List (Int × Value × Nat)
  | [] => [(k, v, c)]
  | x :: l => if k == x.1 then (x.1, v, x.2.2) :: l else x :: putL k v c l
/-- A key is struck. -/
def delL (k : Int) : List (Int × Value × Nat) → List (Int × Value × Nat)
  | [] => []
  | x :: l => if k == x.1 then l else x :: delL k l
theorem findNow_i (k : Int) : ∀ (l : List (Int × Value × Nat)) (i : Nat), Instr.findNow (.int .i64) (.int .i64 k) (l.map ent) i = some (findI k l i)
  | [], _ => rfl
  | x :: l, i => by
    simp only [List.map_cons, Instr.findNow, Instr.sameNow, ent, if_true, findI]
    by_cases h : k = x.1
    · simp [h]
    · have hb : (k == x.1) = false := by rw [beq_eq_false_iff_ne]; exact h
      rw [hb]
      simp only [Bool.false_eq_true, if_false]
      exact findNow_i k l (i + 1)
theorem findI_none {k : Int} : ∀ {l : List (Int × Value × Nat)} {i : Nat} (v : Value) (c : Nat), findI k l i = none → putL k v c l = l ++ [(k, v, c)] ∧ delL k l = l
  | [], _, _, _, _ => ⟨rfl, rfl⟩
  | x :: l, i, v, c, h => by
    unfold findI at h
    split at h
    · cases h
    · rename_i hb
      obtain ⟨h1, h2⟩ := findI_none v c h
      simp only [putL, delL, hb, Bool.false_eq_true, if_false, h1, h2, List.cons_append, and_self]
theorem findI_some {k : Int} : ∀ {l : List (Int × Value × Nat)} {i j : Nat} {u : Value} (v : Value) (c : Nat), findI k l i = some (j, u) →
    ∃ q x, j = i + q ∧ l[q]? = some x ∧ x.1 = k ∧ x.2.1 = u ∧ putL k v c l = l.modify q (fun y => (y.1, v, y.2.2)) ∧ delL k l = l.eraseIdx q
  | [], _, _, _, _, _, h => by cases h
  | x :: l, i, j, u, v, c, h => by
    unfold findI at h
    split at h
    · rename_i hb
      injection h with h
      injection h with h1 h2
      have hk : k = x.1 := by simpa using hb
      refine ⟨0, x, by omega, rfl, hk.symm, h2, ?_, ?_⟩
      · simp only [putL, hb, if_true]; rfl
      · simp only [delL, hb, if_true]; rfl
    · rename_i hb
      obtain ⟨q, y, h1, h2, h3, h4, h5, h6⟩ := findI_some v c h
      refine ⟨q + 1, y, by omega, by simpa using h2, h3, h4, ?_, ?_⟩
      · simp only [putL, hb, Bool.false_eq_true, if_false, h5]; rfl
      · simp only [delL, hb, Bool.false_eq_true, if_false, h6]; rfl

theorem erase_map {α β : Type} (f : α → β) : ∀ (l : List α) (j : Nat), (l.map f).eraseIdx j = (l.eraseIdx j).map f
  | [], _ => by simp
  | x :: l, 0 => by simp
  | x :: l, j + 1 => by simp [erase_map f l j]
section
variable {P : Program} {w : World} {b c : Nat} {l : List (Int × Value × Nat)} {t k e : TypeId}
theorem MapB.kept {w' : World} {L : List Nat} (h : MapB w b l c) (hk : Kept L w w') (hb : b ∉ L) : MapB w' b l c :=
  (hk.block b (Array.getElem?_eq_some_iff.1 h).1 hb).trans h
theorem MapB.drew (h : MapB w b l c) : MapB w.drew b l c := h
theorem MapB.lt (h : MapB w b l c) : b < w.heap.size := (Array.getElem?_eq_some_iff.1 h).1
theorem Kept.turn {a w : World} {L : List Nat} (h : Kept L a w) {b : Nat} (hb : b ∈ L ∨ a.heap.size ≤ b) (o : Obj) : Kept L a (setBlock w b o) :=
  ⟨h.os, h.tape, h.output, by simpa [setBlock] using h.size, fun i hi hl => by
    have hne : b ≠ i := by rintro rfl; rcases hb with hb | hb; exact hl hb; omega
    have := h.block i hi hl
    simpa [setBlock, hne] using this⟩
theorem run_update_i (ht : P.underlying t = some (.map k e)) (hk : P.underlying k = some (.int .i64)) (h : MapB w b l c) (K : Int) (v : Value) :
    ∃ w', (Instr.mapUpdate t (.map (some b)) (.int .i64 K) v).run P w = .ok () w' ∧ MapB w' b (putL K v c l) (if (findI K l 0).isSome then c else c + 1) ∧ Kept [b] w w' := by
  have hf : (Instr.findKey k (.int .i64 K) (l.map ent)).run P w = .ok (findI K l 0) w := run_findKey hk (findNow_i K l 0)
  have hc : (Instr.checkKey false 10000 k (.int .i64 K)).run P w = .ok () w := run_checkKey (n := 9999) hk (by simp [IsKey]) false
  have hlt := h.lt
  have hg : (getObj b).run P w = .ok (.map (l.map ent).toArray c) w := Go.MapKept.run_getObj_map h
  have hs := fun o => Go.MapKept.run_setObj_map (P := P) (w := w) (r := b) o h
  cases hq : findI K l 0 with
  | none =>
    rw [hq] at hf
    refine ⟨setBlock w b (.map ((putL K v c l).map ent).toArray (c + 1)), ?_, ?_, (Kept.refl [b] w).turn (.inl (by simp)) _⟩
    · obtain ⟨h1, _⟩ := findI_none v c hq
      simp only [Instr.mapUpdate, Sem.run_bind, run_underlying ht, Result.andThen_ok, hg, hc, List.toList_toArray, hf, hs]
      rw [h1]
      simp [setBlock]
    · simp [MapB, setBlock, hlt]
  | some r =>
    obtain ⟨j, u⟩ := r
    rw [hq] at hf
    obtain ⟨q, x, h1, h2, h3, h4, h5, _⟩ := findI_some v c hq
    obtain rfl : j = q := by omega
    refine ⟨setBlock w b (.map ((putL K v c l).map ent).toArray c), ?_, ?_, (Kept.refl [b] w).turn (.inl (by simp)) _⟩
    · have hlq : j < l.length := (List.getElem?_eq_some_iff.1 h2).1
      have hx : l[j] = x := by rw [List.getElem?_eq_getElem hlq] at h2; exact Option.some.inj h2
      have hst : (Instr.keyThatStays ((((l.map ent).toArray[j]?).map (·.key)).getD (.int .i64 K)) (.int .i64 K)).run P w = .ok (.int .i64 K) w := by
        have : (((l.map ent).toArray[j]?).map (·.key)).getD (.int .i64 K) = .int .i64 K := by simp [hlq, hx, h3]
        rw [this]
        simp [Instr.keyThatStays, Instr.sameBits]
      simp only [Instr.mapUpdate, Sem.run_bind, run_underlying ht, Result.andThen_ok, hg, hc, List.toList_toArray, hf, hst, hs]
      rw [h5]
      have e1 : ((l.map ent).toArray.modify j fun e => { e with key := Value.int .i64 K, val := v }) = ((l.modify j fun y => (y.1, v, y.2.2)).map ent).toArray := by
        apply Array.ext'
        simp only [Array.toList_modify, List.toList_toArray]
        apply List.ext_getElem?
        intro i
        simp only [List.getElem?_modify, List.getElem?_map]
        by_cases hi : j = i
        · subst hi
          simp [h2, ent, h3]
        · simp [hi]
      rw [e1]
      rfl
    · simp [MapB, setBlock, hlt]
theorem run_lookup_i (ht : P.underlying t = some (.map k e)) (hk : P.underlying k = some (.int .i64)) (h : MapB w b l c) (K : Int) (ok : Bool) (z : Value) (hz : (zeroValue e).run P w = .ok z w) :
    (Instr.lookup t (.map (some b)) (.int .i64 K) ok).run P w = .ok (if ok then .tuple #[(getL K l).getD z, .bool (getL K l).isSome] else (getL K l).getD z) w := by
  have hf : (Instr.findKey k (.int .i64 K) (l.map ent)).run P w = .ok (findI K l 0) w := run_findKey hk (findNow_i K l 0)
  have hc : ∀ q : Bool, (Instr.checkKey q 10000 k (.int .i64 K)).run P w = .ok () w := fun q => run_checkKey (n := 9999) hk (by simp [IsKey]) q
  have hg : (getObj b).run P w = .ok (.map (l.map ent).toArray c) w := Go.MapKept.run_getObj_map h
  unfold getL
  cases hq : findI K l 0 with
  | none =>
    rw [hq] at hf
    cases ok <;> simp [Instr.lookup, Sem.run_bind, run_underlying ht, Result.andThen_ok, hg, hc, hf, hz]
  | some r =>
    rw [hq] at hf
    cases ok <;> simp [Instr.lookup, Sem.run_bind, run_underlying ht, Result.andThen_ok, hg, hc, hf, hz]
theorem run_delete_i (ht : P.underlying t = some (.map k e)) (hk : P.underlying k = some (.int .i64)) (h : MapB w b l c) (K : Int) (ty : TypeId) :
    ∃ w', (Builtin.delete_ #[t, k] ty #[.map (some b), .int .i64 K]).run P w = .ok (.tuple #[]) w' ∧ MapB w' b (delL K l) c ∧ Kept [b] w w' := by
  have hf : (Instr.findKey k (.int .i64 K) (l.map ent)).run P w = .ok (findI K l 0) w := run_findKey hk (findNow_i K l 0)
  have hc : ∀ q : Bool, (Instr.checkKey q 10000 k (.int .i64 K)).run P w = .ok () w := fun q => run_checkKey (n := 9999) hk (by simp [IsKey]) q
  have hg : (getObj b).run P w = .ok (.map (l.map ent).toArray c) w := Go.MapKept.run_getObj_map h
  have hs := fun o => Go.MapKept.run_setObj_map (P := P) (w := w) (r := b) o h
  have hlt := h.lt
  refine ⟨setBlock w b (.map ((delL K l).map ent).toArray c), ?_, ?_, (Kept.refl [b] w).turn (.inl (by simp)) _⟩
  · cases hq : findI K l 0 with
    | none =>
      rw [hq] at hf
      obtain ⟨_, h1⟩ := findI_none (.int .i64 0) 0 hq
      rw [h1]
      simp [Builtin.delete_, Sem.run_bind, run_underlying ht, Result.andThen_ok, hg, hc, hf, hs, setBlock]
    | some r =>
      obtain ⟨j, u⟩ := r
      rw [hq] at hf
      obtain ⟨q, x, h1, h2, h3, h4, _, h6⟩ := findI_some (.int .i64 0) 0 hq
      obtain rfl : j = q := by omega
      have hlq : j < l.length := (List.getElem?_eq_some_iff.1 h2).1
      have e1 : (l.map ent).toArray.eraseIdxIfInBounds j = ((l.eraseIdx j).map ent).toArray := by
        apply Array.ext'
        unfold Array.eraseIdxIfInBounds
        rw [dif_pos (by simpa using hlq)]
        simp [erase_map]
      rw [h6]
      simp [Builtin.delete_, Sem.run_bind, run_underlying ht, Result.andThen_ok, hg, hc, hf, hs, e1, erase_map, setBlock]
  · simp [MapB, setBlock, hlt]

/-! The same at the walk's operations. -/
variable {ops : Array Oper} {rest : List Oper} {o : Oper} {a : Act} {Q : Exit → Act → World → Prop}
theorem wpList_updateB (hgd : o.guard = none) (m x y : Operand) (t : TypeId) (hop : o.op = Op.mapUpdate t m x y) (k e : TypeId) (ht : P.underlying t = some (.map k e)) (hk : P.underlying k = some (.int .i64))
    (b c : Nat) (l : List (Int × Value × Nat)) (h : MapB w b l c) (hm : a.eval m = .map (some b)) (K : Int) (hx : a.eval x = .int .i64 K) (v : Value) (hv : a.eval y = v)
    (hK : ∀ w', MapB w' b (putL K v c l) (if (findI K l 0).isSome then c else c + 1) → Kept [b] w w' → wpList P ops Q rest (a.put o.dst undef) w') : wpList P ops Q (o :: rest) a w := by
  refine wpList_plain hgd fun K' hK' => ?_
  obtain ⟨w', hrun, r1, r2⟩ := run_update_i ht hk h K v
  unfold Oper.wp
  simp [execOp, hop, hm, hx, hv, hrun, Result.andThen]
  exact hK' _ _ (hK w' r1 r2)
theorem wpList_lookupB (hgd : o.guard = none) (m x : Operand) (t : TypeId) (ok : Bool) (hop : o.op = Op.lookup t m x ok) (k e : TypeId) (ht : P.underlying t = some (.map k e)) (hk : P.underlying k = some (.int .i64)) (z : Value) (hz : (zeroValue e).run P w = .ok z w)
    (b c : Nat) (l : List (Int × Value × Nat)) (h : MapB w b l c) (hm : a.eval m = .map (some b)) (K : Int) (hx : a.eval x = .int .i64 K)
    (hK : wpList P ops Q rest (a.put o.dst (if ok then .tuple #[(getL K l).getD z, .bool (getL K l).isSome] else (getL K l).getD z)) w) : wpList P ops Q (o :: rest) a w := by
  refine wpList_plain hgd fun K' hK' => ?_
  have hrun := run_lookup_i ht hk h K ok z hz
  unfold Oper.wp
  simp [execOp, hop, hm, hx, hrun, Result.andThen]
  exact hK' _ _ hK
theorem wpList_deleteB (hgd : o.guard = none) (m x : Operand) (t k : TypeId) (hop : o.op = Op.call { callee := Callee.builtin Builtin.delete, args := #[m, x], argTypes := #[t, k] }) (e : TypeId) (ht : P.underlying t = some (.map k e)) (hk : P.underlying k = some (.int .i64))
    (b c : Nat) (l : List (Int × Value × Nat)) (h : MapB w b l c) (hm : a.eval m = .map (some b)) (K : Int) (hx : a.eval x = .int .i64 K)
    (hK : ∀ w', MapB w' b (delL K l) c → Kept [b] w w' → wpList P ops Q rest (a.put o.dst (.tuple #[])) w') : wpList P ops Q (o :: rest) a w := by
  refine wpList_plain hgd fun K' hK' => ?_
  obtain ⟨w', hrun, r1, r2⟩ := run_delete_i ht hk h K o.type
  unfold Oper.wp
  simp [execOp, hop, resolve, invoke, builtin, hm, hx, hrun, Result.andThen]
  exact hK' _ _ (hK w' r1 r2)
end
end Go.Proofs.Ytdjidnccockmmaa

/- The box: copies of frames. -/
namespace Go.Proofs.Ytdjidnccockmmaa
set_option linter.unusedSimpArgs false
set_option linter.unusedVariables false
open Go.ChangeShapes Go.WideShapes Go.ChangeAt Go.RowKit
open Go.RowKit (wrap32 wrap64)
set_option maxHeartbeats 8000000

theorem clone_items (l : List (Int × Int)) (A : Option Addr) (c : Nat) (w : World) (hr : Reads w A (l.flatMap readV)) (hl : l.length ≤ 1048576) :
    Calls Try.prog 113 #[.slice A l.length c] w fun e w' => ∃ v, e = .returned v ∧ w'.ownsRow w.heap.size 99 2 v l.length (l.flatMap readV) ∧ Kept [] w w' := by
  have HR := Lib.hid hr
  clear hr
  have heq := fun (wx : World) => Lib.run_eql_slice_nil (P := Try.prog) wx 54 99 A l.length c 0 0 Try.underlying54
  rcases A with _ | ad
  · have hl0 : l = [] := by
      rcases l with _ | ⟨b, l⟩
      · rfl
      · obtain ⟨_, _, h, _⟩ := HR.out (by simp [readV]); cases h
    subst hl0
    clear hl heq
    have heq := fun (wx : World) => Lib.run_eql_slice_nil (P := Try.prog) wx 54 99 none 0 c 0 0 Try.underlying54
    simp only [List.length_nil]
    go_enter Try.func113, Try.ntmps113
    go_wp2
    go_ret
    exact ⟨_, rfl, World.ownsRow_nil _ _ _ _, Kept.refl _ _⟩
  · go_enter Try.func113, Try.ntmps113
    go_wp2_with (first | (at_builtin; refine wpList_app _ rfl (.tmp 5) (.tmp 6) _ rfl 99 (.agg #[.int .i64 0, .int .i64 0]) 2 16 Try.underlying54 infoItem rfl (by decide) w.heap.size (.slice (some ⟨w.heap.size, 0, none⟩) 0 0) 0 [] rfl (World.ownsRow_made w #[] 0 (Nat.le_refl _) (by decide) rfl) _ l.length c (l.flatMap readV) rfl (by rw [flatMap_length l readV 2 (fun _ _ => rfl)]) (HR.out.kept0 ((Kept.refl _ _).alloc _)) (by intro u hu; obtain ⟨r, _, hr⟩ := List.mem_flatMap.1 hu; simp only [readV, List.mem_cons, List.not_mem_nil, or_false] at hr; rcases hr with rfl | rfl <;> rfl) (by omega) (by unfold maxLen; omega) (by simp) ?_; intro v1 w1 hown1 hk1 hb1))
    go_ret
    refine ⟨_, rfl, by simpa using hown1, ((Kept.refl _ _).alloc _).then hk1 (by simp [Value.ownBlock])⟩
theorem clone_items_n (l : List (Int × Int)) (n : Nat) (A : Option Addr) (c : Nat) (w : World) (hn : l.length = n) (hr : Reads w A (l.flatMap readV)) (hl : n ≤ 1048576) :
    Calls Try.prog 113 #[.slice A n c] w fun e w' => ∃ v, e = .returned v ∧ w'.ownsRow w.heap.size 99 2 v n (l.flatMap readV) ∧ Kept [] w w' := by
  subst hn; exact clone_items l A c w hr hl

theorem clone_sums (l : List (Int × Int × Nat)) (A : Option Addr) (c : Nat) (w : World) (hr : Reads w A (l.flatMap sumV)) (hl : l.length ≤ 1048576) :
    Calls Try.prog 114 #[.slice A l.length c] w fun e w' => ∃ v, e = .returned v ∧ w'.ownsRow w.heap.size 103 3 v l.length (l.flatMap sumV) ∧ Kept [] w w' := by
  have HR := Lib.hid hr
  clear hr
  have heq := fun (wx : World) => Lib.run_eql_slice_nil (P := Try.prog) wx 57 103 A l.length c 0 0 Try.underlying57
  rcases A with _ | ad
  · have hl0 : l = [] := by
      rcases l with _ | ⟨b, l⟩
      · rfl
      · obtain ⟨_, _, h, _⟩ := HR.out (by simp [sumV]); cases h
    subst hl0
    clear hl heq
    have heq := fun (wx : World) => Lib.run_eql_slice_nil (P := Try.prog) wx 57 103 none 0 c 0 0 Try.underlying57
    simp only [List.length_nil]
    go_enter Try.func114, Try.ntmps114
    go_wp2
    go_ret
    exact ⟨_, rfl, World.ownsRow_nil _ _ _ _, Kept.refl _ _⟩
  · go_enter Try.func114, Try.ntmps114
    go_wp2_with (first | (at_builtin; refine wpList_app _ rfl (.tmp 5) (.tmp 6) _ rfl 103 (.agg #[.int .i64 0, .int .i64 0, .int .u64 0]) 3 24 Try.underlying57 infoSum rfl (by decide) w.heap.size (.slice (some ⟨w.heap.size, 0, none⟩) 0 0) 0 [] rfl (World.ownsRow_made w #[] 0 (Nat.le_refl _) (by decide) rfl) _ l.length c (l.flatMap sumV) rfl (by rw [flatMap_length l sumV 3 (fun _ _ => rfl)]) (HR.out.kept0 ((Kept.refl _ _).alloc _)) (by intro u hu; obtain ⟨r, _, hr⟩ := List.mem_flatMap.1 hu; simp only [sumV, List.mem_cons, List.not_mem_nil, or_false] at hr; rcases hr with rfl | rfl | rfl <;> rfl) (by omega) (by unfold maxLen; omega) (by simp) ?_; intro v1 w1 hown1 hk1 hb1))
    go_ret
    refine ⟨_, rfl, by simpa using hown1, ((Kept.refl _ _).alloc _).then hk1 (by simp [Value.ownBlock])⟩
theorem clone_sums_n (l : List (Int × Int × Nat)) (n : Nat) (A : Option Addr) (c : Nat) (w : World) (hn : l.length = n) (hr : Reads w A (l.flatMap sumV)) (hl : n ≤ 1048576) :
    Calls Try.prog 114 #[.slice A n c] w fun e w' => ∃ v, e = .returned v ∧ w'.ownsRow w.heap.size 103 3 v n (l.flatMap sumV) ∧ Kept [] w w' := by
  subst hn; exact clone_sums l A c w hr hl

theorem clone_trips (l : List (Int × Int × Int)) (A : Option Addr) (c : Nat) (w : World) (hr : Reads w A (l.flatMap tripV)) (hl : l.length ≤ 1048576) :
    Calls Try.prog 115 #[.slice A l.length c] w fun e w' => ∃ v, e = .returned v ∧ w'.ownsRow w.heap.size 105 3 v l.length (l.flatMap tripV) ∧ Kept [] w w' := by
  have HR := Lib.hid hr
  clear hr
  have heq := fun (wx : World) => Lib.run_eql_slice_nil (P := Try.prog) wx 58 105 A l.length c 0 0 Try.underlying58
  rcases A with _ | ad
  · have hl0 : l = [] := by
      rcases l with _ | ⟨b, l⟩
      · rfl
      · obtain ⟨_, _, h, _⟩ := HR.out (by simp [tripV]); cases h
    subst hl0
    clear hl heq
    have heq := fun (wx : World) => Lib.run_eql_slice_nil (P := Try.prog) wx 58 105 none 0 c 0 0 Try.underlying58
    simp only [List.length_nil]
    go_enter Try.func115, Try.ntmps115
    go_wp2
    go_ret
    exact ⟨_, rfl, World.ownsRow_nil _ _ _ _, Kept.refl _ _⟩
  · go_enter Try.func115, Try.ntmps115
    go_wp2_with (first | (at_builtin; refine wpList_app _ rfl (.tmp 5) (.tmp 6) _ rfl 105 (.agg #[.int .i64 0, .int .i64 0, .int .i64 0]) 3 24 Try.underlying58 infoTriple rfl (by decide) w.heap.size (.slice (some ⟨w.heap.size, 0, none⟩) 0 0) 0 [] rfl (World.ownsRow_made w #[] 0 (Nat.le_refl _) (by decide) rfl) _ l.length c (l.flatMap tripV) rfl (by rw [flatMap_length l tripV 3 (fun _ _ => rfl)]) (HR.out.kept0 ((Kept.refl _ _).alloc _)) (by intro u hu; obtain ⟨r, _, hr⟩ := List.mem_flatMap.1 hu; simp only [tripV, List.mem_cons, List.not_mem_nil, or_false] at hr; rcases hr with rfl | rfl | rfl <;> rfl) (by omega) (by unfold maxLen; omega) (by simp) ?_; intro v1 w1 hown1 hk1 hb1))
    go_ret
    refine ⟨_, rfl, by simpa using hown1, ((Kept.refl _ _).alloc _).then hk1 (by simp [Value.ownBlock])⟩
theorem clone_trips_n (l : List (Int × Int × Int)) (n : Nat) (A : Option Addr) (c : Nat) (w : World) (hn : l.length = n) (hr : Reads w A (l.flatMap tripV)) (hl : n ≤ 1048576) :
    Calls Try.prog 115 #[.slice A n c] w fun e w' => ∃ v, e = .returned v ∧ w'.ownsRow w.heap.size 105 3 v n (l.flatMap tripV) ∧ Kept [] w w' := by
  subst hn; exact clone_trips l A c w hr hl
end Go.Proofs.Ytdjidnccockmmaa

/- The box: a frame's own copy. -/
namespace Go.Proofs.Ytdjidnccockmmaa
set_option linter.unusedSimpArgs false
set_option linter.unusedVariables false
open Go.ChangeShapes Go.WideShapes Go.ChangeAt Go.RowKit
open Go.RowKit (wrap32 wrap64)
set_option maxHeartbeats 8000000

theorem own_le {w : World} {base base' : Nat} {e : TypeId} {size : Nat} {v : Value} {n : Nat} {xs : List Value} (h : w.ownsRow base e size v n xs) (hb : base' ≤ base) : w.ownsRow base' e size v n xs := ⟨h.1, h.2.imp id (fun ⟨g, cap, cur, a, b, c⟩ => ⟨g, cap, cur, a, Nat.le_trans hb b, c⟩)⟩
theorem own_kept0 {w w' : World} {base : Nat} {e : TypeId} {size : Nat} {v : Value} {n : Nat} {xs : List Value} (h : w.ownsRow base e size v n xs) (hk : Kept [] w w') : w'.ownsRow base e size v n xs := own_keptB (base := 0) (T := []) h (.of_kept0 hk) (by simp)
/-- A frame that the call owns: its cells' lists are its own. -/
structure OwnF (w : World) (base : Nat) (F : Fr) (v1 v2 v3 : Value) : Prop where
  o1 : w.ownsRow base 99 2 v1 F.items.length (F.items.flatMap readV)
  o2 : w.ownsRow base 103 3 v2 F.sums.length (F.sums.flatMap sumV)
  o3 : w.ownsRow base 105 3 v3 F.trips.length (F.trips.flatMap tripV)

set_option maxRecDepth 100000 in
theorem own_any (F : Fr) (A1 A2 A3 : Option Addr) (c1 c2 c3 : Nat) (w : World) (h1 : Reads w A1 (F.items.flatMap readV)) (h2 : Reads w A2 (F.sums.flatMap sumV)) (h3 : Reads w A3 (F.trips.flatMap tripV))
    (l1 : F.items.length ≤ 1048576) (l2 : F.sums.length ≤ 1048576) (l3 : F.trips.length ≤ 1048576) :
    Calls Try.prog 90 #[.agg (frC F A1 A2 A3 c1 c2 c3).toArray] w fun e w' => ∃ v1 v2 v3, e = .returned (.agg (lsC F v1 v2 v3).toArray) ∧ OwnF w' w.heap.size F v1 v2 v3 ∧ Kept [] w w' := by
  have hk0 := Lib.hid (((Kept.refl [] w).alloc (.cells (frC F A1 A2 A3 c1 c2 c3).toArray 60)).alloc (.cells #[.int .i64 0, .int .i64 0, .int .i64 0, .int .i64 0, .int .i64 0, .int .i64 0, .slice none 0 0, .slice none 0 0, .slice none 0 0, .int .i64 0, .bool false] 60))
  have HB := Lib.hid ((Blk.new w 60 (frC F A1 A2 A3 c1 c2 c3)).alloc (.cells #[.int .i64 0, .int .i64 0, .int .i64 0, .int .i64 0, .int .i64 0, .int .i64 0, .slice none 0 0, .slice none 0 0, .slice none 0 0, .int .i64 0, .bool false] 60))
  have HC := Lib.hid (Blk.new1F w (.cells (frC F A1 A2 A3 c1 c2 c3).toArray 60) 60 [.int .i64 0, .int .i64 0, .int .i64 0, .int .i64 0, .int .i64 0, .int .i64 0, .slice none 0 0, .slice none 0 0, .slice none 0 0, .int .i64 0, .bool false])
  have H1 := Lib.hid h1
  have H2 := Lib.hid h2
  have H3 := Lib.hid h3
  clear h1 h2 h3
  go_enter Try.func90, Try.ntmps90
  go_wp2_with fail
  refine (clone_items_n F.items _ A1 c1 _ rfl (H1.out.kept0 hk0.out) l1).mono ?_
  rintro _ w1 ⟨v1, rfl, ho1, hk1⟩
  obtain ⟨B1, N1, C1, rfl⟩ := own_sl ho1
  have O1 := Lib.hid (own_le (base' := w.heap.size) ho1 (by simp; omega))
  have K := Lib.hid (hk0.out.trans hk1)
  clear hk0
  have HB := Lib.hid (HB.out.kept hk1 (by simp))
  have HC := Lib.hid (HC.out.kept hk1 (by simp))
  clear ho1 hk1
  have yf := HB.out.frozen 6
  have yc := HB.out.cell 6
  have yl := HB.out.lt
  simp only [frC, List.getElem?_cons_zero, List.getElem?_cons_succ] at yc
  go_upto_region 2 with (fail)
  have HBo := HB.out
  have HB := Lib.hid (show Blk (w1.setCell ⟨w.heap.size, 6, none⟩ (.slice B1 N1 C1)) w.heap.size 60 [.int .i64 F.kind, .int .i64 F.src, .int .i64 F.dst, .int .i64 F.seq, .int .i64 F.round, .int .i64 F.vn, .slice B1 N1 C1, .slice A2 F.sums.length c2, .slice A3 F.trips.length c3, .int .i64 F.n, .bool F.over] from HB.out.set 6 (.slice B1 N1 C1))
  have HC := Lib.hid (HC.out.kept ((Kept.refl [w.heap.size] w1).setCell (p := ⟨w.heap.size, 6, none⟩) (.inl (by simp)) (.slice B1 N1 C1)) (by simp))
  have O1 := Lib.hid (own_keptB (T := [60]) O1.out ((KeptB.refl w.heap.size _ _).set HBo (Nat.le_refl _) (by decide) 6 (.slice B1 N1 C1)) (by decide))
  have K := Lib.hid (K.out.setCell (p := ⟨w.heap.size, 6, none⟩) (.inr (Nat.le_refl _)) (.slice B1 N1 C1))
  clear HBo
  generalize w1.setCell ⟨w.heap.size, 6, none⟩ (.slice B1 N1 C1) = wh1 at HB HC K O1 ⊢
  clear yf yc yl
  have yc := HB.out.cell 7
  have yl := HB.out.lt
  simp only [List.getElem?_cons_zero, List.getElem?_cons_succ] at yc
  go_wp2_with fail
  clear yc yl
  refine (clone_sums_n F.sums _ A2 c2 _ rfl (H2.out.kept0 K.out) l2).mono ?_
  rintro _ w2 ⟨v2, rfl, ho2, hk2⟩
  obtain ⟨B2, N2, C2, rfl⟩ := own_sl ho2
  have O2 := Lib.hid (own_le (base' := w.heap.size) ho2 K.out.size)
  have O1 := Lib.hid (own_kept0 O1.out hk2)
  have K := Lib.hid (K.out.trans hk2)
  have HB := Lib.hid (HB.out.kept hk2 (by simp))
  have HC := Lib.hid (HC.out.kept hk2 (by simp))
  clear ho2 hk2
  have yf := HB.out.frozen 7
  have yc := HB.out.cell 7
  have yl := HB.out.lt
  simp only [List.getElem?_cons_zero, List.getElem?_cons_succ] at yc
  go_upto_region 3 with (fail)
  have HBo := HB.out
  have HB := Lib.hid (show Blk (w2.setCell ⟨w.heap.size, 7, none⟩ (.slice B2 N2 C2)) w.heap.size 60 [.int .i64 F.kind, .int .i64 F.src, .int .i64 F.dst, .int .i64 F.seq, .int .i64 F.round, .int .i64 F.vn, .slice B1 N1 C1, .slice B2 N2 C2, .slice A3 F.trips.length c3, .int .i64 F.n, .bool F.over] from HB.out.set 7 (.slice B2 N2 C2))
  have HC := Lib.hid (HC.out.kept ((Kept.refl [w.heap.size] w2).setCell (p := ⟨w.heap.size, 7, none⟩) (.inl (by simp)) (.slice B2 N2 C2)) (by simp))
  have O1 := Lib.hid (own_keptB (T := [60]) O1.out ((KeptB.refl w.heap.size _ _).set HBo (Nat.le_refl _) (by decide) 7 (.slice B2 N2 C2)) (by decide))
  have O2 := Lib.hid (own_keptB (T := [60]) O2.out ((KeptB.refl w.heap.size _ _).set HBo (Nat.le_refl _) (by decide) 7 (.slice B2 N2 C2)) (by decide))
  have K := Lib.hid (K.out.setCell (p := ⟨w.heap.size, 7, none⟩) (.inr (Nat.le_refl _)) (.slice B2 N2 C2))
  clear HBo
  generalize w2.setCell ⟨w.heap.size, 7, none⟩ (.slice B2 N2 C2) = wh2 at HB HC K O1 O2 ⊢
  clear yf yc yl
  have yc := HB.out.cell 8
  have yl := HB.out.lt
  simp only [List.getElem?_cons_zero, List.getElem?_cons_succ] at yc
  go_wp2_with fail
  clear yc yl
  refine (clone_trips_n F.trips _ A3 c3 _ rfl (H3.out.kept0 K.out) l3).mono ?_
  rintro _ w3 ⟨v3, rfl, ho3, hk3⟩
  obtain ⟨B3, N3, C3, rfl⟩ := own_sl ho3
  have O3 := Lib.hid (own_le (base' := w.heap.size) ho3 K.out.size)
  have O1 := Lib.hid (own_kept0 O1.out hk3)
  have O2 := Lib.hid (own_kept0 O2.out hk3)
  have K := Lib.hid (K.out.trans hk3)
  have HB := Lib.hid (HB.out.kept hk3 (by simp))
  have HC := Lib.hid (HC.out.kept hk3 (by simp))
  clear ho3 hk3
  have yf := HB.out.frozen 8
  have yc := HB.out.cell 8
  have yl := HB.out.lt
  simp only [List.getElem?_cons_zero, List.getElem?_cons_succ] at yc
  go_upto_region 4 with (fail)
  have HBo := HB.out
  have HB := Lib.hid (show Blk (w3.setCell ⟨w.heap.size, 8, none⟩ (.slice B3 N3 C3)) w.heap.size 60 (lsC F (.slice B1 N1 C1) (.slice B2 N2 C2) (.slice B3 N3 C3)) from HB.out.set 8 (.slice B3 N3 C3))
  have HC := Lib.hid (HC.out.kept ((Kept.refl [w.heap.size] w3).setCell (p := ⟨w.heap.size, 8, none⟩) (.inl (by simp)) (.slice B3 N3 C3)) (by simp))
  have O1 := Lib.hid (own_keptB (T := [60]) O1.out ((KeptB.refl w.heap.size _ _).set HBo (Nat.le_refl _) (by decide) 8 (.slice B3 N3 C3)) (by decide))
  have O2 := Lib.hid (own_keptB (T := [60]) O2.out ((KeptB.refl w.heap.size _ _).set HBo (Nat.le_refl _) (by decide) 8 (.slice B3 N3 C3)) (by decide))
  have O3 := Lib.hid (own_keptB (T := [60]) O3.out ((KeptB.refl w.heap.size _ _).set HBo (Nat.le_refl _) (by decide) 8 (.slice B3 N3 C3)) (by decide))
  have K := Lib.hid (K.out.setCell (p := ⟨w.heap.size, 8, none⟩) (.inr (Nat.le_refl _)) (.slice B3 N3 C3))
  clear HBo
  generalize w3.setCell ⟨w.heap.size, 8, none⟩ (.slice B3 N3 C3) = wh3 at HB HC K O1 O2 O3 ⊢
  clear yf yc yl
  go_wp2_with (first | (refine wpList_loadBlk rfl 60 (.tmp 1) rfl w.heap.size (lsC F (.slice B1 N1 C1) (.slice B2 N2 C2) (.slice B3 N3 C3)) _ HB.out rfl Try.underlying60 rfl infoFrame ?_) | (refine wpList_storeBlk rfl 60 (.tmp 2) (.tmp 17) rfl (w.heap.size + 1) _ (lsC F (.slice B1 N1 C1) (.slice B2 N2 C2) (.slice B3 N3 C3)) HC.out rfl rfl rfl infoFrame (by simp [Value.oneCell']) ?_; intro w6 hb6 hk6))
  have g0 := hb6.cell 0
  have g1 := hb6.cell 1
  have g2 := hb6.cell 2
  have g3 := hb6.cell 3
  have g4 := hb6.cell 4
  have g5 := hb6.cell 5
  have g6 := hb6.cell 6
  have g7 := hb6.cell 7
  have g8 := hb6.cell 8
  have g9 := hb6.cell 9
  have g10 := hb6.cell 10
  simp only [List.getElem?_cons_zero, List.getElem?_cons_succ] at g0 g1 g2 g3 g4 g5 g6 g7 g8 g9 g10
  refine bodyPost_ret (v := .agg (lsC F (.slice B1 N1 C1) (.slice B2 N2 C2) (.slice B3 N3 C3)).toArray) (by simp [results, Try.results90, go_sem, g0, g1, g2, g3, g4, g5, g6, g7, g8, g9, g10]) rfl ?_
  have f6 : KeptB w.heap.size [60] wh3 w6 := (KeptB.refl _ _ wh3).step (L := [w.heap.size + 1]) hk6 (fun m hm => by simp at hm; subst hm; exact ⟨Nat.le_succ _, _, _, _, HC.out, by simp⟩)
  exact ⟨_, _, _, rfl, ⟨own_keptB O1.out f6 (by decide), own_keptB O2.out f6 (by decide), own_keptB O3.out f6 (by decide)⟩, K.out.thenB f6 (Nat.le_refl _)⟩
end Go.Proofs.Ytdjidnccockmmaa

/- The box: the library's searches and deletion in a row of numbers. -/
namespace Go.Proofs
open Go.Shelf
def Try.laysMin_ren : Go.Shelf.Ren := ⟨fun | 114 => 95 | n => n, fun | 28 => 128 | 3 => 3 | 4 => 4 | 9 => 9 | 20 => 20 | 0 => 0 | n => n, fun | n => n⟩
theorem Try.laysMin : Go.Proofs.Lays.n114 Try.prog Try.laysMin_ren := {
  mixed := by kernel_rfl,
  f114 := Try.func95.trans (congrArg some (by kernel_rfl)),
  t0 := Try.underlying0,
  a0 := Try.isAgg0,
  z0 := Try.sizeOf0,
  v0 := Try.zeroValue0,
  t3 := Try.underlying3,
  a3 := Try.isAgg3,
  z3 := Try.sizeOf3,
  v3 := Try.zeroValue3,
  t4 := Try.underlying4,
  a4 := Try.isAgg4,
  z4 := Try.sizeOf4,
  v4 := Try.zeroValue4,
  t9 := Try.underlying9,
  a9 := Try.isAgg9,
  z9 := Try.sizeOf9,
  v9 := Try.zeroValue9,
  t20 := Try.underlying20,
  a20 := Try.isAgg20,
  z20 := Try.sizeOf20,
  v20 := Try.zeroValue20,
  t28 := Try.underlying128,
  a28 := Try.isAgg128,
  z28 := Try.sizeOf128,
  v28 := Try.zeroValue128 }
def Try.laysDelete_ren : Go.Shelf.Ren := ⟨fun | 23 => 93 | n => n, fun | 22 => 128 | 3 => 3 | 4 => 4 | 0 => 0 | n => n, fun | n => n⟩
theorem Try.laysDelete : Go.Proofs.Lays2.n23 Try.prog Try.laysDelete_ren := {
  mixed := by kernel_rfl,
  f23 := Try.func93.trans (congrArg some (by kernel_rfl)),
  t0 := Try.underlying0,
  a0 := Try.isAgg0,
  z0 := Try.sizeOf0,
  v0 := Try.zeroValue0,
  t3 := Try.underlying3,
  a3 := Try.isAgg3,
  z3 := Try.sizeOf3,
  v3 := Try.zeroValue3,
  t4 := Try.underlying4,
  a4 := Try.isAgg4,
  z4 := Try.sizeOf4,
  v4 := Try.zeroValue4,
  t22 := Try.underlying128,
  a22 := Try.isAgg128,
  z22 := Try.sizeOf128,
  v22 := Try.zeroValue128,
  i3 := by kernel_rfl }
end Go.Proofs
namespace Go.Proofs.Ytdjidnccockmmaa
set_option linter.unusedSimpArgs false
set_option linter.unusedVariables false
open Go.ChangeShapes Go.WideShapes Go.ChangeAt Go.RowKit
open Go.RowKit (wrap32 wrap64)
set_option maxHeartbeats 8000000

theorem kept_putRow {α : Type} [Inhabited α] (enc : α → Value) (w : World) (q g off : Nat) (d : Array α) : Kept [g] w (Go.Sort.putRow enc (Go.Sort.ahead w q) g off d) :=
  ⟨rfl, rfl, rfl, by simp [Go.Sort.putRow, Go.Sort.mapBlock, Go.Sort.ahead], fun k hk hg => by
    have hne : g ≠ k := by rintro rfl; simp at hg
    simp [Go.Sort.putRow, Go.Sort.mapBlock, Go.Sort.ahead, Array.getElem?_modify, hne]⟩
theorem own_not_nil {w : World} {base n : Nat} {e : TypeId} {v : Value} {xs : List Value} (h : w.ownsRow base e 1 v n xs) (hn : 0 < n) : v ≠ .slice none 0 0 := by
  rcases h.2 with ⟨_, h0⟩ | ⟨g, cap, cur, rfl, _⟩
  · omega
  · intro h; cases h

/-- A place is taken out of a row of numbers. -/
theorem delete_any (xs : List Int) (k n base : Nat) (v : Value) (w : World) (hn : xs.length = n) (h : w.ownsRow base 3 1 v n (xs.map (.int .i64))) (hk : k < n) :
    Calls Try.prog 93 #[v, .int .i64 k, .int .i64 (k + 1 : Nat)] w fun e w' => ∃ v', e = .returned v' ∧ w'.ownsRow base 3 1 v' (n - 1) ((xs.eraseIdx k).map (.int .i64)) ∧ v'.ownBlock = v.ownBlock ∧ Kept v.ownBlock.toList w w' := by
  obtain ⟨g, cap, rfl, hb, hlt, hc, hm, hl, hH⟩ := Go.Lib.holds_of_ownsRow h (own_not_nil h (by omega))
  subst hn
  refine (show Calls Try.prog 93 _ _ _ from Any.slices_Delete_int Try.laysDelete g 0 cap k (k + 1) xs w hH hc (by unfold maxLen at hm; omega) (by omega) (by omega)).mono ?_
  rintro e w' ⟨rfl, q, rfl⟩
  refine ⟨_, rfl, ?_, by simp [Value.ownBlock], by simpa [Value.ownBlock] using kept_putRow _ w q g 0 _⟩
  have := Go.Lib.ownsRow_putRow (q := q) (k := xs.length - 1) (ys := xs.take k ++ xs.drop (k + 1) ++ List.replicate (k + 1 - k) 0) h (by simp; omega) (by omega)
  have e1 : (xs.take k ++ xs.drop (k + 1) ++ List.replicate (k + 1 - k) 0).take (xs.length - 1) = xs.eraseIdx k := by
    rw [List.take_append_of_le_length (by simp; omega), List.take_of_length_le (by simp; omega), List.eraseIdx_eq_take_drop_succ]
  rw [e1] at this
  rw [show k + 1 - k = 1 by omega] at this ⊢
  exact this
theorem min_any (xs : List Int) (n base : Nat) (v : Value) (w : World) (hn : xs.length = n) (h : w.ownsRow base 3 1 v n (xs.map (.int .i64))) (h0 : 0 < n) :
    Calls Try.prog 95 #[v] w fun e w' => e = .returned (.int .i64 (Go.Lib.minOf xs)) ∧ w' = w := by
  obtain ⟨g, cap, rfl, hb, hlt, hc, hm, hl, hH⟩ := Go.Lib.holds_of_ownsRow h (own_not_nil h (by omega))
  subst hn
  have := Any.slices_Min_int Try.laysMin g 0 xs.length cap xs w h0 (Nat.le_refl _) (by unfold maxLen at hm; omega) (fun j hj => by
    rw [(hH j (by simpa using hj)).1]
    simp [getElem!_pos, hj, List.getD])
  rw [List.take_length] at this
  exact this
end Go.Proofs.Ytdjidnccockmmaa

/- The box: where the frame of the least number is. -/
namespace Go.Proofs.Ytdjidnccockmmaa
set_option linter.unusedSimpArgs false
set_option linter.unusedVariables false
open Go.ChangeShapes Go.WideShapes Go.ChangeAt Go.RowKit
open Go.RowKit (wrap32 wrap64)
set_option maxHeartbeats 4000000

theorem isLeast_any (n m : Int) (b : Nat) (w : World) (hb : Blk w b 3 [.int .i64 m]) :
    Calls Try.prog 97 #[.int .i64 n, .pointer (some ⟨b, 0, none⟩)] w fun e w' => e = .returned (.bool (n == m)) ∧ w' = w := by
  have y0 := hb.cell 0
  simp only [List.getElem?_cons_zero] at y0
  go_enter Try.func97, Try.ntmps97
  go_wp2
  go_ret
  exact ⟨rfl, rfl⟩

theorem index_any (xs : List Int) (m : Int) (n base b : Nat) (v : Value) (w : World) (hn : xs.length = n) (h : w.ownsRow base 3 1 v n (xs.map (.int .i64))) (hb : Blk w b 3 [.int .i64 m]) (hm : m ∈ xs) :
    Calls Try.prog 96 #[v, .func (.func 97) #[] #[.pointer (some ⟨b, 0, none⟩)]] w fun e w' => ∃ j : Nat, e = .returned (.int .i64 j) ∧ xs[j]? = some m ∧ w' = w := by
  obtain ⟨g, cap, rfl, _, hgl, hc, hmx, hl, hH⟩ := Go.Lib.holds_of_ownsRow h (own_not_nil h (by have := List.length_pos_of_mem hm; omega))
  subst hn
  have HC := Lib.hid (show ∀ j (hj : j < xs.length), w.cell? ⟨g, j, none⟩ = some (.int .i64 xs[j]) from fun j hj => by
    have := (hH j (by simpa using hj)).1
    simpa [getElem!_pos, hj] using this)
  have HB := Lib.hid hb
  have HM := Lib.hid hm
  unfold maxLen at hmx
  clear hH h hb hm hl
  go_enter Try.func96, Try.ntmps96
  go_wp2_with fail
  go_loopw [8] (fun i wr => ∃ k : Nat, k ≤ xs.length ∧ i = .int .i64 k ∧ Hid (∀ j (hj : j < xs.length), j < k → xs[j] ≠ m) ∧ wr = w) (fun i _ => xs.length - (intOf i).toNat)
  case atStart => exact ⟨0, Nat.zero_le _, rfl, Lib.hid (fun j _ h => absurd h (Nat.not_lt_zero _)), rfl⟩
  case round =>
    obtain ⟨k, hk, rfl, HN, rfl⟩ := hrel
    by_cases hlt : k < xs.length
    · have h0 := HC.out k hlt
      go_wp2_with fail
      refine (isLeast_any xs[k] m b _ HB.out).mono ?_
      rintro e w1 ⟨rfl, rfl⟩
      by_cases hq : xs[k] = m
      · have hbq : (xs[k] == m) = true := by simpa using hq
        rw [hbq]
        go_wp2_with fail
        go_ret
        exact ⟨k, rfl, by rw [List.getElem?_eq_getElem hlt]; exact congrArg some hq, rfl⟩
      · have hbq : (xs[k] == m) = false := by simpa using hq
        rw [hbq]
        have HN := Lib.hid (show ∀ j (hj : j < xs.length), j < k + 1 → xs[j] ≠ m from fun j hj h1 => by
          rcases Nat.lt_or_ge j k with h2 | h2
          · exact HN.out j hj h2
          · obtain rfl : j = k := by omega
            exact hq)
        clear hq
        go_wp2_with fail
        go_roundw
        case rel => exact ⟨k + 1, by omega, by go_num, HN, trivial⟩
        case measure => simp [intOf]; omega
    · exfalso
      obtain ⟨j, hj, hjm⟩ := List.getElem_of_mem HM.out
      exact HN.out j hj (by omega) hjm
end Go.Proofs.Ytdjidnccockmmaa

/- The box in memory; what its calls leave as it is. -/
namespace Go.Proofs.Ytdjidnccockmmaa
set_option linter.unusedSimpArgs false
set_option linter.unusedVariables false
open Go.ChangeShapes Go.WideShapes Go.ChangeAt Go.RowKit
open Go.RowKit (wrap32 wrap64)
set_option maxHeartbeats 4000000

/-- Nothing has changed but two maps, and blocks from base on whose element type is one of T; there may be new ones. -/
structure KeptM (base : Nat) (T : List TypeId) (m1 m2 : Nat) (w w' : World) : Prop where
  os : w'.os = w.os
  tape : w'.tape = w.tape
  output : w'.output = w.output
  size : w.heap.size ≤ w'.heap.size
  block : ∀ k, k < w.heap.size → (k < base ∨ (k ≠ m1 ∧ k ≠ m2 ∧ ∀ cs t fr, w.heap[k]? = some (.cells cs t fr) → t ∉ T)) → w'.heap[k]? = w.heap[k]?
section
variable {base m1 m2 : Nat} {T : List TypeId} {a b c w w' : World}
theorem KeptM.of_keptB (h : KeptB base T w w') : KeptM base T m1 m2 w w' := ⟨h.os, h.tape, h.output, h.size, fun k hk ht => h.block k hk (ht.imp id (·.2.2))⟩
theorem KeptM.of_kept0 (h : Kept [] w w') : KeptM base T m1 m2 w w' := .of_keptB (.of_kept0 h)
theorem KeptM.refl (w : World) : KeptM base T m1 m2 w w := .of_kept0 (Kept.refl _ _)
theorem KeptM.trans (h : KeptM base T m1 m2 a b) (k : KeptM base T m1 m2 b c) : KeptM base T m1 m2 a c :=
  ⟨k.os.trans h.os, k.tape.trans h.tape, k.output.trans h.output, Nat.le_trans h.size k.size, fun i hi ht =>
    (k.block i (Nat.lt_of_lt_of_le hi h.size) (by rw [h.block i hi ht]; exact ht)).trans (h.block i hi ht)⟩
theorem KeptM.thenB (h : KeptM base T m1 m2 a b) (k : KeptB base T b c) : KeptM base T m1 m2 a c := h.trans (.of_keptB k)
theorem KeptM.map1 (h : KeptM base T m1 m2 a b) (k : Kept [m1] b c) (hb : base ≤ m1) : KeptM base T m1 m2 a c :=
  h.trans ⟨k.os, k.tape, k.output, k.size, fun i hi ht => k.block i hi (by simp; rintro rfl; rcases ht with ht | ht; omega; exact ht.1 rfl)⟩
theorem KeptM.map2 (h : KeptM base T m1 m2 a b) (k : Kept [m2] b c) (hb : base ≤ m2) : KeptM base T m1 m2 a c :=
  h.trans ⟨k.os, k.tape, k.output, k.size, fun i hi ht => k.block i hi (by simp; rintro rfl; rcases ht with ht | ht; omega; exact ht.2.1 rfl)⟩
theorem own_keptM {e : TypeId} {size n base' : Nat} {v : Value} {xs : List Value} {l1 l2 : List (Int × Value × Nat)} {c1 c2 : Nat} (h : w.ownsRow base' e size v n xs) (hk : KeptM base T m1 m2 w w') (he : e ∉ T) (h1 : MapB w m1 l1 c1) (h2 : MapB w m2 l2 c2) : w'.ownsRow base' e size v n xs := by
  refine ⟨h.1, h.2.imp id ?_⟩
  rintro ⟨g, cap, cur, hv, hb, hg, r⟩
  refine ⟨g, cap, cur, hv, hb, (hk.block g (Array.getElem?_eq_some_iff.1 hg).1 (.inr ⟨?_, ?_, fun cs t fr hc => ?_⟩)).trans hg, r⟩
  · rintro rfl; unfold MapB at h1; rw [hg] at h1; cases h1
  · rintro rfl; unfold MapB at h2; rw [hg] at h2; cases h2
  · rw [hg] at hc
    injection hc with hc
    injection hc with _ e1 _
    subst e1
    exact he
theorem MapB.keptB {b c : Nat} {l : List (Int × Value × Nat)} (h : MapB w b l c) (hk : KeptB base T w w') : MapB w' b l c :=
  (hk.block b h.lt (.inr fun cs t fr hc => by unfold MapB at h; rw [hc] at h; cases h)).trans h
theorem MapB.ne_own {b c : Nat} {l : List (Int × Value × Nat)} (h : MapB w b l c) {e : TypeId} {size n base' : Nat} {v : Value} {xs : List Value} (ho : w.ownsRow base' e size v n xs) : b ∉ v.ownBlock.toList := by
  rcases ho.2 with ⟨rfl, _⟩ | ⟨g, cap, cur, rfl, _, hg, _⟩
  · simp [Value.ownBlock]
  · simp [Value.ownBlock]
    rintro rfl
    unfold MapB at h; rw [hg] at h; cases h
theorem MapB.ne_blk {b c g : Nat} {l : List (Int × Value × Nat)} (h : MapB w b l c) {t : TypeId} {cs : List Value} (hb : Blk w g t cs) : g ≠ b := by
  rintro rfl
  unfold MapB at h; unfold Blk at hb; rw [hb] at h; cases h
end
theorem findI_put_same (k : Int) (v : Value) (c : Nat) : ∀ (l : List (Int × Value × Nat)) (i : Nat), ∃ j, findI k (putL k v c l) i = some (j, v)
  | [], i => ⟨i, by simp [putL, findI]⟩
  | x :: l, i => by
    unfold putL
    by_cases h : (k == x.1) = true
    · rw [if_pos h]; exact ⟨i, by simp only [findI, h, if_true]⟩
    · rw [if_neg h]
      obtain ⟨j, hj⟩ := findI_put_same k v c l (i + 1)
      exact ⟨j, by simp only [findI, h, if_false]; exact hj⟩
theorem findI_snd (k : Int) : ∀ (l : List (Int × Value × Nat)) (i j : Nat), (findI k l i).map (·.2) = (findI k l j).map (·.2)
  | [], _, _ => rfl
  | x :: l, i, j => by
    unfold findI
    by_cases h : (k == x.1) = true
    · simp only [h, if_true, Option.map_some]
    · simp only [h, if_false]; exact findI_snd k l _ _
theorem getL_put_same (k : Int) (v : Value) (c : Nat) (l : List (Int × Value × Nat)) : getL k (putL k v c l) = some v := by
  obtain ⟨j, hj⟩ := findI_put_same k v c l 0
  simp [getL, hj]
theorem getL_cons (k : Int) (x : Int × Value × Nat) (l : List (Int × Value × Nat)) : getL k (x :: l) = if k == x.1 then some x.2.1 else getL k l := by
  unfold getL
  conv => lhs; unfold findI
  by_cases h : (k == x.1) = true
  · simp only [h, if_true, Option.map_some]
  · simp only [h, if_false]; exact findI_snd k l _ _
theorem getL_put_ne {k n : Int} (h : k ≠ n) (v : Value) (c : Nat) : ∀ l : List (Int × Value × Nat), getL k (putL n v c l) = getL k l
  | [] => by
    have hb : (k == n) = false := by simpa using h
    simp [putL, getL_cons, hb]
  | x :: l => by
    unfold putL
    by_cases hx : (n == x.1) = true
    · rw [if_pos hx, getL_cons, getL_cons]
      have : n = x.1 := by simpa using hx
      have hb : (k == x.1) = false := by rw [← this]; simpa using h
      simp [hb]
    · rw [if_neg hx, getL_cons, getL_cons, getL_put_ne h v c l]
theorem getL_del_ne {k n : Int} (h : k ≠ n) : ∀ l : List (Int × Value × Nat), getL k (delL n l) = getL k l
  | [] => rfl
  | x :: l => by
    unfold delL
    by_cases hx : (n == x.1) = true
    · rw [if_pos hx, getL_cons]
      have : n = x.1 := by simpa using hx
      have hb : (k == x.1) = false := by rw [← this]; simpa using h
      simp [hb]
    · rw [if_neg hx, getL_cons, getL_cons, getL_del_ne h l]

/-- What a box's cells are. -/
abbrev bxC (room : Nat) (v : Value) (m1 m2 sent taken : Nat) : List Value := [.int .i64 room, v, .map (some m1), .map (some m2), .int .i64 sent, .int .i64 taken]
/-- A box at block p: its row, its two maps. -/
structure BxC (w : World) (base p m1 m2 room : Nat) (row : List Int) (sent taken : Nat) (Fs : Int → Fr) (v : Value) (l1 l2 : List (Int × Value × Nat)) (c1 c2 : Nat) : Prop where
  blk : Blk w p 130 (bxC room v m1 m2 sent taken)
  rowO : w.ownsRow base 3 1 v row.length (row.map (.int .i64))
  by_ : MapB w m1 l1 c1
  often : MapB w m2 l2 c2
  frs : ∀ n ∈ row, ∃ v1 v2 v3, getL n l1 = some (.agg (lsC (Fs n) v1 v2 v3).toArray) ∧ OwnF w base (Fs n) v1 v2 v3
  cnt : ∀ n ∈ row, getL n l2 = some (.int .i64 (row.count n))
  new : ∀ n : Int, sent ≤ n → getL n l2 = none
  hp : base ≤ p
  h1 : base ≤ m1
  h2 : base ≤ m2
  ne : m1 ≠ m2
  fit : row.length ≤ 64
  rm : room ≤ 64
  sn : sent ≤ 1048576
  tk : taken ≤ sent
  inn : ∀ n ∈ row, 0 ≤ n ∧ n < sent
abbrev bxT : List TypeId := [130, 3]
theorem OwnF.keptB {w w' : World} {base base' : Nat} {T : List TypeId} {F : Fr} {v1 v2 v3 : Value} (h : OwnF w base' F v1 v2 v3) (hk : KeptB base T w w') (h1 : 99 ∉ T) (h2 : 103 ∉ T) (h3 : 105 ∉ T) : OwnF w' base' F v1 v2 v3 :=
  ⟨own_keptB h.o1 hk h1, own_keptB h.o2 hk h2, own_keptB h.o3 hk h3⟩
theorem BxC.keptB {w w' : World} {base base' p m1 m2 room : Nat} {row : List Int} {sent taken : Nat} {Fs : Int → Fr} {v : Value} {l1 l2 : List (Int × Value × Nat)} {c1 c2 : Nat} {T : List TypeId} (h : BxC w base p m1 m2 room row sent taken Fs v l1 l2 c1 c2) (hk : KeptB base' T w w')
    (t1 : 130 ∉ T) (t2 : 3 ∉ T) (t3 : 99 ∉ T) (t4 : 103 ∉ T) (t5 : 105 ∉ T) : BxC w' base p m1 m2 room row sent taken Fs v l1 l2 c1 c2 :=
  ⟨h.blk.keptB hk t1, own_keptB h.rowO hk t2, h.by_.keptB hk, h.often.keptB hk, fun n hn => by
    obtain ⟨v1, v2, v3, e, o⟩ := h.frs n hn
    exact ⟨v1, v2, v3, e, o.keptB hk t3 t4 t5⟩, h.cnt, h.new, h.hp, h.h1, h.h2, h.ne, h.fit, h.rm, h.sn, h.tk, h.inn⟩
theorem BxC.kept0 {w w' : World} {base p m1 m2 room : Nat} {row : List Int} {sent taken : Nat} {Fs : Int → Fr} {v : Value} {l1 l2 : List (Int × Value × Nat)} {c1 c2 : Nat} (h : BxC w base p m1 m2 room row sent taken Fs v l1 l2 c1 c2) (hk : Kept [] w w') : BxC w' base p m1 m2 room row sent taken Fs v l1 l2 c1 c2 :=
  h.keptB (base' := 0) (T := []) (.of_kept0 hk) (by simp) (by simp) (by simp) (by simp) (by simp)
end Go.Proofs.Ytdjidnccockmmaa

/- The box: full, at, Len, put. -/
namespace Go.Proofs.Ytdjidnccockmmaa
set_option linter.unusedSimpArgs false
set_option linter.unusedVariables false
open Go.ChangeShapes Go.WideShapes Go.ChangeAt Go.RowKit
open Go.RowKit (wrap32 wrap64)
set_option maxHeartbeats 4000000

theorem own_n {w : World} {base : Nat} {e : TypeId} {size n : Nat} {v : Value} {xs : List Value} (h : w.ownsRow base e size v n xs) : ∃ A c, v = .slice A n c := by
  rcases h.2 with ⟨rfl, rfl⟩ | ⟨g, cap, cur, rfl, _⟩
  · exact ⟨_, _, rfl⟩
  · exact ⟨_, _, rfl⟩
section
variable {w : World} {base p m1 m2 room : Nat} {row : List Int} {sent taken : Nat} {Fs : Int → Fr} {v : Value} {l1 l2 : List (Int × Value × Nat)} {c1 c2 : Nat}
theorem full_any (h : BxC w base p m1 m2 room row sent taken Fs v l1 l2 c1 c2) :
    Calls Try.prog 89 #[.pointer (some ⟨p, 0, none⟩)] w fun e w' => e = .returned (.bool (decide (room ≤ row.length))) ∧ Kept [] w w' := by
  obtain ⟨A, c, rfl⟩ := own_n h.rowO
  have y0 := h.blk.cell 0
  have y1 := h.blk.cell 1
  simp only [List.getElem?_cons_zero, List.getElem?_cons_succ] at y0 y1
  have hl := h.fit
  have hr := h.rm
  clear h
  go_enter Try.func89, Try.ntmps89
  go_wp2_with fail
  go_quiet (fail)
  go_wp2_with fail
  go_ret
  exact ⟨rfl, (Kept.refl _ _).drewN nq⟩
theorem len_any (h : BxC w base p m1 m2 room row sent taken Fs v l1 l2 c1 c2) :
    Calls Try.prog 48 #[.pointer (some ⟨p, 0, none⟩)] w fun e w' => e = .returned (.int .i64 row.length) ∧ w' = w := by
  obtain ⟨A, c, rfl⟩ := own_n h.rowO
  have y1 := h.blk.cell 1
  simp only [List.getElem?_cons_zero, List.getElem?_cons_succ] at y1
  clear h
  go_enter Try.func48, Try.ntmps48
  go_wp2
  go_ret
  exact ⟨rfl, rfl⟩
/-- What is wrong with a place. -/
def atE (n : Nat) (k : Int) : Int := if 0 ≤ k ∧ k < n then 0 else 3
theorem place_any (h : BxC w base p m1 m2 room row sent taken Fs v l1 l2 c1 c2) (k : Int) :
    Calls Try.prog 92 #[.pointer (some ⟨p, 0, none⟩), .int .i64 k] w fun e w' => e = .returned (.int .i64 (atE row.length k)) ∧ w' = w := by
  obtain ⟨A, c, rfl⟩ := own_n h.rowO
  have y1 := h.blk.cell 1
  simp only [List.getElem?_cons_zero, List.getElem?_cons_succ] at y1
  clear h
  by_cases hk : 0 ≤ k ∧ k < row.length
  · have e : atE row.length k = 0 := if_pos hk
    have g1 : ¬ k < 0 := by omega
    have g2 : ¬ (row.length : Int) ≤ k := by omega
    rw [e]
    clear e
    go_enter Try.func92, Try.ntmps92
    go_wp2
    all_goals (go_ret; exact ⟨rfl, rfl⟩)
  · have e : atE row.length k = 3 := if_neg hk
    rw [e]
    clear e
    by_cases h1 : k < 0
    · go_enter Try.func92, Try.ntmps92
      go_wp2
      all_goals (go_ret; exact ⟨rfl, rfl⟩)
    · have g2 : (row.length : Int) ≤ k := by omega
      clear hk
      go_enter Try.func92, Try.ntmps92
      go_wp2
      all_goals (go_ret; exact ⟨rfl, rfl⟩)
end
end Go.Proofs.Ytdjidnccockmmaa

/- The box: put. -/
namespace Go.Proofs.Ytdjidnccockmmaa
set_option linter.unusedSimpArgs false
set_option linter.unusedVariables false
open Go.ChangeShapes Go.WideShapes Go.ChangeAt Go.RowKit
open Go.RowKit (wrap32 wrap64)
set_option maxHeartbeats 8000000

theorem infoInt : Info Try.prog 3 (.int .i64 0) 1 8 := by unfold Info; kernel_rfl
theorem zeroInt (w : World) : (zeroValue 3).run Try.prog w = .ok (.int .i64 0) w := Try.zeroValue3 w
section
variable {w : World} {base p m1 m2 room : Nat} {row : List Int} {sent taken : Nat} {v : Value} {l2 : List (Int × Value × Nat)} {c2 : Nat}
set_option maxRecDepth 100000 in
theorem bput_any (n q : Int) (h0 : 0 ≤ q) (h1 : q ≤ 1048576) (hb : Blk w p 130 (bxC room v m1 m2 sent taken)) (ho : w.ownsRow base 3 1 v row.length (row.map (.int .i64))) (hm : MapB w m2 l2 c2)
    (hq : (getL n l2).getD (.int .i64 0) = .int .i64 q) (hp : base ≤ p) (hbase : base ≤ w.heap.size) (hl : row.length ≤ 1048576) :
    Calls Try.prog 91 #[.pointer (some ⟨p, 0, none⟩), .int .i64 n] w fun e w' => e = .returned (.tuple #[]) ∧ ∃ v' c2' wm, KeptB base bxT w wm ∧ Kept [m2] wm w' ∧ Blk w' p 130 (bxC room v' m1 m2 sent taken) ∧
      w'.ownsRow base 3 1 v' (row.length + 1) ((row ++ [n]).map (.int .i64)) ∧ MapB w' m2 (putL n (.int .i64 (q + 1)) c2 l2) c2' := by
  have HB := Lib.hid hb
  have HO := Lib.hid ho
  have HM := Lib.hid hm
  obtain ⟨A, c, rfl⟩ := own_n ho
  have y1 := hb.cell 1
  simp only [List.getElem?_cons_zero, List.getElem?_cons_succ] at y1
  have hpl := hb.lt
  have NE := Lib.hid (own_ne_blk ho hb (by decide))
  have NM := Lib.hid (hm.ne_own ho)
  have NP := Lib.hid (hm.ne_blk hb)
  clear hb ho hm
  go_enter Try.func91, Try.ntmps91
  go_upto_region 1 with (first | (at_builtin; refine wpList_app _ rfl (.tmp 8) (.tmp 10) _ rfl 3 (.int .i64 0) 1 8 Try.underlying128 infoInt rfl (by decide) base (.slice A row.length c) _ _ rfl (HO.out.alloc _) (some ⟨_, 0, none⟩) 1 1 [.int .i64 n] rfl (by simp) (Reads.of_blk (Blk.new _ _ _) (fun _ _ h => h)) (by simp [Value.oneCell']) (by omega) (by unfold maxLen; omega) (by simp; omega) ?_; intro v2 w3 hown2 hk2 hb2; obtain ⟨A4, c4, rfl⟩ := own_n hown2; have HB3 := Lib.hid ((HB.out.alloc _).kept hk2 (by have := NE.out; simpa using this)); have d1 := HB3.out.cell 1; have f1 := HB3.out.frozen 1; simp only [List.getElem?_cons_zero, List.getElem?_cons_succ] at d1; have HM3 := Lib.hid ((HM.out.kept ((Kept.refl [] _).alloc _) (by simp)).kept hk2 NM.out); have KB := Lib.hid (((KeptB.refl base bxT w).alloc _).app hk2 (HO.out.alloc _) (by decide)); have O2 := Lib.hid hown2; clear hown2 hk2 hb2))
  have KB4 := Lib.hid (KB.out.set HB3.out hp (by decide) 1 (.slice A4 (row.length + 1) c4))
  have O4 := Lib.hid (own_keptB (T := [130]) O2.out ((KeptB.refl base _ w3).set HB3.out hp (by decide) 1 (.slice A4 (row.length + 1) c4)) (by decide))
  have HM4 := Lib.hid (HM3.out.kept ((Kept.refl [p] w3).setCell (p := ⟨p, 1, none⟩) (.inl (by simp)) (.slice A4 (row.length + 1) c4)) (by have := NP.out; simpa using fun h => this h.symm))
  have HB4 := Lib.hid (show Blk (w3.setCell ⟨p, 1, none⟩ (.slice A4 (row.length + 1) c4)) p 130 (bxC room (.slice A4 (row.length + 1) c4) m1 m2 sent taken) from HB3.out.set 1 (.slice A4 (row.length + 1) c4))
  generalize w3.setCell ⟨p, 1, none⟩ (.slice A4 (row.length + 1) c4) = w4 at KB4 O4 HM4 HB4 ⊢
  clear KB O2 HM3 HB3 d1 f1 HM HB HO NM y1 hpl
  have y3 := HB4.out.cell 3
  have hpl := HB4.out.lt
  simp only [List.getElem?_cons_zero, List.getElem?_cons_succ] at y3
  go_wp2_with (first | (refine wpList_lookupB rfl (.tmp 17) (.tmp 18) _ false rfl 3 3 Try.underlying127 Try.underlying3 (.int .i64 0) (zeroInt _) m2 c2 l2 HM4.out rfl n rfl ?_; simp only [hq, Bool.false_eq_true, if_false]) | (refine wpList_updateB rfl (.tmp 17) (.tmp 18) (.tmp 20) _ rfl 3 3 Try.underlying127 Try.underlying3 m2 c2 l2 HM4.out rfl n rfl (.int .i64 (q + 1)) rfl ?_; intro w5 hm5 hk5))
  refine bodyPost_end (v := .tuple #[]) (by simp [results, Try.results91, go_sem]) rfl ?_
  refine ⟨rfl, _, _, w4, KB4.out, hk5, HB4.out.kept hk5 (by have := NP.out; simpa using this), ?_, hm5⟩
  exact own_kept (by simpa using O4.out) hk5 (fun g hg hm => by have := HM4.out.ne_own O4.out; simp at hm; subst hm; exact this (by rw [hg]; simp))
end
end Go.Proofs.Ytdjidnccockmmaa

/- The box: New. -/
namespace Go.Proofs.Ytdjidnccockmmaa
set_option linter.unusedSimpArgs false
set_option linter.unusedVariables false
open Go.ChangeShapes Go.WideShapes Go.ChangeAt Go.RowKit
open Go.RowKit (wrap32 wrap64)
set_option maxHeartbeats 8000000

theorem new_ok (room : Nat) (Fs : Int → Fr) (w : World) (h1 : 1 ≤ room) (h2 : room ≤ 64) :
    Calls Try.prog 43 #[.int .i64 room] w fun e w' => ∃ p m1 m2, e = .returned (.tuple #[.pointer (some ⟨p, 0, none⟩), .int .i64 0]) ∧ BxC w' w.heap.size p m1 m2 room [] 0 0 Fs (.slice none 0 0) [] [] 0 0 ∧ Kept [] w w' := by
  have hmm : ∀ (t : TypeId) (wx : World), (Instr.makeMap t none).run Try.prog wx = .ok (.map (some wx.heap.size)) (wx.alloc (.map #[] 0)) := fun _ _ => rfl
  go_enter Try.func43, Try.ntmps43
  have g1 : ¬ (room : Int) < 1 := by omega
  have g2 : ¬ (64 : Int) < (room : Int) := by omega
  go_wp2_with fail
  refine bodyPost_ret (results_tmp2 rfl _ _ _) rfl ?_
  refine ⟨w.heap.size + 1 + 1, rfl, ⟨w.heap.size, w.heap.size + 1, ?_⟩, (((Kept.refl _ _).alloc _).alloc _).alloc _⟩
  have e1 : ((w.alloc (.map #[] 0)).alloc (.map #[] 0)).heap.size = w.heap.size + 1 + 1 := by simp
  have b1 : MapB (w.alloc (.map #[] 0)) w.heap.size [] 0 := heap_alloc_new w _
  have b2 : MapB ((w.alloc (.map #[] 0)).alloc (.map #[] 0)) (w.heap.size + 1) [] 0 := by
    have := heap_alloc_new (w.alloc (.map #[] 0)) (.map #[] 0)
    rwa [show (w.alloc (.map #[] 0)).heap.size = w.heap.size + 1 by simp] at this
  refine ⟨by
      have := Blk.new ((w.alloc (.map #[] 0)).alloc (.map #[] 0)) 130 (bxC room (.slice none 0 0) w.heap.size (w.heap.size + 1) 0 0)
      rwa [e1] at this, World.ownsRow_nil _ _ _ _, (b1.kept ((Kept.refl [] _).alloc _) (by simp)).kept ((Kept.refl [] _).alloc _) (by simp), b2.kept ((Kept.refl [] _).alloc _) (by simp), by simp, by simp, fun _ _ => rfl, by omega, by omega, by omega, by omega, by simp, h2, by omega, by omega, by simp⟩
end Go.Proofs.Ytdjidnccockmmaa

/- The box: Send. -/
namespace Go.Proofs.Ytdjidnccockmmaa
set_option linter.unusedSimpArgs false
set_option linter.unusedVariables false
open Go.ChangeShapes Go.WideShapes Go.ChangeAt Go.RowKit
open Go.RowKit (wrap32 wrap64)
set_option maxHeartbeats 8000000

section
variable {P : Program} {md : Region.Mode} {ops : Array Oper} {o : Oper} {a : Act} {w : World} {K : Act → World → Prop} {Q : Exit → Act → World → Prop} {E : Prop}
/-- A map's entry is set, as one step of a region that draws. -/
theorem step_update (hg : o.guard = none) (m x y : Operand) (t : TypeId) (hop : o.op = Op.mapUpdate t m x y) (k e : TypeId) (ht : P.underlying t = some (.map k e)) (hk : P.underlying k = some (.int .i64))
    (b c : Nat) (l : List (Int × Value × Nat)) (h : MapB w b l c) (hm : a.eval m = .map (some b)) (n : Int) (hx : a.eval x = .int .i64 n) (v : Value) (hv : a.eval y = v)
    (hK : ∀ w', MapB w' b (putL n v c l) (if (findI n l 0).isSome then c else c + 1) → Kept [b] w w' → K (a.put o.dst undef) w') :
    if Region.wanted o (yielded ops a.tmps) = true then Oper.wp P o a w K Q else E := by
  have hw : Region.wanted o (yielded ops a.tmps) = true := by simp [Region.wanted, hg]
  rw [if_pos hw]
  obtain ⟨w', hrun, r1, r2⟩ := run_update_i ht hk h n v
  unfold Oper.wp
  simp [execOp, hop, hm, hx, hv, hrun, Result.andThen]
  exact hK w' r1 r2
end
section
variable {w : World} {base p m1 m2 room : Nat} {row : List Int} {sent taken : Nat} {Fs : Int → Fr} {v : Value} {l1 l2 : List (Int × Value × Nat)} {c1 c2 : Nat}
theorem own_keptMap {w w' : World} {e : TypeId} {size n base m c : Nat} {v : Value} {xs : List Value} {l : List (Int × Value × Nat)} (h : w.ownsRow base e size v n xs) (hk : Kept [m] w w') (hm : MapB w m l c) : w'.ownsRow base e size v n xs :=
  own_kept h hk (fun g hg hq => by have := hm.ne_own h; simp at hq; subst hq; exact this (by rw [hg]; simp))
theorem OwnF.keptMap {w w' : World} {base m c : Nat} {l : List (Int × Value × Nat)} {F : Fr} {v1 v2 v3 : Value} (h : OwnF w base F v1 v2 v3) (hk : Kept [m] w w') (hm : MapB w m l c) : OwnF w' base F v1 v2 v3 :=
  ⟨own_keptMap h.o1 hk hm, own_keptMap h.o2 hk hm, own_keptMap h.o3 hk hm⟩
theorem Blk.keptMap {w w' : World} {g m c : Nat} {t : TypeId} {cs : List Value} {l : List (Int × Value × Nat)} (h : Blk w g t cs) (hk : Kept [m] w w') (hm : MapB w m l c) : Blk w' g t cs := h.kept hk (by have := hm.ne_blk h; simpa using this)
/-- The frames, with one more. -/
def moreF (Fs : Int → Fr) (n : Int) (F : Fr) : Int → Fr := fun k => if k = n then { F with seq := n } else Fs k
set_option maxRecDepth 100000 in
theorem send_any (h : BxC w base p m1 m2 room row sent taken Fs v l1 l2 c1 c2) (F : Fr) (A1 A2 A3 : Option Addr) (k1 k2 k3 : Nat) (h1 : Reads w A1 (F.items.flatMap readV)) (h2 : Reads w A2 (F.sums.flatMap sumV)) (h3 : Reads w A3 (F.trips.flatMap tripV))
    (b1 : F.items.length ≤ 1048576) (b2 : F.sums.length ≤ 1048576) (b3 : F.trips.length ≤ 1048576) (hs : sent < 1048576) :
    Calls Try.prog 45 #[.pointer (some ⟨p, 0, none⟩), .agg (frC F A1 A2 A3 k1 k2 k3).toArray] w fun e w' =>
      (room ≤ row.length ∧ e = .returned (.int .i64 9) ∧ Kept [] w w') ∨
      (row.length < room ∧ e = .returned (.int .i64 0) ∧ KeptM base bxT m1 m2 w w' ∧ ∃ v' l1' l2' c1' c2', BxC w' base p m1 m2 room (row ++ [(sent : Int)]) (sent + 1) taken (moreF Fs sent F) v' l1' l2' c1' c2') := by
  have hbw : base ≤ w.heap.size := Nat.le_trans h.hp (Nat.le_of_lt h.blk.lt)
  have H := Lib.hid (h.kept0 ((Kept.refl [] w).alloc (.cells (frC F A1 A2 A3 k1 k2 k3).toArray 60)))
  have H1 := Lib.hid (h1.kept0 ((Kept.refl [] w).alloc (.cells (frC F A1 A2 A3 k1 k2 k3).toArray 60)))
  have H2 := Lib.hid (h2.kept0 ((Kept.refl [] w).alloc (.cells (frC F A1 A2 A3 k1 k2 k3).toArray 60)))
  have H3 := Lib.hid (h3.kept0 ((Kept.refl [] w).alloc (.cells (frC F A1 A2 A3 k1 k2 k3).toArray 60)))
  have HB := Lib.hid (Blk.new w 60 (frC F A1 A2 A3 k1 k2 k3))
  have K := Lib.hid ((Kept.refl [] w).alloc (.cells (frC F A1 A2 A3 k1 k2 k3).toArray 60))
  clear h h1 h2 h3
  go_enter Try.func45, Try.ntmps45
  go_wp2_with fail
  refine (full_any H.out).mono ?_
  rintro _ w1 ⟨rfl, hk1⟩
  have H := Lib.hid (H.out.kept0 hk1)
  have H1 := Lib.hid (H1.out.kept0 hk1)
  have H2 := Lib.hid (H2.out.kept0 hk1)
  have H3 := Lib.hid (H3.out.kept0 hk1)
  have HB := Lib.hid (HB.out.kept hk1 (by simp))
  have K := Lib.hid (K.out.trans hk1)
  clear hk1
  by_cases hr : room ≤ row.length
  · rw [decide_eq_true hr]
    go_wp2_with fail
    go_ret
    exact .inl ⟨hr, rfl, K.out⟩
  rw [decide_eq_false hr]
  have HR := Lib.hid (show row.length < room by omega)
  clear hr
  go_wp2_with (first | (refine wpList_loadBlk rfl 60 (.tmp 3) rfl w.heap.size (frC F A1 A2 A3 k1 k2 k3) _ HB.out rfl Try.underlying60 rfl infoFrame ?_))
  refine (own_any F A1 A2 A3 k1 k2 k3 _ H1.out H2.out H3.out b1 b2 b3).mono ?_
  rintro _ w2 ⟨v1, v2, v3, rfl, ho, hk2⟩
  obtain ⟨B1, C1, rfl⟩ := own_n ho.o1
  obtain ⟨B2, C2, rfl⟩ := own_n ho.o2
  obtain ⟨B3, C3, rfl⟩ := own_n ho.o3
  have O := Lib.hid (show OwnF w2 base F _ _ _ from ⟨own_le ho.o1 (Nat.le_trans hbw K.out.size), own_le ho.o2 (Nat.le_trans hbw K.out.size), own_le ho.o3 (Nat.le_trans hbw K.out.size)⟩)
  have H := Lib.hid (H.out.kept0 hk2)
  have HB := Lib.hid (HB.out.kept hk2 (by simp))
  have K := Lib.hid (K.out.trans hk2)
  clear hk2 ho H1 H2 H3
  go_upto_region 6 with (first | (refine wpList_storeBlk rfl 60 (.tmp 3) (.tmp 12) rfl w.heap.size _ (lsC F (.slice B1 F.items.length C1) (.slice B2 F.sums.length C2) (.slice B3 F.trips.length C3)) HB.out rfl rfl rfl infoFrame (by simp [Value.oneCell']) ?_; intro w3 hb3 hk3))
  have f3 : KeptB w.heap.size [60] w2 w3 := (KeptB.refl _ _ w2).step (L := [w.heap.size]) hk3 (fun m hm => by simp at hm; subst hm; exact ⟨Nat.le_refl _, _, _, _, HB.out, by simp⟩)
  have O := Lib.hid (O.out.keptB f3 (by decide) (by decide) (by decide))
  have H := Lib.hid (H.out.keptB f3 (by decide) (by decide) (by decide) (by decide) (by decide))
  have K := Lib.hid (K.out.thenB f3 (Nat.le_refl _))
  have HB := Lib.hid hb3
  clear f3 hb3 hk3
  have y4 := H.out.blk.cell 4
  have yf := HB.out.frozen 3
  have yc := HB.out.cell 3
  have yl := HB.out.lt
  simp only [List.getElem?_cons_zero, List.getElem?_cons_succ] at y4 yc
  go_upto_region 7 with (fail)
  have f4 : KeptB w.heap.size [60] w3 (w3.setCell ⟨w.heap.size, 3, none⟩ (.int .i64 sent)) := (KeptB.refl _ _ w3).set HB.out (Nat.le_refl _) (by decide) 3 _
  have O := Lib.hid (O.out.keptB f4 (by decide) (by decide) (by decide))
  have H := Lib.hid (H.out.keptB f4 (by decide) (by decide) (by decide) (by decide) (by decide))
  have K := Lib.hid (K.out.thenB f4 (Nat.le_refl _))
  have HB := Lib.hid (show Blk (w3.setCell ⟨w.heap.size, 3, none⟩ (.int .i64 sent)) w.heap.size 60 (lsC { F with seq := sent } (.slice B1 F.items.length C1) (.slice B2 F.sums.length C2) (.slice B3 F.trips.length C3)) from HB.out.set 3 _)
  clear f4
  generalize w3.setCell ⟨w.heap.size, 3, none⟩ (.int .i64 sent) = w4 at O H K HB ⊢
  clear y4 yf yc yl
  have y2 := H.out.blk.cell 2
  simp only [List.getElem?_cons_zero, List.getElem?_cons_succ] at y2
  refine wp_region_held_drew (S := fun w' => w'.cell? ⟨p, 2, none⟩ = some (.map (some m1)) ∧ Blk w' w.heap.size 60 (lsC { F with seq := sent } (.slice B1 F.items.length C1) (.slice B2 F.sums.length C2) (.slice B3 F.trips.length C3))) (by kernel_rfl) ?_ (fun hHeld => ?_)
  · exact ⟨y2, HB.out.drew⟩
  refine tkYes (i := 0) (v := ?_) rfl rfl (by kernel_rfl) (by kernel_rfl) (by kernel_rfl) (fun _ _ _ h => h) (by rfl) ?_ (by assumption) ?_
  rotate_left
  · (intro w' hSw; obtain ⟨y2', hb'⟩ := hSw; have g0 := hb'.cell 0; have g1 := hb'.cell 1; have g2 := hb'.cell 2; have g3 := hb'.cell 3; have g4 := hb'.cell 4; have g5 := hb'.cell 5; have g6 := hb'.cell 6; have g7 := hb'.cell 7; have g8 := hb'.cell 8; have g9 := hb'.cell 9; have g10 := hb'.cell 10; simp only [List.getElem?_cons_zero, List.getElem?_cons_succ] at g0 g1 g2 g3 g4 g5 g6 g7 g8 g9 g10; go_simp; try with_reducible rfl)
  try simp only [Act.put, List.setIfInBounds_toArray, List.set_cons_zero, List.set_cons_succ]
  refine tkYes (i := 1) (v := ?_) rfl rfl (by kernel_rfl) (by kernel_rfl) (by kernel_rfl) (fun _ _ _ h => h) (by rfl) ?_ (by assumption) ?_
  rotate_left
  · (intro w' hSw; obtain ⟨y2', hb'⟩ := hSw; have g0 := hb'.cell 0; have g1 := hb'.cell 1; have g2 := hb'.cell 2; have g3 := hb'.cell 3; have g4 := hb'.cell 4; have g5 := hb'.cell 5; have g6 := hb'.cell 6; have g7 := hb'.cell 7; have g8 := hb'.cell 8; have g9 := hb'.cell 9; have g10 := hb'.cell 10; simp only [List.getElem?_cons_zero, List.getElem?_cons_succ] at g0 g1 g2 g3 g4 g5 g6 g7 g8 g9 g10; go_simp; try with_reducible rfl)
  try simp only [Act.put, List.setIfInBounds_toArray, List.set_cons_zero, List.set_cons_succ]
  refine tkYes (i := 2) (v := ?_) rfl rfl (by kernel_rfl) (by kernel_rfl) (by kernel_rfl) (fun _ _ _ h => h) (by rfl) ?_ (by assumption) ?_
  rotate_left
  · (intro w' hSw; obtain ⟨y2', hb'⟩ := hSw; have g0 := hb'.cell 0; have g1 := hb'.cell 1; have g2 := hb'.cell 2; have g3 := hb'.cell 3; have g4 := hb'.cell 4; have g5 := hb'.cell 5; have g6 := hb'.cell 6; have g7 := hb'.cell 7; have g8 := hb'.cell 8; have g9 := hb'.cell 9; have g10 := hb'.cell 10; simp only [List.getElem?_cons_zero, List.getElem?_cons_succ] at g0 g1 g2 g3 g4 g5 g6 g7 g8 g9 g10; go_simp; try with_reducible rfl)
  try simp only [Act.put, List.setIfInBounds_toArray, List.set_cons_zero, List.set_cons_succ]
  refine tkYes (i := 3) (v := ?_) rfl rfl (by kernel_rfl) (by kernel_rfl) (by kernel_rfl) (fun _ _ _ h => h) (by rfl) ?_ (by assumption) ?_
  rotate_left
  · (intro w' hSw; obtain ⟨y2', hb'⟩ := hSw; have g0 := hb'.cell 0; have g1 := hb'.cell 1; have g2 := hb'.cell 2; have g3 := hb'.cell 3; have g4 := hb'.cell 4; have g5 := hb'.cell 5; have g6 := hb'.cell 6; have g7 := hb'.cell 7; have g8 := hb'.cell 8; have g9 := hb'.cell 9; have g10 := hb'.cell 10; simp only [List.getElem?_cons_zero, List.getElem?_cons_succ] at g0 g1 g2 g3 g4 g5 g6 g7 g8 g9 g10; go_simp; try with_reducible rfl)
  try simp only [Act.put, List.setIfInBounds_toArray, List.set_cons_zero, List.set_cons_succ]
  refine tkYes (i := 4) (v := ?_) rfl rfl (by kernel_rfl) (by kernel_rfl) (by kernel_rfl) (fun _ _ _ h => h) (by rfl) ?_ (by assumption) ?_
  rotate_left
  · (intro w' hSw; obtain ⟨y2', hb'⟩ := hSw; have g0 := hb'.cell 0; have g1 := hb'.cell 1; have g2 := hb'.cell 2; have g3 := hb'.cell 3; have g4 := hb'.cell 4; have g5 := hb'.cell 5; have g6 := hb'.cell 6; have g7 := hb'.cell 7; have g8 := hb'.cell 8; have g9 := hb'.cell 9; have g10 := hb'.cell 10; simp only [List.getElem?_cons_zero, List.getElem?_cons_succ] at g0 g1 g2 g3 g4 g5 g6 g7 g8 g9 g10; go_simp; try with_reducible rfl)
  try simp only [Act.put, List.setIfInBounds_toArray, List.set_cons_zero, List.set_cons_succ]
  refine tkYes (i := 5) (v := ?_) rfl rfl (by kernel_rfl) (by kernel_rfl) (by kernel_rfl) (fun _ _ _ h => h) (by rfl) ?_ (by assumption) ?_
  rotate_left
  · (intro w' hSw; obtain ⟨y2', hb'⟩ := hSw; have g0 := hb'.cell 0; have g1 := hb'.cell 1; have g2 := hb'.cell 2; have g3 := hb'.cell 3; have g4 := hb'.cell 4; have g5 := hb'.cell 5; have g6 := hb'.cell 6; have g7 := hb'.cell 7; have g8 := hb'.cell 8; have g9 := hb'.cell 9; have g10 := hb'.cell 10; simp only [List.getElem?_cons_zero, List.getElem?_cons_succ] at g0 g1 g2 g3 g4 g5 g6 g7 g8 g9 g10; go_simp; try with_reducible rfl)
  try simp only [Act.put, List.setIfInBounds_toArray, List.set_cons_zero, List.set_cons_succ]
  refine tkYes (i := 6) (v := ?_) rfl rfl (by kernel_rfl) (by kernel_rfl) (by kernel_rfl) (fun _ _ _ h => h) (by rfl) ?_ (by assumption) ?_
  rotate_left
  · (intro w' hSw; obtain ⟨y2', hb'⟩ := hSw; have g0 := hb'.cell 0; have g1 := hb'.cell 1; have g2 := hb'.cell 2; have g3 := hb'.cell 3; have g4 := hb'.cell 4; have g5 := hb'.cell 5; have g6 := hb'.cell 6; have g7 := hb'.cell 7; have g8 := hb'.cell 8; have g9 := hb'.cell 9; have g10 := hb'.cell 10; simp only [List.getElem?_cons_zero, List.getElem?_cons_succ] at g0 g1 g2 g3 g4 g5 g6 g7 g8 g9 g10; go_simp; try with_reducible rfl)
  try simp only [Act.put, List.setIfInBounds_toArray, List.set_cons_zero, List.set_cons_succ]
  refine wpAnyH_ready (rs := [7]) (by kernel_rfl) (by simp) ?_
  refine AllReadyH.cons rfl (fun K hK => ?_) AllReadyH.nil
  refine step_update rfl (.tmp 21) (.tmp 23) (.tmp 24) _ rfl 3 60 Try.underlying126 Try.underlying3 m1 c1 l1 H.out.by_.drew rfl sent rfl _ rfl ?_
  intro w5 hm5 hk5
  refine hK.out _ _ ?_ (fun hHeld2 => ?_)
  · exact ⟨by have := (H.out.blk.drew.keptMap hk5 H.out.by_.drew).cell 2; simpa using this, HB.out.drew.keptMap hk5 H.out.by_.drew⟩
  clear hK K
  try simp only [Act.put, List.setIfInBounds_toArray, List.set_cons_zero, List.set_cons_succ]
  refine wpAnyH_done (by kernel_rfl) ?_ _
  clear y2 hHeld hHeld2
  have HP := Lib.hid (H.out.blk.drew.keptMap hk5 H.out.by_.drew)
  have HO := Lib.hid (own_keptMap (w := w4.drew) (own_kept0 H.out.rowO ((Kept.refl [] w4).drew)) hk5 H.out.by_.drew)
  have HM := Lib.hid (H.out.often.drew.kept hk5 (by have := H.out.ne; simpa using fun h => this h.symm))
  have HG := Lib.hid (HB.out.drew.keptMap hk5 H.out.by_.drew)
  have O5 := Lib.hid ((O.out.keptB (KeptB.of_kept0 (base := 0) (T := []) ((Kept.refl [] w4).drew)) (by simp) (by simp) (by simp)).keptMap hk5 H.out.by_.drew)
  have HF := Lib.hid (show ∀ n ∈ row, ∃ v1 v2 v3, getL n l1 = some (.agg (lsC (Fs n) v1 v2 v3).toArray) ∧ OwnF w5 base (Fs n) v1 v2 v3 from fun n hn => by
    obtain ⟨v1, v2, v3, e, o⟩ := H.out.frs n hn
    exact ⟨v1, v2, v3, e, (o.keptB (KeptB.of_kept0 (base := 0) (T := []) ((Kept.refl [] w4).drew)) (by simp) (by simp) (by simp)).keptMap hk5 H.out.by_.drew⟩)
  have KM := Lib.hid (show KeptM base bxT m1 m2 w w5 from (KeptM.of_kept0 K.out.drew).map1 hk5 H.out.h1)
  have HM1 := Lib.hid hm5
  clear hm5 hk5
  simp only [List.getElem_toArray, List.getElem_cons_succ, List.getElem_cons_zero]
  have g3 := HG.out.cell 3
  have gl := HG.out.lt
  simp only [List.getElem?_cons_zero, List.getElem?_cons_succ] at g3
  go_wp2_with fail
  refine (bput_any sent 0 (by omega) (by omega) HP.out HO.out HM.out (by rw [H.out.new sent (Int.le_refl _)]; rfl) H.out.hp (Nat.le_trans hbw (Nat.le_of_lt gl)) (by have := H.out.fit; omega)).mono ?_
  rintro _ w6 ⟨rfl, v6, c6, wm, kb, km, hbp, how, hmm⟩
  have HMm := HM.out.keptB kb
  have HF6 := Lib.hid (show ∀ n ∈ row, ∃ v1 v2 v3, getL n l1 = some (.agg (lsC (Fs n) v1 v2 v3).toArray) ∧ OwnF w6 base (Fs n) v1 v2 v3 from fun n hn => by
    obtain ⟨v1, v2, v3, e, o⟩ := HF.out n hn
    exact ⟨v1, v2, v3, e, (o.keptB kb (by decide) (by decide) (by decide)).keptMap km HMm⟩)
  have O6 := Lib.hid ((O5.out.keptB kb (by decide) (by decide) (by decide)).keptMap km HMm)
  have HM16 := Lib.hid ((HM1.out.keptB kb).kept km (by have := H.out.ne; simpa using this))
  have KM6 := Lib.hid ((KM.out.thenB kb).map2 km H.out.h2)
  have HP6 := Lib.hid hbp
  have HO6 := Lib.hid how
  have HM6 := Lib.hid hmm
  clear HMm kb km hbp how hmm g3 gl
  have y4 := HP6.out.cell 4
  have yf := HP6.out.frozen 4
  have yl := HP6.out.lt
  simp only [List.getElem?_cons_zero, List.getElem?_cons_succ] at y4
  have hs64 : (sent : Int) + 1 ≤ 1048576 := by omega
  go_wp2_with fail
  go_ret
  have f7 : KeptB base [130] w6 (w6.setCell ⟨p, 4, none⟩ (.int .i64 ((sent : Int) + 1))) := (KeptB.refl _ _ w6).set HP6.out H.out.hp (by decide) 4 _
  refine .inr ⟨HR.out, rfl, KM6.out.thenB (f7.mono (by decide)), v6, putL sent (.agg (lsC { F with seq := sent } (.slice B1 F.items.length C1) (.slice B2 F.sums.length C2) (.slice B3 F.trips.length C3)).toArray) c1 l1, putL sent (.int .i64 (0 + 1)) c2 l2, (if (findI sent l1 0).isSome then c1 else c1 + 1), c6, ?_⟩
  have hni : (sent : Int) ∉ row := fun hm => by have := (H.out.inn _ hm).2; omega
  have hne : ∀ n ∈ row, n ≠ (sent : Int) := fun n hn hq => hni (hq ▸ hn)
  have hb := HP6.out.set 4 (.int .i64 ((sent : Int) + 1))
  refine ⟨by simpa [bxC] using hb, by have := own_keptB HO6.out f7 (by decide); simpa using this, HM16.out.keptB f7, HM6.out.keptB f7, ?_, ?_, ?_, H.out.hp, H.out.h1, H.out.h2, H.out.ne, ?_, H.out.rm, by omega, Nat.le_succ_of_le H.out.tk, ?_⟩
  · intro n hn
    by_cases hq : n = sent
    · subst hq
      have o := O6.out.keptB f7 (by decide) (by decide) (by decide)
      exact ⟨.slice B1 F.items.length C1, .slice B2 F.sums.length C2, .slice B3 F.trips.length C3, by rw [getL_put_same]; simp [moreF], by simpa [moreF] using (⟨o.1, o.2, o.3⟩ : OwnF _ base { F with seq := (sent : Int) } _ _ _)⟩
    · have hn' : n ∈ row := by simpa [hq] using hn
      obtain ⟨v1, v2, v3, e, o⟩ := HF6.out n hn'
      exact ⟨v1, v2, v3, by rw [getL_put_ne hq]; simpa [moreF, hq] using e, by simpa [moreF, hq] using o.keptB f7 (by decide) (by decide) (by decide)⟩
  · intro n hn
    by_cases hq : n = sent
    · subst hq
      rw [getL_put_same, List.count_append, List.count_eq_zero_of_not_mem hni]
      simp
    · have hn' : n ∈ row := by simpa [hq] using hn
      rw [getL_put_ne hq, H.out.cnt n hn', List.count_append]
      simp [List.count_singleton, Ne.symm hq]
  · intro n hn
    rw [getL_put_ne (by omega)]
    exact H.out.new n (by omega)
  · have := HR.out
    have := H.out.rm
    simp
    omega
  · intro n hn
    rcases List.mem_append.1 hn with hn | hn
    · have := H.out.inn n hn
      omega
    · simp at hn
      omega
end
end Go.Proofs.Ytdjidnccockmmaa

/- The box: Double, Move. -/
namespace Go.Proofs.Ytdjidnccockmmaa
set_option linter.unusedSimpArgs false
set_option linter.unusedVariables false
open Go.ChangeShapes Go.WideShapes Go.ChangeAt Go.RowKit
open Go.RowKit (wrap32 wrap64)
set_option maxHeartbeats 8000000

section
variable {w : World} {base p m1 m2 room : Nat} {row : List Int} {sent taken : Nat} {Fs : Int → Fr} {v : Value} {l1 l2 : List (Int × Value × Nat)} {c1 c2 : Nat}
theorem row_at {w : World} {base n : Nat} {row : List Int} {v : Value} (h : w.ownsRow base 3 1 v n (row.map (.int .i64))) (h0 : 0 < n) :
    ∃ g cap, v = .slice (some ⟨g, 0, none⟩) n cap ∧ n ≤ cap ∧ cap ≤ maxLen ∧ ∀ j (hj : j < row.length), w.cell? ⟨g, j, none⟩ = some (.int .i64 row[j]) := by
  obtain ⟨g, cap, rfl, _, hgl, hc, hmx, hl, hH⟩ := Go.Lib.holds_of_ownsRow h (own_not_nil h h0)
  exact ⟨g, cap, rfl, hc, hmx, fun j hj => by
    have := (hH j (by simpa using hj)).1
    simpa [getElem!_pos, hj] using this⟩
theorem double_any (h : BxC w base p m1 m2 room row sent taken Fs v l1 l2 c1 c2) (k : Int) :
    Calls Try.prog 46 #[.pointer (some ⟨p, 0, none⟩), .int .i64 k] w fun e w' =>
      ∃ r : Int, e = .returned (.int .i64 r) ∧ KeptM base bxT m1 m2 w w' ∧ ∃ row' v' l2' c2', (row' = row ∨ ∃ n ∈ row, row' = row ++ [n]) ∧ BxC w' base p m1 m2 room row' sent taken Fs v' l1 l2' c1 c2' := by
  have H := Lib.hid h
  clear h
  go_enter Try.func46, Try.ntmps46
  go_wp2_with fail
  refine (place_any H.out k).mono ?_
  rintro _ w1 ⟨rfl, rfl⟩
  by_cases hk : 0 ≤ k ∧ k < row.length
  · rw [show atE row.length k = 0 from if_pos hk]
    go_wp2_with fail
    refine (full_any H.out).mono ?_
    rintro _ w2 ⟨rfl, hk2⟩
    have KM := Lib.hid (KeptM.of_kept0 (base := base) (T := bxT) (m1 := m1) (m2 := m2) hk2)
    have H := Lib.hid (H.out.kept0 hk2)
    by_cases hr : room ≤ row.length
    · rw [decide_eq_true hr]
      clear hk2 hr
      go_wp2_with fail
      go_ret
      exact ⟨9, rfl, KM.out, row, v, l2, c2, .inl rfl, H.out⟩
    · rw [decide_eq_false hr]
      have HR := Lib.hid (show row.length < room by omega)
      clear hk2 hr
      obtain ⟨q, rfl⟩ : ∃ q : Nat, k = q := ⟨k.toNat, by omega⟩
      have hq : q < row.length := by omega
      obtain ⟨g, cap, rfl, hc, hm, hcell⟩ := row_at H.out.rowO (by omega)
      have HC := Lib.hid hcell
      clear hcell
      have hx := HC.out q hq
      have y1 := H.out.blk.cell 1
      simp only [List.getElem?_cons_zero, List.getElem?_cons_succ] at y1
      unfold maxLen at hm
      go_wp2_with fail
      have hmem : row[q] ∈ row := List.getElem_mem hq
      have hct := List.count_le_length (a := row[q]) (l := row)
      have hft := H.out.fit
      refine (bput_any row[q] (row.count row[q]) (by omega) (by omega) H.out.blk H.out.rowO H.out.often (by rw [H.out.cnt _ hmem]; rfl) H.out.hp (Nat.le_trans H.out.hp (Nat.le_of_lt H.out.blk.lt)) (by omega)).mono ?_
      rintro _ w6 ⟨rfl, v6, c6, wm, kb, km, hbp, how, hmm⟩
      have HMm := H.out.often.keptB kb
      have HB6 := Lib.hid (show BxC w6 base p m1 m2 room (row ++ [row[q]]) sent taken Fs v6 l1 (putL row[q] (.int .i64 (row.count row[q] + 1)) c2 l2) c1 c6 from by
        refine ⟨hbp, by simpa using how, (H.out.by_.keptB kb).kept km (by have := H.out.ne; simpa using this), hmm, ?_, ?_, ?_, H.out.hp, H.out.h1, H.out.h2, H.out.ne, ?_, H.out.rm, H.out.sn, H.out.tk, ?_⟩
        · intro n hn
          have hn' : n ∈ row := by
            rcases List.mem_append.1 hn with hn | hn
            · exact hn
            · simp at hn; subst hn; exact hmem
          obtain ⟨v1, v2, v3, e, o⟩ := H.out.frs n hn'
          exact ⟨v1, v2, v3, e, (o.keptB kb (by decide) (by decide) (by decide)).keptMap km HMm⟩
        · intro n hn
          by_cases hz : n = row[q]
          · subst hz
            rw [getL_put_same, List.count_append]
            simp
          · have hn' : n ∈ row := by
              rcases List.mem_append.1 hn with hn | hn
              · exact hn
              · simp at hn; exact absurd hn hz
            rw [getL_put_ne hz, H.out.cnt n hn', List.count_append]
            simp [List.count_singleton, Ne.symm hz]
        · intro n hn
          have := (H.out.inn _ hmem).2
          rw [getL_put_ne (by omega)]
          exact H.out.new n hn
        · have := HR.out
          have := H.out.rm
          simp
          omega
        · intro n hn
          rcases List.mem_append.1 hn with hn | hn
          · exact H.out.inn n hn
          · simp at hn; subst hn; exact H.out.inn _ hmem)
      have KM6 := Lib.hid ((KM.out.thenB kb).map2 km H.out.h2)
      have HMEM := Lib.hid hmem
      clear HMm kb km hbp how hmm hmem hct
      go_wp2_with fail
      go_ret
      exact ⟨0, rfl, KM6.out, _, _, _, _, .inr ⟨_, HMEM.out, rfl⟩, HB6.out⟩
  · rw [show atE row.length k = 3 from if_neg hk]
    clear hk
    go_wp2_with fail
    go_ret
    exact ⟨3, rfl, KeptM.refl _, row, v, l2, c2, .inl rfl, H.out⟩
end
end Go.Proofs.Ytdjidnccockmmaa

/- The box: Move. -/
namespace Go.Proofs.Ytdjidnccockmmaa
set_option linter.unusedSimpArgs false
set_option linter.unusedVariables false
open Go.ChangeShapes Go.WideShapes Go.ChangeAt Go.RowKit
open Go.RowKit (wrap32 wrap64)
set_option maxHeartbeats 8000000

theorem erase_perm {α : Type} : ∀ (l : List α) (q : Nat) (h : q < l.length), (l[q] :: l.eraseIdx q).Perm l
  | [], _, h => absurd h (by simp)
  | x :: l, 0, _ => by simp
  | x :: l, q + 1, h => by
    have h' : q < l.length := by simpa using h
    simp only [List.getElem_cons_succ, List.eraseIdx_cons_succ]
    exact (List.Perm.swap x l[q] _).trans ((erase_perm l q h').cons x)
section
variable {w : World} {base p m1 m2 room : Nat} {row : List Int} {sent taken : Nat} {Fs : Int → Fr} {v : Value} {l1 l2 : List (Int × Value × Nat)} {c1 c2 : Nat}
theorem move_any (h : BxC w base p m1 m2 room row sent taken Fs v l1 l2 c1 c2) (k : Int) :
    Calls Try.prog 47 #[.pointer (some ⟨p, 0, none⟩), .int .i64 k] w fun e w' =>
      ∃ r : Int, e = .returned (.int .i64 r) ∧ KeptM base bxT m1 m2 w w' ∧ ∃ row' v', row'.Perm row ∧ BxC w' base p m1 m2 room row' sent taken Fs v' l1 l2 c1 c2 := by
  have H := Lib.hid h
  clear h
  go_enter Try.func47, Try.ntmps47
  go_wp2_with fail
  refine (place_any H.out k).mono ?_
  rintro _ w1 ⟨rfl, rfl⟩
  by_cases hk : 0 ≤ k ∧ k < row.length
  · rw [show atE row.length k = 0 from if_pos hk]
    obtain ⟨q, rfl⟩ : ∃ q : Nat, k = q := ⟨k.toNat, by omega⟩
    have hq : q < row.length := by omega
    have y1 := H.out.blk.cell 1
    have hrow := Lib.hid H.out.rowO
    obtain ⟨g, cap, rfl, hc, hm, hcell⟩ := row_at H.out.rowO (by omega)
    have HC := Lib.hid hcell
    clear hcell
    have hx := HC.out q hq
    have hfit := H.out.fit
    simp only [List.getElem?_cons_zero, List.getElem?_cons_succ] at y1
    unfold maxLen at hm
    go_wp2_with fail
    refine (show Calls Try.prog 93 #[.slice (some ⟨g, 0, none⟩) row.length cap, .int .i64 q, .int .i64 ((q : Int) + 1)] _ _ from by
      have := delete_any row q row.length base _ _ rfl hrow.out hq
      simpa using this).mono ?_
    rintro _ w2 ⟨v2, rfl, ho2, _, hk2⟩
    obtain ⟨A2, k2, rfl⟩ := own_n ho2
    have kd : KeptB base bxT w1 w2 := (KeptB.refl _ _ _).app hk2 hrow.out (by decide)
    have kd' : KeptB base [3] w1 w2 := (KeptB.refl _ _ _).app hk2 hrow.out (by decide)
    have HO := Lib.hid ho2
    have HB := Lib.hid (H.out.blk.keptB kd' (by decide))
    have KD := Lib.hid kd
    have NE := Lib.hid (own_ne_blk ho2 HB.out (by decide))
    have hbase := Nat.le_trans H.out.hp (Nat.le_of_lt HB.out.lt)
    have hpl := HB.out.lt
    clear kd kd' ho2 hk2 y1 hx HC
    go_upto_region 6 with (first | (at_builtin; refine wpList_app _ rfl (.tmp 28) (.tmp 30) _ rfl 3 (.int .i64 0) 1 8 Try.underlying128 infoInt rfl (by decide) base (.slice A2 (row.length - 1) k2) _ _ rfl (HO.out.alloc _) (some ⟨_, 0, none⟩) 1 1 [.int .i64 row[q]] rfl (by simp) (Reads.of_blk (Blk.new _ _ _) (fun _ _ h => h)) (by simp [Value.oneCell']) (by omega) (by unfold maxLen; omega) (by simp; omega) ?_; intro v3 w3 hown3 hk3 hb3; obtain ⟨A4, c4, rfl⟩ := own_n hown3; have HB3 := Lib.hid ((HB.out.alloc _).kept hk3 (by have := NE.out; simpa using this)); have d1 := HB3.out.cell 1; have f1 := HB3.out.frozen 1; simp only [List.getElem?_cons_zero, List.getElem?_cons_succ] at d1; have KB := Lib.hid ((KD.out.alloc _).app hk3 (HO.out.alloc _) (by decide)); have O3 := Lib.hid hown3; clear hown3 hk3 hb3))
    have KB4 := Lib.hid (KB.out.set HB3.out H.out.hp (by decide) 1 (.slice A4 (row.length - 1 + 1) c4))
    have O4 := Lib.hid (own_keptB (T := [130]) O3.out ((KeptB.refl base _ w3).set HB3.out H.out.hp (by decide) 1 (.slice A4 (row.length - 1 + 1) c4)) (by decide))
    have HB4 := Lib.hid (show Blk (w3.setCell ⟨p, 1, none⟩ (.slice A4 (row.length - 1 + 1) c4)) p 130 (bxC room (.slice A4 (row.length - 1 + 1) c4) m1 m2 sent taken) from HB3.out.set 1 _)
    generalize w3.setCell ⟨p, 1, none⟩ (.slice A4 (row.length - 1 + 1) c4) = w4 at KB4 O4 HB4 ⊢
    have hP : (row.eraseIdx q ++ [row[q]]).Perm row := by
      refine List.perm_append_comm.trans ?_
      exact erase_perm row q hq
    have hL : row.length - 1 + 1 = (row.eraseIdx q ++ [row[q]]).length := by rw [hP.length_eq]; omega
    have H4 := Lib.hid (show BxC w4 base p m1 m2 room (row.eraseIdx q ++ [row[q]]) sent taken Fs (.slice A4 (row.length - 1 + 1) c4) l1 l2 c1 c2 from by
      refine ⟨HB4.out, ?_, H.out.by_.keptB KB4.out, H.out.often.keptB KB4.out, ?_, ?_, H.out.new, H.out.hp, H.out.h1, H.out.h2, H.out.ne, by rw [hP.length_eq]; exact H.out.fit, H.out.rm, H.out.sn, H.out.tk, fun n hn => H.out.inn n (hP.mem_iff.1 hn)⟩
      · rw [← hL]
        have := O4.out
        simpa using this
      · intro n hn
        obtain ⟨v1, v2, v3, e, o⟩ := H.out.frs n (hP.mem_iff.1 hn)
        exact ⟨v1, v2, v3, e, o.keptB KB4.out (by decide) (by decide) (by decide)⟩
      · intro n hn
        rw [H.out.cnt n (hP.mem_iff.1 hn), hP.count_eq])
    have HP := Lib.hid hP
    clear hP hL d1 f1 KB O3 HB3
    go_wp2_with fail
    go_ret
    exact ⟨0, rfl, .of_keptB KB4.out, _, _, HP.out, H4.out⟩
  · rw [show atE row.length k = 3 from if_neg hk]
    clear hk
    go_wp2_with fail
    go_ret
    exact ⟨3, rfl, KeptM.refl _, row, v, .refl _, H.out⟩
end
end Go.Proofs.Ytdjidnccockmmaa

namespace Go.Proofs.Ytdjidnccockmmaa
set_option linter.unusedSimpArgs false
set_option linter.unusedVariables false
open Go.ChangeShapes Go.WideShapes Go.ChangeAt Go.RowKit
open Go.RowKit (wrap32 wrap64)
set_option maxHeartbeats 8000000

theorem KeptM.thenNew {base m1 m2 g : Nat} {T : List TypeId} {a b c : World} (h : KeptM base T m1 m2 a b) (k : Kept [g] b c) (hg : a.heap.size ≤ g) : KeptM base T m1 m2 a c :=
  ⟨k.os.trans h.os, k.tape.trans h.tape, k.output.trans h.output, Nat.le_trans h.size k.size, fun i hi ht =>
    (k.block i (Nat.lt_of_lt_of_le hi h.size) (by simp; omega)).trans (h.block i hi ht)⟩
theorem count_erase {row : List Int} {q : Nat} (hq : q < row.length) (n : Int) : row.count n = (row.eraseIdx q).count n + if n = row[q] then 1 else 0 := by
  rw [← (erase_perm row q hq).count_eq, List.count_cons]
  by_cases h : n = row[q]
  · rw [if_pos h, if_pos (by simp [h])]
  · rw [if_neg h, if_neg (by simpa using Ne.symm h)]
theorem mem_erase {row : List Int} {q : Nat} (hq : q < row.length) {n : Int} (h : n ∈ row.eraseIdx q) : n ∈ row := (erase_perm row q hq).mem_iff.1 (List.mem_cons_of_mem _ h)
section
variable {w : World} {base p m1 m2 room : Nat} {row : List Int} {sent taken : Nat} {Fs : Int → Fr} {v : Value} {l1 l2 : List (Int × Value × Nat)} {c1 c2 : Nat}
theorem BxC.shrink (h : BxC w base p m1 m2 room row sent taken Fs v l1 l2 c1 c2) {q : Nat} (hq : q < row.length) {w' : World} {v' : Value} {l1' l2' : List (Int × Value × Nat)} {c1' c2' : Nat}
    (hb : Blk w' p 130 (bxC room v' m1 m2 sent taken)) (ho : w'.ownsRow base 3 1 v' (row.length - 1) ((row.eraseIdx q).map (.int .i64))) (hm1 : MapB w' m1 l1' c1') (hm2 : MapB w' m2 l2' c2')
    (hfr : ∀ n ∈ row, ∃ v1 v2 v3, getL n l1 = some (.agg (lsC (Fs n) v1 v2 v3).toArray) ∧ OwnF w' base (Fs n) v1 v2 v3)
    (hf : ∀ n ∈ row.eraseIdx q, getL n l1' = getL n l1) (hc : ∀ n ∈ row.eraseIdx q, getL n l2' = some (.int .i64 ((row.eraseIdx q).count n))) (hn : ∀ n : Int, sent ≤ n → getL n l2' = getL n l2) :
    BxC w' base p m1 m2 room (row.eraseIdx q) sent taken Fs v' l1' l2' c1' c2' := by
  have hl : (row.eraseIdx q).length = row.length - 1 := by rw [List.length_eraseIdx, if_pos hq]
  refine ⟨hb, by rw [hl]; exact ho, hm1, hm2, fun n hn => ?_, hc, fun n h1 => by rw [hn n h1]; exact h.new n h1, h.hp, h.h1, h.h2, h.ne, by rw [hl]; have := h.fit; omega, h.rm, h.sn, h.tk, fun n hn => h.inn n (mem_erase hq hn)⟩
  obtain ⟨v1, v2, v3, e, o⟩ := hfr n (mem_erase hq hn)
  exact ⟨v1, v2, v3, by rw [hf n hn]; exact e, o⟩
theorem BxC.one (h : BxC w base p m1 m2 room row sent taken Fs v l1 l2 c1 c2) {q : Nat} (hq : q < row.length) (hone : row.count row[q] = 1) (x y : Value) (d : Nat) :
    (∀ n ∈ row.eraseIdx q, getL n (delL row[q] l1) = getL n l1) ∧ (∀ n ∈ row.eraseIdx q, getL n (delL row[q] (putL row[q] x d l2)) = some (.int .i64 ((row.eraseIdx q).count n))) ∧ (∀ n : Int, sent ≤ n → getL n (delL row[q] (putL row[q] x d l2)) = getL n l2) := by
  have hne : ∀ n ∈ row.eraseIdx q, n ≠ row[q] := fun n hn e => by
    have := count_erase hq n
    rw [if_pos e, e, hone] at this
    have h2 := List.count_pos_iff.2 hn
    rw [e] at h2
    omega
  refine ⟨fun n hn => getL_del_ne (hne n hn) _, fun n hn => ?_, fun n hn => ?_⟩
  · rw [getL_del_ne (hne n hn), getL_put_ne (hne n hn), h.cnt n (mem_erase hq hn), count_erase hq n, if_neg (hne n hn)]
    rfl
  · have := (h.inn row[q] (List.getElem_mem hq)).2
    rw [getL_del_ne (by omega), getL_put_ne (by omega)]
theorem BxC.many (h : BxC w base p m1 m2 room row sent taken Fs v l1 l2 c1 c2) {q : Nat} (hq : q < row.length) (d : Nat) :
    (∀ n ∈ row.eraseIdx q, getL n (putL row[q] (.int .i64 ((row.count row[q] : Int) - 1)) d l2) = some (.int .i64 ((row.eraseIdx q).count n))) ∧ (∀ n : Int, sent ≤ n → getL n (putL row[q] (.int .i64 ((row.count row[q] : Int) - 1)) d l2) = getL n l2) := by
  refine ⟨fun n hn => ?_, fun n hn => ?_⟩
  · have hc := count_erase hq n
    by_cases e : n = row[q]
    · rw [if_pos e] at hc
      rw [← e, getL_put_same, hc]
      congr 2
      omega
    · rw [if_neg e] at hc
      rw [getL_put_ne e, h.cnt n (mem_erase hq hn), hc]
      rfl
  · have := (h.inn row[q] (List.getElem_mem hq)).2
    rw [getL_put_ne (by omega)]
end
section
variable {w : World} {base p m1 m2 room : Nat} {row : List Int} {sent taken : Nat} {Fs : Int → Fr} {v : Value} {l1 l2 : List (Int × Value × Nat)} {c1 c2 : Nat}
set_option maxRecDepth 100000 in
theorem out_any (h : BxC w base p m1 m2 room row sent taken Fs v l1 l2 c1 c2) (q : Nat) (hq : q < row.length) :
    Calls Try.prog 94 #[.pointer (some ⟨p, 0, none⟩), .int .i64 q] w fun e w' =>
      ∃ v1 v2 v3, e = .returned (.agg (lsC (Fs row[q]) v1 v2 v3).toArray) ∧ OwnF w' base (Fs row[q]) v1 v2 v3 ∧ KeptM base bxT m1 m2 w w' ∧ ∃ v' l1' l2' c1' c2', BxC w' base p m1 m2 room (row.eraseIdx q) sent taken Fs v' l1' l2' c1' c2' := by
  have H := Lib.hid (h.kept0 ((Kept.refl [] w).alloc (.cells #[.int .i64 0, .int .i64 0, .int .i64 0, .int .i64 0, .int .i64 0, .int .i64 0, .slice none 0 0, .slice none 0 0, .slice none 0 0, .int .i64 0, .bool false] 60)))
  have HR := Lib.hid (Blk.new w 60 [.int .i64 0, .int .i64 0, .int .i64 0, .int .i64 0, .int .i64 0, .int .i64 0, .slice none 0 0, .slice none 0 0, .slice none 0 0, .int .i64 0, .bool false])
  have K := Lib.hid ((Kept.refl [] w).alloc (.cells #[.int .i64 0, .int .i64 0, .int .i64 0, .int .i64 0, .int .i64 0, .int .i64 0, .slice none 0 0, .slice none 0 0, .slice none 0 0, .int .i64 0, .bool false] 60))
  have hbw : base ≤ w.heap.size := Nat.le_trans h.hp (Nat.le_of_lt h.blk.lt)
  have hrow := Lib.hid H.out.rowO
  obtain ⟨g, cap, rfl, hc, hm, hcell⟩ := row_at H.out.rowO (by omega)
  have HBW := Lib.hid hbw
  clear h
  have hx := hcell q hq
  have y1 := H.out.blk.cell 1
  have y2 := H.out.blk.cell 2
  have hfit := H.out.fit
  simp only [List.getElem?_cons_zero, List.getElem?_cons_succ] at y1 y2
  unfold maxLen at hm
  clear hcell
  obtain ⟨v1, v2, v3, hget, hown⟩ := H.out.frs row[q] (List.getElem_mem hq)
  go_enter Try.func94, Try.ntmps94
  go_upto_region 2 with (fail)
  generalize w.alloc (.cells #[.int .i64 0, .int .i64 0, .int .i64 0, .int .i64 0, .int .i64 0, .int .i64 0, .slice none 0 0, .slice none 0 0, .slice none 0 0, .int .i64 0, .bool false] 60) = wa at *
  have hwl := HR.out.lt
  have HN := Lib.hid (Blk.new wa 60 [.int .i64 0, .int .i64 0, .int .i64 0, .int .i64 0, .int .i64 0, .int .i64 0, .slice none 0 0, .slice none 0 0, .slice none 0 0, .int .i64 0, .bool false])
  obtain ⟨B1, C1, rfl⟩ := own_n hown.o1
  obtain ⟨B2, C2, rfl⟩ := own_n hown.o2
  obtain ⟨B3, C3, rfl⟩ := own_n hown.o3
  have HG := Lib.hid hget
  clear hget
  go_upto_region 3 with (first | (refine wpList_lookupB rfl (.tmp 17) (.tmp 18) _ false rfl 3 60 Try.underlying126 Try.underlying3 (.agg #[.int .i64 0, .int .i64 0, .int .i64 0, .int .i64 0, .int .i64 0, .int .i64 0, .slice none 0 0, .slice none 0 0, .slice none 0 0, .int .i64 0, .bool false]) (Try.zeroValue60 _) m1 c1 l1 H.out.by_ rfl row[q] rfl ?_; rw [HG.out]; simp only [Option.getD_some, Bool.false_eq_true, if_false]) | (refine wpList_storeBlk rfl 60 (.tmp 6) (.tmp 19) rfl wa.heap.size _ (lsC (Fs row[q]) (.slice B1 (Fs row[q]).items.length C1) (.slice B2 (Fs row[q]).sums.length C2) (.slice B3 (Fs row[q]).trips.length C3)) HN.out rfl rfl rfl infoFrame (by simp [Value.oneCell']) ?_; intro w2 hb2 hk2))
  have f2 : KeptB wa.heap.size [60] wa w2 := ((KeptB.refl _ _ wa).alloc _).step (L := [wa.heap.size]) hk2 (fun m hm => by simp at hm; subst hm; exact ⟨Nat.le_refl _, _, _, _, HN.out, by simp⟩)
  have H := Lib.hid (H.out.keptB f2 (by decide) (by decide) (by decide) (by decide) (by decide))
  have HR := Lib.hid (HR.out.keptBlt f2 HR.out.lt)
  have O := Lib.hid (hown.keptB f2 (by decide) (by decide) (by decide))
  have K := Lib.hid (K.out.thenB f2 K.out.size)
  have HN := Lib.hid hb2
  have hrow := Lib.hid H.out.rowO
  have hnw := Nat.le_trans K.out.size (Nat.le_refl _)
  have hwa : w.heap.size < wa.heap.size ∧ wa.heap.size < w2.heap.size := ⟨hwl, HN.out.lt⟩
  clear hx y1 y2 hown hb2 hk2 f2 HG
  have y1 := H.out.blk.cell 1
  simp only [List.getElem?_cons_zero, List.getElem?_cons_succ] at y1
  go_wp2_with fail
  refine (show Calls Try.prog 93 #[.slice (some ⟨g, 0, none⟩) row.length cap, .int .i64 q, .int .i64 ((q : Int) + 1)] _ _ from by
    have := delete_any row q row.length base _ _ rfl hrow.out hq
    simpa using this).mono ?_
  rintro _ w3 ⟨v3, rfl, ho3, _, hk3⟩
  obtain ⟨A3, k3, rfl⟩ := own_n ho3
  have kd : KeptB base [3] w2 w3 := (KeptB.refl _ _ _).app hk3 hrow.out (by decide)
  have HB := Lib.hid (H.out.blk.keptB kd (by decide))
  have ks : KeptB base [130] w3 (w3.setCell ⟨p, 1, none⟩ (.slice A3 (row.length - 1) k3)) := (KeptB.refl base _ w3).set HB.out H.out.hp (by decide) 1 _
  have HO := Lib.hid (own_keptB ho3 ks (by decide))
  have kk : KeptB base bxT w2 (w3.setCell ⟨p, 1, none⟩ (.slice A3 (row.length - 1) k3)) := (kd.mono (by decide)).trans (ks.mono (by decide))
  have HP := Lib.hid (show Blk (w3.setCell ⟨p, 1, none⟩ (.slice A3 (row.length - 1) k3)) p 130 (bxC room (.slice A3 (row.length - 1) k3) m1 m2 sent taken) from HB.out.set 1 _)
  have HM1 := Lib.hid (H.out.by_.keptB kk)
  have HM2 := Lib.hid (H.out.often.keptB kk)
  have HR := Lib.hid (HR.out.keptB kk (by decide))
  have HN := Lib.hid (HN.out.keptB kk (by decide))
  have KM := Lib.hid (show KeptM base bxT m1 m2 w _ from (KeptM.of_kept0 K.out).thenB kk)
  have HF := Lib.hid (show ∀ n ∈ row, ∃ v1 v2 v3, getL n l1 = some (.agg (lsC (Fs n) v1 v2 v3).toArray) ∧ OwnF (w3.setCell ⟨p, 1, none⟩ (.slice A3 (row.length - 1) k3)) base (Fs n) v1 v2 v3 from fun n hn => by
    obtain ⟨v1, v2, v3, e, o⟩ := H.out.frs n hn
    exact ⟨v1, v2, v3, e, o.keptB kk (by decide) (by decide) (by decide)⟩)
  have O := Lib.hid (O.out.keptB kk (by decide) (by decide) (by decide))
  have z1 := HB.out.cell 1
  have z2 := HB.out.frozen 1
  have z3 := HB.out.lt
  simp only [List.getElem?_cons_zero, List.getElem?_cons_succ] at z1
  clear kd ks kk ho3 hk3 y1 hrow HB
  go_upto_region 4 with (fail)
  generalize w3.setCell ⟨p, 1, none⟩ (.slice A3 (row.length - 1) k3) = w4 at *
  clear z1 z2 z3
  have HC := Lib.hid (H.out.cnt row[q] (List.getElem_mem hq))
  have hc0 : 0 < row.count row[q] := List.count_pos_iff.2 (List.getElem_mem hq)
  have hc1 := List.count_le_length (a := row[q]) (l := row)
  have y3 := HP.out.cell 3
  simp only [List.getElem?_cons_zero, List.getElem?_cons_succ] at y3
  go_upto_region 5 with (first | (refine wpList_lookupB rfl (.tmp 34) (.tmp 35) _ false rfl 3 3 Try.underlying127 Try.underlying3 (.int .i64 0) (zeroInt _) m2 c2 l2 HM2.out rfl row[q] rfl ?_; rw [HC.out]; simp only [Option.getD_some, Bool.false_eq_true, if_false]) | (refine wpList_updateB rfl (.tmp 34) (.tmp 35) (.tmp 37) _ rfl 3 3 Try.underlying127 Try.underlying3 m2 c2 l2 HM2.out rfl row[q] rfl (.int .i64 ((row.count row[q] : Int) - 1)) rfl ?_; intro w5 hm5 hk5))
  have HP := Lib.hid (HP.out.keptMap hk5 HM2.out)
  have HO := Lib.hid (own_keptMap HO.out hk5 HM2.out)
  have HM1 := Lib.hid (HM1.out.kept hk5 (by have := H.out.ne; simpa using this))
  have HR := Lib.hid (HR.out.keptMap hk5 HM2.out)
  have HN := Lib.hid (HN.out.keptMap hk5 HM2.out)
  have KM := Lib.hid (KM.out.map2 hk5 H.out.h2)
  have HF := Lib.hid (show ∀ n ∈ row, ∃ v1 v2 v3, getL n l1 = some (.agg (lsC (Fs n) v1 v2 v3).toArray) ∧ OwnF w5 base (Fs n) v1 v2 v3 from fun n hn => by
    obtain ⟨v1, v2, v3, e, o⟩ := HF.out n hn
    exact ⟨v1, v2, v3, e, o.keptMap hk5 HM2.out⟩)
  have O := Lib.hid (O.out.keptMap hk5 HM2.out)
  have HM2 := Lib.hid hm5
  clear hm5 hk5 y3
  have y3 := HP.out.cell 3
  simp only [List.getElem?_cons_zero, List.getElem?_cons_succ] at y3
  have hfit' := Lib.hid hfit
  have hc1' := Lib.hid hc1
  clear hfit hc1 hwl hwa hnw hc hm hbw
  by_cases hone : row.count row[q] = 1
  · rw [hone] at HM2
    simp only [hone]
    go_upto_region 6 with (first | (refine wpList_lookupB rfl (.tmp 41) (.tmp 42) _ false rfl 3 3 Try.underlying127 Try.underlying3 (.int .i64 0) (zeroInt _) m2 _ _ HM2.out rfl row[q] rfl ?_; rw [getL_put_same]; simp only [Option.getD_some, Bool.false_eq_true, if_false]))
    have y3 := HP.out.cell 3
    simp only [List.getElem?_cons_zero, List.getElem?_cons_succ] at y3
    have hne := H.out.ne
    go_upto_region 7 with (first | (refine wpList_deleteB rfl (.tmp 48) (.tmp 49) _ 3 rfl 3 Try.underlying127 Try.underlying3 m2 _ _ HM2.out rfl row[q] rfl ?_; intro w6 hm6 hk6))
    have HP := Lib.hid (HP.out.keptMap hk6 HM2.out)
    have HO := Lib.hid (own_keptMap HO.out hk6 HM2.out)
    have HM1 := Lib.hid (HM1.out.kept hk6 (by simpa using hne))
    have HR := Lib.hid (HR.out.keptMap hk6 HM2.out)
    have HN := Lib.hid (HN.out.keptMap hk6 HM2.out)
    have KM := Lib.hid (KM.out.map2 hk6 H.out.h2)
    have HF := Lib.hid (show ∀ n ∈ row, ∃ v1 v2 v3, getL n l1 = some (.agg (lsC (Fs n) v1 v2 v3).toArray) ∧ OwnF w6 base (Fs n) v1 v2 v3 from fun n hn => by
      obtain ⟨v1, v2, v3, e, o⟩ := HF.out n hn
      exact ⟨v1, v2, v3, e, o.keptMap hk6 HM2.out⟩)
    have O := Lib.hid (O.out.keptMap hk6 HM2.out)
    have HM2 := Lib.hid hm6
    clear hm6 hk6
    clear y3
    have y2 := HP.out.cell 2
    simp only [List.getElem?_cons_zero, List.getElem?_cons_succ] at y2
    go_upto_region 8 with (first | (refine wpList_deleteB rfl (.tmp 53) (.tmp 54) _ 3 rfl 60 Try.underlying126 Try.underlying3 m1 _ _ HM1.out rfl row[q] rfl ?_; intro w7 hm7 hk7))
    have HP := Lib.hid (HP.out.keptMap hk7 HM1.out)
    have HO := Lib.hid (own_keptMap HO.out hk7 HM1.out)
    have HM2 := Lib.hid (HM2.out.kept hk7 (by simpa using fun h => hne h.symm))
    have HR := Lib.hid (HR.out.keptMap hk7 HM1.out)
    have HN := Lib.hid (HN.out.keptMap hk7 HM1.out)
    have KM := Lib.hid (KM.out.map1 hk7 H.out.h1)
    have HF := Lib.hid (show ∀ n ∈ row, ∃ v1 v2 v3, getL n l1 = some (.agg (lsC (Fs n) v1 v2 v3).toArray) ∧ OwnF w7 base (Fs n) v1 v2 v3 from fun n hn => by
      obtain ⟨v1, v2, v3, e, o⟩ := HF.out n hn
      exact ⟨v1, v2, v3, e, o.keptMap hk7 HM1.out⟩)
    have O := Lib.hid (O.out.keptMap hk7 HM1.out)
    have HM1 := Lib.hid hm7
    clear hm7 hk7
    clear y2
    go_wp2_with (first | (refine wpList_loadBlk rfl 60 (.tmp 6) rfl wa.heap.size (lsC (Fs row[q]) (.slice B1 (Fs row[q]).items.length C1) (.slice B2 (Fs row[q]).sums.length C2) (.slice B3 (Fs row[q]).trips.length C3)) _ HN.out rfl Try.underlying60 rfl infoFrame ?_) | (refine wpList_storeBlk rfl 60 (.tmp 4) (.tmp 55) rfl w.heap.size _ (lsC (Fs row[q]) (.slice B1 (Fs row[q]).items.length C1) (.slice B2 (Fs row[q]).sums.length C2) (.slice B3 (Fs row[q]).trips.length C3)) HR.out rfl rfl rfl infoFrame (by simp [Value.oneCell']) ?_; intro w8 hb8 hk8))
    have g0 := hb8.cell 0
    have g1 := hb8.cell 1
    have g2 := hb8.cell 2
    have g3 := hb8.cell 3
    have g4 := hb8.cell 4
    have g5 := hb8.cell 5
    have g6 := hb8.cell 6
    have g7 := hb8.cell 7
    have g8 := hb8.cell 8
    have g9 := hb8.cell 9
    have g10 := hb8.cell 10
    simp only [List.getElem?_cons_zero, List.getElem?_cons_succ] at g0 g1 g2 g3 g4 g5 g6 g7 g8 g9 g10
    refine bodyPost_ret (v := .agg (lsC (Fs row[q]) (.slice B1 (Fs row[q]).items.length C1) (.slice B2 (Fs row[q]).sums.length C2) (.slice B3 (Fs row[q]).trips.length C3)).toArray) (by simp [results, Try.results94, go_sem, g0, g1, g2, g3, g4, g5, g6, g7, g8, g9, g10]) rfl ?_
    have f8 : KeptB base [60] w7 w8 := (KeptB.refl _ _ w7).step (L := [w.heap.size]) hk8 (fun m hm => by simp at hm; subst hm; exact ⟨HBW.out, _, _, _, HR.out, by simp⟩)
    have HS := H.out.one hq hone (.int .i64 ((1 : Nat) - 1 : Int)) (.int .i64 0) c2
    refine ⟨_, _, _, rfl, O.out.keptB f8 (by decide) (by decide) (by decide), KM.out.thenNew hk8 (Nat.le_refl _), _, _, _, _, _, BxC.keptB (H.out.shrink hq HP.out HO.out HM1.out HM2.out HF.out ?_ ?_ ?_) f8 (by decide) (by decide) (by decide) (by decide) (by decide)⟩
    · exact HS.1
    · exact HS.2.1
    · exact HS.2.2
  · have hmany : ¬ (row.count row[q] : Int) - 1 = 0 := by omega
    go_upto_region 8 with (first | (refine wpList_lookupB rfl (.tmp 41) (.tmp 42) _ false rfl 3 3 Try.underlying127 Try.underlying3 (.int .i64 0) (zeroInt _) m2 _ _ HM2.out rfl row[q] rfl ?_; rw [getL_put_same]; simp only [Option.getD_some, Bool.false_eq_true, if_false]))
    clear y3
    go_wp2_with (first | (refine wpList_loadBlk rfl 60 (.tmp 6) rfl wa.heap.size (lsC (Fs row[q]) (.slice B1 (Fs row[q]).items.length C1) (.slice B2 (Fs row[q]).sums.length C2) (.slice B3 (Fs row[q]).trips.length C3)) _ HN.out rfl Try.underlying60 rfl infoFrame ?_) | (refine wpList_storeBlk rfl 60 (.tmp 4) (.tmp 55) rfl w.heap.size _ (lsC (Fs row[q]) (.slice B1 (Fs row[q]).items.length C1) (.slice B2 (Fs row[q]).sums.length C2) (.slice B3 (Fs row[q]).trips.length C3)) HR.out rfl rfl rfl infoFrame (by simp [Value.oneCell']) ?_; intro w8 hb8 hk8))
    have g0 := hb8.cell 0
    have g1 := hb8.cell 1
    have g2 := hb8.cell 2
    have g3 := hb8.cell 3
    have g4 := hb8.cell 4
    have g5 := hb8.cell 5
    have g6 := hb8.cell 6
    have g7 := hb8.cell 7
    have g8 := hb8.cell 8
    have g9 := hb8.cell 9
    have g10 := hb8.cell 10
    simp only [List.getElem?_cons_zero, List.getElem?_cons_succ] at g0 g1 g2 g3 g4 g5 g6 g7 g8 g9 g10
    refine bodyPost_ret (v := .agg (lsC (Fs row[q]) (.slice B1 (Fs row[q]).items.length C1) (.slice B2 (Fs row[q]).sums.length C2) (.slice B3 (Fs row[q]).trips.length C3)).toArray) (by simp [results, Try.results94, go_sem, g0, g1, g2, g3, g4, g5, g6, g7, g8, g9, g10]) rfl ?_
    have f8 : KeptB base [60] w5 w8 := (KeptB.refl _ _ w5).step (L := [w.heap.size]) hk8 (fun m hm => by simp at hm; subst hm; exact ⟨HBW.out, _, _, _, HR.out, by simp⟩)
    have HS := H.out.many hq c2
    refine ⟨_, _, _, rfl, O.out.keptB f8 (by decide) (by decide) (by decide), KM.out.thenNew hk8 (Nat.le_refl _), _, _, _, _, _, BxC.keptB (H.out.shrink hq HP.out HO.out HM1.out HM2.out HF.out ?_ ?_ ?_) f8 (by decide) (by decide) (by decide) (by decide) (by decide)⟩
    · exact fun _ _ => rfl
    · exact HS.1
    · exact HS.2
end
end Go.Proofs.Ytdjidnccockmmaa
