/- A map by two numbers that is ranged over; what Combine's first loop makes. -/
import Derived.Test.YtblfingmdipopaaGreatK09
import Derived.Shelf.SlSortCmp.NoneTotal
import Derived.Shelf.Lay
import Derived.Ground.SlsfProg
import Derived.Lib.OwnBridge
namespace Go.Proofs.YtblfingmdipopaaGreat
set_option linter.unusedSimpArgs false
set_option linter.unusedVariables false
open Go.ChangeShapes Go.WideShapes Go.ChangeAt Go.RowKit
open Go.RowKit (wrap32 wrap64)
open Go.ChangeMaps (setBlock)
set_option maxHeartbeats 4000000

/-- Block r goes through the map at block b: done has come out, todo is left. -/
structure RangeK (w : World) (b r : Nat) (l : List KE) (c : Nat) (done todo : List KE) : Prop where
  map : MapK w b l c
  it : w.heap[r]? = some (.mapIter (some b) c (done.map (·.2.2)).toArray c)
  perm : (done ++ todo).Perm l
section
variable {P : Program} {w : World} {b r c : Nat} {l done todo : List KE}
theorem RangeK.lt (h : RangeK w b r l c done todo) : r < w.heap.size := (Array.getElem?_eq_some_iff.1 h.it).1
theorem RangeK.ne (h : RangeK w b r l c done todo) : b ≠ r := by
  rintro rfl
  have h1 := h.map.at_
  rw [h.it] at h1
  cases h1
theorem RangeK.kept {w' : World} {L : List Nat} (h : RangeK w b r l c done todo) (hk : Kept L w w') (hb : b ∉ L) (hr : r ∉ L) : RangeK w' b r l c done todo :=
  ⟨h.map.kept hk hb, (hk.block r h.lt hr).trans h.it, h.perm⟩
theorem born_inj {l : List KE} (hn : (l.map (·.2.2)).Nodup) {x y : KE} (hx : x ∈ l) (hy : y ∈ l) (h : x.2.2 = y.2.2) : x = y := by
  induction l with
  | nil => cases hx
  | cons a l ih =>
    rw [List.map_cons, List.nodup_cons] at hn
    rcases List.mem_cons.1 hx with rfl | hx'
    · rcases List.mem_cons.1 hy with rfl | hy'
      · rfl
      · exact absurd (h ▸ List.mem_map.2 ⟨y, hy', rfl⟩) hn.1
    · rcases List.mem_cons.1 hy with rfl | hy'
      · exact absurd (h ▸ List.mem_map.2 ⟨x, hx', rfl⟩) hn.1
      · exact ih hn.2 hx' hy'
theorem RangeK.next (h : RangeK w b r l c done todo) (ty : TypeId) :
    (todo = [] ∧ (Instr.next (.pointer (some ⟨r, 0, none⟩)) false ty).run P w = .ok (.tuple #[.bool false]) w) ∨
    ∃ x todo' w', (Instr.next (.pointer (some ⟨r, 0, none⟩)) false ty).run P w = .ok (.tuple #[.bool true, keyV x.1, wdV x.2.1]) w' ∧ RangeK w' b r l c (done ++ [x]) todo' ∧ todo'.length + 1 = todo.length ∧ Kept [r] w w' ∧
      (Instr.entry (.pointer (some ⟨r, 0, none⟩))).run P w' = .ok (.tuple #[keyV x.1, wdV x.2.1]) w' := by
  have hnd : ((done ++ todo).map (·.2.2)).Nodup := (h.perm.map _).nodup_iff.2 h.map.nodup
  rcases run_next_at (P := P) w ty r b c c (done.map (·.2.2)).toArray (l.map entK).toArray c h.it h.map.at_ (by
    intro x hx
    obtain ⟨y, hy, rfl⟩ := List.mem_map.1 (show x ∈ l.map entK from hx)
    exact h.map.born y hy) (Nat.le_refl _) with ⟨h0, hrun⟩ | ⟨e, he, w1, hw1, hrun⟩
  · refine .inl ⟨?_, hrun⟩
    rcases todo with _ | ⟨y, todo⟩
    · rfl
    · exfalso
      have hy : y ∈ l := h.perm.mem_iff.1 (by simp)
      have hnot : y.2.2 ∉ done.map (·.2.2) := by
        rw [List.map_append, List.nodup_append] at hnd
        intro hm
        exact hnd.2.2 _ hm _ (by simp) rfl
      have hin : entK y ∈ (leftOf (l.map entK).toArray (done.map (·.2.2)).toArray).toList := by
        unfold leftOf
        simp only [Array.toList_filter, List.mem_filter]
        refine ⟨List.mem_map.2 ⟨y, hy, rfl⟩, ?_⟩
        simpa using hnot
      have := List.length_pos_of_mem hin
      simp at this
      omega
  · unfold leftOf at he
    simp only [Array.toList_filter, List.mem_filter] at he
    obtain ⟨he1, he2⟩ := he
    obtain ⟨x, hx, rfl⟩ := List.mem_map.1 he1
    have hnot : x.2.2 ∉ done.map (·.2.2) := by simpa using he2
    have hxt : x ∈ todo := by
      rcases List.mem_append.1 (h.perm.mem_iff.2 hx) with hd | ht
      · exact absurd (List.mem_map.2 ⟨x, hd, rfl⟩) hnot
      · exact ht
    obtain ⟨t1, t2, rfl⟩ := List.append_of_mem hxt
    have hk1 : Kept [r] w w1 := by rcases hw1 with rfl | rfl; exact Kept.refl _ _; exact (Kept.refl _ _).drew
    have hk : Kept [r] w (setBlock w1 r (.mapIter (some b) c ((done.map (·.2.2)).toArray.push x.2.2) c)) := Kept.turn hk1 (.inl (by simp)) _
    have hlt1 : r < w1.heap.size := Nat.lt_of_lt_of_le h.lt hk1.size
    have hR : RangeK (setBlock w1 r (.mapIter (some b) c ((done.map (·.2.2)).toArray.push x.2.2) c)) b r l c (done ++ [x]) (t1 ++ t2) := by
      refine ⟨h.map.kept hk (by simpa using h.ne), ?_, ?_⟩
      · simp [setBlock, hlt1]
      · refine List.Perm.trans ?_ h.perm
        rw [List.append_assoc]
        refine List.Perm.append_left _ ?_
        simp only [List.singleton_append]
        exact List.perm_middle.symm
    refine .inr ⟨x, t1 ++ t2, _, hrun, hR, by simp; omega, hk, ?_⟩
    refine run_entry_at _ r b c (done.map (·.2.2)).toArray (l.map entK).toArray c (entK x) ?_ hR.map.at_ he1 ?_
    · simp [setBlock, hlt1]
    · have := h.map.nodup
      simpa [List.map_map, Function.comp_def] using this

/-! The same at the walk's operations. -/
variable {ops : Array Oper} {rest : List Oper} {o : Oper} {a : Act} {Q : Exit → Act → World → Prop}
theorem wpList_rangeK (hgd : o.guard = none) (m : Operand) (t kt et : TypeId) (hop : o.op = Op.range t m) (ht : P.underlying t = some (.map kt et)) (b c : Nat) (l : List KE) (h : MapK w b l c) (hm : a.eval m = .map (some b))
    (hK : RangeK (w.alloc (.mapIter (some b) c #[] c)) b w.heap.size l c [] l → wpList P ops Q rest (a.put o.dst (.pointer (some ⟨w.heap.size, 0, none⟩))) (w.alloc (.mapIter (some b) c #[] c))) : wpList P ops Q (o :: rest) a w := by
  refine wpList_plain hgd fun K' hK' => ?_
  have hrun := run_range_map (P := P) w t kt et b (l.map entK).toArray c ht h.at_
  unfold Oper.wp
  simp [execOp, hop, hm, hrun, Result.andThen]
  exact hK' _ _ (hK ⟨h.kept ((Kept.refl [] w).alloc _) (by simp), heap_alloc_new _ _, by simp⟩)
theorem wpList_nextK (hgd : o.guard = none) (it : Operand) (hop : o.op = Op.next it false) (b r c : Nat) (l done todo : List KE) (h : RangeK w b r l c done todo) (hit : a.eval it = .pointer (some ⟨r, 0, none⟩))
    (h0 : todo = [] → wpList P ops Q rest (a.put o.dst (.tuple #[.bool false])) w)
    (h1 : ∀ x todo' w', RangeK w' b r l c (done ++ [x]) todo' → todo'.length + 1 = todo.length → Kept [r] w w' → (Instr.entry (.pointer (some ⟨r, 0, none⟩))).run P w' = .ok (.tuple #[keyV x.1, wdV x.2.1]) w' →
      wpList P ops Q rest (a.put o.dst (.tuple #[.bool true, keyV x.1, wdV x.2.1])) w') : wpList P ops Q (o :: rest) a w := by
  refine wpList_plain hgd fun K' hK' => ?_
  unfold Oper.wp
  rcases h.next (P := P) o.type with ⟨h2, hrun⟩ | ⟨x, todo', w', hrun, hR, hl, hk, hen⟩
  · simp [execOp, hop, hit, hrun, Result.andThen]
    exact hK' _ _ (h0 h2)
  · simp [execOp, hop, hit, hrun, Result.andThen]
    exact hK' _ _ (h1 x todo' w' hR hl hk hen)
end
/-- One edge more is put to the sums. -/
def stepK (r : Int) (s : List KE × Nat) (e : Ed) : List KE × Nat :=
  (putK (e.1, e.2.1) (match getK (e.1, e.2.1) s.1 with | some u => rAdd r u (wOf e.2.2) | none => wOf e.2.2) s.2 s.1, if (findK (e.1, e.2.1) s.1 0).isSome then s.2 else s.2 + 1)
def sumsK (r : Int) (l : List Ed) : List KE × Nat := l.foldl (stepK r) ([], 0)
theorem sumsK_succ (r : Int) (l : List Ed) {k : Nat} (h : k < l.length) : sumsK r (l.take (k + 1)) = stepK r (sumsK r (l.take k)) l[k] := by
  unfold sumsK
  rw [List.take_succ_eq_append_getElem h, List.foldl_append]
  rfl
theorem getK_ok {l : List KE} (h : ∀ x ∈ l, WdOk x.2.1) {k : Int × Int} {u : Wd} (hu : getK k l = some u) : WdOk u := by
  unfold getK at hu
  cases hq : findK k l 0 with
  | none => rw [hq] at hu; cases hu
  | some p =>
    obtain ⟨j, v⟩ := p
    rw [hq] at hu
    obtain ⟨q, x, _, h2, _, h4, _⟩ := findK_some (0, 0) 0 hq
    simp at hu
    subst hu
    rw [← h4]
    exact h x (List.mem_of_getElem? h2)
theorem putK_ok {k : Int × Int} {v : Wd} {c : Nat} (hv : WdOk v) : ∀ {l : List KE}, (∀ x ∈ l, WdOk x.2.1) → ∀ x ∈ putK k v c l, WdOk x.2.1
  | [], _, x, hx => by simp [putK] at hx; subst hx; exact hv
  | y :: l, h, x, hx => by
    unfold putK at hx
    split at hx
    · rcases List.mem_cons.1 hx with rfl | hx
      · exact hv
      · exact h x (by simp [hx])
    · rcases List.mem_cons.1 hx with rfl | hx
      · exact h _ (by simp)
      · exact putK_ok hv (fun z hz => h z (by simp [hz])) x hx
theorem stepK_ok (r : Int) {s : List KE × Nat} (h : ∀ x ∈ s.1, WdOk x.2.1) (e : Ed) : ∀ x ∈ (stepK r s e).1, WdOk x.2.1 := by
  refine putK_ok ?_ h
  cases hq : getK (e.1, e.2.1) s.1 with
  | none => exact wOf_ok _
  | some u => exact rAdd_ok r (getK_ok h hq) (wOf_ok _)
theorem sumsK_ok (r : Int) (l : List Ed) : ∀ x ∈ (sumsK r l).1, WdOk x.2.1 := by
  unfold sumsK
  suffices ∀ (l : List Ed) (s : List KE × Nat), (∀ x ∈ s.1, WdOk x.2.1) → ∀ x ∈ (l.foldl (stepK r) s).1, WdOk x.2.1 from this l _ (by simp)
  intro l
  induction l with
  | nil => intro s h; exact h
  | cons e l ih => intro s h; exact ih _ (stepK_ok r h e)
end Go.Proofs.YtblfingmdipopaaGreat

/- Edges are sorted: rows of three cells and the library's sort. -/
namespace Go.Proofs
open Go.Shelf
def Tryz.laysSort_ren : Go.Shelf.Ren := ⟨fun | 6 => 198 | 15 => 170 | 14 => 208 | 28 => 195 | 29 => 196 | 20 => 211 | 21 => 212 | 22 => 213 | 23 => 214 | 24 => 215 | 25 => 216 | 26 => 217 | 27 => 218 | 46 => 219 | 47 => 204 | 48 => 205 | 49 => 220 | 50 => 221 | 57 => 222 | n => n, fun | 22 => 54 | 24 => 107 | 25 => 250 | 3 => 3 | 39 => 146 | 0 => 0 | 53 => 248 | 55 => 98 | 4 => 4 | 46 => 242 | 45 => 241 | 50 => 236 | 5 => 5 | 9 => 9 | 66 => 254 | 70 => 258 | 76 => 261 | 77 => 163 | n => n, fun | n => n⟩
theorem Tryz.laysSort : Go.Proofs.SlLaysF0.n6 Tryz.prog Tryz.laysSort_ren := {
  mixed := by kernel_rfl,
  f6 := ⟨Tryz.f198.name, by decide, Tryz.func198.trans (congrArg some (by kernel_rfl))⟩,
  f14 := ⟨Tryz.f208.name, by decide, Tryz.func208.trans (congrArg some (by kernel_rfl))⟩,
  f15 := Tryz.func170.trans (congrArg some (by kernel_rfl)),
  f20 := ⟨Tryz.f211.name, by decide, Tryz.func211.trans (congrArg some (by kernel_rfl))⟩,
  f21 := ⟨Tryz.f212.name, by decide, Tryz.func212.trans (congrArg some (by kernel_rfl))⟩,
  f22 := ⟨Tryz.f213.name, by decide, Tryz.func213.trans (congrArg some (by kernel_rfl))⟩,
  f23 := ⟨Tryz.f214.name, by decide, Tryz.func214.trans (congrArg some (by kernel_rfl))⟩,
  f24 := ⟨Tryz.f215.name, by decide, Tryz.func215.trans (congrArg some (by kernel_rfl))⟩,
  f25 := ⟨Tryz.f216.name, by decide, Tryz.func216.trans (congrArg some (by kernel_rfl))⟩,
  f26 := ⟨Tryz.f217.name, by decide, Tryz.func217.trans (congrArg some (by kernel_rfl))⟩,
  f27 := ⟨Tryz.f218.name, by decide, Tryz.func218.trans (congrArg some (by kernel_rfl))⟩,
  f28 := Tryz.func195.trans (congrArg some (by kernel_rfl)),
  f29 := Tryz.func196.trans (congrArg some (by kernel_rfl)),
  f46 := ⟨Tryz.f219.name, by decide, Tryz.func219.trans (congrArg some (by kernel_rfl))⟩,
  f47 := Tryz.func204.trans (congrArg some (by kernel_rfl)),
  f48 := Tryz.func205.trans (congrArg some (by kernel_rfl)),
  f49 := ⟨Tryz.f220.name, by decide, Tryz.func220.trans (congrArg some (by kernel_rfl))⟩,
  f50 := ⟨Tryz.f221.name, by decide, Tryz.func221.trans (congrArg some (by kernel_rfl))⟩,
  f57 := ⟨Tryz.f222.name, by decide, Tryz.func222.trans (congrArg some (by kernel_rfl))⟩,
  t0 := Tryz.underlying0,
  a0 := Tryz.isAgg0,
  z0 := Tryz.sizeOf0,
  v0 := Tryz.zeroValue0,
  t3 := Tryz.underlying3,
  a3 := Tryz.isAgg3,
  z3 := Tryz.sizeOf3,
  v3 := Tryz.zeroValue3,
  t4 := Tryz.underlying4,
  a4 := Tryz.isAgg4,
  z4 := Tryz.sizeOf4,
  v4 := Tryz.zeroValue4,
  t5 := Tryz.underlying5,
  a5 := Tryz.isAgg5,
  z5 := Tryz.sizeOf5,
  v5 := Tryz.zeroValue5,
  t9 := Tryz.underlying9,
  a9 := Tryz.isAgg9,
  z9 := Tryz.sizeOf9,
  v9 := Tryz.zeroValue9,
  t22 := Tryz.underlying54,
  a22 := Tryz.isAgg54,
  z22 := Tryz.sizeOf54,
  v22 := Tryz.zeroValue54,
  t25 := Tryz.underlying250,
  a25 := Tryz.isAgg250,
  z25 := Tryz.sizeOf250,
  v25 := Tryz.zeroValue250,
  t39 := Tryz.underlying146,
  a39 := Tryz.isAgg146,
  z39 := Tryz.sizeOf146,
  v39 := Tryz.zeroValue146,
  t45 := Tryz.underlying241,
  a45 := Tryz.isAgg241,
  z45 := Tryz.sizeOf241,
  v45 := Tryz.zeroValue241,
  t46 := Tryz.underlying242,
  a46 := Tryz.isAgg242,
  z46 := Tryz.sizeOf242,
  v46 := Tryz.zeroValue242,
  t50 := Tryz.underlying236,
  a50 := Tryz.isAgg236,
  z50 := Tryz.sizeOf236,
  v50 := Tryz.zeroValue236,
  t53 := Tryz.underlying248,
  a53 := Tryz.isAgg248,
  z53 := Tryz.sizeOf248,
  v53 := Tryz.zeroValue248,
  t55 := Tryz.underlying98,
  a55 := Tryz.isAgg98,
  z55 := Tryz.sizeOf98,
  v55 := Tryz.zeroValue98,
  t66 := Tryz.underlying254,
  a66 := Tryz.isAgg254,
  z66 := Tryz.sizeOf254,
  v66 := Tryz.zeroValue254,
  t70 := Tryz.underlying258,
  a70 := Tryz.isAgg258,
  z70 := Tryz.sizeOf258,
  v70 := Tryz.zeroValue258,
  t76 := Tryz.underlying261,
  a76 := Tryz.isAgg261,
  z76 := Tryz.sizeOf261,
  v76 := Tryz.zeroValue261,
  t77 := Tryz.underlying163,
  a77 := Tryz.isAgg163,
  z77 := Tryz.sizeOf163,
  v77 := Tryz.zeroValue163 }
end Go.Proofs
namespace Go.Proofs.YtblfingmdipopaaGreat
set_option linter.unusedSimpArgs false
set_option linter.unusedVariables false
open Go.ChangeShapes Go.WideShapes Go.ChangeAt Go.RowKit
open Go.RowKit (wrap32 wrap64)
open Go.Sort (Holds putRow putCells mapBlock onCells grow flatK size_flatK get_flatK HoldsK putRowK)
open Go.Shelf
set_option maxHeartbeats 4000000

theorem own_down {w : World} {base : Nat} {e : TypeId} {k : Nat} {v : Value} {n : Nat} {xs : List Value} (h : w.ownsRow base e k v n xs) (h0 : 0 < n) :
    ∃ g cap, v = .slice (some ⟨g, 0, none⟩) n cap ∧ base ≤ g ∧ g < w.heap.size ∧ n ≤ cap ∧ cap ≤ maxLen ∧ Holds id w g 0 xs.toArray := by
  rcases h.2 with ⟨_, e0⟩ | ⟨g, cap, cur, rfl, hb, hg, hn, hm, hs, ht⟩
  · omega
  · have hlt : g < w.heap.size := (Array.getElem?_eq_some_iff.1 hg).1
    refine ⟨g, cap, rfl, hb, hlt, hn, hm, fun j hj => ?_⟩
    have hj' : j < xs.length := by simpa using hj
    refine ⟨?_, by simp [World.frozen?, hg]⟩
    have e1 : (cur.toList.take (n * k))[j]? = xs[j]? := by rw [ht]
    rw [List.getElem?_take, if_pos (by have := h.1; omega), Array.getElem?_toList, List.getElem?_eq_getElem hj'] at e1
    simp only [World.cell?, hg, Nat.zero_add]
    simp only [Option.isSome_none, Bool.false_eq_true, if_false]
    rw [e1]
    simp [getElem!_pos, hj']
theorem own_up {w : World} {base : Nat} {e : TypeId} {k g n cap q : Nat} {xs ys : List Value} (h : w.ownsRow base e k (.slice (some ⟨g, 0, none⟩) n cap) n xs) (hy : ys.length = xs.length) :
    (putRow id (Go.Sort.ahead w q) g 0 ys.toArray).ownsRow base e k (.slice (some ⟨g, 0, none⟩) n cap) n ys := by
  rcases h.2 with ⟨e0, _⟩ | ⟨g', cap', cur, e0, hb, hg, hn, hm, hs, ht⟩
  · cases e0
  · injection e0 with e1 _ e3
    injection e1 with e1
    injection e1 with e1
    subst e1; subst e3
    have hlen := h.1
    have hle : n * k ≤ cap * k := Nat.mul_le_mul_right _ hn
    refine ⟨by omega, .inr ⟨g, cap, putCells id 0 ys.toArray cur, rfl, hb, ?_, hn, hm, by simpa [putCells] using hs, ?_⟩⟩
    · simp [putRow, mapBlock, Go.Sort.ahead, Array.getElem?_modify, hg, onCells]
    · apply List.ext_getElem?
      intro j
      rw [List.getElem?_take, Array.getElem?_toList]
      by_cases hj : j < n * k
      · have hjc : j < cur.size := by omega
        simp only [if_pos hj, putCells, Array.getElem?_mapIdx, Array.getElem?_eq_getElem hjc, Option.map_some]
        rw [if_pos (by simp; omega), List.getElem?_eq_getElem (by omega)]
        simp [getElem!_pos, show j < ys.length by omega]
      · rw [if_neg hj, List.getElem?_eq_none (by omega)]
theorem kept_putRow {α : Type} [Inhabited α] (enc : α → Value) (w : World) (q g off : Nat) (d : Array α) : Kept [g] w (putRow enc (Go.Sort.ahead w q) g off d) :=
  ⟨rfl, rfl, rfl, by simp [putRow, mapBlock, Go.Sort.ahead], fun k hk hg => by
    have hne : g ≠ k := by rintro rfl; simp at hg
    simp [putRow, mapBlock, Go.Sort.ahead, Array.getElem?_modify, hne]⟩
theorem flatK_eq {α : Type} [Inhabited α] (enc : α → List Value) (k : Nat) (h0 : 0 < k) (hk : ∀ x, (enc x).length = k) (d : Array α) : flatK enc k d = (d.toList.flatMap enc).toArray := by
  have hlen : (d.toList.flatMap enc).length = d.size * k := by rw [flatMap_length _ _ k (fun x _ => hk x)]; simp
  apply Array.ext
  · rw [size_flatK, List.size_toArray]; exact hlen.symm
  · intro t h1 h2
    rw [size_flatK] at h1
    have hq : t / k < d.size := Nat.div_lt_of_lt_mul (by rw [Nat.mul_comm]; exact h1)
    have hr : t % k < k := Nat.mod_lt _ h0
    have e1 := get_flatK enc k d t h1
    rw [getElem!_pos _ t (by rw [size_flatK]; exact h1)] at e1
    rw [e1]
    have e2 := flatMap_get d.toList enc k (fun x _ => hk x) (t / k) (t % k) (by simpa using hq) hr
    rw [Nat.div_add_mod'] at e2
    rw [List.getElem_toArray]
    rw [List.getElem?_eq_getElem (by omega)] at e2
    have e3 : (enc (d.toList[t / k]'(by simpa using hq)))[t % k]? = some ((enc d[t / k]!)[t % k]!) := by
      rw [List.getElem?_eq_getElem (by rw [hk]; exact hr)]
      simp [getElem!_pos, hq, hk, hr]
    rw [e3] at e2
    exact (Option.some.inj e2).symm

theorem cmpI_neg (a b : Int) : cmpI a b < 0 ↔ a < b := by unfold cmpI; (repeat' split) <;> omega
theorem cmpI_zero (a b : Int) : cmpI a b = 0 ↔ a = b := by unfold cmpI; (repeat' split) <;> omega
theorem orI_neg (x y : Int) : orI x y < 0 ↔ x < 0 ∨ (x = 0 ∧ y < 0) := by unfold orI; split <;> omega
theorem orI_zero (x y : Int) : orI x y = 0 ↔ x = 0 ∧ y = 0 := by unfold orI; split <;> omega
theorem endsI_neg (a b : Ed) : endsI a b < 0 ↔ a.1 < b.1 ∨ (a.1 = b.1 ∧ a.2.1 < b.2.1) := by unfold endsI; rw [orI_neg, cmpI_neg, cmpI_zero, cmpI_neg]
theorem endsI_zero (a b : Ed) : endsI a b = 0 ↔ a.1 = b.1 ∧ a.2.1 = b.2.1 := by unfold endsI; rw [orI_zero, cmpI_zero, cmpI_zero]
theorem orderI_neg (a b : Ed) : orderI a b < 0 ↔ (a.1 < b.1 ∨ (a.1 = b.1 ∧ a.2.1 < b.2.1)) ∨ ((a.1 = b.1 ∧ a.2.1 = b.2.1) ∧ a.2.2 < b.2.2) := by unfold orderI; rw [orI_neg, endsI_neg, endsI_zero, cmpI_neg]
theorem ltOrder (a b : Ed) : ltOf orderI a b = decide ((a.1 < b.1 ∨ (a.1 = b.1 ∧ a.2.1 < b.2.1)) ∨ ((a.1 = b.1 ∧ a.2.1 = b.2.1) ∧ a.2.2 < b.2.2)) := by
  unfold ltOf
  exact decide_eq_decide.2 (orderI_neg a b)
theorem swoOrder : Go.Sort.SWO (ltOf orderI) where
  irrefl x := by rw [ltOrder]; simp
  trans x y z h1 h2 := by rw [ltOrder] at *; simp only [decide_eq_true_eq] at *; omega
  ntrans x y z h1 h2 := by rw [ltOrder] at *; simp only [decide_eq_false_iff_not] at *; omega
theorem orderTotal (x y : Ed) (h1 : ltOf orderI x y = false) (h2 : ltOf orderI y x = false) : x = y := by
  rw [ltOrder] at *
  simp only [decide_eq_false_iff_not] at *
  obtain ⟨a, b, c⟩ := x
  obtain ⟨d, e, f⟩ := y
  dsimp only at *
  obtain rfl : a = d := by omega
  obtain rfl : b = e := by omega
  obtain rfl : c = f := by omega
  rfl
/-- Edges in order. -/
def sortE (l : List Ed) : List Ed := l.mergeSort fun x y => !(ltOf orderI) y x
theorem sortE_length (l : List Ed) : (sortE l).length = l.length := by unfold sortE; rw [List.length_mergeSort]
theorem leOrder (a b : Ed) : (!(ltOf orderI) b a) = true ↔ ¬ ((b.1 < a.1 ∨ (b.1 = a.1 ∧ b.2.1 < a.2.1)) ∨ ((b.1 = a.1 ∧ b.2.1 = a.2.1) ∧ b.2.2 < a.2.2)) := by rw [ltOrder, Bool.not_eq_true', decide_eq_false_iff_not]
theorem sortE_sorted (l : List Ed) : (sortE l).Pairwise (fun a b => (!(ltOf orderI) b a) = true) := by
  unfold sortE
  refine List.pairwise_mergeSort (fun a b c h1 h2 => ?_) (fun a b => ?_) l
  · rw [leOrder] at *; omega
  · rw [Bool.or_eq_true, leOrder, leOrder]; omega
theorem sorted_unique {l m : List Ed} (hl : l.Pairwise (fun a b => (!(ltOf orderI) b a) = true)) (hm : m.Pairwise (fun a b => (!(ltOf orderI) b a) = true)) (h : l.Perm m) : l = m := by
  refine List.Perm.eq_of_pairwise (fun a b _ _ h1 h2 => ?_) hl hm h
  exact orderTotal a b (by simpa using h2) (by simpa using h1)
theorem sortE_perm {l m : List Ed} (h : l.Perm m) : sortE l = sortE m :=
  sorted_unique (sortE_sorted l) (sortE_sorted m) ((List.mergeSort_perm l _).trans (h.trans (List.mergeSort_perm m _).symm))
set_option maxRecDepth 100000 in
theorem sort_any (l : List Ed) (n base : Nat) (v : Value) (w : World) (hn : l.length = n) (h : w.ownsRow base 107 3 v n (l.flatMap edV)) (hl : n ≤ 1048576) :
    Calls Tryz.prog 198 #[v, .func (.func 199) #[] #[]] w fun e w' => e = .returned (.tuple #[]) ∧ w'.ownsRow base 107 3 v n ((sortE l).flatMap edV) ∧ Kept v.ownBlock.toList w w' := by
  rcases Nat.eq_zero_or_pos n with h0 | h0
  · subst h0
    obtain rfl : l = [] := List.eq_nil_of_length_eq_zero hn
    obtain ⟨A, c, rfl⟩ : ∃ A c, v = .slice A 0 c := by
      rcases h.2 with ⟨rfl, _⟩ | ⟨g, cap, cur, rfl, _⟩
      · exact ⟨_, _, rfl⟩
      · exact ⟨_, _, rfl⟩
    refine (show Calls Tryz.prog 198 _ _ _ from AnyF.slices_SortFunc_none { Tryz.laysSort with } A c _ w).mono ?_
    rintro e w' ⟨rfl, rfl⟩
    exact ⟨rfl, by simpa [sortE] using h, Kept.refl _ _⟩
  · obtain ⟨g, cap, rfl, hb, hlt, hc, hm, hH⟩ := own_down h h0
    have hf : flatK edV 3 l.toArray = (l.flatMap edV).toArray := flatK_eq edV 3 (by decide) (fun _ => rfl) l.toArray
    have hf2 : flatK edV 3 (sortE l).toArray = ((sortE l).flatMap edV).toArray := flatK_eq edV 3 (by decide) (fun _ => rfl) (sortE l).toArray
    have eg : ∀ args w, (callFunc 199 args).run Tryz.prog w = .ok (.enter 199 args) w := enters_of Tryz.func199 (by kernel_rfl) rfl
    have hcon := AnyQ.slices_SortFunc_total Tryz.laysSort 3 Tryz.isAgg107 Tryz.sizeOf107 edV (fun _ => rfl) (fun x v hv => by simp [edV] at hv; rcases hv with rfl | rfl | rfl <;> rfl) orderI swoOrder 199 #[] g 0 cap l.toArray w eg
      (fun m os dk _ x y => order_any x y _) (by unfold HoldsK; rw [hf]; exact hH) hlt (by simp; omega) orderTotal
    rw [show l.toArray.size = n by simpa using hn] at hcon
    refine (show Calls Tryz.prog 198 _ _ _ from hcon).mono ?_
    rintro e w' ⟨rfl, q, os, rfl⟩
    have hlen : ((sortE l).flatMap edV).length = (l.flatMap edV).length := by
      rw [flatMap_length _ _ 3 (fun _ _ => rfl), flatMap_length _ _ 3 (fun _ _ => rfl)]
      unfold sortE
      rw [List.length_mergeSort]
    have hk1 := kept_putRow id w q g 0 ((sortE l).flatMap edV).toArray
    have hk2 : Kept [] (putRow id (Go.Sort.ahead w q) g 0 ((sortE l).flatMap edV).toArray) (grow (putRow id (Go.Sort.ahead w q) g 0 ((sortE l).flatMap edV).toArray) os) := (show Grown _ _ from ⟨0, os, rfl⟩).kept
    unfold sortWorldK putRowK
    rw [show (List.mergeSort l.toArray.toList fun x y => !(ltOf orderI) y x).toArray = (sortE l).toArray from rfl, hf2]
    exact ⟨rfl, own_kept0 (own_up h hlen) hk2, by simpa [Value.ownBlock] using hk1.trans (hk2.mono (by simp))⟩
end Go.Proofs.YtblfingmdipopaaGreat
