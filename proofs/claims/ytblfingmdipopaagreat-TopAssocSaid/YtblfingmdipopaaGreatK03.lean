/- General laws: what a call may change, blocks loaded and stored whole, rows of records. -/
import Derived.Test.YtblfingmdipopaaGreatK02
import Derived.Deep.RegionLaw
import Derived.Deep.MidRow
import Derived.Deep.DeepCutAuto
import Derived.Deep.LoopGhost
namespace Go.Proofs.YtblfingmdipopaaGreat
set_option linter.unusedSimpArgs false
set_option linter.unusedVariables false
open Go.ChangeShapes Go.WideShapes Go.ChangeAt Go.RowKit
open Go.RowKit (wrap32 wrap64)
set_option maxHeartbeats 2000000

structure KeptB (base : Nat) (T : List TypeId) (w w' : World) : Prop where
  os : w'.os = w.os
  tape : w'.tape = w.tape
  output : w'.output = w.output
  size : w.heap.size ≤ w'.heap.size
  block : ∀ k, k < w.heap.size → (k < base ∨ ∀ cs t fr, w.heap[k]? = some (.cells cs t fr) → t ∉ T) → w'.heap[k]? = w.heap[k]?
section
variable {base : Nat} {T : List TypeId} {a b c w w' : World}
theorem KeptB.of_kept0 (h : Kept [] w w') : KeptB base T w w' := ⟨h.os, h.tape, h.output, h.size, fun k hk _ => h.block k hk (by simp)⟩
theorem KeptB.refl (base : Nat) (T : List TypeId) (w : World) : KeptB base T w w := .of_kept0 (Kept.refl _ _)
theorem KeptB.trans (h : KeptB base T a b) (k : KeptB base T b c) : KeptB base T a c :=
  ⟨k.os.trans h.os, k.tape.trans h.tape, k.output.trans h.output, Nat.le_trans h.size k.size, fun i hi ht =>
    (k.block i (Nat.lt_of_lt_of_le hi h.size) (by rw [h.block i hi ht]; exact ht)).trans (h.block i hi ht)⟩
theorem KeptB.step {L : List Nat} (h : KeptB base T a b) (k : Kept L b c) (hL : ∀ g ∈ L, base ≤ g ∧ ∃ cs t fr, b.heap[g]? = some (.cells cs t fr) ∧ t ∈ T) : KeptB base T a c :=
  h.trans ⟨k.os, k.tape, k.output, k.size, fun i hi ht => k.block i hi (fun hm => by
    obtain ⟨h1, cs, t, fr, h2, h3⟩ := hL i hm
    rcases ht with ht | ht
    · omega
    · exact ht _ _ _ h2 h3)⟩
theorem KeptB.set {g : Nat} {t : TypeId} {cs : List Value} (h : KeptB base T a b) (hg : Blk b g t cs) (hb : base ≤ g) (ht : t ∈ T) (i : Nat) (u : Value) : KeptB base T a (b.setCell ⟨g, i, none⟩ u) :=
  h.step (L := [g]) ((Kept.refl _ _).setCell (.inl (by simp)) _) (fun m hm => by simp at hm; subst hm; exact ⟨hb, _, _, _, hg, ht⟩)
theorem KeptB.app {e : TypeId} {size n : Nat} {v : Value} {xs : List Value} (h : KeptB base T a b) (hk : Kept v.ownBlock.toList b c) (hown : b.ownsRow base e size v n xs) (he : e ∈ T) : KeptB base T a c :=
  h.step hk (fun m hm => by
    rcases hown.2 with ⟨rfl, _⟩ | ⟨g, cap, cur, rfl, hb, hg, _⟩
    · simp [Value.ownBlock] at hm
    · simp [Value.ownBlock] at hm
      subst hm
      exact ⟨hb, _, _, _, hg, he⟩)
theorem KeptB.alloc (h : KeptB base T a b) (o : Obj) : KeptB base T a (b.alloc o) := h.trans (.of_kept0 ((Kept.refl _ _).alloc o))
theorem Kept.thenB (h : Kept [] a b) (k : KeptB base T b c) (hb : a.heap.size ≤ base) : Kept [] a c :=
  ⟨k.os.trans h.os, k.tape.trans h.tape, k.output.trans h.output, Nat.le_trans h.size k.size,
   fun i hi _ => (k.block i (Nat.lt_of_lt_of_le hi h.size) (.inl (by omega))).trans (h.block i hi (by simp))⟩
theorem Blk.keptB {g : Nat} {t : TypeId} {cs : List Value} (h : Blk w g t cs) (hk : KeptB base T w w') (ht : t ∉ T) : Blk w' g t cs :=
  (hk.block g h.lt (.inr (fun cs' t' fr hc => by
    unfold Blk at h
    rw [h] at hc
    injection hc with hc
    injection hc with _ e _
    subst e
    exact ht))).trans h
theorem Blk.keptBlt {g : Nat} {t : TypeId} {cs : List Value} (h : Blk w g t cs) (hk : KeptB base T w w') (hg : g < base) : Blk w' g t cs := (hk.block g h.lt (.inl hg)).trans h
theorem own_keptB {e : TypeId} {size n base' : Nat} {v : Value} {xs : List Value} (h : w.ownsRow base' e size v n xs) (hk : KeptB base T w w') (he : e ∉ T) : w'.ownsRow base' e size v n xs := by
  refine ⟨h.1, h.2.imp id ?_⟩
  rintro ⟨g, cap, cur, hv, hb, hg, r⟩
  refine ⟨g, cap, cur, hv, hb, (hk.block g (Array.getElem?_eq_some_iff.1 hg).1 (.inr fun cs t fr hc => ?_)).trans hg, r⟩
  rw [hg] at hc
  injection hc with hc
  injection hc with _ e1 _
  subst e1
  exact he
end
theorem Blk.setCells {g : Nat} {t : TypeId} : ∀ (news : List Value) (w : World) (o : Nat) (cs : List Value), o + news.length = cs.length → Blk w g t cs → Blk (w.setCells g o news) g t (cs.take o ++ news) ∧ Kept [g] w (w.setCells g o news)
  | [], w, o, cs, hl, h => by
    simp at hl
    rw [World.setCells, List.take_of_length_le (by omega), List.append_nil]
    exact ⟨h, Kept.refl _ _⟩
  | v :: r, w, o, cs, hl, h => by
    simp at hl
    obtain ⟨h1, h2⟩ := Blk.setCells r (w.setCell ⟨g, o, none⟩ v) (o + 1) (cs.set o v) (by simp; omega) (h.set o v)
    rw [World.setCells]
    refine ⟨?_, ((Kept.refl [g] w).setCell (p := ⟨g, o, none⟩) (.inl (by simp)) v).trans h2⟩
    have e : (cs.set o v).take (o + 1) = cs.take o ++ [v] := by
      rw [List.take_succ_eq_append_getElem (by simp; omega), List.take_set_of_le (Nat.le_refl _)]
      simp
    rw [e] at h1
    simpa using h1
section
variable {P : Program} {ops : Array Oper} {rest : List Oper} {o : Oper} {a : Act} {Q : Exit → Act → World → Prop} {w : World}
theorem wpList_storeBlk (hgd : o.guard = none) (t : TypeId) (x y : Operand) (ho : o.op = .store t x y) (g : Nat) (cs news : List Value) (hb : Blk w g t cs) (hx : a.eval x = .pointer (some ⟨g, 0, none⟩)) (hy : a.eval y = .agg news.toArray)
    (hl : news.length = cs.length) (hi : (P.info? t).map (·.size) = some news.length) (h1 : ∀ v ∈ news, v.oneCell' = true)
    (h : ∀ w', Blk w' g t news → Kept [g] w w' → wpList P ops Q rest (a.put o.dst undef) w') : wpList P ops Q (o :: rest) a w := by
  obtain ⟨h2, h3⟩ := Blk.setCells news w 0 cs (by omega) hb
  refine wpList_store_mid hgd t x y ho g 0 news.toArray hx hy (fun j hj => ?_) (by simpa using hi) (all_oneCell_toArray h1) (h _ (by simpa using h2) h3)
  rw [Nat.zero_add, hb.cell, hb.frozen]
  simp at hj
  exact ⟨by rw [List.getElem?_eq_getElem (by omega)]; rfl, rfl⟩
theorem wpList_loadBlk (hgd : o.guard = none) (t : TypeId) (x : Operand) (ho : o.op = .load t x) (g : Nat) (cs : List Value) (d : TypeDesc) (hb : Blk w g t cs) (hx : a.eval x = .pointer (some ⟨g, 0, none⟩))
    (hu : P.underlying t = some d) (hd : d.isRow = true) (hi : (P.info? t).map (·.size) = some cs.length) (h : wpList P ops Q rest (a.put o.dst (.agg cs.toArray)) w) : wpList P ops Q (o :: rest) a w :=
  wpList_load_mid hgd t x ho g 0 hx cs d (fun j v hv => by rw [Nat.zero_add, hb.cell]; exact hv) hu hd hi h
end
theorem Blk.new1F (w : World) (o : Obj) (t : TypeId) (cs : List Value) : Blk ((w.alloc o).alloc (.cells cs.toArray t)) (w.heap.size + 1) t cs := by
  have := Blk.new (w.alloc o) t cs
  rwa [show (w.alloc o).heap.size = w.heap.size + 1 by simp] at this
theorem rec_cell {α : Type} {w : World} {A : Option Addr} {l : List α} {f : α → List Value} {m : Nat} (hf : ∀ x ∈ l, (f x).length = m) (hm : 0 < m) (h : Reads w A (l.flatMap f)) {k : Nat} (hk : k < l.length) :
    ∃ b off, A = some ⟨b, off, none⟩ ∧ b < w.heap.size ∧ ∀ j u, (f l[k])[j]? = some u → w.cell? ⟨b, off + (k * m + j), none⟩ = some u := by
  have hne : l.flatMap f ≠ [] := by
    intro h0
    have := flatMap_length l f m hf
    rw [h0] at this
    have : 0 < l.length * m := Nat.mul_pos (by omega) hm
    simp at *
    omega
  obtain ⟨b, off, e, hb, hc⟩ := h hne
  refine ⟨b, off, e, hb, fun j u hu => hc _ _ ?_⟩
  have hj : j < m := by rw [← hf _ (List.getElem_mem hk)]; exact (List.getElem?_eq_some_iff.1 hu).1
  rw [flatMap_get l f m hf k j hk hj]
  exact hu
theorem any_false {α : Type} {l : List α} {p : α → Bool} (h : ∀ j (hj : j < l.length), p l[j] = false) : l.any p = false := by
  rw [List.any_eq_false]
  intro x hx
  obtain ⟨j, hj, rfl⟩ := List.getElem_of_mem hx
  simp [h j hj]
theorem any_true {α : Type} {l : List α} {p : α → Bool} {k : Nat} (hk : k < l.length) (h : p l[k] = true) : l.any p = true :=
  List.any_eq_true.2 ⟨_, List.getElem_mem hk, h⟩
theorem own_le {w : World} {base base' : Nat} {e : TypeId} {size : Nat} {v : Value} {n : Nat} {xs : List Value} (h : w.ownsRow base e size v n xs) (hb : base' ≤ base) : w.ownsRow base' e size v n xs := ⟨h.1, h.2.imp id (fun ⟨g, cap, cur, a, b, c⟩ => ⟨g, cap, cur, a, Nat.le_trans hb b, c⟩)⟩
theorem own_kept0 {w w' : World} {base : Nat} {e : TypeId} {size : Nat} {v : Value} {n : Nat} {xs : List Value} (h : w.ownsRow base e size v n xs) (hk : Kept [] w w') : w'.ownsRow base e size v n xs := own_keptB (base := 0) (T := []) h (.of_kept0 hk) (by simp)
theorem own_n {w : World} {base : Nat} {e : TypeId} {size n : Nat} {v : Value} {xs : List Value} (h : w.ownsRow base e size v n xs) : ∃ A c, v = .slice A n c := by
  rcases h.2 with ⟨rfl, rfl⟩ | ⟨g, cap, cur, rfl, _⟩
  · exact ⟨_, _, rfl⟩
  · exact ⟨_, _, rfl⟩
theorem own_blt {w : World} {base n : Nat} {e : TypeId} {size : Nat} {v : Value} {xs : List Value} (h : w.ownsRow base e size v n xs) : v.ownBlock ≠ some w.heap.size := by
  rcases h.2 with ⟨rfl, _⟩ | ⟨g, cap, cur, rfl, _, hg, _⟩
  · simp [Value.ownBlock]
  · have := (Array.getElem?_eq_some_iff.1 hg).1
    simp [Value.ownBlock]
    omega
theorem Blk.cell2 {w : World} {g : Nat} {t : TypeId} {cs : List Value} (h : Blk w g t cs) : w.rangeAt g 0 cs := fun j v hv => by rw [Nat.zero_add, h.cell]; exact hv
theorem Kept.cell_lt {w w' : World} (k : Kept [] w w') {b o : Nat} {u : Value} (h : w.cell? ⟨b, o, none⟩ = some u) : w'.cell? ⟨b, o, none⟩ = some u :=
  (k.cell (World.block_lt_of_cell? _ _ h) (by simp)).trans h
section
variable {P : Program} {md : Region.Mode} {ops : Array Oper} {Q : Exit → Act → World → Prop} {S : World → Prop}
theorem tkLoad {i d : Nat} {oi : Oper} {fuel : Nat} {listed : Array Bool} {T : Array Value} {D : List Deferred} {w : World} (ty : TypeId) (x : Operand) (b o : Nat) (cs : List Value) (de : TypeDesc) (hi : ops[i]? = some oi) (hd : oi.dst = some d)
    (hs : Region.noSelect ops = true) (hf : Region.free md ops listed i = true) (hr : (Region.ready md ops listed).contains i = true)
    (hQ : ∀ c a w, Q (.panic c) (a.put oi.dst (.agg cs.toArray)) w → Q (.panic c) a w) (hw : Region.wanted oi (yielded ops T) = true) (hop : oi.op = .load ty x) (hx : Act.eval ⟨T, D⟩ x = .pointer (some ⟨b, o, none⟩)) (hc : ∀ w, S w → w.rangeAt b o cs)
    (hu : P.underlying ty = some de) (hde : de.isRow = true) (hin : (P.info? ty).map (·.size) = some cs.length) (hS : S w)
    (h : wpAnyH P md ops Q S fuel (listed.setIfInBounds i true) ⟨T.setIfInBounds d (.agg cs.toArray), D⟩ w) : wpAnyH P md ops Q S (fuel + 1) listed ⟨T, D⟩ w :=
  tkYes hi hd hs hf hr hQ hw (fun w hw => by
    unfold execOp
    simp only [hop, hx, run_loadAt_mid w b o ty cs de (hc w hw) hu hde hin, Sem.run_bind, Sem.run_pure, Result.andThen_ok]) hS h
end
theorem Reads.pre {w : World} {A : Option Addr} {xs ys : List Value} (h : Reads w A (xs ++ ys)) : Reads w A xs := by
  intro hx
  obtain ⟨b, off, e, hb, hc⟩ := h (by intro h0; simp at h0; exact hx h0.1)
  exact ⟨b, off, e, hb, fun j u hu => hc j u (by rw [List.getElem?_append_left (List.getElem?_eq_some_iff.1 hu).1]; exact hu)⟩
theorem Reads.take {α : Type} {w : World} {A : Option Addr} {l : List α} {f : α → List Value} (h : Reads w A (l.flatMap f)) (k : Nat) : Reads w A ((l.take k).flatMap f) := by
  rw [← List.take_append_drop k l, List.flatMap_append] at h
  exact h.pre
theorem list_same {α : Type} {l m : List α} (hl : l.length = m.length) (h : ∀ j (hj : j < l.length), l[j] = m[j]'(by omega)) : l = m :=
  List.ext_getElem hl (fun i h1 h2 => h i h1)
end Go.Proofs.YtblfingmdipopaaGreat
