/- Regions whose order is open, walked by hand: an operation is taken first. -/
import Derived.Test.YtblfingmdipopaaGreatM01
import Derived.ProofKit
import Derived.OpenShut
import Derived.Deep.Slices
import Derived.Deep.Fields
import Derived.Deep.RegionLaw
import Derived.Deep.MidRow
import Derived.Deep.DeepCutAuto
import Derived.Deep.LoopGhost
namespace Go.Proofs.YtblfingmdipopaaGreat
set_option linter.unusedSimpArgs false
set_option linter.unusedVariables false
open Go.RowKit
section
variable {P : Program} {md : Region.Mode} {ops : Array Oper} {Q : Exit → Act → World → Prop} {S : World → Prop}
theorem tkYes {i d : Nat} {oi : Oper} {v : Value} {fuel : Nat} {listed : Array Bool} {T : Array Value} {D : List Deferred} {w : World} (hi : ops[i]? = some oi) (hd : oi.dst = some d)
    (hs : Region.noSelect ops = true) (hf : Region.free md ops listed i = true) (hr : (Region.ready md ops listed).contains i = true)
    (hQ : ∀ c a w, Q (.panic c) (a.put oi.dst v) w → Q (.panic c) a w) (hw : Region.wanted oi (yielded ops T) = true) (hy : ∀ w, S w → (execOp (Act.eval ⟨T, D⟩) oi).run P w = .ok (.value v) w) (hS : S w)
    (h : wpAnyH P md ops Q S fuel (listed.setIfInBounds i true) ⟨T.setIfInBounds d v, D⟩ w) : wpAnyH P md ops Q S (fuel + 1) listed ⟨T, D⟩ w :=
  wpAnyH_take hi hs hf hr hQ (.inl ⟨hw, hy⟩) hS (by rw [hd]; exact h)
end
end Go.Proofs.YtblfingmdipopaaGreat

/- How a law's row is closed, once for all laws: whatever the arguments are, where the walk returns true and nothing that was there has changed, the arguments read as before. -/
namespace Go.Proofs.YtblfingmdipopaaGreat
open Go.ChangeShapes Go.WideShapes Go.ChangeAt Go.RowKit
section
variable {H : Type} {enc : TypeId × Value → H} {P : Program}
theorem trodAll_below {W W' : World} (hl : laidOutB P = true) (hb : Below W.heap.size W W') : ∀ (ts : List TypeId) (vs : List Value) (ds : List (DataW H)) (ps : List MemPlace),
    (∀ t ∈ ts, P.readableRec t = true ∧ t < P.types.size) → (∀ x ∈ ps, x.block < W.heap.size) → DataW.TrodAll enc P W 0 (fun _ => true) true ts vs ds ps → DataW.TrodAll enc P W' 0 (fun b => decide (b < W.heap.size)) true ts vs ds ps
  | [], [], [], _, _, _, h => h
  | t :: ts, v :: vs, d :: ds, ps, hr, hlt, ⟨p, q, h1, h2, hp⟩ => by
    subst hp
    refine ⟨p, q, Below.trod hl (hr t (by simp)).1 (hr t (by simp)).2 h1 hb (fun x hx => hlt x (by simp [hx])), ?_, rfl⟩
    exact trodAll_below hl hb ts vs ds q (fun t ht => hr t (by simp [ht])) (fun x hx => hlt x (by simp [hx])) h2
  | [], _ :: _, _, _, _, _, h => h.elim
  | [], [], _ :: _, _, _, _, h => h.elim
  | _ :: _, [], _, _, _, _, h => h.elim
  | _ :: _, _ :: _, [], _, _, _, h => h.elim
theorem post_true {f : Func} {s : ChangeSpec} {W W' : World} {args : Array Value} {ds gs : List (DataW H)} {before : List MemPlace} {tb : TypeId}
    (hrt : f.resultTypes = #[tb]) (hub : P.underlying tb = some .bool) (hsv : s.vars = []) (hres : (s.fn H (ds ++ gs)).results = [.lit (.bool true)]) (hargs : (s.fn H (ds ++ gs)).args = ds) (hvars : (s.fn H (ds ++ gs)).vars = [])
    (hl : laidOutB P = true) (hr : ∀ t ∈ f.params.toList, P.readableRec t = true ∧ t < P.types.size)
    (hW : DataW.Whole enc P f.params.toList s.vars false W args.toList ds gs before) (hk : Kept [] W W') :
    s.post enc P f false true false false W args (.bool true) W' := by
  have hW2 := hW
  obtain ⟨p, q, hA, hV, rfl, hfz, _⟩ := hW
  have hb := hk.below
  have hlt : ∀ x ∈ p ++ q, x.block < W.heap.size := fun x hx => hW2.lt x hx
  refine ⟨ds, gs, p ++ q, [], p, [], hW2, ?_, ?_, ?_, ?_, fun h => by cases h⟩
  · rw [hres, hrt]
    exact trodAll_cons_mk (shut_bool hub _) trodAll_mk0
  · rw [hargs]
    exact trodAll_below hl hb _ _ _ _ hr (fun x hx => hlt x (by simp [hx])) hA
  · rw [hvars, hsv]
    rfl
  · exact hb.frame _
end
end Go.Proofs.YtblfingmdipopaaGreat

/- The walks of octet's and the reference's smallest functions: numbers' bytes, copies of slices, whether two slices are the same. -/
namespace Go.Proofs.YtblfingmdipopaaGreat
open Go.RowKit
/-- So many bytes of a number, the lowest one first. -/
def le (n : Nat) : Nat → List UInt8
  | 0 => []
  | k + 1 => UInt8.ofNat n :: le (n / 256) k
end Go.Proofs.YtblfingmdipopaaGreat

/- How arguments are opened: slices of bytes, slices of structs of plain fields, structs. -/
namespace Go.Proofs.YtblfingmdipopaaGreat
open Go.ChangeShapes Go.WideShapes Go.ChangeAt Go.RowKit
theorem spot_none {w : World} {a : Addr} {v : Value} (h : w.cell? a = some v) : a.spot = none := by
  unfold World.cell? at h
  split at h
  · split at h
    · cases h
    · rename_i hs; simpa using hs
  · cases h
theorem flatMap_get {α : Type} (l : List α) (f : α → List Value) (k : Nat) (hk : ∀ x ∈ l, (f x).length = k) (i j : Nat) (hi : i < l.length) (hj : j < k) : (l.flatMap f)[i * k + j]? = (f l[i])[j]? := by
  induction l generalizing i with
  | nil => simp at hi
  | cons x l ih =>
    have hx := hk x (by simp)
    cases i with
    | zero => simp only [List.flatMap_cons, Nat.zero_mul, Nat.zero_add, List.getElem_cons_zero]; rw [List.getElem?_append_left (by omega)]
    | succ i =>
      simp only [List.flatMap_cons, List.getElem_cons_succ]
      rw [List.getElem?_append_right (by rw [hx, Nat.succ_mul]; omega), hx, show (i + 1) * k + j - k = i * k + j by rw [Nat.succ_mul]; omega]
      exact ih (fun y hy => hk y (by simp [hy])) i (by simpa using hi)
theorem flatMap_length {α : Type} (l : List α) (f : α → List Value) (k : Nat) (hk : ∀ x ∈ l, (f x).length = k) : (l.flatMap f).length = l.length * k := by
  induction l with
  | nil => simp
  | cons x l ih => simp only [List.flatMap_cons, List.length_append, hk x (by simp), ih (fun y hy => hk y (by simp [hy])), List.length_cons, Nat.succ_mul]; omega
section
variable {H : Type} {enc : TypeId × Value → H} {P : Program} {W : World} {base : Nat}
/-- A number of 64 bits with a sign. -/
def In64 (n : Int) : Prop := -9223372036854775808 ≤ n ∧ n ≤ 9223372036854775807
theorem wf_i64 {n : Int} (h : (Lit.int .i64 n).wf = true) : In64 n := by
  simp [Lit.wf, IntKind.min, IntKind.max, IntKind.signed, IntKind.bits] at h
  exact ⟨by omega, by omega⟩
end
end Go.Proofs.YtblfingmdipopaaGreat

/- How arguments are opened: slices that lie in an array. -/
namespace Go.Proofs.YtblfingmdipopaaGreat
open Go.ChangeShapes Go.WideShapes Go.ChangeAt Go.RowKit
section
variable {H : Type} {enc : TypeId × Value → H} {P : Program} {W : World} {base : Nat}
theorem open_recsE {Rec : Type} [Inhabited Rec] {t e : TypeId} {v : Value} {d : DataW H} {ps : List MemPlace} (cellsR : Rec → List Value) (okR : Rec → Prop) (k : Nat) (hk : 0 < k) (hce : P.cellsOf e = k) (hlen : ∀ r, (cellsR r).length = k)
    (hel : ∀ n cs x, DataW.trod enc P W 0 (fun _ => true) true n e cs = some x → ∃ r, cs = cellsR r ∧ okR r)
    (ht : P.underlying t = some (.slice e)) (hok : ∃ a0 len cap, v = .slice a0 len cap) (h : DataW.Trod enc P W 0 (fun _ => true) true t v d ps) :
    ∃ A c, ∃ l : List Rec, v = .slice A l.length c ∧ l.length ≤ c ∧ c ≤ maxLen ∧ Reads W A (l.flatMap cellsR) ∧ (∀ r ∈ l, okR r) ∧ (A = none → c = 0) := by
  obtain ⟨a0, len, cap, rfl⟩ := hok
  obtain ⟨fuel, hf⟩ := h
  rcases Go.Deep.open_slice ht hf with ⟨hcs, _⟩ | ⟨a, len', cap', m, n, D, Pl, hcs, _, hl, hm, hmm, _, hi⟩
  · simp [Value.cells] at hcs
    obtain ⟨rfl, rfl, rfl⟩ := hcs
    exact ⟨none, 0, [], rfl, Nat.le_refl _, Nat.zero_le _, Reads.nil _ _, by simp, fun _ => rfl⟩
  · simp [Value.cells] at hcs
    obtain ⟨rfl, rfl, rfl⟩ := hcs
    simp only [if_true] at hmm
    subst hmm
    have each : ∀ i, i < m → ∃ r : Rec, okR r ∧ ∀ j, j < k → W.cell? (a.add (i * k + j)) = (cellsR r)[j]? := by
      intro i him
      obtain ⟨cs', h1, h2⟩ := hi i him
      rw [hce] at h1
      obtain ⟨_, hl1, hc1⟩ := World.cells?_some h1
      obtain ⟨r, rfl, hr⟩ := hel _ _ _ h2
      exact ⟨r, hr, fun j hj => by rw [← Go.Deep.add_add]; exact hc1 j hj⟩
    obtain ⟨F, hF⟩ := Go.Deep.choose_lt each
    have hxl : ∀ x ∈ (List.range len).map F, (cellsR x).length = k := fun x _ => hlen x
    refine ⟨some a, m, (List.range len).map F, by simp, by simpa using hl, hm, ?_, ?_, fun h => by cases h⟩
    · intro hx
      have hlen0 : 0 < len := by
        rcases Nat.eq_zero_or_pos len with h0 | h0
        · subst h0; simp at hx
        · exact h0
      have c0 := (hF 0 (by omega)).2 0 hk
      have hc0 : ∃ v, (cellsR (F 0))[0]? = some v := ⟨_, List.getElem?_eq_getElem (by rw [hlen]; exact hk)⟩
      obtain ⟨v0, hv0⟩ := hc0
      rw [hv0] at c0
      have ha : a.add (0 * k + 0) = a := by simp [Addr.add]
      rw [ha] at c0
      have hs := spot_none c0
      have hbl := World.block_lt_of_cell? _ _ c0
      have hae : a = ⟨a.block, a.off, none⟩ := by cases a; simp at hs; simp [hs]
      refine ⟨a.block, a.off, by rw [← hae], hbl, fun j u hu => ?_⟩
      have hj : j < len * k := by
        have := (List.getElem?_eq_some_iff.1 hu).1
        rw [flatMap_length _ _ k hxl] at this
        simpa using this
      have hdm := Nat.div_add_mod' j k
      have hq : j / k < len := Nat.div_lt_of_lt_mul (by rw [Nat.mul_comm]; exact hj)
      have hr : j % k < k := Nat.mod_lt _ hk
      have hc := (hF (j / k) (by omega)).2 (j % k) hr
      have hg := flatMap_get ((List.range len).map F) cellsR k hxl (j / k) (j % k) (by simpa using hq) hr
      rw [hdm] at hc hg
      rw [hg] at hu
      simp only [List.getElem_map, List.getElem_range] at hu
      rw [hu] at hc
      have had : a.add j = ⟨a.block, a.off + j, none⟩ := by rw [hae]; exact Addr.add_lit _ _ _
      rw [had] at hc
      exact hc
    · intro r hr
      obtain ⟨i, hi', rfl⟩ := List.mem_map.1 hr
      exact (hF i (by have := List.mem_range.1 hi'; omega)).1
end
end Go.Proofs.YtblfingmdipopaaGreat

/- General laws: what a call may change, blocks loaded and stored whole, rows of records. -/
namespace Go.Proofs.YtblfingmdipopaaGreat
set_option linter.unusedSimpArgs false
set_option linter.unusedVariables false
open Go.ChangeShapes Go.WideShapes Go.ChangeAt Go.RowKit
open Go.RowKit (wrap32 wrap64)
set_option maxHeartbeats 2000000
structure KeptB (base : Nat) (T : List TypeId) (w w' : World) : Prop where
  os : w'.os = w.os
  tape : w'.tape = w.tape
  output : w'.output = w.output
  size : w.heap.size ≤ w'.heap.size
  block : ∀ k, k < w.heap.size → (k < base ∨ ∀ cs t fr, w.heap[k]? = some (.cells cs t fr) → t ∉ T) → w'.heap[k]? = w.heap[k]?
section
variable {base : Nat} {T : List TypeId} {a b c w w' : World}
theorem KeptB.of_kept0 (h : Kept [] w w') : KeptB base T w w' := ⟨h.os, h.tape, h.output, h.size, fun k hk _ => h.block k hk (by simp)⟩
theorem KeptB.refl (base : Nat) (T : List TypeId) (w : World) : KeptB base T w w := .of_kept0 (Kept.refl _ _)
theorem KeptB.trans (h : KeptB base T a b) (k : KeptB base T b c) : KeptB base T a c :=
  ⟨k.os.trans h.os, k.tape.trans h.tape, k.output.trans h.output, Nat.le_trans h.size k.size, fun i hi ht =>
    (k.block i (Nat.lt_of_lt_of_le hi h.size) (by rw [h.block i hi ht]; exact ht)).trans (h.block i hi ht)⟩
theorem KeptB.step {L : List Nat} (h : KeptB base T a b) (k : Kept L b c) (hL : ∀ g ∈ L, base ≤ g ∧ ∃ cs t fr, b.heap[g]? = some (.cells cs t fr) ∧ t ∈ T) : KeptB base T a c :=
  h.trans ⟨k.os, k.tape, k.output, k.size, fun i hi ht => k.block i hi (fun hm => by
    obtain ⟨h1, cs, t, fr, h2, h3⟩ := hL i hm
    rcases ht with ht | ht
    · omega
    · exact ht _ _ _ h2 h3)⟩
theorem KeptB.set {g : Nat} {t : TypeId} {cs : List Value} (h : KeptB base T a b) (hg : Blk b g t cs) (hb : base ≤ g) (ht : t ∈ T) (i : Nat) (u : Value) : KeptB base T a (b.setCell ⟨g, i, none⟩ u) :=
  h.step (L := [g]) ((Kept.refl _ _).setCell (.inl (by simp)) _) (fun m hm => by simp at hm; subst hm; exact ⟨hb, _, _, _, hg, ht⟩)
theorem KeptB.app {e : TypeId} {size n : Nat} {v : Value} {xs : List Value} (h : KeptB base T a b) (hk : Kept v.ownBlock.toList b c) (hown : b.ownsRow base e size v n xs) (he : e ∈ T) : KeptB base T a c :=
  h.step hk (fun m hm => by
    rcases hown.2 with ⟨rfl, _⟩ | ⟨g, cap, cur, rfl, hb, hg, _⟩
    · simp [Value.ownBlock] at hm
    · simp [Value.ownBlock] at hm
      subst hm
      exact ⟨hb, _, _, _, hg, he⟩)
theorem KeptB.alloc (h : KeptB base T a b) (o : Obj) : KeptB base T a (b.alloc o) := h.trans (.of_kept0 ((Kept.refl _ _).alloc o))
theorem Kept.thenB (h : Kept [] a b) (k : KeptB base T b c) (hb : a.heap.size ≤ base) : Kept [] a c :=
  ⟨k.os.trans h.os, k.tape.trans h.tape, k.output.trans h.output, Nat.le_trans h.size k.size,
   fun i hi _ => (k.block i (Nat.lt_of_lt_of_le hi h.size) (.inl (by omega))).trans (h.block i hi (by simp))⟩
theorem Blk.keptB {g : Nat} {t : TypeId} {cs : List Value} (h : Blk w g t cs) (hk : KeptB base T w w') (ht : t ∉ T) : Blk w' g t cs :=
  (hk.block g h.lt (.inr (fun cs' t' fr hc => by
    unfold Blk at h
    rw [h] at hc
    injection hc with hc
    injection hc with _ e _
    subst e
    exact ht))).trans h
theorem Blk.keptBlt {g : Nat} {t : TypeId} {cs : List Value} (h : Blk w g t cs) (hk : KeptB base T w w') (hg : g < base) : Blk w' g t cs := (hk.block g h.lt (.inl hg)).trans h
theorem own_keptB {e : TypeId} {size n base' : Nat} {v : Value} {xs : List Value} (h : w.ownsRow base' e size v n xs) (hk : KeptB base T w w') (he : e ∉ T) : w'.ownsRow base' e size v n xs := by
  refine ⟨h.1, h.2.imp id ?_⟩
  rintro ⟨g, cap, cur, hv, hb, hg, r⟩
  refine ⟨g, cap, cur, hv, hb, (hk.block g (Array.getElem?_eq_some_iff.1 hg).1 (.inr fun cs t fr hc => ?_)).trans hg, r⟩
  rw [hg] at hc
  injection hc with hc
  injection hc with _ e1 _
  subst e1
  exact he
end
theorem Blk.setCells {g : Nat} {t : TypeId} : ∀ (news : List Value) (w : World) (o : Nat) (cs : List Value), o + news.length = cs.length → Blk w g t cs → Blk (w.setCells g o news) g t (cs.take o ++ news) ∧ Kept [g] w (w.setCells g o news)
  | [], w, o, cs, hl, h => by
    simp at hl
    rw [World.setCells, List.take_of_length_le (by omega), List.append_nil]
    exact ⟨h, Kept.refl _ _⟩
  | v :: r, w, o, cs, hl, h => by
    simp at hl
    obtain ⟨h1, h2⟩ := Blk.setCells r (w.setCell ⟨g, o, none⟩ v) (o + 1) (cs.set o v) (by simp; omega) (h.set o v)
    rw [World.setCells]
    refine ⟨?_, ((Kept.refl [g] w).setCell (p := ⟨g, o, none⟩) (.inl (by simp)) v).trans h2⟩
    have e : (cs.set o v).take (o + 1) = cs.take o ++ [v] := by
      rw [List.take_succ_eq_append_getElem (by simp; omega), List.take_set_of_le (Nat.le_refl _)]
      simp
    rw [e] at h1
    simpa using h1
section
variable {P : Program} {ops : Array Oper} {rest : List Oper} {o : Oper} {a : Act} {Q : Exit → Act → World → Prop} {w : World}
theorem wpList_storeBlk (hgd : o.guard = none) (t : TypeId) (x y : Operand) (ho : o.op = .store t x y) (g : Nat) (cs news : List Value) (hb : Blk w g t cs) (hx : a.eval x = .pointer (some ⟨g, 0, none⟩)) (hy : a.eval y = .agg news.toArray)
    (hl : news.length = cs.length) (hi : (P.info? t).map (·.size) = some news.length) (h1 : ∀ v ∈ news, v.oneCell' = true)
    (h : ∀ w', Blk w' g t news → Kept [g] w w' → wpList P ops Q rest (a.put o.dst undef) w') : wpList P ops Q (o :: rest) a w := by
  obtain ⟨h2, h3⟩ := Blk.setCells news w 0 cs (by omega) hb
  refine wpList_store_mid hgd t x y ho g 0 news.toArray hx hy (fun j hj => ?_) (by simpa using hi) (all_oneCell_toArray h1) (h _ (by simpa using h2) h3)
  rw [Nat.zero_add, hb.cell, hb.frozen]
  simp at hj
  exact ⟨by rw [List.getElem?_eq_getElem (by omega)]; rfl, rfl⟩
theorem wpList_loadBlk (hgd : o.guard = none) (t : TypeId) (x : Operand) (ho : o.op = .load t x) (g : Nat) (cs : List Value) (d : TypeDesc) (hb : Blk w g t cs) (hx : a.eval x = .pointer (some ⟨g, 0, none⟩))
    (hu : P.underlying t = some d) (hd : d.isRow = true) (hi : (P.info? t).map (·.size) = some cs.length) (h : wpList P ops Q rest (a.put o.dst (.agg cs.toArray)) w) : wpList P ops Q (o :: rest) a w :=
  wpList_load_mid hgd t x ho g 0 hx cs d (fun j v hv => by rw [Nat.zero_add, hb.cell]; exact hv) hu hd hi h
end
theorem Blk.new1F (w : World) (o : Obj) (t : TypeId) (cs : List Value) : Blk ((w.alloc o).alloc (.cells cs.toArray t)) (w.heap.size + 1) t cs := by
  have := Blk.new (w.alloc o) t cs
  rwa [show (w.alloc o).heap.size = w.heap.size + 1 by simp] at this
theorem rec_cell {α : Type} {w : World} {A : Option Addr} {l : List α} {f : α → List Value} {m : Nat} (hf : ∀ x ∈ l, (f x).length = m) (hm : 0 < m) (h : Reads w A (l.flatMap f)) {k : Nat} (hk : k < l.length) :
    ∃ b off, A = some ⟨b, off, none⟩ ∧ b < w.heap.size ∧ ∀ j u, (f l[k])[j]? = some u → w.cell? ⟨b, off + (k * m + j), none⟩ = some u := by
  have hne : l.flatMap f ≠ [] := by
    intro h0
    have := flatMap_length l f m hf
    rw [h0] at this
    have : 0 < l.length * m := Nat.mul_pos (by omega) hm
    simp at *
    omega
  obtain ⟨b, off, e, hb, hc⟩ := h hne
  refine ⟨b, off, e, hb, fun j u hu => hc _ _ ?_⟩
  have hj : j < m := by rw [← hf _ (List.getElem_mem hk)]; exact (List.getElem?_eq_some_iff.1 hu).1
  rw [flatMap_get l f m hf k j hk hj]
  exact hu
theorem any_false {α : Type} {l : List α} {p : α → Bool} (h : ∀ j (hj : j < l.length), p l[j] = false) : l.any p = false := by
  rw [List.any_eq_false]
  intro x hx
  obtain ⟨j, hj, rfl⟩ := List.getElem_of_mem hx
  simp [h j hj]
theorem any_true {α : Type} {l : List α} {p : α → Bool} {k : Nat} (hk : k < l.length) (h : p l[k] = true) : l.any p = true :=
  List.any_eq_true.2 ⟨_, List.getElem_mem hk, h⟩
theorem own_le {w : World} {base base' : Nat} {e : TypeId} {size : Nat} {v : Value} {n : Nat} {xs : List Value} (h : w.ownsRow base e size v n xs) (hb : base' ≤ base) : w.ownsRow base' e size v n xs := ⟨h.1, h.2.imp id (fun ⟨g, cap, cur, a, b, c⟩ => ⟨g, cap, cur, a, Nat.le_trans hb b, c⟩)⟩
theorem own_kept0 {w w' : World} {base : Nat} {e : TypeId} {size : Nat} {v : Value} {n : Nat} {xs : List Value} (h : w.ownsRow base e size v n xs) (hk : Kept [] w w') : w'.ownsRow base e size v n xs := own_keptB (base := 0) (T := []) h (.of_kept0 hk) (by simp)
theorem own_n {w : World} {base : Nat} {e : TypeId} {size n : Nat} {v : Value} {xs : List Value} (h : w.ownsRow base e size v n xs) : ∃ A c, v = .slice A n c := by
  rcases h.2 with ⟨rfl, rfl⟩ | ⟨g, cap, cur, rfl, _⟩
  · exact ⟨_, _, rfl⟩
  · exact ⟨_, _, rfl⟩
theorem own_blt {w : World} {base n : Nat} {e : TypeId} {size : Nat} {v : Value} {xs : List Value} (h : w.ownsRow base e size v n xs) : v.ownBlock ≠ some w.heap.size := by
  rcases h.2 with ⟨rfl, _⟩ | ⟨g, cap, cur, rfl, _, hg, _⟩
  · simp [Value.ownBlock]
  · have := (Array.getElem?_eq_some_iff.1 hg).1
    simp [Value.ownBlock]
    omega
theorem Blk.cell2 {w : World} {g : Nat} {t : TypeId} {cs : List Value} (h : Blk w g t cs) : w.rangeAt g 0 cs := fun j v hv => by rw [Nat.zero_add, h.cell]; exact hv
theorem Kept.cell_lt {w w' : World} (k : Kept [] w w') {b o : Nat} {u : Value} (h : w.cell? ⟨b, o, none⟩ = some u) : w'.cell? ⟨b, o, none⟩ = some u :=
  (k.cell (World.block_lt_of_cell? _ _ h) (by simp)).trans h
section
variable {P : Program} {md : Region.Mode} {ops : Array Oper} {Q : Exit → Act → World → Prop} {S : World → Prop}
theorem tkLoad {i d : Nat} {oi : Oper} {fuel : Nat} {listed : Array Bool} {T : Array Value} {D : List Deferred} {w : World} (ty : TypeId) (x : Operand) (b o : Nat) (cs : List Value) (de : TypeDesc) (hi : ops[i]? = some oi) (hd : oi.dst = some d)
    (hs : Region.noSelect ops = true) (hf : Region.free md ops listed i = true) (hr : (Region.ready md ops listed).contains i = true)
    (hQ : ∀ c a w, Q (.panic c) (a.put oi.dst (.agg cs.toArray)) w → Q (.panic c) a w) (hw : Region.wanted oi (yielded ops T) = true) (hop : oi.op = .load ty x) (hx : Act.eval ⟨T, D⟩ x = .pointer (some ⟨b, o, none⟩)) (hc : ∀ w, S w → w.rangeAt b o cs)
    (hu : P.underlying ty = some de) (hde : de.isRow = true) (hin : (P.info? ty).map (·.size) = some cs.length) (hS : S w)
    (h : wpAnyH P md ops Q S fuel (listed.setIfInBounds i true) ⟨T.setIfInBounds d (.agg cs.toArray), D⟩ w) : wpAnyH P md ops Q S (fuel + 1) listed ⟨T, D⟩ w :=
  tkYes hi hd hs hf hr hQ hw (fun w hw => by
    unfold execOp
    simp only [hop, hx, run_loadAt_mid w b o ty cs de (hc w hw) hu hde hin, Sem.run_bind, Sem.run_pure, Result.andThen_ok]) hS h
end
theorem Reads.pre {w : World} {A : Option Addr} {xs ys : List Value} (h : Reads w A (xs ++ ys)) : Reads w A xs := by
  intro hx
  obtain ⟨b, off, e, hb, hc⟩ := h (by intro h0; simp at h0; exact hx h0.1)
  exact ⟨b, off, e, hb, fun j u hu => hc j u (by rw [List.getElem?_append_left (List.getElem?_eq_some_iff.1 hu).1]; exact hu)⟩
theorem Reads.take {α : Type} {w : World} {A : Option Addr} {l : List α} {f : α → List Value} (h : Reads w A (l.flatMap f)) (k : Nat) : Reads w A ((l.take k).flatMap f) := by
  rw [← List.take_append_drop k l, List.flatMap_append] at h
  exact h.pre
end Go.Proofs.YtblfingmdipopaaGreat
