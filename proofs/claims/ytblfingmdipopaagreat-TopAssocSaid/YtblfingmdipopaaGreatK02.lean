/- Regions whose order is open, walked by hand: an operation is taken first. -/
import Derived.Test.YtblfingmdipopaaGreatK01
import Derived.ProofKit
import Derived.OpenShut
import Derived.Deep.Slices
import Derived.Deep.Fields
namespace Go.Proofs.YtblfingmdipopaaGreat
set_option linter.unusedSimpArgs false
set_option linter.unusedVariables false
open Go.RowKit

section
variable {P : Program} {md : Region.Mode} {ops : Array Oper} {Q : Exit → Act → World → Prop} {S : World → Prop}
theorem tkYes {i d : Nat} {oi : Oper} {v : Value} {fuel : Nat} {listed : Array Bool} {T : Array Value} {D : List Deferred} {w : World} (hi : ops[i]? = some oi) (hd : oi.dst = some d)
    (hs : Region.noSelect ops = true) (hf : Region.free md ops listed i = true) (hr : (Region.ready md ops listed).contains i = true)
    (hQ : ∀ c a w, Q (.panic c) (a.put oi.dst v) w → Q (.panic c) a w) (hw : Region.wanted oi (yielded ops T) = true) (hy : ∀ w, S w → (execOp (Act.eval ⟨T, D⟩) oi).run P w = .ok (.value v) w) (hS : S w)
    (h : wpAnyH P md ops Q S fuel (listed.setIfInBounds i true) ⟨T.setIfInBounds d v, D⟩ w) : wpAnyH P md ops Q S (fuel + 1) listed ⟨T, D⟩ w :=
  wpAnyH_take hi hs hf hr hQ (.inl ⟨hw, hy⟩) hS (by rw [hd]; exact h)
theorem tkNo {i d : Nat} {oi : Oper} {fuel : Nat} {listed : Array Bool} {T : Array Value} {D : List Deferred} {w : World} (hi : ops[i]? = some oi) (hd : oi.dst = some d)
    (hs : Region.noSelect ops = true) (hf : Region.free md ops listed i = true) (hr : (Region.ready md ops listed).contains i = true)
    (hQ : ∀ c a w, Q (.panic c) (a.put oi.dst undef) w → Q (.panic c) a w) (hw : Region.wanted oi (yielded ops T) = false) (hS : S w)
    (h : wpAnyH P md ops Q S fuel (listed.setIfInBounds i true) ⟨T.setIfInBounds d undef, D⟩ w) : wpAnyH P md ops Q S (fuel + 1) listed ⟨T, D⟩ w :=
  wpAnyH_take hi hs hf hr hQ (.inr ⟨hw, rfl⟩) hS (by rw [hd]; exact h)
end
end Go.Proofs.YtblfingmdipopaaGreat

/- How a law's row is closed, once for all laws: whatever the arguments are, where the walk returns true and nothing that was there has changed, the arguments read as before. -/
namespace Go.Proofs.YtblfingmdipopaaGreat
open Go.ChangeShapes Go.WideShapes Go.ChangeAt Go.RowKit

section
variable {H : Type} {enc : TypeId × Value → H} {P : Program}
theorem trodAll_below {W W' : World} (hl : laidOutB P = true) (hb : Below W.heap.size W W') : ∀ (ts : List TypeId) (vs : List Value) (ds : List (DataW H)) (ps : List MemPlace),
    (∀ t ∈ ts, P.readableRec t = true ∧ t < P.types.size) → (∀ x ∈ ps, x.block < W.heap.size) → DataW.TrodAll enc P W 0 (fun _ => true) true ts vs ds ps → DataW.TrodAll enc P W' 0 (fun b => decide (b < W.heap.size)) true ts vs ds ps
  | [], [], [], _, _, _, h => h
  | t :: ts, v :: vs, d :: ds, ps, hr, hlt, ⟨p, q, h1, h2, hp⟩ => by
    subst hp
    refine ⟨p, q, Below.trod hl (hr t (by simp)).1 (hr t (by simp)).2 h1 hb (fun x hx => hlt x (by simp [hx])), ?_, rfl⟩
    exact trodAll_below hl hb ts vs ds q (fun t ht => hr t (by simp [ht])) (fun x hx => hlt x (by simp [hx])) h2
  | [], _ :: _, _, _, _, _, h => h.elim
  | [], [], _ :: _, _, _, _, h => h.elim
  | _ :: _, [], _, _, _, _, h => h.elim
  | _ :: _, _ :: _, [], _, _, _, h => h.elim

theorem post_true {f : Func} {s : ChangeSpec} {W W' : World} {args : Array Value} {ds gs : List (DataW H)} {before : List MemPlace} {tb : TypeId}
    (hrt : f.resultTypes = #[tb]) (hub : P.underlying tb = some .bool) (hsv : s.vars = []) (hres : (s.fn H (ds ++ gs)).results = [.lit (.bool true)]) (hargs : (s.fn H (ds ++ gs)).args = ds) (hvars : (s.fn H (ds ++ gs)).vars = [])
    (hl : laidOutB P = true) (hr : ∀ t ∈ f.params.toList, P.readableRec t = true ∧ t < P.types.size)
    (hW : DataW.Whole enc P f.params.toList s.vars false W args.toList ds gs before) (hk : Kept [] W W') :
    s.post enc P f false true false false W args (.bool true) W' := by
  have hW2 := hW
  obtain ⟨p, q, hA, hV, rfl, hfz, _⟩ := hW
  have hb := hk.below
  have hlt : ∀ x ∈ p ++ q, x.block < W.heap.size := fun x hx => hW2.lt x hx
  refine ⟨ds, gs, p ++ q, [], p, [], hW2, ?_, ?_, ?_, ?_, fun h => by cases h⟩
  · rw [hres, hrt]
    exact trodAll_cons_mk (shut_bool hub _) trodAll_mk0
  · rw [hargs]
    exact trodAll_below hl hb _ _ _ _ hr (fun x hx => hlt x (by simp [hx])) hA
  · rw [hvars, hsv]
    rfl
  · exact hb.frame _
end
end Go.Proofs.YtblfingmdipopaaGreat

/- The walks of octet's and the reference's smallest functions: numbers' bytes, copies of slices, whether two slices are the same. -/
namespace Go.Proofs.YtblfingmdipopaaGreat
open Go.RowKit

/-- A byte as the program has it. -/
def byteV (b : UInt8) : Value := .int .u8 (b.toNat : Int)
/-- So many bytes of a number, the lowest one first. -/
def le (n : Nat) : Nat → List UInt8
  | 0 => []
  | k + 1 => UInt8.ofNat n :: le (n / 256) k
theorem le_length (n k : Nat) : (le n k).length = k := by induction k generalizing n with
  | zero => rfl
  | succ k ih => simp [le, ih]
theorem le_get (n k i : Nat) (h : i < k) : (le n k)[i]? = some (UInt8.ofNat (n / 256 ^ i)) := by
  induction k generalizing n i with
  | zero => omega
  | succ k ih =>
    cases i with
    | zero => simp [le]
    | succ i => simp only [le, List.getElem?_cons_succ]; rw [ih _ _ (by omega), Nat.div_div_eq_div_mul, Nat.pow_succ, Nat.mul_comm]

/-- A number of 64 bits without a sign. -/
def Lt64 (n : Nat) : Prop := n < 18446744073709551616
theorem Lt64.div {n : Nat} (h : Lt64 n) (k : Nat) : Lt64 (n / k) := Nat.lt_of_le_of_lt (Nat.div_le_self _ _) h
theorem wrap64_div (q : Nat) (h : Lt64 q) : Value.int .u64 (IntKind.u64.wrap ((q : Int) / 256)) = .int .u64 ((q / 256 : Nat) : Int) := by
  unfold Lt64 at h
  rw [IntKind.wrap_u64]
  congr 1
  omega
theorem infoU8 : Info Tryz.prog 5 (.int .u8 0) 1 1 := by unfold Info; kernel_rfl

/-- The next byte is laid. -/
theorem set_next {n many k : Nat} (hl : (le n many).length = many) (hk : k < many) :
    (((le n many).map byteV).take k ++ List.replicate (many - k) (Value.int .u8 0)).set k (.int .u8 (↑n / 2 ^ (8 * k) % 256)) = ((le n many).map byteV).take (k + 1) ++ List.replicate (many - (k + 1)) (Value.int .u8 0) := by
  have e : List.replicate (many - k) (Value.int .u8 0) = .int .u8 0 :: List.replicate (many - (k + 1)) (Value.int .u8 0) := by
    rw [show many - k = (many - (k + 1)) + 1 from by omega, List.replicate_succ]
  have hg : ((le n many).map byteV)[k]? = some (.int .u8 (↑n / 2 ^ (8 * k) % 256)) := by
    have e2 : (2 : Int) ^ (8 * k) = 256 ^ k := by rw [Int.pow_mul]; rfl
    rw [List.getElem?_map, le_get n many k hk, e2]
    simp [byteV]
  rw [List.set_append, if_neg (by simp [hl]; omega), e, List.take_add_one, hg]
  simp [hl, Nat.min_eq_left (Nat.le_of_lt hk)]


set_option maxHeartbeats 1000000 in
def Bytes (w : World) (v : Value) (l : List UInt8) : Prop := ∃ A c, v = .slice A l.length c ∧ l.length ≤ c ∧ c ≤ maxLen ∧ Reads w A (l.map byteV)

theorem byteV_at {w : World} {A : Option Addr} {l : List UInt8} (h : Reads w A (l.map byteV)) {k : Nat} (hk : k < l.length) :
    ∃ b off, A = some ⟨b, off, none⟩ ∧ w.cell? ⟨b, off + k, none⟩ = some (.int .u8 (l[k].toNat : Int)) := by
  obtain ⟨b, off, e, _, hc⟩ := h (by intro h0; have := congrArg List.length h0; simp at this; subst this; simp at hk)
  exact ⟨b, off, e, hc k _ (by simp [hk, byteV])⟩
theorem take_step {x y : List UInt8} {k : Nat} (h : x.take k = y.take k) (hx : k < x.length) (hy : k < y.length) (e : x[k] = y[k]) : x.take (k + 1) = y.take (k + 1) := by
  rw [List.take_add_one, List.take_add_one, h, List.getElem?_eq_getElem hx, List.getElem?_eq_getElem hy, e]

end Go.Proofs.YtblfingmdipopaaGreat

/- How arguments are opened: slices of bytes, slices of structs of plain fields, structs. -/
namespace Go.Proofs.YtblfingmdipopaaGreat
open Go.ChangeShapes Go.WideShapes Go.ChangeAt Go.RowKit

theorem spot_none {w : World} {a : Addr} {v : Value} (h : w.cell? a = some v) : a.spot = none := by
  unfold World.cell? at h
  split at h
  · split at h
    · cases h
    · rename_i hs; simpa using hs
  · cases h

theorem flatMap_get {α : Type} (l : List α) (f : α → List Value) (k : Nat) (hk : ∀ x ∈ l, (f x).length = k) (i j : Nat) (hi : i < l.length) (hj : j < k) : (l.flatMap f)[i * k + j]? = (f l[i])[j]? := by
  induction l generalizing i with
  | nil => simp at hi
  | cons x l ih =>
    have hx := hk x (by simp)
    cases i with
    | zero => simp only [List.flatMap_cons, Nat.zero_mul, Nat.zero_add, List.getElem_cons_zero]; rw [List.getElem?_append_left (by omega)]
    | succ i =>
      simp only [List.flatMap_cons, List.getElem_cons_succ]
      rw [List.getElem?_append_right (by rw [hx, Nat.succ_mul]; omega), hx, show (i + 1) * k + j - k = i * k + j by rw [Nat.succ_mul]; omega]
      exact ih (fun y hy => hk y (by simp [hy])) i (by simpa using hi)
theorem flatMap_length {α : Type} (l : List α) (f : α → List Value) (k : Nat) (hk : ∀ x ∈ l, (f x).length = k) : (l.flatMap f).length = l.length * k := by
  induction l with
  | nil => simp
  | cons x l ih => simp only [List.flatMap_cons, List.length_append, hk x (by simp), ih (fun y hy => hk y (by simp [hy])), List.length_cons, Nat.succ_mul]; omega

theorem flatMap_one {α : Type} (l : List α) (f : α → Value) : l.flatMap (fun b => [f b]) = l.map f := by
  induction l with
  | nil => rfl
  | cons x l ih => rw [List.flatMap_cons, ih]; rfl

section
variable {H : Type} {enc : TypeId × Value → H} {P : Program} {W : World} {base : Nat}

/-- A slice whose elements read as records. -/
theorem open_recs {Rec : Type} [Inhabited Rec] {t e : TypeId} {v : Value} {d : DataW H} {ps : List MemPlace} (cellsR : Rec → List Value) (okR : Rec → Prop) (k : Nat) (hk : 0 < k) (hce : P.cellsOf e = k) (hlen : ∀ r, (cellsR r).length = k)
    (hel : ∀ n cs x, DataW.trod enc P W 0 (fun _ => true) true n e cs = some x → ∃ r, cs = cellsR r ∧ okR r)
    (ht : P.underlying t = some (.slice e)) (hok : Value.okWide P W .any base t v) (h : DataW.Trod enc P W 0 (fun _ => true) true t v d ps) :
    ∃ A c, ∃ l : List Rec, v = .slice A l.length c ∧ l.length ≤ c ∧ c ≤ maxLen ∧ Reads W A (l.flatMap cellsR) ∧ (∀ r ∈ l, okR r) ∧ (A = none → c = 0) := by
  obtain ⟨a0, len, cap, rfl⟩ := okWide_slice ht hok
  obtain ⟨fuel, hf⟩ := h
  rcases Go.Deep.open_slice ht hf with ⟨hcs, _⟩ | ⟨a, len', cap', m, n, D, Pl, hcs, _, hl, hm, hmm, _, hi⟩
  · simp [Value.cells] at hcs
    obtain ⟨rfl, rfl, rfl⟩ := hcs
    exact ⟨none, 0, [], rfl, Nat.le_refl _, Nat.zero_le _, Reads.nil _ _, by simp, fun _ => rfl⟩
  · simp [Value.cells] at hcs
    obtain ⟨rfl, rfl, rfl⟩ := hcs
    simp only [if_true] at hmm
    subst hmm
    have each : ∀ i, i < m → ∃ r : Rec, okR r ∧ ∀ j, j < k → W.cell? (a.add (i * k + j)) = (cellsR r)[j]? := by
      intro i him
      obtain ⟨cs', h1, h2⟩ := hi i him
      rw [hce] at h1
      obtain ⟨_, hl1, hc1⟩ := World.cells?_some h1
      obtain ⟨r, rfl, hr⟩ := hel _ _ _ h2
      exact ⟨r, hr, fun j hj => by rw [← Go.Deep.add_add]; exact hc1 j hj⟩
    obtain ⟨F, hF⟩ := Go.Deep.choose_lt each
    have hxl : ∀ x ∈ (List.range len).map F, (cellsR x).length = k := fun x _ => hlen x
    refine ⟨some a, m, (List.range len).map F, by simp, by simpa using hl, hm, ?_, ?_, fun h => by cases h⟩
    · intro hx
      have hlen0 : 0 < len := by
        rcases Nat.eq_zero_or_pos len with h0 | h0
        · subst h0; simp at hx
        · exact h0
      have c0 := (hF 0 (by omega)).2 0 hk
      have hc0 : ∃ v, (cellsR (F 0))[0]? = some v := ⟨_, List.getElem?_eq_getElem (by rw [hlen]; exact hk)⟩
      obtain ⟨v0, hv0⟩ := hc0
      rw [hv0] at c0
      have ha : a.add (0 * k + 0) = a := by simp [Addr.add]
      rw [ha] at c0
      have hs := spot_none c0
      have hbl := World.block_lt_of_cell? _ _ c0
      have hae : a = ⟨a.block, a.off, none⟩ := by cases a; simp at hs; simp [hs]
      refine ⟨a.block, a.off, by rw [← hae], hbl, fun j u hu => ?_⟩
      have hj : j < len * k := by
        have := (List.getElem?_eq_some_iff.1 hu).1
        rw [flatMap_length _ _ k hxl] at this
        simpa using this
      have hdm := Nat.div_add_mod' j k
      have hq : j / k < len := Nat.div_lt_of_lt_mul (by rw [Nat.mul_comm]; exact hj)
      have hr : j % k < k := Nat.mod_lt _ hk
      have hc := (hF (j / k) (by omega)).2 (j % k) hr
      have hg := flatMap_get ((List.range len).map F) cellsR k hxl (j / k) (j % k) (by simpa using hq) hr
      rw [hdm] at hc hg
      rw [hg] at hu
      simp only [List.getElem_map, List.getElem_range] at hu
      rw [hu] at hc
      have had : a.add j = ⟨a.block, a.off + j, none⟩ := by rw [hae]; exact Addr.add_lit _ _ _
      rw [had] at hc
      exact hc
    · intro r hr
      obtain ⟨i, hi', rfl⟩ := List.mem_map.1 hr
      exact (hF i (by have := List.mem_range.1 hi'; omega)).1

theorem open_bytes {t e : TypeId} {v : Value} {d : DataW H} {ps : List MemPlace} (ht : P.underlying t = some (.slice e)) (he : P.underlying e = some (.int .u8)) (hce : P.cellsOf e = 1)
    (hok : Value.okWide P W .any base t v) (h : DataW.Trod enc P W 0 (fun _ => true) true t v d ps) :
    ∃ A c, ∃ l : List UInt8, v = .slice A l.length c ∧ l.length ≤ c ∧ c ≤ maxLen ∧ Reads W A (l.map byteV) ∧ (A = none → c = 0) := by
  obtain ⟨A, c, l, hv, hl, hm, hr, _, hn⟩ := open_recs (fun b => [byteV b]) (fun _ => True) 1 (by decide) hce (fun _ => rfl) (fun n cs x hx => by
    obtain ⟨m, rfl, _, hw⟩ := DataW.trod_int he hx
    simp [Lit.wf, IntKind.min, IntKind.max, IntKind.signed, IntKind.bits] at hw
    refine ⟨UInt8.ofNat m.toNat, ?_, trivial⟩
    have : m.toNat % 256 = m.toNat := Nat.mod_eq_of_lt (by omega)
    simp [byteV, this]
    omega) ht hok h
  refine ⟨A, c, l, hv, hl, hm, ?_, hn⟩
  rw [← flatMap_one]
  exact hr

/-- A number of 64 bits with a sign. -/
def In64 (n : Int) : Prop := -9223372036854775808 ≤ n ∧ n ≤ 9223372036854775807
theorem wf_i64 {n : Int} (h : (Lit.int .i64 n).wf = true) : In64 n := by
  simp [Lit.wf, IntKind.min, IntKind.max, IntKind.signed, IntKind.bits] at h
  exact ⟨by omega, by omega⟩

/-- An element of two whole numbers. -/
theorem elem_ints2 {e f0 f1 : TypeId} {F0 F1 : Field} (he : P.underlying e = some (.struct #[F0, F1])) (hce : P.cellsOf e = 2) (t0 : F0.type = f0) (t1 : F1.type = f1) (o0 : F0.offset = 0) (o1 : F1.offset = 1)
    (h0 : P.underlying f0 = some (.int .i64)) (h1 : P.underlying f1 = some (.int .i64)) (c0 : P.cellsOf f0 = 1) (c1 : P.cellsOf f1 = 1) {n : Nat} {cs : List Value} {x : DataW H × List MemPlace}
    (h : DataW.trod enc P W 0 (fun _ => true) true n e cs = some x) : ∃ r : Int × Int, cs = [.int .i64 r.1, .int .i64 r.2] ∧ (In64 r.1 ∧ In64 r.2) := by
  obtain ⟨xs, m, _, _, hl, hxl, hf⟩ := DataW.trod_struct he h
  match xs, hxl with
  | [y0, y1], _ =>
    have g0 := hf 0 F0 rfl
    have g1 := hf 1 F1 rfl
    rw [t0, o0, c0] at g0
    rw [t1, o1, c1] at g1
    obtain ⟨a, ha, _, wa⟩ := DataW.trod_int h0 g0
    obtain ⟨b, hb, _, wb⟩ := DataW.trod_int h1 g1
    rw [hce] at hl
    match cs, hl with
    | [u, v], _ =>
      simp at ha hb
      subst ha hb
      exact ⟨(a, b), rfl, wf_i64 wa, wf_i64 wb⟩
end
end Go.Proofs.YtblfingmdipopaaGreat

/- How arguments are opened: slices that lie in an array. -/
namespace Go.Proofs.YtblfingmdipopaaGreat
open Go.ChangeShapes Go.WideShapes Go.ChangeAt Go.RowKit

section
variable {H : Type} {enc : TypeId × Value → H} {P : Program} {W : World} {base : Nat}

theorem open_recsE {Rec : Type} [Inhabited Rec] {t e : TypeId} {v : Value} {d : DataW H} {ps : List MemPlace} (cellsR : Rec → List Value) (okR : Rec → Prop) (k : Nat) (hk : 0 < k) (hce : P.cellsOf e = k) (hlen : ∀ r, (cellsR r).length = k)
    (hel : ∀ n cs x, DataW.trod enc P W 0 (fun _ => true) true n e cs = some x → ∃ r, cs = cellsR r ∧ okR r)
    (ht : P.underlying t = some (.slice e)) (hok : ∃ a0 len cap, v = .slice a0 len cap) (h : DataW.Trod enc P W 0 (fun _ => true) true t v d ps) :
    ∃ A c, ∃ l : List Rec, v = .slice A l.length c ∧ l.length ≤ c ∧ c ≤ maxLen ∧ Reads W A (l.flatMap cellsR) ∧ (∀ r ∈ l, okR r) ∧ (A = none → c = 0) := by
  obtain ⟨a0, len, cap, rfl⟩ := hok
  obtain ⟨fuel, hf⟩ := h
  rcases Go.Deep.open_slice ht hf with ⟨hcs, _⟩ | ⟨a, len', cap', m, n, D, Pl, hcs, _, hl, hm, hmm, _, hi⟩
  · simp [Value.cells] at hcs
    obtain ⟨rfl, rfl, rfl⟩ := hcs
    exact ⟨none, 0, [], rfl, Nat.le_refl _, Nat.zero_le _, Reads.nil _ _, by simp, fun _ => rfl⟩
  · simp [Value.cells] at hcs
    obtain ⟨rfl, rfl, rfl⟩ := hcs
    simp only [if_true] at hmm
    subst hmm
    have each : ∀ i, i < m → ∃ r : Rec, okR r ∧ ∀ j, j < k → W.cell? (a.add (i * k + j)) = (cellsR r)[j]? := by
      intro i him
      obtain ⟨cs', h1, h2⟩ := hi i him
      rw [hce] at h1
      obtain ⟨_, hl1, hc1⟩ := World.cells?_some h1
      obtain ⟨r, rfl, hr⟩ := hel _ _ _ h2
      exact ⟨r, hr, fun j hj => by rw [← Go.Deep.add_add]; exact hc1 j hj⟩
    obtain ⟨F, hF⟩ := Go.Deep.choose_lt each
    have hxl : ∀ x ∈ (List.range len).map F, (cellsR x).length = k := fun x _ => hlen x
    refine ⟨some a, m, (List.range len).map F, by simp, by simpa using hl, hm, ?_, ?_, fun h => by cases h⟩
    · intro hx
      have hlen0 : 0 < len := by
        rcases Nat.eq_zero_or_pos len with h0 | h0
        · subst h0; simp at hx
        · exact h0
      have c0 := (hF 0 (by omega)).2 0 hk
      have hc0 : ∃ v, (cellsR (F 0))[0]? = some v := ⟨_, List.getElem?_eq_getElem (by rw [hlen]; exact hk)⟩
      obtain ⟨v0, hv0⟩ := hc0
      rw [hv0] at c0
      have ha : a.add (0 * k + 0) = a := by simp [Addr.add]
      rw [ha] at c0
      have hs := spot_none c0
      have hbl := World.block_lt_of_cell? _ _ c0
      have hae : a = ⟨a.block, a.off, none⟩ := by cases a; simp at hs; simp [hs]
      refine ⟨a.block, a.off, by rw [← hae], hbl, fun j u hu => ?_⟩
      have hj : j < len * k := by
        have := (List.getElem?_eq_some_iff.1 hu).1
        rw [flatMap_length _ _ k hxl] at this
        simpa using this
      have hdm := Nat.div_add_mod' j k
      have hq : j / k < len := Nat.div_lt_of_lt_mul (by rw [Nat.mul_comm]; exact hj)
      have hr : j % k < k := Nat.mod_lt _ hk
      have hc := (hF (j / k) (by omega)).2 (j % k) hr
      have hg := flatMap_get ((List.range len).map F) cellsR k hxl (j / k) (j % k) (by simpa using hq) hr
      rw [hdm] at hc hg
      rw [hg] at hu
      simp only [List.getElem_map, List.getElem_range] at hu
      rw [hu] at hc
      have had : a.add j = ⟨a.block, a.off + j, none⟩ := by rw [hae]; exact Addr.add_lit _ _ _
      rw [had] at hc
      exact hc
    · intro r hr
      obtain ⟨i, hi', rfl⟩ := List.mem_map.1 hr
      exact (hF i (by have := List.mem_range.1 hi'; omega)).1

theorem open_bytesF {t e : TypeId} {v : Value} {d : DataW H} {ps : List MemPlace} (ht : P.underlying t = some (.slice e)) (he : P.underlying e = some (.int .u8)) (hce : P.cellsOf e = 1)
    (hok : ∃ a0 len cap, v = .slice a0 len cap) (h : DataW.Trod enc P W 0 (fun _ => true) true t v d ps) :
    ∃ A c, ∃ l : List UInt8, v = .slice A l.length c ∧ l.length ≤ c ∧ c ≤ maxLen ∧ Reads W A (l.map byteV) ∧ (A = none → c = 0) := by
  obtain ⟨A, c, l, hv, hl, hm, hr, _, hn⟩ := open_recsE (fun b => [byteV b]) (fun _ => True) 1 (by decide) hce (fun _ => rfl) (fun n cs x hx => by
    obtain ⟨m, rfl, _, hw⟩ := DataW.trod_int he hx
    simp [Lit.wf, IntKind.min, IntKind.max, IntKind.signed, IntKind.bits] at hw
    refine ⟨UInt8.ofNat m.toNat, ?_, trivial⟩
    have : m.toNat % 256 = m.toNat := Nat.mod_eq_of_lt (by omega)
    simp [byteV, this]
    omega) ht hok h
  refine ⟨A, c, l, hv, hl, hm, ?_, hn⟩
  rw [← flatMap_one]
  exact hr


theorem open_bytesE {t e : TypeId} {v : Value} {d : DataW H} {ps : List MemPlace} (ht : P.underlying t = some (.slice e)) (he : P.underlying e = some (.int .u8)) (hce : P.cellsOf e = 1)
    {m : Nat} (h : DataW.trod enc P W 0 (fun _ => true) true m t [v] = some (d, ps)) :
    ∃ A c, ∃ l : List UInt8, v = .slice A l.length c ∧ l.length ≤ c ∧ c ≤ maxLen ∧ Reads W A (l.map byteV) := by
  have hv : ∃ a0 len cap, v = .slice a0 len cap := by
    rcases Go.Deep.open_slice ht h with ⟨hcs, _⟩ | ⟨a, len', cap', _, n, D, Pl, hcs, _⟩
    · exact ⟨_, _, _, by simpa using hcs⟩
    · exact ⟨_, _, _, by simpa using hcs⟩
  obtain ⟨A, c, l, h1, h2, h3, h4, _⟩ := open_bytesF ht he hce hv (d := d) (ps := ps) (by obtain ⟨_, _, _, rfl⟩ := hv; exact ⟨m, h⟩)
  exact ⟨A, c, l, h1, h2, h3, h4⟩

/-- An array of two, each of one cell. -/
theorem open_arr2 {t e : TypeId} {v : Value} {d : DataW H} {ps : List MemPlace} (ht : P.underlying t = some (.array 2 e)) (hce : P.cellsOf e = 1) (hct : P.cellsOf t = 2)
    (hok : Value.okWide P W .any base t v) (h : DataW.Trod enc P W 0 (fun _ => true) true t v d ps) :
    ∃ x y, v = .agg #[x, y] ∧ (∃ m dx px, DataW.trod enc P W 0 (fun _ => true) true m e [x] = some (dx, px)) ∧ (∃ m dy py, DataW.trod enc P W 0 (fun _ => true) true m e [y] = some (dy, py)) := by
  simp only [Value.okWide, ht] at hok
  obtain ⟨cs, rfl, h2, _⟩ := hok
  rw [hct] at h2
  obtain ⟨fuel, hf⟩ := h
  obtain ⟨xs, m, _, _, hl, hxl, hi⟩ := DataW.trod_array ht hf
  match cs, h2 with
  | ⟨[x, y]⟩, _ =>
    match xs, hxl with
    | [y0, y1], _ =>
      have g0 := hi 0 (by omega)
      have g1 := hi 1 (by omega)
      rw [hce] at g0 g1
      exact ⟨x, y, rfl, ⟨m, y0.1, y0.2, g0⟩, ⟨m, y1.1, y1.2, g1⟩⟩
end
end Go.Proofs.YtblfingmdipopaaGreat
