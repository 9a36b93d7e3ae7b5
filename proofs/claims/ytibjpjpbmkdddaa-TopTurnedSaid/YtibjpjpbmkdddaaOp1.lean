/- How arguments are opened: slices of bytes, slices of structs of plain fields, structs. -/
import Derived.Test.YtibjpjpbmkdddaaShut
import Derived.Test.YtibjpjpbmkdddaaOct0
import Derived.Deep.Slices
import Derived.Deep.Fields
namespace Go.Proofs.Ytibjpjpbmkdddaa
open Go.ChangeShapes Go.WideShapes Go.ChangeAt Go.RowKit

theorem spot_none {w : World} {a : Addr} {v : Value} (h : w.cell? a = some v) : a.spot = none := by
  unfold World.cell? at h
  split at h
  · split at h
    · cases h
    · rename_i hs; simpa using hs
  · cases h

theorem flatMap_get {α : Type} (l : List α) (f : α → List Value) (k : Nat) (hk : ∀ x ∈ l, (f x).length = k) (i j : Nat) (hi : i < l.length) (hj : j < k) : (l.flatMap f)[i * k + j]? = (f l[i])[j]? := by
  induction l generalizing i with
  | nil => simp at hi
  | cons x l ih =>
    have hx := hk x (by simp)
    cases i with
    | zero => simp only [List.flatMap_cons, Nat.zero_mul, Nat.zero_add, List.getElem_cons_zero]; rw [List.getElem?_append_left (by omega)]
    | succ i =>
      simp only [List.flatMap_cons, List.getElem_cons_succ]
      rw [List.getElem?_append_right (by rw [hx, Nat.succ_mul]; omega), hx, show (i + 1) * k + j - k = i * k + j by rw [Nat.succ_mul]; omega]
      exact ih (fun y hy => hk y (by simp [hy])) i (by simpa using hi)
theorem flatMap_length {α : Type} (l : List α) (f : α → List Value) (k : Nat) (hk : ∀ x ∈ l, (f x).length = k) : (l.flatMap f).length = l.length * k := by
  induction l with
  | nil => simp
  | cons x l ih => simp only [List.flatMap_cons, List.length_append, hk x (by simp), ih (fun y hy => hk y (by simp [hy])), List.length_cons, Nat.succ_mul]; omega

theorem flatMap_one {α : Type} (l : List α) (f : α → Value) : l.flatMap (fun b => [f b]) = l.map f := by
  induction l with
  | nil => rfl
  | cons x l ih => rw [List.flatMap_cons, ih]; rfl

section
variable {H : Type} {enc : TypeId × Value → H} {P : Program} {W : World} {base : Nat}

/-- A slice whose elements read as records. -/
theorem open_recs {Rec : Type} [Inhabited Rec] {t e : TypeId} {v : Value} {d : DataW H} {ps : List MemPlace} (cellsR : Rec → List Value) (okR : Rec → Prop) (k : Nat) (hk : 0 < k) (hce : P.cellsOf e = k) (hlen : ∀ r, (cellsR r).length = k)
    (hel : ∀ n cs x, DataW.trod enc P W 0 (fun _ => true) true n e cs = some x → ∃ r, cs = cellsR r ∧ okR r)
    (ht : P.underlying t = some (.slice e)) (hok : Value.okWide P W .any base t v) (h : DataW.Trod enc P W 0 (fun _ => true) true t v d ps) :
    ∃ A c, ∃ l : List Rec, v = .slice A l.length c ∧ l.length ≤ c ∧ c ≤ maxLen ∧ Reads W A (l.flatMap cellsR) ∧ (∀ r ∈ l, okR r) ∧ (A = none → c = 0) := by
  obtain ⟨a0, len, cap, rfl⟩ := okWide_slice ht hok
  obtain ⟨fuel, hf⟩ := h
  rcases Go.Deep.open_slice ht hf with ⟨hcs, _⟩ | ⟨a, len', cap', m, n, D, Pl, hcs, _, hl, hm, hmm, _, hi⟩
  · simp [Value.cells] at hcs
    obtain ⟨rfl, rfl, rfl⟩ := hcs
    exact ⟨none, 0, [], rfl, Nat.le_refl _, Nat.zero_le _, Reads.nil _ _, by simp, fun _ => rfl⟩
  · simp [Value.cells] at hcs
    obtain ⟨rfl, rfl, rfl⟩ := hcs
    simp only [if_true] at hmm
    subst hmm
    have each : ∀ i, i < m → ∃ r : Rec, okR r ∧ ∀ j, j < k → W.cell? (a.add (i * k + j)) = (cellsR r)[j]? := by
      intro i him
      obtain ⟨cs', h1, h2⟩ := hi i him
      rw [hce] at h1
      obtain ⟨_, hl1, hc1⟩ := World.cells?_some h1
      obtain ⟨r, rfl, hr⟩ := hel _ _ _ h2
      exact ⟨r, hr, fun j hj => by rw [← Go.Deep.add_add]; exact hc1 j hj⟩
    obtain ⟨F, hF⟩ := Go.Deep.choose_lt each
    have hxl : ∀ x ∈ (List.range len).map F, (cellsR x).length = k := fun x _ => hlen x
    refine ⟨some a, m, (List.range len).map F, by simp, by simpa using hl, hm, ?_, ?_, fun h => by cases h⟩
    · intro hx
      have hlen0 : 0 < len := by
        rcases Nat.eq_zero_or_pos len with h0 | h0
        · subst h0; simp at hx
        · exact h0
      have c0 := (hF 0 (by omega)).2 0 hk
      have hc0 : ∃ v, (cellsR (F 0))[0]? = some v := ⟨_, List.getElem?_eq_getElem (by rw [hlen]; exact hk)⟩
      obtain ⟨v0, hv0⟩ := hc0
      rw [hv0] at c0
      have ha : a.add (0 * k + 0) = a := by simp [Addr.add]
      rw [ha] at c0
      have hs := spot_none c0
      have hbl := World.block_lt_of_cell? _ _ c0
      have hae : a = ⟨a.block, a.off, none⟩ := by cases a; simp at hs; simp [hs]
      refine ⟨a.block, a.off, by rw [← hae], hbl, fun j u hu => ?_⟩
      have hj : j < len * k := by
        have := (List.getElem?_eq_some_iff.1 hu).1
        rw [flatMap_length _ _ k hxl] at this
        simpa using this
      have hdm := Nat.div_add_mod' j k
      have hq : j / k < len := Nat.div_lt_of_lt_mul (by rw [Nat.mul_comm]; exact hj)
      have hr : j % k < k := Nat.mod_lt _ hk
      have hc := (hF (j / k) (by omega)).2 (j % k) hr
      have hg := flatMap_get ((List.range len).map F) cellsR k hxl (j / k) (j % k) (by simpa using hq) hr
      rw [hdm] at hc hg
      rw [hg] at hu
      simp only [List.getElem_map, List.getElem_range] at hu
      rw [hu] at hc
      have had : a.add j = ⟨a.block, a.off + j, none⟩ := by rw [hae]; exact Addr.add_lit _ _ _
      rw [had] at hc
      exact hc
    · intro r hr
      obtain ⟨i, hi', rfl⟩ := List.mem_map.1 hr
      exact (hF i (by have := List.mem_range.1 hi'; omega)).1

theorem open_bytes {t e : TypeId} {v : Value} {d : DataW H} {ps : List MemPlace} (ht : P.underlying t = some (.slice e)) (he : P.underlying e = some (.int .u8)) (hce : P.cellsOf e = 1)
    (hok : Value.okWide P W .any base t v) (h : DataW.Trod enc P W 0 (fun _ => true) true t v d ps) :
    ∃ A c, ∃ l : List UInt8, v = .slice A l.length c ∧ l.length ≤ c ∧ c ≤ maxLen ∧ Reads W A (l.map byteV) ∧ (A = none → c = 0) := by
  obtain ⟨A, c, l, hv, hl, hm, hr, _, hn⟩ := open_recs (fun b => [byteV b]) (fun _ => True) 1 (by decide) hce (fun _ => rfl) (fun n cs x hx => by
    obtain ⟨m, rfl, _, hw⟩ := DataW.trod_int he hx
    simp [Lit.wf, IntKind.min, IntKind.max, IntKind.signed, IntKind.bits] at hw
    refine ⟨UInt8.ofNat m.toNat, ?_, trivial⟩
    have : m.toNat % 256 = m.toNat := Nat.mod_eq_of_lt (by omega)
    simp [byteV, this]
    omega) ht hok h
  refine ⟨A, c, l, hv, hl, hm, ?_, hn⟩
  rw [← flatMap_one]
  exact hr

/-- A number of 64 bits with a sign. -/
def In64 (n : Int) : Prop := -9223372036854775808 ≤ n ∧ n ≤ 9223372036854775807
theorem wf_i64 {n : Int} (h : (Lit.int .i64 n).wf = true) : In64 n := by
  simp [Lit.wf, IntKind.min, IntKind.max, IntKind.signed, IntKind.bits] at h
  exact ⟨by omega, by omega⟩

/-- An element of two whole numbers. -/
theorem elem_ints2 {e f0 f1 : TypeId} {F0 F1 : Field} (he : P.underlying e = some (.struct #[F0, F1])) (hce : P.cellsOf e = 2) (t0 : F0.type = f0) (t1 : F1.type = f1) (o0 : F0.offset = 0) (o1 : F1.offset = 1)
    (h0 : P.underlying f0 = some (.int .i64)) (h1 : P.underlying f1 = some (.int .i64)) (c0 : P.cellsOf f0 = 1) (c1 : P.cellsOf f1 = 1) {n : Nat} {cs : List Value} {x : DataW H × List MemPlace}
    (h : DataW.trod enc P W 0 (fun _ => true) true n e cs = some x) : ∃ r : Int × Int, cs = [.int .i64 r.1, .int .i64 r.2] ∧ (In64 r.1 ∧ In64 r.2) := by
  obtain ⟨xs, m, _, _, hl, hxl, hf⟩ := DataW.trod_struct he h
  match xs, hxl with
  | [y0, y1], _ =>
    have g0 := hf 0 F0 rfl
    have g1 := hf 1 F1 rfl
    rw [t0, o0, c0] at g0
    rw [t1, o1, c1] at g1
    obtain ⟨a, ha, _, wa⟩ := DataW.trod_int h0 g0
    obtain ⟨b, hb, _, wb⟩ := DataW.trod_int h1 g1
    rw [hce] at hl
    match cs, hl with
    | [u, v], _ =>
      simp at ha hb
      subst ha hb
      exact ⟨(a, b), rfl, wf_i64 wa, wf_i64 wb⟩
end
end Go.Proofs.Ytibjpjpbmkdddaa
