/- How arguments are opened: slices that lie in an array. -/
import Derived.Test.YtibjpjpbmkdddaaOp1
namespace Go.Proofs.Ytibjpjpbmkdddaa
open Go.ChangeShapes Go.WideShapes Go.ChangeAt Go.RowKit

section
variable {H : Type} {enc : TypeId × Value → H} {P : Program} {W : World} {base : Nat}

theorem open_recsE {Rec : Type} [Inhabited Rec] {t e : TypeId} {v : Value} {d : DataW H} {ps : List MemPlace} (cellsR : Rec → List Value) (okR : Rec → Prop) (k : Nat) (hk : 0 < k) (hce : P.cellsOf e = k) (hlen : ∀ r, (cellsR r).length = k)
    (hel : ∀ n cs x, DataW.trod enc P W 0 (fun _ => true) true n e cs = some x → ∃ r, cs = cellsR r ∧ okR r)
    (ht : P.underlying t = some (.slice e)) (hok : ∃ a0 len cap, v = .slice a0 len cap) (h : DataW.Trod enc P W 0 (fun _ => true) true t v d ps) :
    ∃ A c, ∃ l : List Rec, v = .slice A l.length c ∧ l.length ≤ c ∧ c ≤ maxLen ∧ Reads W A (l.flatMap cellsR) ∧ (∀ r ∈ l, okR r) ∧ (A = none → c = 0) := by
  obtain ⟨a0, len, cap, rfl⟩ := hok
  obtain ⟨fuel, hf⟩ := h
  rcases Go.Deep.open_slice ht hf with ⟨hcs, _⟩ | ⟨a, len', cap', m, n, D, Pl, hcs, _, hl, hm, hmm, _, hi⟩
  · simp [Value.cells] at hcs
    obtain ⟨rfl, rfl, rfl⟩ := hcs
    exact ⟨none, 0, [], rfl, Nat.le_refl _, Nat.zero_le _, Reads.nil _ _, by simp, fun _ => rfl⟩
  · simp [Value.cells] at hcs
    obtain ⟨rfl, rfl, rfl⟩ := hcs
    simp only [if_true] at hmm
    subst hmm
    have each : ∀ i, i < m → ∃ r : Rec, okR r ∧ ∀ j, j < k → W.cell? (a.add (i * k + j)) = (cellsR r)[j]? := by
      intro i him
      obtain ⟨cs', h1, h2⟩ := hi i him
      rw [hce] at h1
      obtain ⟨_, hl1, hc1⟩ := World.cells?_some h1
      obtain ⟨r, rfl, hr⟩ := hel _ _ _ h2
      exact ⟨r, hr, fun j hj => by rw [← Go.Deep.add_add]; exact hc1 j hj⟩
    obtain ⟨F, hF⟩ := Go.Deep.choose_lt each
    have hxl : ∀ x ∈ (List.range len).map F, (cellsR x).length = k := fun x _ => hlen x
    refine ⟨some a, m, (List.range len).map F, by simp, by simpa using hl, hm, ?_, ?_, fun h => by cases h⟩
    · intro hx
      have hlen0 : 0 < len := by
        rcases Nat.eq_zero_or_pos len with h0 | h0
        · subst h0; simp at hx
        · exact h0
      have c0 := (hF 0 (by omega)).2 0 hk
      have hc0 : ∃ v, (cellsR (F 0))[0]? = some v := ⟨_, List.getElem?_eq_getElem (by rw [hlen]; exact hk)⟩
      obtain ⟨v0, hv0⟩ := hc0
      rw [hv0] at c0
      have ha : a.add (0 * k + 0) = a := by simp [Addr.add]
      rw [ha] at c0
      have hs := spot_none c0
      have hbl := World.block_lt_of_cell? _ _ c0
      have hae : a = ⟨a.block, a.off, none⟩ := by cases a; simp at hs; simp [hs]
      refine ⟨a.block, a.off, by rw [← hae], hbl, fun j u hu => ?_⟩
      have hj : j < len * k := by
        have := (List.getElem?_eq_some_iff.1 hu).1
        rw [flatMap_length _ _ k hxl] at this
        simpa using this
      have hdm := Nat.div_add_mod' j k
      have hq : j / k < len := Nat.div_lt_of_lt_mul (by rw [Nat.mul_comm]; exact hj)
      have hr : j % k < k := Nat.mod_lt _ hk
      have hc := (hF (j / k) (by omega)).2 (j % k) hr
      have hg := flatMap_get ((List.range len).map F) cellsR k hxl (j / k) (j % k) (by simpa using hq) hr
      rw [hdm] at hc hg
      rw [hg] at hu
      simp only [List.getElem_map, List.getElem_range] at hu
      rw [hu] at hc
      have had : a.add j = ⟨a.block, a.off + j, none⟩ := by rw [hae]; exact Addr.add_lit _ _ _
      rw [had] at hc
      exact hc
    · intro r hr
      obtain ⟨i, hi', rfl⟩ := List.mem_map.1 hr
      exact (hF i (by have := List.mem_range.1 hi'; omega)).1

theorem open_bytesF {t e : TypeId} {v : Value} {d : DataW H} {ps : List MemPlace} (ht : P.underlying t = some (.slice e)) (he : P.underlying e = some (.int .u8)) (hce : P.cellsOf e = 1)
    (hok : ∃ a0 len cap, v = .slice a0 len cap) (h : DataW.Trod enc P W 0 (fun _ => true) true t v d ps) :
    ∃ A c, ∃ l : List UInt8, v = .slice A l.length c ∧ l.length ≤ c ∧ c ≤ maxLen ∧ Reads W A (l.map byteV) ∧ (A = none → c = 0) := by
  obtain ⟨A, c, l, hv, hl, hm, hr, _, hn⟩ := open_recsE (fun b => [byteV b]) (fun _ => True) 1 (by decide) hce (fun _ => rfl) (fun n cs x hx => by
    obtain ⟨m, rfl, _, hw⟩ := DataW.trod_int he hx
    simp [Lit.wf, IntKind.min, IntKind.max, IntKind.signed, IntKind.bits] at hw
    refine ⟨UInt8.ofNat m.toNat, ?_, trivial⟩
    have : m.toNat % 256 = m.toNat := Nat.mod_eq_of_lt (by omega)
    simp [byteV, this]
    omega) ht hok h
  refine ⟨A, c, l, hv, hl, hm, ?_, hn⟩
  rw [← flatMap_one]
  exact hr


theorem open_bytesE {t e : TypeId} {v : Value} {d : DataW H} {ps : List MemPlace} (ht : P.underlying t = some (.slice e)) (he : P.underlying e = some (.int .u8)) (hce : P.cellsOf e = 1)
    {m : Nat} (h : DataW.trod enc P W 0 (fun _ => true) true m t [v] = some (d, ps)) :
    ∃ A c, ∃ l : List UInt8, v = .slice A l.length c ∧ l.length ≤ c ∧ c ≤ maxLen ∧ Reads W A (l.map byteV) := by
  have hv : ∃ a0 len cap, v = .slice a0 len cap := by
    rcases Go.Deep.open_slice ht h with ⟨hcs, _⟩ | ⟨a, len', cap', _, n, D, Pl, hcs, _⟩
    · exact ⟨_, _, _, by simpa using hcs⟩
    · exact ⟨_, _, _, by simpa using hcs⟩
  obtain ⟨A, c, l, h1, h2, h3, h4, _⟩ := open_bytesF ht he hce hv (d := d) (ps := ps) (by obtain ⟨_, _, _, rfl⟩ := hv; exact ⟨m, h⟩)
  exact ⟨A, c, l, h1, h2, h3, h4⟩

/-- An array of two, each of one cell. -/
theorem open_arr2 {t e : TypeId} {v : Value} {d : DataW H} {ps : List MemPlace} (ht : P.underlying t = some (.array 2 e)) (hce : P.cellsOf e = 1) (hct : P.cellsOf t = 2)
    (hok : Value.okWide P W .any base t v) (h : DataW.Trod enc P W 0 (fun _ => true) true t v d ps) :
    ∃ x y, v = .agg #[x, y] ∧ (∃ m dx px, DataW.trod enc P W 0 (fun _ => true) true m e [x] = some (dx, px)) ∧ (∃ m dy py, DataW.trod enc P W 0 (fun _ => true) true m e [y] = some (dy, py)) := by
  simp only [Value.okWide, ht] at hok
  obtain ⟨cs, rfl, h2, _⟩ := hok
  rw [hct] at h2
  obtain ⟨fuel, hf⟩ := h
  obtain ⟨xs, m, _, _, hl, hxl, hi⟩ := DataW.trod_array ht hf
  match cs, h2 with
  | ⟨[x, y]⟩, _ =>
    match xs, hxl with
    | [y0, y1], _ =>
      have g0 := hi 0 (by omega)
      have g1 := hi 1 (by omega)
      rw [hce] at g0 g1
      exact ⟨x, y, rfl, ⟨m, y0.1, y0.2, g0⟩, ⟨m, y1.1, y1.2, g1⟩⟩
end
end Go.Proofs.Ytibjpjpbmkdddaa
