/- The graph that TopUnit runs over: canonical, each weight 1. Conditions: none. -/
import Derived.Test.YtblfingmdipopaaGreatM15
import Derived.Test.YtblfingmdipopaaGreatM17
import Derived.Test.YtblfingmdipopaaGreatM18
import Derived.Test.YtblfingmdipopaaGreatM51
import Derived.Test.YtblfingmdipopaaGreatM22
import Derived.Test.YtblfingmdipopaaGreatM42
import Derived.Test.YtblfingmdipopaaGreatM14
import Derived.Test.YtblfingmdipopaaGreatM16
import Derived.Lib.AppendZeros
import Derived.Test.YtblfingmdipopaaGreatM10
import Derived.Test.YtblfingmdipopaaGreatM46
import Derived.Test.YtblfingmdipopaaGreatM02
namespace Go.Proofs.YtblfingmdipopaaGreat
set_option linter.unusedSimpArgs false
set_option linter.unusedVariables false
open Go.RowKit
theorem right_of1 {n : Int} {l : List Ed} (h1 : 0 ≤ n ∧ n ≤ 4096) (h2 : l.length ≤ 65536) (h3 : ∀ e ∈ l, (0 ≤ e.1 ∧ e.1 < n) ∧ (0 ≤ e.2.1 ∧ e.2.1 < n) ∧ (0 ≤ e.2.2 ∧ e.2.2 ≤ 2147483647)) : rightP n l = 0 := by
  have a1 : l.any (outE n) = false := by rw [List.any_eq_false]; intro e he; have := h3 e he; simp [outE, outV]; omega
  have a2 : l.any badW = false := by rw [List.any_eq_false]; intro e he; have := h3 e he; simp [badW]; omega
  unfold rightP
  rw [if_neg (by omega), if_neg (by omega), if_neg (by omega), if_neg (by rw [a1]; decide), if_neg (by rw [a2]; decide)]
/-- A graph of n vertices whose edges are canonical and weigh 1. -/
structure UnOk (n : Nat) (le : List Ed) : Prop where
  pos : 0 < n
  num : n ≤ 23
  len : le.length ≤ 60
  ends : ∀ e ∈ le, (0 ≤ e.1 ∧ e.1 < n) ∧ (0 ≤ e.2.1 ∧ e.2.1 < n)
  one : ∀ e ∈ le, e.2.2 = 1
  rises : RisesL le
section
variable {n : Nat} {le : List Ed}
theorem UnOk.i64 (h : UnOk n le) : ∀ e ∈ le, In64 e.2.2 := fun e he => by
  rw [h.one e he]
  unfold In64
  omega
theorem UnOk.right (h : UnOk n le) : rightP n le = 0 := right_of1 (by have := h.num; omega) (by have := h.len; omega) (fun e he => by
  have := h.ends e he
  have := h.one e he
  omega)
theorem UnOk.canon (h : UnOk n le) : canonP (madeP oneE allE le) = le := by
  have h1 : madeP oneE allE le = le := by
    unfold madeP
    rw [show le.filter allE = le from List.filter_eq_self.2 (fun _ _ => rfl)]
    refine (List.map_congr_left (g := id) fun e he => ?_).trans (List.map_id _)
    obtain ⟨a, b, c⟩ := e
    have := h.one _ he
    simp only [] at this
    subst this
    rfl
  rw [h1]
  exact canon_rise h.i64 h.rises
theorem UnOk.turned (h : UnOk n le) : ∀ e ∈ canonP (turnL le), e.2.2 = 1 ∧ (0 ≤ e.1 ∧ e.1 < n) ∧ (0 ≤ e.2.1 ∧ e.2.1 < n) := fun e he => by
  have h1 := mem_turnL.1 ((canonP_spec (turnL_in h.i64)).2.1 e he)
  exact ⟨h.one (turnE e) h1, (h.ends (turnE e) h1).2, (h.ends (turnE e) h1).1⟩
theorem UnOk.mat (h : UnOk n le) : MtOkM n n (canonP (turnL le)) := canon_ok (by have := h.num; omega) (by have := h.num; omega) (by have := h.len; rw [turnL_map, List.length_map]; omega) (turnL_in h.i64) (fun e he => by
  have h1 := mem_turnL.1 he
  exact ⟨(h.ends (turnE e) h1).2, (h.ends (turnE e) h1).1⟩)
theorem UnOk.ok (h : UnOk n le) (κ : Int) : ∀ e ∈ canonP (turnL le), OkV (ringP κ) e.2.2 := fun e he => by
  rw [(h.turned e he).1]
  unfold OkV infV
  split
  · exact .inr rfl
  · omega
end
def unN (n : Int) : Nat := if grN n = 0 then 1 else (grN n).toNat
def unL (n : Int) (l : List Ed) : List Ed := canonP (madeP oneE allE (grL n l))
theorem one_in (l : List Ed) : ∀ e ∈ madeP oneE allE l, In64 e.2.2 := fun e he => by
  obtain ⟨x, _, rfl⟩ := List.mem_map.1 he
  unfold In64 oneE
  dsimp only
  omega
theorem un_ok (n : Int) (l : List Ed) : UnOk (unN n) (unL n l) := by
  have hN := grN_in n
  have hm : ∀ e ∈ unL n l, e.2.2 = 1 ∧ (0 ≤ e.1 ∧ e.1 < grN n) ∧ (0 ≤ e.2.1 ∧ e.2.1 < grN n) := fun e he => by
    obtain ⟨x, hx, rfl⟩ := List.mem_map.1 ((canonP_spec (one_in _)).2.1 e he)
    have := grL_in n l x (List.mem_filter.1 hx).1
    exact ⟨rfl, this.1, this.2.1⟩
  have hu : ∀ e ∈ unL n l, ((unN n : Nat) : Int) = grN n := fun e he => by
    have := (hm e he).2.1
    unfold unN
    rw [if_neg (by omega)]
    omega
  refine ⟨?_, ?_, ?_, fun e he => ?_, fun e he => (hm e he).1, (canonP_spec (one_in _)).1⟩
  · unfold unN; split <;> omega
  · unfold unN; split <;> omega
  · have h1 := canonP_length (madeP oneE allE (grL n l))
    have h2 := madeP_length oneE allE (grL n l)
    have h3 := grL_len n l
    unfold unL
    omega
  · rw [hu e he]
    exact (hm e he).2
/-- Both runs over it. -/
theorem un_runs {n s : Nat} {le : List Ed} (h : UnOk n le) (hs : s < n) : ∃ T, T ≤ n ∧ (runS 1 n s (canonP (turnL le)) T).b = 0 ∧ (∀ t, t < T → (runS 1 n s (canonP (turnL le)) t).b ≠ 0) ∧ (runS 2 n s (canonP (turnL le)) T).b = 0 ∧ (∀ t, t < T → (runS 2 n s (canonP (turnL le)) t).b ≠ 0) ∧
    (∀ t, t ≤ T → ∀ i : Nat, (runS 1 n s (canonP (turnL le)) t).b.testBit i = true → OkV (ringP 1) (tellV 1 i ((runS 1 n s (canonP (turnL le)) t).A.getD i 0))) ∧
    (∀ t, t ≤ T → ∀ i : Nat, (runS 2 n s (canonP (turnL le)) t).b.testBit i = true → OkV (ringP 2) (tellV 2 i ((runS 2 n s (canonP (turnL le)) t).A.getD i 0))) ∧
    ∀ i, i < n → ((runS 1 n s (canonP (turnL le)) T).A.getD i 0 = (runS 2 n s (canonP (turnL le)) T).A.getD i 0 ∨ ((runS 1 n s (canonP (turnL le)) T).A.getD i 0 = -1 ∧ (runS 2 n s (canonP (turnL le)) T).A.getD i 0 = 4611686018427387904)) := by
  have hn := h.num
  obtain ⟨T, h1, h2, h3, h4⟩ := runs_end (l := canonP (turnL le)) (show n ≤ 60 by omega) hs (fun e he => (h.turned e he).1) (fun e he => (h.turned e he).2.2)
  refine ⟨T, h1, h2, h3, ?_, fun t ht => ?_, fun t ht => ?_, fun t ht => ?_, fun i hi => ?_⟩
  · rw [← (h4 T (Nat.le_refl _)).bits]; exact h2
  · rw [← (h4 t (Nat.le_of_lt ht)).bits]; exact h3 t ht
  · exact (tell_ok (by omega) (by omega) (runS_lt _ _ _ _ _) (h4 t ht)).1
  · exact (tell_ok (by omega) (by omega) (runS_lt _ _ _ _ _) (h4 t ht)).2
  · rcases (h4 T (Nat.le_refl _)).rel i hi with ⟨a, b⟩ | ⟨a, _, _⟩
    · exact .inr ⟨a, b⟩
    · exact .inl a
end Go.Proofs.YtblfingmdipopaaGreat

/- How a graph, edges and triples that come in are opened. -/
namespace Go.Proofs.YtblfingmdipopaaGreat
set_option linter.unusedSimpArgs false
set_option linter.unusedVariables false
open Go.ChangeShapes Go.WideShapes Go.ChangeAt Go.RowKit
set_option maxHeartbeats 4000000
set_option maxRecDepth 100000
section
variable {H : Type} {enc : TypeId × Value → H} {P : Program} {W : World} {base : Nat}
theorem field_trod {fs : Array Field} {xs : List (DataW H × List MemPlace)} {n : Nat} {cs : List Value}
    (hf : ∀ (i : Nat) (f : Field), fs[i]? = some f → DataW.trod enc P W 0 (fun _ => true) true n f.type ((cs.drop f.offset).take (P.cellsOf f.type)) = xs[i]?) (hl : xs.length = fs.size)
    {j o c : Nat} {t : TypeId} (hj : (fs[j]?).map (fun f => (f.type, f.offset)) = some (t, o)) (hc : P.cellsOf t = c) : ∃ d ps, DataW.trod enc P W 0 (fun _ => true) true n t ((cs.drop o).take c) = some (d, ps) := by
  cases hq : fs[j]? with
  | none => rw [hq] at hj; cases hj
  | some f =>
    rw [hq] at hj
    simp at hj
    obtain ⟨rfl, rfl⟩ := hj
    have hlt : j < fs.size := (Array.getElem?_eq_some_iff.1 hq).1
    have h := hf j f hq
    rw [List.getElem?_eq_getElem (by omega)] at h
    subst hc
    exact ⟨_, _, h⟩
theorem trod_i64 {t : TypeId} {n : Nat} {v : Value} {x : DataW H × List MemPlace} (ht : P.underlying t = some (.int .i64)) (h : DataW.trod enc P W 0 (fun _ => true) true n t [v] = some x) : ∃ m, v = .int .i64 m ∧ In64 m := by
  obtain ⟨m, hm, _, hw⟩ := DataW.trod_int ht h
  exact ⟨m, by simpa using hm, wf_i64 hw⟩
theorem slice_form {t e : TypeId} {v : Value} {n : Nat} {x : DataW H × List MemPlace} (ht : P.underlying t = some (.slice e)) (h : DataW.trod enc P W 0 (fun _ => true) true n t [v] = some x) : ∃ a0 len cap, v = .slice a0 len cap := by
  rcases Go.Deep.open_slice ht h with ⟨hcs, _⟩ | ⟨a, len', cap', _, n, D, Pl, hcs, _⟩
  · exact ⟨_, _, _, by simpa using hcs⟩
  · exact ⟨_, _, _, by simpa using hcs⟩
/-- An element of three whole numbers. -/
theorem elem_ints3 {e f0 f1 f2 : TypeId} {fs : Array Field} (he : P.underlying e = some (.struct fs)) (hce : P.cellsOf e = 3) (t0 : (fs[0]?).map (fun f => (f.type, f.offset)) = some (f0, 0)) (t1 : (fs[1]?).map (fun f => (f.type, f.offset)) = some (f1, 1)) (t2 : (fs[2]?).map (fun f => (f.type, f.offset)) = some (f2, 2))
    (h0 : P.underlying f0 = some (.int .i64)) (h1 : P.underlying f1 = some (.int .i64)) (h2 : P.underlying f2 = some (.int .i64)) (c0 : P.cellsOf f0 = 1) (c1 : P.cellsOf f1 = 1) (c2 : P.cellsOf f2 = 1) {n : Nat} {cs : List Value} {x : DataW H × List MemPlace}
    (h : DataW.trod enc P W 0 (fun _ => true) true n e cs = some x) : ∃ r : Int × Int × Int, cs = [.int .i64 r.1, .int .i64 r.2.1, .int .i64 r.2.2] ∧ (In64 r.1 ∧ In64 r.2.1 ∧ In64 r.2.2) := by
  obtain ⟨xs, m, _, _, hl, hxl, hf⟩ := DataW.trod_struct he h
  rw [hce] at hl
  match cs, hl with
  | [u0, u1, u2], _ =>
    obtain ⟨_, _, g0⟩ := field_trod hf hxl t0 c0
    obtain ⟨_, _, g1⟩ := field_trod hf hxl t1 c1
    obtain ⟨_, _, g2⟩ := field_trod hf hxl t2 c2
    obtain ⟨a, rfl, wa⟩ := trod_i64 h0 g0
    obtain ⟨b, rfl, wb⟩ := trod_i64 h1 g1
    obtain ⟨c, rfl, wc⟩ := trod_i64 h2 g2
    exact ⟨(a, b, c), rfl, wa, wb, wc⟩
end
section
variable {H : Type} {enc : TypeId × Value → H} {W : World} {base : Nat}
theorem cInt : Tryz.prog.cellsOf 3 = 1 := by kernel_rfl
theorem cInt64 : Tryz.prog.cellsOf 2 = 1 := by kernel_rfl
theorem cEdge : Tryz.prog.cellsOf 107 = 3 := by kernel_rfl
theorem cEdges : Tryz.prog.cellsOf 54 = 1 := by kernel_rfl
theorem cGraph : Tryz.prog.cellsOf 56 = 2 := by kernel_rfl
theorem sEdge : Tryz.prog.underlying 107 = some (.struct (Tryz.prog.fieldsOf 107)) := by kernel_rfl
theorem sGraph : Tryz.prog.underlying 56 = some (.struct (Tryz.prog.fieldsOf 56)) := by kernel_rfl
theorem fEdge : (Tryz.prog.fieldsOf 107).toList.map (fun f => (f.type, f.offset)) = [(3, 0), (3, 1), (2, 2)] := by kernel_rfl
theorem fGraph : (Tryz.prog.fieldsOf 56).toList.map (fun f => (f.type, f.offset)) = [(3, 0), (54, 1)] := by kernel_rfl
theorem fat {fs : Array Field} {l : List (TypeId × Nat)} (h : fs.toList.map (fun f => (f.type, f.offset)) = l) (j : Nat) {x : TypeId × Nat} (hx : l[j]? = some x) : (fs[j]?).map (fun f => (f.type, f.offset)) = some x := by
  subst h
  simpa using hx
theorem elem_edge {n : Nat} {cs : List Value} {x : DataW H × List MemPlace} (h : DataW.trod enc Tryz.prog W 0 (fun _ => true) true n 107 cs = some x) : ∃ r : Int × Int × Int, cs = edV r ∧ (In64 r.1 ∧ In64 r.2.1 ∧ In64 r.2.2) :=
  elem_ints3 sEdge cEdge (fat fEdge 0 rfl) (fat fEdge 1 rfl) (fat fEdge 2 rfl) Tryz.underlying3 Tryz.underlying3 Tryz.underlying2 cInt cInt cInt64 h
theorem open_graph {v : Value} {d : DataW H} {ps : List MemPlace} (hok : Value.okWide Tryz.prog W .any base 56 v) (h : DataW.Trod enc Tryz.prog W 0 (fun _ => true) true 56 v d ps) :
    ∃ n A c, ∃ l : List Ed, v = .agg #[.int .i64 n, .slice A l.length c] ∧ l.length ≤ c ∧ c ≤ maxLen ∧ Reads W A (l.flatMap edV) ∧ (∀ e ∈ l, In64 e.2.2) ∧ In64 n := by
  simp only [Value.okWide, sGraph] at hok
  obtain ⟨cs, rfl, h2, _⟩ := hok
  rw [cGraph] at h2
  obtain ⟨fuel, hF⟩ := h
  obtain ⟨xs, m, _, _, _, hxl, hf⟩ := DataW.trod_struct sGraph hF
  match cs, h2 with
  | ⟨[u0, u1]⟩, _ =>
    obtain ⟨_, _, g0⟩ := field_trod hf hxl (fat fGraph 0 rfl) cInt
    obtain ⟨_, _, g1⟩ := field_trod hf hxl (fat fGraph 1 rfl) cEdges
    obtain ⟨n, rfl, wn⟩ := trod_i64 Tryz.underlying3 g0
    have s1 := slice_form Tryz.underlying54 g1
    obtain ⟨A, c, l, rfl, h1, m1, r1, o1, _⟩ := open_recsE (H := H) (enc := enc) edV (fun r => In64 r.1 ∧ In64 r.2.1 ∧ In64 r.2.2) 3 (by decide) cEdge (fun _ => rfl) (fun _ _ _ hx => elem_edge hx) Tryz.underlying54 s1 (by obtain ⟨_, _, _, rfl⟩ := s1; exact ⟨m, g1⟩)
    exact ⟨n, A, c, l, rfl, h1, m1, r1, fun e he => (o1 e he).2.2, wn⟩
end
end Go.Proofs.YtblfingmdipopaaGreat
