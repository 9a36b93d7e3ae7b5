/- How a graph, edges and triples that come in are opened. -/
import Derived.Test.YtibjpjpbmkdddaaE3
import Derived.Test.YtibjpjpbmkdddaaShut
import Derived.Test.YtibjpjpbmkdddaaOp2
namespace Go.Proofs.Ytibjpjpbmkdddaa
set_option linter.unusedSimpArgs false
set_option linter.unusedVariables false
open Go.ChangeShapes Go.WideShapes Go.ChangeAt Go.RowKit
set_option maxHeartbeats 4000000
set_option maxRecDepth 100000

section
variable {H : Type} {enc : TypeId × Value → H} {P : Program} {W : World} {base : Nat}
theorem field_trod {fs : Array Field} {xs : List (DataW H × List MemPlace)} {n : Nat} {cs : List Value}
    (hf : ∀ (i : Nat) (f : Field), fs[i]? = some f → DataW.trod enc P W 0 (fun _ => true) true n f.type ((cs.drop f.offset).take (P.cellsOf f.type)) = xs[i]?) (hl : xs.length = fs.size)
    {j o c : Nat} {t : TypeId} (hj : (fs[j]?).map (fun f => (f.type, f.offset)) = some (t, o)) (hc : P.cellsOf t = c) : ∃ d ps, DataW.trod enc P W 0 (fun _ => true) true n t ((cs.drop o).take c) = some (d, ps) := by
  cases hq : fs[j]? with
  | none => rw [hq] at hj; cases hj
  | some f =>
    rw [hq] at hj
    simp at hj
    obtain ⟨rfl, rfl⟩ := hj
    have hlt : j < fs.size := (Array.getElem?_eq_some_iff.1 hq).1
    have h := hf j f hq
    rw [List.getElem?_eq_getElem (by omega)] at h
    subst hc
    exact ⟨_, _, h⟩
theorem trod_i64 {t : TypeId} {n : Nat} {v : Value} {x : DataW H × List MemPlace} (ht : P.underlying t = some (.int .i64)) (h : DataW.trod enc P W 0 (fun _ => true) true n t [v] = some x) : ∃ m, v = .int .i64 m ∧ In64 m := by
  obtain ⟨m, hm, _, hw⟩ := DataW.trod_int ht h
  exact ⟨m, by simpa using hm, wf_i64 hw⟩
theorem slice_form {t e : TypeId} {v : Value} {n : Nat} {x : DataW H × List MemPlace} (ht : P.underlying t = some (.slice e)) (h : DataW.trod enc P W 0 (fun _ => true) true n t [v] = some x) : ∃ a0 len cap, v = .slice a0 len cap := by
  rcases Go.Deep.open_slice ht h with ⟨hcs, _⟩ | ⟨a, len', cap', _, n, D, Pl, hcs, _⟩
  · exact ⟨_, _, _, by simpa using hcs⟩
  · exact ⟨_, _, _, by simpa using hcs⟩
/-- An element of three whole numbers. -/
theorem elem_ints3 {e f0 f1 f2 : TypeId} {fs : Array Field} (he : P.underlying e = some (.struct fs)) (hce : P.cellsOf e = 3) (t0 : (fs[0]?).map (fun f => (f.type, f.offset)) = some (f0, 0)) (t1 : (fs[1]?).map (fun f => (f.type, f.offset)) = some (f1, 1)) (t2 : (fs[2]?).map (fun f => (f.type, f.offset)) = some (f2, 2))
    (h0 : P.underlying f0 = some (.int .i64)) (h1 : P.underlying f1 = some (.int .i64)) (h2 : P.underlying f2 = some (.int .i64)) (c0 : P.cellsOf f0 = 1) (c1 : P.cellsOf f1 = 1) (c2 : P.cellsOf f2 = 1) {n : Nat} {cs : List Value} {x : DataW H × List MemPlace}
    (h : DataW.trod enc P W 0 (fun _ => true) true n e cs = some x) : ∃ r : Int × Int × Int, cs = [.int .i64 r.1, .int .i64 r.2.1, .int .i64 r.2.2] ∧ (In64 r.1 ∧ In64 r.2.1 ∧ In64 r.2.2) := by
  obtain ⟨xs, m, _, _, hl, hxl, hf⟩ := DataW.trod_struct he h
  rw [hce] at hl
  match cs, hl with
  | [u0, u1, u2], _ =>
    obtain ⟨_, _, g0⟩ := field_trod hf hxl t0 c0
    obtain ⟨_, _, g1⟩ := field_trod hf hxl t1 c1
    obtain ⟨_, _, g2⟩ := field_trod hf hxl t2 c2
    obtain ⟨a, rfl, wa⟩ := trod_i64 h0 g0
    obtain ⟨b, rfl, wb⟩ := trod_i64 h1 g1
    obtain ⟨c, rfl, wc⟩ := trod_i64 h2 g2
    exact ⟨(a, b, c), rfl, wa, wb, wc⟩
end
section
variable {H : Type} {enc : TypeId × Value → H} {W : World} {base : Nat}
theorem own : ownKnob Try.prog.godebug = none := by kernel_rfl
theorem laidOut : laidOutB Try.prog = true := by kernel_rfl
theorem cInt : Try.prog.cellsOf 3 = 1 := by kernel_rfl
theorem cInt64 : Try.prog.cellsOf 2 = 1 := by kernel_rfl
theorem cEdge : Try.prog.cellsOf 28 = 3 := by kernel_rfl
theorem cTriple : Try.prog.cellsOf 30 = 3 := by kernel_rfl
theorem cEdges : Try.prog.cellsOf 22 = 1 := by kernel_rfl
theorem cGraph : Try.prog.cellsOf 24 = 2 := by kernel_rfl
theorem sEdge : Try.prog.underlying 28 = some (.struct (Try.prog.fieldsOf 28)) := by kernel_rfl
theorem sTriple : Try.prog.underlying 30 = some (.struct (Try.prog.fieldsOf 30)) := by kernel_rfl
theorem sGraph : Try.prog.underlying 24 = some (.struct (Try.prog.fieldsOf 24)) := by kernel_rfl
theorem fEdge : (Try.prog.fieldsOf 28).toList.map (fun f => (f.type, f.offset)) = [(3, 0), (3, 1), (2, 2)] := by kernel_rfl
theorem fTriple : (Try.prog.fieldsOf 30).toList.map (fun f => (f.type, f.offset)) = [(3, 0), (3, 1), (2, 2)] := by kernel_rfl
theorem fGraph : (Try.prog.fieldsOf 24).toList.map (fun f => (f.type, f.offset)) = [(3, 0), (22, 1)] := by kernel_rfl
theorem fat {fs : Array Field} {l : List (TypeId × Nat)} (h : fs.toList.map (fun f => (f.type, f.offset)) = l) (j : Nat) {x : TypeId × Nat} (hx : l[j]? = some x) : (fs[j]?).map (fun f => (f.type, f.offset)) = some x := by
  subst h
  simpa using hx

theorem elem_edge {n : Nat} {cs : List Value} {x : DataW H × List MemPlace} (h : DataW.trod enc Try.prog W 0 (fun _ => true) true n 28 cs = some x) : ∃ r : Int × Int × Int, cs = edV r ∧ (In64 r.1 ∧ In64 r.2.1 ∧ In64 r.2.2) :=
  elem_ints3 sEdge cEdge (fat fEdge 0 rfl) (fat fEdge 1 rfl) (fat fEdge 2 rfl) Try.underlying3 Try.underlying3 Try.underlying2 cInt cInt cInt64 h
theorem elem_trip {n : Nat} {cs : List Value} {x : DataW H × List MemPlace} (h : DataW.trod enc Try.prog W 0 (fun _ => true) true n 30 cs = some x) : ∃ r : Int × Int × Int, cs = edV r ∧ (In64 r.1 ∧ In64 r.2.1 ∧ In64 r.2.2) :=
  elem_ints3 sTriple cTriple (fat fTriple 0 rfl) (fat fTriple 1 rfl) (fat fTriple 2 rfl) Try.underlying3 Try.underlying3 Try.underlying2 cInt cInt cInt64 h
theorem open_edges {v : Value} {d : DataW H} {ps : List MemPlace} (hok : Value.okWide Try.prog W .any base 22 v) (h : DataW.Trod enc Try.prog W 0 (fun _ => true) true 22 v d ps) :
    ∃ A c, ∃ l : List Ed, v = .slice A l.length c ∧ l.length ≤ c ∧ c ≤ maxLen ∧ Reads W A (l.flatMap edV) ∧ (∀ e ∈ l, In64 e.2.2) := by
  obtain ⟨A, c, l, rfl, h1, h2, h3, h4, _⟩ := open_recs edV (fun r => In64 r.1 ∧ In64 r.2.1 ∧ In64 r.2.2) 3 (by decide) cEdge (fun _ => rfl) (fun _ _ _ hx => elem_edge hx) Try.underlying22 hok h
  exact ⟨A, c, l, rfl, h1, h2, h3, fun e he => (h4 e he).2.2⟩
theorem open_graph {v : Value} {d : DataW H} {ps : List MemPlace} (hok : Value.okWide Try.prog W .any base 24 v) (h : DataW.Trod enc Try.prog W 0 (fun _ => true) true 24 v d ps) :
    ∃ n A c, ∃ l : List Ed, v = .agg #[.int .i64 n, .slice A l.length c] ∧ l.length ≤ c ∧ c ≤ maxLen ∧ Reads W A (l.flatMap edV) ∧ (∀ e ∈ l, In64 e.2.2) ∧ In64 n := by
  simp only [Value.okWide, sGraph] at hok
  obtain ⟨cs, rfl, h2, _⟩ := hok
  rw [cGraph] at h2
  obtain ⟨fuel, hF⟩ := h
  obtain ⟨xs, m, _, _, _, hxl, hf⟩ := DataW.trod_struct sGraph hF
  match cs, h2 with
  | ⟨[u0, u1]⟩, _ =>
    obtain ⟨_, _, g0⟩ := field_trod hf hxl (fat fGraph 0 rfl) cInt
    obtain ⟨_, _, g1⟩ := field_trod hf hxl (fat fGraph 1 rfl) cEdges
    obtain ⟨n, rfl, wn⟩ := trod_i64 Try.underlying3 g0
    have s1 := slice_form Try.underlying22 g1
    obtain ⟨A, c, l, rfl, h1, m1, r1, o1, _⟩ := open_recsE (H := H) (enc := enc) edV (fun r => In64 r.1 ∧ In64 r.2.1 ∧ In64 r.2.2) 3 (by decide) cEdge (fun _ => rfl) (fun _ _ _ hx => elem_edge hx) Try.underlying22 s1 (by obtain ⟨_, _, _, rfl⟩ := s1; exact ⟨m, g1⟩)
    exact ⟨n, A, c, l, rfl, h1, m1, r1, fun e he => (o1 e he).2.2, wn⟩
end
end Go.Proofs.Ytibjpjpbmkdddaa
