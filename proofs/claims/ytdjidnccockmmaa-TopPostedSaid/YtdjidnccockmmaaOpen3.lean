/- How a frame that comes in is opened. -/
import Derived.Test.YtdjidnccockmmaaOpen2
import Derived.Test.YtdjidnccockmmaaFr22
namespace Go.Proofs.Ytdjidnccockmmaa
set_option linter.unusedSimpArgs false
set_option linter.unusedVariables false
open Go.ChangeShapes Go.WideShapes Go.ChangeAt Go.RowKit
set_option maxHeartbeats 4000000
set_option maxRecDepth 100000

section
variable {H : Type} {enc : TypeId × Value → H} {P : Program} {W : World} {base : Nat}
theorem field_trod {fs : Array Field} {xs : List (DataW H × List MemPlace)} {n : Nat} {cs : List Value}
    (hf : ∀ (i : Nat) (f : Field), fs[i]? = some f → DataW.trod enc P W 0 (fun _ => true) true n f.type ((cs.drop f.offset).take (P.cellsOf f.type)) = xs[i]?) (hl : xs.length = fs.size)
    {j o c : Nat} {t : TypeId} (hj : (fs[j]?).map (fun f => (f.type, f.offset)) = some (t, o)) (hc : P.cellsOf t = c) : ∃ d ps, DataW.trod enc P W 0 (fun _ => true) true n t ((cs.drop o).take c) = some (d, ps) := by
  cases hq : fs[j]? with
  | none => rw [hq] at hj; cases hj
  | some f =>
    rw [hq] at hj
    simp at hj
    obtain ⟨rfl, rfl⟩ := hj
    have hlt : j < fs.size := (Array.getElem?_eq_some_iff.1 hq).1
    have h := hf j f hq
    rw [List.getElem?_eq_getElem (by omega)] at h
    subst hc
    exact ⟨_, _, h⟩
theorem trod_i64 {t : TypeId} {n : Nat} {v : Value} {x : DataW H × List MemPlace} (ht : P.underlying t = some (.int .i64)) (h : DataW.trod enc P W 0 (fun _ => true) true n t [v] = some x) : ∃ m, v = .int .i64 m ∧ In64 m := by
  obtain ⟨m, hm, _, hw⟩ := DataW.trod_int ht h
  exact ⟨m, by simpa using hm, wf_i64 hw⟩
theorem slice_form {t e : TypeId} {v : Value} {n : Nat} {x : DataW H × List MemPlace} (ht : P.underlying t = some (.slice e)) (h : DataW.trod enc P W 0 (fun _ => true) true n t [v] = some x) : ∃ a0 len cap, v = .slice a0 len cap := by
  rcases Go.Deep.open_slice ht h with ⟨hcs, _⟩ | ⟨a, len', cap', _, n, D, Pl, hcs, _⟩
  · exact ⟨_, _, _, by simpa using hcs⟩
  · exact ⟨_, _, _, by simpa using hcs⟩
/-- An element of three whole numbers. -/
theorem elem_ints3 {e f0 f1 f2 : TypeId} {fs : Array Field} (he : P.underlying e = some (.struct fs)) (hce : P.cellsOf e = 3) (t0 : (fs[0]?).map (fun f => (f.type, f.offset)) = some (f0, 0)) (t1 : (fs[1]?).map (fun f => (f.type, f.offset)) = some (f1, 1)) (t2 : (fs[2]?).map (fun f => (f.type, f.offset)) = some (f2, 2))
    (h0 : P.underlying f0 = some (.int .i64)) (h1 : P.underlying f1 = some (.int .i64)) (h2 : P.underlying f2 = some (.int .i64)) (c0 : P.cellsOf f0 = 1) (c1 : P.cellsOf f1 = 1) (c2 : P.cellsOf f2 = 1) {n : Nat} {cs : List Value} {x : DataW H × List MemPlace}
    (h : DataW.trod enc P W 0 (fun _ => true) true n e cs = some x) : ∃ r : Int × Int × Int, cs = tripV r ∧ (In64 r.1 ∧ In64 r.2.1 ∧ In64 r.2.2) := by
  obtain ⟨xs, m, _, _, hl, hxl, hf⟩ := DataW.trod_struct he h
  rw [hce] at hl
  match cs, hl with
  | [u0, u1, u2], _ =>
    obtain ⟨_, _, g0⟩ := field_trod hf hxl t0 c0
    obtain ⟨_, _, g1⟩ := field_trod hf hxl t1 c1
    obtain ⟨_, _, g2⟩ := field_trod hf hxl t2 c2
    obtain ⟨a, rfl, wa⟩ := trod_i64 h0 g0
    obtain ⟨b, rfl, wb⟩ := trod_i64 h1 g1
    obtain ⟨c, rfl, wc⟩ := trod_i64 h2 g2
    exact ⟨(a, b, c), rfl, wa, wb, wc⟩
end
section
variable {H : Type} {enc : TypeId × Value → H} {W : World} {base : Nat}
theorem cInt : Try.prog.cellsOf 3 = 1 := by kernel_rfl
theorem cInt64 : Try.prog.cellsOf 2 = 1 := by kernel_rfl
theorem cU64 : Try.prog.cellsOf 84 = 1 := by kernel_rfl
theorem cKind : Try.prog.cellsOf 53 = 1 := by kernel_rfl
theorem cBool : Try.prog.cellsOf 4 = 1 := by kernel_rfl
theorem cVec : Try.prog.cellsOf 56 = 2 := by kernel_rfl
theorem cItems : Try.prog.cellsOf 54 = 1 := by kernel_rfl
theorem cSums : Try.prog.cellsOf 57 = 1 := by kernel_rfl
theorem cTrips : Try.prog.cellsOf 58 = 1 := by kernel_rfl
theorem cFrame : Try.prog.cellsOf 60 = 11 := by kernel_rfl
theorem cItem : Try.prog.cellsOf 99 = 2 := by kernel_rfl
theorem cSum : Try.prog.cellsOf 103 = 3 := by kernel_rfl
theorem cWide : Try.prog.cellsOf 101 = 2 := by kernel_rfl
theorem cTriple : Try.prog.cellsOf 105 = 3 := by kernel_rfl
theorem sFrame : Try.prog.underlying 60 = some (.struct (Try.prog.fieldsOf 60)) := by kernel_rfl
theorem sVec : Try.prog.underlying 56 = some (.struct (Try.prog.fieldsOf 56)) := by kernel_rfl
theorem sItem : Try.prog.underlying 99 = some (.struct (Try.prog.fieldsOf 99)) := by kernel_rfl
theorem sSum : Try.prog.underlying 103 = some (.struct (Try.prog.fieldsOf 103)) := by kernel_rfl
theorem sWide : Try.prog.underlying 101 = some (.struct (Try.prog.fieldsOf 101)) := by kernel_rfl
theorem sTriple : Try.prog.underlying 105 = some (.struct (Try.prog.fieldsOf 105)) := by kernel_rfl
theorem fFrame : (Try.prog.fieldsOf 60).toList.map (fun f => (f.type, f.offset)) = [(53, 0), (3, 1), (3, 2), (3, 3), (3, 4), (56, 5), (57, 7), (58, 8), (2, 9), (4, 10)] := by kernel_rfl
theorem fVec : (Try.prog.fieldsOf 56).toList.map (fun f => (f.type, f.offset)) = [(3, 0), (54, 1)] := by kernel_rfl
theorem fItem : (Try.prog.fieldsOf 99).toList.map (fun f => (f.type, f.offset)) = [(3, 0), (2, 1)] := by kernel_rfl
theorem fSum : (Try.prog.fieldsOf 103).toList.map (fun f => (f.type, f.offset)) = [(3, 0), (101, 1)] := by kernel_rfl
theorem fWide : (Try.prog.fieldsOf 101).toList.map (fun f => (f.type, f.offset)) = [(2, 0), (84, 1)] := by kernel_rfl
theorem fTriple : (Try.prog.fieldsOf 105).toList.map (fun f => (f.type, f.offset)) = [(3, 0), (3, 1), (2, 2)] := by kernel_rfl
theorem fat {fs : Array Field} {l : List (TypeId × Nat)} (h : fs.toList.map (fun f => (f.type, f.offset)) = l) (j : Nat) {x : TypeId × Nat} (hx : l[j]? = some x) : (fs[j]?).map (fun f => (f.type, f.offset)) = some x := by
  subst h
  simpa using hx

theorem elem_item {n : Nat} {cs : List Value} {x : DataW H × List MemPlace} (h : DataW.trod enc Try.prog W 0 (fun _ => true) true n 99 cs = some x) : ∃ r : Int × Int, cs = readV r ∧ (In64 r.1 ∧ In64 r.2) := by
  obtain ⟨xs, m, _, _, hl, hxl, hf⟩ := DataW.trod_struct sItem h
  rw [cItem] at hl
  match cs, hl with
  | [u0, u1], _ =>
    obtain ⟨_, _, g0⟩ := field_trod hf hxl (fat fItem 0 rfl) cInt
    obtain ⟨_, _, g1⟩ := field_trod hf hxl (fat fItem 1 rfl) cInt64
    obtain ⟨a, rfl, wa⟩ := trod_i64 Try.underlying3 g0
    obtain ⟨b, rfl, wb⟩ := trod_i64 Try.underlying2 g1
    exact ⟨(a, b), rfl, wa, wb⟩
theorem elem_trip {n : Nat} {cs : List Value} {x : DataW H × List MemPlace} (h : DataW.trod enc Try.prog W 0 (fun _ => true) true n 105 cs = some x) : ∃ r : Int × Int × Int, cs = tripV r ∧ (In64 r.1 ∧ In64 r.2.1 ∧ In64 r.2.2) :=
  elem_ints3 sTriple cTriple (fat fTriple 0 rfl) (fat fTriple 1 rfl) (fat fTriple 2 rfl) Try.underlying3 Try.underlying3 Try.underlying2 cInt cInt cInt64 h
theorem elem_sum {n : Nat} {cs : List Value} {x : DataW H × List MemPlace} (h : DataW.trod enc Try.prog W 0 (fun _ => true) true n 103 cs = some x) : ∃ r : Int × Int × Nat, cs = sumV r ∧ (In64 r.1 ∧ In64 r.2.1 ∧ Lt64 r.2.2) := by
  obtain ⟨xs, m, _, _, hl, hxl, hf⟩ := DataW.trod_struct sSum h
  rw [cSum] at hl
  match cs, hl with
  | [u0, u1, u2], _ =>
    obtain ⟨_, _, g0⟩ := field_trod hf hxl (fat fSum 0 rfl) cInt
    obtain ⟨_, _, g1⟩ := field_trod hf hxl (fat fSum 1 rfl) cWide
    obtain ⟨a, rfl, wa⟩ := trod_i64 Try.underlying3 g0
    obtain ⟨ys, m', _, _, _, hyl, hg⟩ := DataW.trod_struct sWide g1
    obtain ⟨_, _, k0⟩ := field_trod hg hyl (fat fWide 0 rfl) cInt64
    obtain ⟨_, _, k1⟩ := field_trod hg hyl (fat fWide 1 rfl) cU64
    obtain ⟨b, rfl, wb⟩ := trod_i64 Try.underlying2 k0
    obtain ⟨c, hc, _, wc⟩ := DataW.trod_int Try.underlying84 k1
    have hu : u2 = .int .u64 c := by simpa using hc
    subst hu
    simp [Lit.wf, IntKind.min, IntKind.max, IntKind.signed, IntKind.bits] at wc
    refine ⟨(a, b, c.toNat), ?_, wa, wb, ?_⟩
    · have : ((c.toNat : Nat) : Int) = c := by omega
      simp [sumV, this]
    · show c.toNat < 18446744073709551616; omega

/-- What is written of a frame is in the bounds of Go's own numbers. -/
structure Fr.In (F : Fr) : Prop where
  n : In64 F.n
  items : ∀ r ∈ F.items, In64 r.2
  sums : ∀ r ∈ F.sums, In64 r.2.1 ∧ Lt64 r.2.2
  trips : ∀ r ∈ F.trips, In64 r.2.2

theorem open_frame {v : Value} {d : DataW H} {ps : List MemPlace} (hok : Value.okWide Try.prog W .any base 60 v) (h : DataW.Trod enc Try.prog W 0 (fun _ => true) true 60 v d ps) :
    ∃ F A1 A2 A3 c1 c2 c3, v = .agg (frC F A1 A2 A3 c1 c2 c3).toArray ∧ FrIn W F A1 A2 A3 ∧ F.items.length ≤ c1 ∧ F.sums.length ≤ c2 ∧ F.trips.length ≤ c3 ∧ F.In := by
  simp only [Value.okWide, sFrame] at hok
  obtain ⟨cs, rfl, h2, _⟩ := hok
  rw [cFrame] at h2
  obtain ⟨fuel, hF⟩ := h
  obtain ⟨xs, m, _, _, _, hxl, hf⟩ := DataW.trod_struct sFrame hF
  match cs, h2 with
  | ⟨[u0, u1, u2, u3, u4, u5, u6, u7, u8, u9, u10]⟩, _ =>
    obtain ⟨_, _, g0⟩ := field_trod hf hxl (fat fFrame 0 rfl) cKind
    obtain ⟨_, _, g1⟩ := field_trod hf hxl (fat fFrame 1 rfl) cInt
    obtain ⟨_, _, g2⟩ := field_trod hf hxl (fat fFrame 2 rfl) cInt
    obtain ⟨_, _, g3⟩ := field_trod hf hxl (fat fFrame 3 rfl) cInt
    obtain ⟨_, _, g4⟩ := field_trod hf hxl (fat fFrame 4 rfl) cInt
    obtain ⟨_, _, g5⟩ := field_trod hf hxl (fat fFrame 5 rfl) cVec
    obtain ⟨_, _, g7⟩ := field_trod hf hxl (fat fFrame 6 rfl) cSums
    obtain ⟨_, _, g8⟩ := field_trod hf hxl (fat fFrame 7 rfl) cTrips
    obtain ⟨_, _, g9⟩ := field_trod hf hxl (fat fFrame 8 rfl) cInt64
    obtain ⟨_, _, g10⟩ := field_trod hf hxl (fat fFrame 9 rfl) cBool
    obtain ⟨kind, rfl, _⟩ := trod_i64 Try.underlying53 g0
    obtain ⟨src, rfl, _⟩ := trod_i64 Try.underlying3 g1
    obtain ⟨dst, rfl, _⟩ := trod_i64 Try.underlying3 g2
    obtain ⟨seq, rfl, _⟩ := trod_i64 Try.underlying3 g3
    obtain ⟨round, rfl, _⟩ := trod_i64 Try.underlying3 g4
    obtain ⟨n, rfl, wn⟩ := trod_i64 Try.underlying2 g9
    obtain ⟨b, hb, _⟩ := DataW.trod_bool Try.underlying4 g10
    obtain rfl : u10 = .bool b := by have hb' : [u10] = [Value.bool b] := hb; simpa using hb'
    obtain ⟨ys, m', _, _, _, hyl, hg⟩ := DataW.trod_struct sVec g5
    obtain ⟨_, _, k0⟩ := field_trod hg hyl (fat fVec 0 rfl) cInt
    obtain ⟨_, _, k1⟩ := field_trod hg hyl (fat fVec 1 rfl) cItems
    obtain ⟨vn, rfl, _⟩ := trod_i64 Try.underlying3 k0
    have s6 := slice_form Try.underlying54 k1
    have s7 := slice_form Try.underlying57 g7
    have s8 := slice_form Try.underlying58 g8
    obtain ⟨A1, c1, items, rfl, h1, m1, r1, o1, _⟩ := open_recsE (H := H) (enc := enc) readV (fun r => In64 r.1 ∧ In64 r.2) 2 (by decide) cItem (fun _ => rfl) (fun _ _ _ hx => elem_item hx) Try.underlying54 s6 (by obtain ⟨_, _, _, rfl⟩ := s6; exact ⟨m', k1⟩)
    obtain ⟨A2, c2, sums, rfl, h2, m2, r2, o2, _⟩ := open_recsE (H := H) (enc := enc) sumV (fun r => In64 r.1 ∧ In64 r.2.1 ∧ Lt64 r.2.2) 3 (by decide) cSum (fun _ => rfl) (fun _ _ _ hx => elem_sum hx) Try.underlying57 s7 (by obtain ⟨_, _, _, rfl⟩ := s7; exact ⟨m, g7⟩)
    obtain ⟨A3, c3, trips, rfl, h3, m3, r3, o3, _⟩ := open_recsE (H := H) (enc := enc) tripV (fun r => In64 r.1 ∧ In64 r.2.1 ∧ In64 r.2.2) 3 (by decide) cTriple (fun _ => rfl) (fun _ _ _ hx => elem_trip hx) Try.underlying58 s8 (by obtain ⟨_, _, _, rfl⟩ := s8; exact ⟨m, g8⟩)
    exact ⟨⟨kind, src, dst, seq, round, vn, items, sums, trips, n, b⟩, A1, A2, A3, c1, c2, c3, rfl, ⟨r1, r2, r3, Nat.le_trans h1 m1, Nat.le_trans h2 m2, Nat.le_trans h3 m3⟩, h1, h2, h3, wn, fun r hr => (o1 r hr).2, fun r hr => (o2 r hr).2, fun r hr => (o3 r hr).2.2⟩
end
end Go.Proofs.Ytdjidnccockmmaa
