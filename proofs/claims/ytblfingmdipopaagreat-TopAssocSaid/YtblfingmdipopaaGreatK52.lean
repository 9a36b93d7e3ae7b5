/- How a task of three matrices, and items, that come in are opened. Conditions: none. -/
import Derived.Test.YtblfingmdipopaaGreatK02
import Derived.Test.YtblfingmdipopaaGreatK51
import Derived.Test.YtblfingmdipopaaGreatK22
import Derived.Test.YtblfingmdipopaaGreatK27
namespace Go.Proofs.YtblfingmdipopaaGreat
set_option linter.unusedSimpArgs false
set_option linter.unusedVariables false
open Go.ChangeShapes Go.WideShapes Go.ChangeAt Go.RowKit
open Go.RowKit (wrap32 wrap64)
set_option maxHeartbeats 8000000
set_option maxRecDepth 100000
section
variable {H : Type} {enc : TypeId × Value → H} {P : Program} {W : World} {base : Nat}
theorem field_trod {fs : Array Field} {xs : List (DataW H × List MemPlace)} {n : Nat} {cs : List Value}
    (hf : ∀ (i : Nat) (f : Field), fs[i]? = some f → DataW.trod enc P W 0 (fun _ => true) true n f.type ((cs.drop f.offset).take (P.cellsOf f.type)) = xs[i]?) (hl : xs.length = fs.size)
    {j o c : Nat} {t : TypeId} (hj : (fs[j]?).map (fun f => (f.type, f.offset)) = some (t, o)) (hc : P.cellsOf t = c) : ∃ d ps, DataW.trod enc P W 0 (fun _ => true) true n t ((cs.drop o).take c) = some (d, ps) := by
  cases hq : fs[j]? with
  | none => rw [hq] at hj; cases hj
  | some f =>
    rw [hq] at hj
    simp at hj
    obtain ⟨rfl, rfl⟩ := hj
    have hlt : j < fs.size := (Array.getElem?_eq_some_iff.1 hq).1
    have h := hf j f hq
    rw [List.getElem?_eq_getElem (by omega)] at h
    subst hc
    exact ⟨_, _, h⟩
theorem trod_i64 {t : TypeId} {n : Nat} {v : Value} {x : DataW H × List MemPlace} (ht : P.underlying t = some (.int .i64)) (h : DataW.trod enc P W 0 (fun _ => true) true n t [v] = some x) : ∃ m, v = .int .i64 m ∧ In64 m := by
  obtain ⟨m, hm, _, hw⟩ := DataW.trod_int ht h
  exact ⟨m, by simpa using hm, wf_i64 hw⟩
theorem slice_form {t e : TypeId} {v : Value} {n : Nat} {x : DataW H × List MemPlace} (ht : P.underlying t = some (.slice e)) (h : DataW.trod enc P W 0 (fun _ => true) true n t [v] = some x) : ∃ a0 len cap, v = .slice a0 len cap := by
  rcases Go.Deep.open_slice ht h with ⟨hcs, _⟩ | ⟨a, len', cap', _, n, D, Pl, hcs, _⟩
  · exact ⟨_, _, _, by simpa using hcs⟩
  · exact ⟨_, _, _, by simpa using hcs⟩
/-- An element of three whole numbers. -/
theorem elem_ints3 {e f0 f1 f2 : TypeId} {fs : Array Field} (he : P.underlying e = some (.struct fs)) (hce : P.cellsOf e = 3) (t0 : (fs[0]?).map (fun f => (f.type, f.offset)) = some (f0, 0)) (t1 : (fs[1]?).map (fun f => (f.type, f.offset)) = some (f1, 1)) (t2 : (fs[2]?).map (fun f => (f.type, f.offset)) = some (f2, 2))
    (h0 : P.underlying f0 = some (.int .i64)) (h1 : P.underlying f1 = some (.int .i64)) (h2 : P.underlying f2 = some (.int .i64)) (c0 : P.cellsOf f0 = 1) (c1 : P.cellsOf f1 = 1) (c2 : P.cellsOf f2 = 1) {n : Nat} {cs : List Value} {x : DataW H × List MemPlace}
    (h : DataW.trod enc P W 0 (fun _ => true) true n e cs = some x) : ∃ r : Int × Int × Int, cs = [.int .i64 r.1, .int .i64 r.2.1, .int .i64 r.2.2] ∧ (In64 r.1 ∧ In64 r.2.1 ∧ In64 r.2.2) := by
  obtain ⟨xs, m, _, _, hl, hxl, hf⟩ := DataW.trod_struct he h
  rw [hce] at hl
  match cs, hl with
  | [u0, u1, u2], _ =>
    obtain ⟨_, _, g0⟩ := field_trod hf hxl t0 c0
    obtain ⟨_, _, g1⟩ := field_trod hf hxl t1 c1
    obtain ⟨_, _, g2⟩ := field_trod hf hxl t2 c2
    obtain ⟨a, rfl, wa⟩ := trod_i64 h0 g0
    obtain ⟨b, rfl, wb⟩ := trod_i64 h1 g1
    obtain ⟨c, rfl, wc⟩ := trod_i64 h2 g2
    exact ⟨(a, b, c), rfl, wa, wb, wc⟩
end
section
variable {H : Type} {enc : TypeId × Value → H} {W : World} {base : Nat}
theorem cInt : Tryz.prog.cellsOf 3 = 1 := by kernel_rfl
theorem cInt64 : Tryz.prog.cellsOf 2 = 1 := by kernel_rfl
theorem cTriple : Tryz.prog.cellsOf 84 = 3 := by kernel_rfl
theorem sTriple : Tryz.prog.underlying 84 = some (.struct (Tryz.prog.fieldsOf 84)) := by kernel_rfl
theorem fTriple : (Tryz.prog.fieldsOf 84).toList.map (fun f => (f.type, f.offset)) = [(3, 0), (3, 1), (2, 2)] := by kernel_rfl
theorem fat {fs : Array Field} {l : List (TypeId × Nat)} (h : fs.toList.map (fun f => (f.type, f.offset)) = l) (j : Nat) {x : TypeId × Nat} (hx : l[j]? = some x) : (fs[j]?).map (fun f => (f.type, f.offset)) = some x := by
  subst h
  simpa using hx

theorem elem_trip {n : Nat} {cs : List Value} {x : DataW H × List MemPlace} (h : DataW.trod enc Tryz.prog W 0 (fun _ => true) true n 84 cs = some x) : ∃ r : Int × Int × Int, cs = edV r ∧ (In64 r.1 ∧ In64 r.2.1 ∧ In64 r.2.2) :=
  elem_ints3 sTriple cTriple (fat fTriple 0 rfl) (fat fTriple 1 rfl) (fat fTriple 2 rfl) Tryz.underlying3 Tryz.underlying3 Tryz.underlying2 cInt cInt cInt64 h
end
section
variable {H : Type} {enc : TypeId × Value → H} {W : World} {base : Nat}
theorem cTask : Tryz.prog.cellsOf 26 = 7 := by kernel_rfl
theorem cRing : Tryz.prog.cellsOf 22 = 1 := by kernel_rfl
theorem cSize3 : Tryz.prog.cellsOf 23 = 3 := by kernel_rfl
theorem cU8 : Tryz.prog.cellsOf 5 = 1 := by kernel_rfl
theorem cTrips : Tryz.prog.cellsOf 24 = 1 := by kernel_rfl
theorem cItem : Tryz.prog.cellsOf 38 = 2 := by kernel_rfl
theorem sTask : Tryz.prog.underlying 26 = some (.struct (Tryz.prog.fieldsOf 26)) := by kernel_rfl
theorem sItem : Tryz.prog.underlying 38 = some (.struct (Tryz.prog.fieldsOf 38)) := by kernel_rfl
theorem fTask : (Tryz.prog.fieldsOf 26).toList.map (fun f => (f.type, f.offset)) = [(22, 0), (23, 1), (24, 4), (24, 5), (24, 6)] := by kernel_rfl
theorem fItem : (Tryz.prog.fieldsOf 38).toList.map (fun f => (f.type, f.offset)) = [(3, 0), (2, 1)] := by kernel_rfl
theorem trod_u8 {t : TypeId} {n : Nat} {v : Value} {x : DataW H × List MemPlace} (ht : Tryz.prog.underlying t = some (.int .u8)) (h : DataW.trod enc Tryz.prog W 0 (fun _ => true) true n t [v] = some x) : ∃ m : Nat, v = .int .u8 (m : Int) ∧ m < 256 := by
  obtain ⟨m, hm, _, hw⟩ := DataW.trod_int ht h
  simp [Lit.wf, IntKind.min, IntKind.max, IntKind.signed, IntKind.bits] at hw
  refine ⟨m.toNat, ?_, by omega⟩
  rw [Int.toNat_of_nonneg (by omega)]
  simpa using hm
theorem arr3_u8 {n : Nat} {x y z : Value} {q : DataW H × List MemPlace} (h : DataW.trod enc Tryz.prog W 0 (fun _ => true) true n 23 [x, y, z] = some q) : ∃ a b c : Nat, x = .int .u8 (a : Int) ∧ y = .int .u8 (b : Int) ∧ z = .int .u8 (c : Int) ∧ a < 256 ∧ b < 256 ∧ c < 256 := by
  obtain ⟨xs, m, _, _, hl, hxl, hi⟩ := DataW.trod_array Tryz.underlying23 h
  match xs, hxl with
  | [y0, y1, y2], _ =>
    have g0 := hi 0 (by omega)
    have g1 := hi 1 (by omega)
    have g2 := hi 2 (by omega)
    rw [cU8] at g0 g1 g2
    obtain ⟨a, ha, wa⟩ := trod_u8 Tryz.underlying5 (v := x) (x := y0) g0
    obtain ⟨b, hb, wb⟩ := trod_u8 Tryz.underlying5 (v := y) (x := y1) g1
    obtain ⟨c, hc, wc⟩ := trod_u8 Tryz.underlying5 (v := z) (x := y2) g2
    exact ⟨a, b, c, ha, hb, hc, wa, wb, wc⟩
theorem elem_item {n : Nat} {cs : List Value} {x : DataW H × List MemPlace} (h : DataW.trod enc Tryz.prog W 0 (fun _ => true) true n 38 cs = some x) : ∃ r : Int × Int × Int, cs = itV r ∧ (In64 r.2.1 ∧ In64 r.2.2) := by
  obtain ⟨xs, m, _, _, hl, hxl, hf⟩ := DataW.trod_struct sItem h
  rw [cItem] at hl
  match cs, hl with
  | [u0, u1], _ =>
    obtain ⟨_, _, g0⟩ := field_trod hf hxl (fat fItem 0 rfl) cInt
    obtain ⟨_, _, g1⟩ := field_trod hf hxl (fat fItem 1 rfl) cInt64
    obtain ⟨a, rfl, wa⟩ := trod_i64 Tryz.underlying3 g0
    obtain ⟨b, rfl, wb⟩ := trod_i64 Tryz.underlying2 g1
    exact ⟨(0, a, b), rfl, wa, wb⟩
theorem open_items {v : Value} {d : DataW H} {ps : List MemPlace} (hok : Value.okWide Tryz.prog W .any base 27 v) (h : DataW.Trod enc Tryz.prog W 0 (fun _ => true) true 27 v d ps) :
    ∃ A c, ∃ l : List Ed, v = .slice A l.length c ∧ l.length ≤ c ∧ c ≤ maxLen ∧ Reads W A (l.flatMap itV) ∧ (∀ e ∈ l, In64 e.2.2) := by
  obtain ⟨A, c, l, rfl, h1, h2, h3, h4, _⟩ := open_recs itV (fun r => In64 r.2.1 ∧ In64 r.2.2) 2 (by decide) cItem (fun _ => rfl) (fun _ _ _ hx => elem_item hx) Tryz.underlying27 hok h
  exact ⟨A, c, l, rfl, h1, h2, h3, fun e he => (h4 e he).2⟩
theorem open_trips {v : Value} {n : Nat} {x : DataW H × List MemPlace} (g : DataW.trod enc Tryz.prog W 0 (fun _ => true) true n 24 [v] = some x) : ∃ A c, ∃ l : List Ed, v = .slice A l.length c ∧ SlT W A l c := by
  have s1 := slice_form Tryz.underlying24 g
  obtain ⟨A, c, l, rfl, h1, m1, r1, o1, _⟩ := open_recsE (H := H) (enc := enc) edV (fun r => In64 r.1 ∧ In64 r.2.1 ∧ In64 r.2.2) 3 (by decide) cTriple (fun _ => rfl) (fun _ _ _ hx => elem_trip hx) Tryz.underlying24 s1 (by obtain ⟨_, _, _, rfl⟩ := s1; exact ⟨n, g⟩)
  exact ⟨A, c, l, rfl, Nat.le_trans h1 m1, h1, m1, r1, fun e he => (o1 e he).2.2⟩
theorem open_task {v : Value} {d : DataW H} {ps : List MemPlace} (hok : Value.okWide Tryz.prog W .any base 26 v) (h : DataW.Trod enc Tryz.prog W 0 (fun _ => true) true 26 v d ps) :
    ∃ r, ∃ s0 s1 s2 : Nat, ∃ A1 c1 A2 c2 A3 c3, ∃ L1 L2 L3 : List Ed, v = .agg #[.int .i64 r, .int .u8 (s0 : Int), .int .u8 (s1 : Int), .int .u8 (s2 : Int), .slice A1 L1.length c1, .slice A2 L2.length c2, .slice A3 L3.length c3] ∧ s0 < 256 ∧ s1 < 256 ∧ s2 < 256 ∧ SlT W A1 L1 c1 ∧ SlT W A2 L2 c2 ∧ SlT W A3 L3 c3 := by
  simp only [Value.okWide, sTask] at hok
  obtain ⟨cs, rfl, h2, _⟩ := hok
  rw [cTask] at h2
  obtain ⟨fuel, hF⟩ := h
  obtain ⟨xs, m, _, _, _, hxl, hf⟩ := DataW.trod_struct sTask hF
  match cs, h2 with
  | ⟨[u0, u1, u2, u3, u4, u5, u6]⟩, _ =>
    obtain ⟨_, _, g0⟩ := field_trod hf hxl (fat fTask 0 rfl) cRing
    obtain ⟨_, _, g1⟩ := field_trod hf hxl (fat fTask 1 rfl) cSize3
    obtain ⟨_, _, g2⟩ := field_trod hf hxl (fat fTask 2 rfl) cTrips
    obtain ⟨_, _, g3⟩ := field_trod hf hxl (fat fTask 3 rfl) cTrips
    obtain ⟨_, _, g4⟩ := field_trod hf hxl (fat fTask 4 rfl) cTrips
    obtain ⟨r, rfl, _⟩ := trod_i64 Tryz.underlying22 g0
    obtain ⟨s0, s1, s2, rfl, rfl, rfl, w0, w1, w2⟩ := arr3_u8 g1
    obtain ⟨A1, c1, L1, rfl, k1⟩ := open_trips g2
    obtain ⟨A2, c2, L2, rfl, k2⟩ := open_trips g3
    obtain ⟨A3, c3, L3, rfl, k3⟩ := open_trips g4
    exact ⟨r, s0, s1, s2, A1, c1, A2, c2, A3, c3, L1, L2, L3, rfl, w0, w1, w2, k1, k2, k3⟩
end
end Go.Proofs.YtblfingmdipopaaGreat

/- fretworklaw09.Some: vectors of few items. Conditions: none. -/
namespace Go.Proofs.YtblfingmdipopaaGreat
set_option linter.unusedSimpArgs false
set_option linter.unusedVariables false
open Go.ChangeShapes Go.WideShapes Go.ChangeAt Go.RowKit
open Go.RowKit (wrap32 wrap64)
set_option maxHeartbeats 8000000

/-- The items that Some takes. -/
def modV (K : Nat) (e : Ed) : Ed := (0, e.2.1.tmod K, e.2.2)
def okI (e : Ed) : Bool := decide (0 ≤ e.2.1)
def someV (K : Nat) (l : List Ed) : List Ed := if K = 0 then [] else madeP (modV K) okI (l.take 60)
theorem someV_len (K : Nat) (l : List Ed) : (someV K l).length ≤ 60 := by
  unfold someV
  split
  · simp
  · exact Nat.le_trans (madeP_length _ _ _) (List.length_take_le 60 l)
theorem someV_64 (K : Nat) {l : List Ed} (h : ∀ e ∈ l, In64 e.2.2) : ∀ e ∈ someV K l, In64 e.2.2 := by
  unfold someV
  split
  · intro e he; cases he
  · exact madeP_in (fun _ he => he) (fun e he => h e (List.mem_of_mem_take he))
theorem someV_in (K : Nat) (l : List Ed) : InV K (someV K l) := fun e he => by
  unfold someV at he
  split at he
  · cases he
  · rename_i hK
    unfold madeP at he
    obtain ⟨x, hx, rfl⟩ := List.mem_map.1 he
    have h := (List.mem_filter.1 hx).2
    simp [okI] at h
    exact ⟨rfl, Int.tmod_nonneg _ h, Int.tmod_lt_of_pos _ (show (0 : Int) < (K : Int) by omega)⟩

set_option maxRecDepth 100000 in
theorem some9_any (N : Nat) (hN : N < 256) (l : List Ed) (A : Option Addr) (c : Nat) (w : World) (hl : l.length ≤ maxLen) (hA : Reads w A (l.flatMap itV)) (hw : ∀ e ∈ l, In64 e.2.2) :
    Calls Tryz.prog 6 #[.int .u8 (N : Int), .slice A l.length c] w (VcPost w (N % 60) (canonP (someV (N % 60) l))) := by
  have HA := Lib.hid hA
  have HW := Lib.hid (someV_64 (N % 60) hw)
  have HIN := Lib.hid (someV_in (N % 60) l)
  have HLL := Lib.hid (someV_len (N % 60) l)
  have HCO := Lib.hid (canonV_ok (show N % 60 ≤ 4096 by omega) (by have := someV_len (N % 60) l; omega) (someV_64 (N % 60) hw) (someV_in (N % 60) l))
  have hl := Lib.hid hl
  clear hA hw
  obtain ⟨post, hpost⟩ : ∃ post : Ending → World → Prop, post = VcPost w (N % 60) (canonP (someV (N % 60) l)) := ⟨_, rfl⟩
  rw [← hpost]
  have HPOST := Lib.hid hpost
  clear hpost
  have HZ := Lib.hid (Blk.new w 35 [.int .i64 0, .slice none 0 0])
  have K0 := Lib.hid ((Kept.refl [] w).alloc (.cells #[.int .i64 0, .slice none 0 0] 35))
  have HGZ := Lib.hid (show w.heap.size ≤ w.heap.size from Nat.le_refl _)
  obtain ⟨K, hK⟩ : ∃ K, K = N % 60 := ⟨_, rfl⟩
  have hK60 : K < 60 := by omega
  have hKv : (N : Int).tmod 60 = (K : Int) := by rw [Int.tmod_eq_emod_of_nonneg (by omega)]; omega
  have hKe : (N : Int) % 60 = (K : Int) := by omega
  rw [← hK] at HW HIN HLL HCO HPOST
  clear hK
  go_enter Tryz.func6, Tryz.ntmps6
  go_upto_region 3 with (fail)
  generalize w.alloc (.cells #[.int .i64 0, .slice none 0 0] 35) = w1 at *
  generalize hgq : w.heap.size = gz at HZ ⊢
  rw [hgq] at HGZ
  have HGE := Lib.hid (show w.heap.size ≤ gz by omega)
  clear hgq HGZ hKv hKe hN
  go_wp2_with fail
  go_loopw [6, 7] (fun v x wr => ∃ (k : Nat) (M : List Ed), k ≤ l.length ∧ k ≤ 60 ∧ x = .int .i64 k ∧ Hid (k = 0 ∨ K ≠ 0) ∧ Hid (M = madeP (modV K) okI (l.take k)) ∧ Hid (wr.ownsRow w.heap.size 38 2 v M.length (M.flatMap itV)) ∧ Hid (Blk wr gz 35 [.int .i64 0, .slice none 0 0]) ∧ Hid (Kept [] w wr)) (fun _ x _ => 60 - (intOf x).toNat)
  case atStart => exact ⟨0, [], Nat.zero_le _, Nat.zero_le _, rfl, Lib.hid (.inl rfl), Lib.hid rfl, Lib.hid (World.ownsRow_nil _ _ _ _), HZ, K0⟩
  case round =>
    clear HZ K0
    obtain ⟨k, M, hk, hk6, rfl, HKZ, HL, HO, HZ, K0⟩ := hrel
    obtain ⟨v, hv⟩ : ∃ v, v = u6 := ⟨_, rfl⟩
    subst hv
    obtain ⟨A5, c5, rfl⟩ := own_n HO.out
    have hml : M.length ≤ 60 := by rw [HL.out]; exact Nat.le_trans (madeP_length _ _ _) (by rw [List.length_take]; omega)
    by_cases h1 : k < l.length
    · by_cases h2 : k < 60
      · by_cases h3 : K = 0
        · obtain rfl : k = 0 := by have := HKZ.out; omega
          have h3' : decide ((0 : Int) < (K : Int)) = false := by simp; omega
          have h3m : decide (0 < K) = false := by simp; omega
          have HEND := Lib.hid (show madeP (modV K) okI (l.take 0) = someV K l by unfold someV; rw [if_pos h3]; rfl)
          clear h3
          have HM := Lib.hid (HL.out.trans HEND.out)
          rw [← HM.out] at HW HIN HPOST HLL
          clear HL HEND HCO
          go_wp2_with fail
          have HRC := Lib.hid (refOf9_any K M A5 c5 wr (by omega) (by have := HLL.out; omega) (Reads.of_own HO.out) HW.out HIN.out)
          refine HRC.out.mono ?_
          rintro _ w3 ⟨u, rfl, v2, hq, ho, hk3⟩
          injection hq with hq
          subst hq
          clear HRC
          replace HZ := Lib.hid (HZ.out.kept hk3 (by simp))
          have HO2 := Lib.hid (own_base ho K0.out.size)
          replace K0 := Lib.hid (K0.out.trans hk3)
          clear ho hk3
          obtain ⟨A9, c9, rfl⟩ := own_n HO2.out
          obtain ⟨C, hC⟩ : ∃ C, C = canonP M := ⟨_, rfl⟩
          rw [← hC] at HO2 HPOST ⊢
          clear hC
          go_wp2_with (first | (refine wpList_storeBlk rfl 35 (.tmp 8) (.tmp 53) rfl w3.heap.size [.int .i64 0, .slice none 0 0] [.int .i64 K, .slice A9 C.length c9] (Blk.new _ _ _) rfl rfl rfl infoVec (by simp [Value.oneCell']) ?_; intro w4 hb4 hk4) | (refine wpList_loadBlk rfl 35 (.tmp 8) rfl w3.heap.size [.int .i64 K, .slice A9 C.length c9] _ hb4 rfl Tryz.underlying35 rfl infoVec ?_) | (refine wpList_storeBlk rfl 35 (.tmp 4) (.tmp 55) rfl gz _ [.int .i64 K, .slice A9 C.length c9] (((HZ.out.alloc _).kept hk4 (by simp; have := HZ.out.lt; omega))) rfl rfl rfl infoVec (by simp [Value.oneCell']) ?_; intro w8 hb8 hk8))
          have e0 := hb8.cell 0
          have e1 := hb8.cell 1
          simp only [List.getElem?_cons_zero, List.getElem?_cons_succ] at e0 e1
          refine bodyPost_ret (v := .agg #[.int .i64 K, .slice A9 C.length c9]) (by simp [results, Tryz.results6, go_sem, e0, e1]) rfl ?_
          rw [HPOST.out]
          have k4 : Kept [] w3 w4 := ((Kept.refl [] w3).alloc _).then hk4 (fun q hq => by simp at hq; subst hq; exact .inr (Nat.le_refl _))
          have f8 : KeptB w.heap.size [35] w4 w8 := (KeptB.refl _ _ w4).step (L := [gz]) hk8 (fun u hu => by simp at hu; subst hu; exact ⟨HGE.out, _, _, _, HZ.out.kept k4 (by simp), by simp⟩)
          exact ⟨_, rfl, own_keptB (own_kept0 HO2.out k4) f8 (by decide), (K0.out.trans k4).thenB f8 (Nat.le_refl _)⟩
        · have h3' : (0 : Int) < (K : Int) := by omega
          have h3n : ¬ (K : Int) = 0 := by omega
          have HTK := Lib.hid (madeP_succ (modV K) okI l h1)
          obtain ⟨b, off, rfl, hbl, c0, c1⟩ := it_at (HA.out.kept0 K0.out) h1
          obtain ⟨x, hx⟩ : ∃ x, x = l[k] := ⟨_, rfl⟩
          rw [← hx] at c0 c1 HTK
          clear hx
          obtain ⟨x1, x2, x3⟩ := x
          dsimp only at c0 c1
          by_cases h4 : 0 ≤ x2
          · obtain ⟨r, hr, hr'⟩ := tmod_pos (n := K) h4 h3
            have HMD := Lib.hid (show modV K (x1, x2, x3) = (0, (r : Int), x3) by unfold modV; rw [hr])
            have HOK := Lib.hid (show okI (x1, x2, x3) = true by simpa [okI] using h4)
            go_upto_region 7 with (fail)
            have HD := Lib.hid (own_kept0 HO.out (Kept.refl [] wr).drew)
            have hsz := K0.out.size
            go_region_law (refine step_app _ rfl (.tmp 33) (.tmp 47) _ rfl 38 (.agg #[.int .i64 0, .int .i64 0]) 2 16 Tryz.underlying27 infoItem rfl (by decide) w.heap.size (.slice A5 M.length c5) (M.length) _ rfl (HD.out.alloc _) (some ⟨_, 0, none⟩) 1 1 (itV (0, (r : Int), x3)) rfl rfl (Reads.of_blk (Blk.new _ _ _) (fun _ _ h => h)) (by simp [Value.oneCell']) (by omega) (by unfold maxLen; omega) (by simp; omega) ?_; intro va wa howna hka hba; have HOa := Lib.hid howna; have Fa := Lib.hid (((KeptB.refl w.heap.size [38] wr.drew).alloc _).app hka (HD.out.alloc _) (by decide)); clear howna hka hba)
            all_goals
              go_wp2_with fail
              go_roundw
              case rel =>
                refine ⟨k + 1, M ++ [(0, (r : Int), x3)], by omega, by omega, by go_num, Lib.hid (.inr h3), Lib.hid ?_, Lib.hid ?_, Lib.hid ((HZ.out.kept (Kept.refl [] wr).drew (by simp)).keptB Fa.out (by decide)), Lib.hid ((K0.out.trans (Kept.refl [] wr).drew).thenB Fa.out (Nat.le_refl _))⟩
                · rw [HTK.out, HOK.out, HMD.out, HL.out]
                  rfl
                · have := HOa.out
                  rw [List.flatMap_append]
                  simpa using this
              case measure => simp [intOf]; omega
          · have HOK := Lib.hid (show okI (x1, x2, x3) = false by simpa [okI] using h4)
            go_wp2_with fail
            go_roundw
            case rel =>
              refine ⟨k + 1, M, by omega, by omega, by go_num, Lib.hid (.inr h3), Lib.hid ?_, HO, HZ, K0⟩
              rw [HTK.out, HOK.out, HL.out]
              simp
            case measure => simp [intOf]; omega
      · obtain rfl : k = 60 := by omega
        have h3 : ¬ K = 0 := by have := HKZ.out; omega
        have HEND := Lib.hid (show madeP (modV K) okI (l.take 60) = someV K l by unfold someV; rw [if_neg h3])
        have HM := Lib.hid (HL.out.trans HEND.out)
        rw [← HM.out] at HW HIN HPOST HLL
        clear HL HEND HCO
        go_wp2_with fail
        have HRC := Lib.hid (refOf9_any K M A5 c5 wr (by omega) (by have := HLL.out; omega) (Reads.of_own HO.out) HW.out HIN.out)
        refine HRC.out.mono ?_
        rintro _ w3 ⟨u, rfl, v2, hq, ho, hk3⟩
        injection hq with hq
        subst hq
        clear HRC
        replace HZ := Lib.hid (HZ.out.kept hk3 (by simp))
        have HO2 := Lib.hid (own_base ho K0.out.size)
        replace K0 := Lib.hid (K0.out.trans hk3)
        clear ho hk3
        obtain ⟨A9, c9, rfl⟩ := own_n HO2.out
        obtain ⟨C, hC⟩ : ∃ C, C = canonP M := ⟨_, rfl⟩
        rw [← hC] at HO2 HPOST ⊢
        clear hC
        go_wp2_with (first | (refine wpList_storeBlk rfl 35 (.tmp 8) (.tmp 53) rfl w3.heap.size [.int .i64 0, .slice none 0 0] [.int .i64 K, .slice A9 C.length c9] (Blk.new _ _ _) rfl rfl rfl infoVec (by simp [Value.oneCell']) ?_; intro w4 hb4 hk4) | (refine wpList_loadBlk rfl 35 (.tmp 8) rfl w3.heap.size [.int .i64 K, .slice A9 C.length c9] _ hb4 rfl Tryz.underlying35 rfl infoVec ?_) | (refine wpList_storeBlk rfl 35 (.tmp 4) (.tmp 55) rfl gz _ [.int .i64 K, .slice A9 C.length c9] (((HZ.out.alloc _).kept hk4 (by simp; have := HZ.out.lt; omega))) rfl rfl rfl infoVec (by simp [Value.oneCell']) ?_; intro w8 hb8 hk8))
        have e0 := hb8.cell 0
        have e1 := hb8.cell 1
        simp only [List.getElem?_cons_zero, List.getElem?_cons_succ] at e0 e1
        refine bodyPost_ret (v := .agg #[.int .i64 K, .slice A9 C.length c9]) (by simp [results, Tryz.results6, go_sem, e0, e1]) rfl ?_
        rw [HPOST.out]
        have k4 : Kept [] w3 w4 := ((Kept.refl [] w3).alloc _).then hk4 (fun q hq => by simp at hq; subst hq; exact .inr (Nat.le_refl _))
        have f8 : KeptB w.heap.size [35] w4 w8 := (KeptB.refl _ _ w4).step (L := [gz]) hk8 (fun u hu => by simp at hu; subst hu; exact ⟨HGE.out, _, _, _, HZ.out.kept k4 (by simp), by simp⟩)
        exact ⟨_, rfl, own_keptB (own_kept0 HO2.out k4) f8 (by decide), (K0.out.trans k4).thenB f8 (Nat.le_refl _)⟩
    · obtain rfl : k = l.length := by omega
      have HEND := Lib.hid (show madeP (modV K) okI (l.take l.length) = someV K l by
        unfold someV
        rw [List.take_length]
        split
        · have h0 : l.length = 0 := by have := HKZ.out; omega
          rw [List.eq_nil_of_length_eq_zero h0]
          rfl
        · rw [List.take_of_length_le hk6])
      have HM := Lib.hid (HL.out.trans HEND.out)
      rw [← HM.out] at HW HIN HPOST HLL
      clear HL HEND HCO
      go_wp2_with fail
      have HRC := Lib.hid (refOf9_any K M A5 c5 wr (by omega) (by have := HLL.out; omega) (Reads.of_own HO.out) HW.out HIN.out)
      refine HRC.out.mono ?_
      rintro _ w3 ⟨u, rfl, v2, hq, ho, hk3⟩
      injection hq with hq
      subst hq
      clear HRC
      replace HZ := Lib.hid (HZ.out.kept hk3 (by simp))
      have HO2 := Lib.hid (own_base ho K0.out.size)
      replace K0 := Lib.hid (K0.out.trans hk3)
      clear ho hk3
      obtain ⟨A9, c9, rfl⟩ := own_n HO2.out
      obtain ⟨C, hC⟩ : ∃ C, C = canonP M := ⟨_, rfl⟩
      rw [← hC] at HO2 HPOST ⊢
      clear hC
      go_wp2_with (first | (refine wpList_storeBlk rfl 35 (.tmp 8) (.tmp 53) rfl w3.heap.size [.int .i64 0, .slice none 0 0] [.int .i64 K, .slice A9 C.length c9] (Blk.new _ _ _) rfl rfl rfl infoVec (by simp [Value.oneCell']) ?_; intro w4 hb4 hk4) | (refine wpList_loadBlk rfl 35 (.tmp 8) rfl w3.heap.size [.int .i64 K, .slice A9 C.length c9] _ hb4 rfl Tryz.underlying35 rfl infoVec ?_) | (refine wpList_storeBlk rfl 35 (.tmp 4) (.tmp 55) rfl gz _ [.int .i64 K, .slice A9 C.length c9] (((HZ.out.alloc _).kept hk4 (by simp; have := HZ.out.lt; omega))) rfl rfl rfl infoVec (by simp [Value.oneCell']) ?_; intro w8 hb8 hk8))
      have e0 := hb8.cell 0
      have e1 := hb8.cell 1
      simp only [List.getElem?_cons_zero, List.getElem?_cons_succ] at e0 e1
      refine bodyPost_ret (v := .agg #[.int .i64 K, .slice A9 C.length c9]) (by simp [results, Tryz.results6, go_sem, e0, e1]) rfl ?_
      rw [HPOST.out]
      have k4 : Kept [] w3 w4 := ((Kept.refl [] w3).alloc _).then hk4 (fun q hq => by simp at hq; subst hq; exact .inr (Nat.le_refl _))
      have f8 : KeptB w.heap.size [35] w4 w8 := (KeptB.refl _ _ w4).step (L := [gz]) hk8 (fun u hu => by simp at hu; subst hu; exact ⟨HGE.out, _, _, _, HZ.out.kept k4 (by simp), by simp⟩)
      exact ⟨_, rfl, own_keptB (own_kept0 HO2.out k4) f8 (by decide), (K0.out.trans k4).thenB f8 (Nat.le_refl _)⟩
end Go.Proofs.YtblfingmdipopaaGreat
