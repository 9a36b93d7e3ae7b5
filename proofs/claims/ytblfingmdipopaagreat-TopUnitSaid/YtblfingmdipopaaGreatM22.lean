/- Blocks stored and loaded whole, as one step of a region that draws. Conditions: none beside those that each lemma states. -/
import Derived.Test.YtblfingmdipopaaGreatM02
import Derived.Test.YtblfingmdipopaaGreatM14
import Derived.Test.YtblfingmdipopaaGreatM21
import Derived.Test.YtblfingmdipopaaGreatM20
import Derived.Test.YtblfingmdipopaaGreatM07
namespace Go.Proofs.YtblfingmdipopaaGreat
set_option linter.unusedSimpArgs false
set_option linter.unusedVariables false
open Go.ChangeShapes Go.WideShapes Go.ChangeAt Go.RowKit
open Go.RowKit (wrap32 wrap64)
section
variable {P : Program} {ops : Array Oper} {K : Act → World → Prop} {Q : Exit → Act → World → Prop} {o : Oper} {a : Act} {w : World}
/-- A block is stored whole. -/
theorem stpBlk {E : Prop} (hg : o.guard = none) (ty : TypeId) (x y : Operand) (ho : o.op = .store ty x y) (g : Nat) (cs news : List Value) (hb : Blk w g ty cs) (hl : news.length = cs.length) (hx : a.eval x = .pointer (some ⟨g, 0, none⟩)) (hy : a.eval y = .agg news.toArray)
    (hi : (P.info? ty).map (·.size) = some news.length) (h1 : news.toArray.all (·.oneCell') = true) (h : ∀ w', Blk w' g ty news → Kept [g] w w' → K (a.put o.dst undef) w') :
    if Region.wanted o (yielded ops a.tmps) = true then Oper.wp P o a w K Q else E := by
  rw [if_pos (by simp [Region.wanted, hg])]
  have h2 := Blk.setCells news w 0 cs (by omega) hb
  simp only [List.take_zero, List.nil_append] at h2
  refine wp_store_mid ty x y ho g 0 news.toArray hx hy (fun j hj => ?_) (by simpa using hi) h1 (h _ h2.1 h2.2)
  rw [Nat.zero_add, hb.cell, hb.frozen]
  exact ⟨by rw [List.getElem?_eq_getElem (by simp at hj; omega)]; rfl, rfl⟩
end
theorem quietS {P : Program} {f : FuncId} {args : Array Value} {w : World} {n : Nat} {v : Value}
    (h : Calls P f args (w.drewN n) fun e w' => e = .returned v ∧ w' = w.drewN n) : Calls P f args (w.drewN n) fun e w'' => e = .returned v ∧ ∃ m, w'' = w.drewN m :=
  h.mono fun _ _ ⟨he, hm⟩ => ⟨he, n, hm⟩
/-- The cells of a block from a place on. -/
theorem Blk.range {w : World} {g : Nat} {t : TypeId} {cs : List Value} (h : Blk w g t cs) (o : Nat) (xs : List Value) (hx : ∀ (j : Nat) (v : Value), xs[j]? = some v → cs[o + j]? = some v) : w.rangeAt g o xs := fun j v hv => by
  rw [h.cell]
  exact hx j v hv
end Go.Proofs.YtblfingmdipopaaGreat

/- fretworkref07.Of of triples that lie in the matrix, by the least sums. Conditions: sizes within the limits. -/
namespace Go.Proofs.YtblfingmdipopaaGreat
set_option linter.unusedSimpArgs false
set_option linter.unusedVariables false
open Go.ChangeShapes Go.WideShapes Go.ChangeAt Go.RowKit
open Go.RowKit (wrap32 wrap64)
set_option maxHeartbeats 8000000
/-- Triples that lie in a matrix. -/
def InM (n m : Nat) (l : List Ed) : Prop := ∀ e ∈ l, (0 ≤ e.1 ∧ e.1 < n) ∧ 0 ≤ e.2.1 ∧ e.2.1 < m
theorem canon_ok {n m : Nat} {l : List Ed} (hn : n ≤ 4096) (hm : m ≤ 4096) (hl : l.length ≤ 65536) (hw : ∀ e ∈ l, In64 e.2.2) (hin : InM n m l) : MtOkM n m (canonP l) := by
  obtain ⟨h1, h2, _⟩ := canonP_spec hw
  exact ⟨h1, fun e he => hin e (h2 e he), Nat.le_trans (canonP_length l) hl, hn, hm⟩
end Go.Proofs.YtblfingmdipopaaGreat

/- csr.Row, csr.Count, csr.Same of matrices. -/
namespace Go.Proofs.YtblfingmdipopaaGreat
set_option linter.unusedSimpArgs false
set_option linter.unusedVariables false
open Go.ChangeShapes Go.WideShapes Go.ChangeAt Go.RowKit
open Go.RowKit (wrap32 wrap64)
set_option maxHeartbeats 8000000
/-- An item's cells. -/
abbrev itV (e : Ed) : List Value := [vI e.2.1, vI e.2.2]
theorem infoItem : Info Tryz.prog 38 (.agg #[.int .i64 0, .int .i64 0]) 2 16 := by unfold Info; kernel_rfl
end Go.Proofs.YtblfingmdipopaaGreat

/- Rings in plain numbers: least sums (1, 4) and or (2); ring.Mul, ring.Zero. -/
namespace Go.Proofs.YtblfingmdipopaaGreat
set_option linter.unusedSimpArgs false
set_option linter.unusedVariables false
open Go.ChangeShapes Go.WideShapes Go.ChangeAt Go.RowKit
open Go.RowKit (wrap32 wrap64)
set_option maxHeartbeats 8000000
/-- No way at all. -/
abbrev infV : Int := 4611686018427387904
def zeroV (r : Int) : Int := if r = 2 then 0 else infV
def addV (r a b : Int) : Int := if r = 2 then (if a = 0 ∧ b = 0 then 0 else 1) else if b < a then b else a
def mulV (r a x : Int) : Int :=
  if r = 2 then (if a = 0 ∨ x = 0 then 0 else 1)
  else if infV ≤ a ∨ infV ≤ x then infV
  else if r = 4 then x
  else if infV ≤ a + x then infV else a + x
/-- A value of a ring. -/
def OkV (r v : Int) : Prop := if r = 2 then v = 0 ∨ v = 1 else 0 ≤ v ∧ v ≤ infV
def RingV (r : Int) : Prop := r = 1 ∨ r = 2 ∨ r = 4
theorem okV_in {r v : Int} (h : OkV r v) : 0 ≤ v ∧ v ≤ infV := by
  unfold OkV at h
  split at h
  · unfold infV; omega
  · exact h
theorem okV_64 {r v : Int} (h : OkV r v) : In64 v := by
  have := okV_in h
  unfold infV at this
  unfold In64
  omega
theorem addV_ok {r a b : Int} (ha : OkV r a) (hb : OkV r b) : OkV r (addV r a b) := by
  unfold OkV addV at *
  split
  · rename_i h
    simp only [h, if_true] at *
    split <;> omega
  · rename_i h
    simp only [h, if_false] at *
    split <;> omega
theorem mulV_ok {r a b : Int} (ha : OkV r a) (hb : OkV r b) : OkV r (mulV r a b) := by
  unfold OkV mulV infV at *
  split
  · rename_i h
    simp only [h, if_true] at *
    split <;> omega
  · rename_i h
    simp only [h, if_false] at *
    split
    · omega
    · split
      · omega
      · split <;> omega
theorem wOf_pos {n : Int} (h : 0 ≤ n ∧ n ≤ 9223372036854775807) : wOf n = (0, n.toNat) := by
  unfold wOf
  rw [if_neg (by omega)]
  congr 1
  omega
theorem wCmp_pos {a b : Int} (ha : 0 ≤ a ∧ a ≤ 9223372036854775807) (hb : 0 ≤ b ∧ b ≤ 9223372036854775807) : wCmp (wOf a) (wOf b) = cmpI a b := by
  rw [wOf_pos ha, wOf_pos hb]
  unfold wCmp orI
  rw [show cmpI ((0 : Int), a.toNat).1 ((0 : Int), b.toNat).1 = 0 from rfl, if_pos rfl]
  dsimp only
  rw [show ((a.toNat : Nat) : Int) = a by omega, show ((b.toNat : Nat) : Int) = b by omega]
theorem wMin_pos {a b : Int} (ha : 0 ≤ a ∧ a ≤ 9223372036854775807) (hb : 0 ≤ b ∧ b ≤ 9223372036854775807) : wMin (wOf a) (wOf b) = wOf (if b < a then b else a) := by
  unfold wMin
  rw [wCmp_pos ha hb]
  unfold cmpI
  by_cases h1 : a < b
  · rw [if_pos h1, if_pos (by decide), if_neg (by omega)]
  · rw [if_neg h1]
    by_cases h2 : b < a
    · rw [if_pos h2, if_neg (by decide), if_pos h2]
    · rw [if_neg h2, if_pos (by decide), if_neg h2]
theorem wAdd_pos {a b : Int} (ha : 0 ≤ a ∧ a ≤ infV) (hb : 0 ≤ b ∧ b < infV) : wAdd (wOf a) (wOf b) = wOf (a + b) := by
  unfold infV at ha hb
  rw [wOf_pos (by omega), wOf_pos (by omega), wOf_pos (by omega)]
  unfold wAdd
  rw [i64_wrap]
  have e1 : (a.toNat + b.toNat) % 18446744073709551616 = (a + b).toNat := by omega
  dsimp only
  rw [e1, if_neg (by omega)]
  rfl
/-- The ring's sum of two values. -/
theorem rAdd_val {r a b : Int} (hr : RingV r) (ha : OkV r a) (hb : OkV r b) : rAdd r (wOf a) (wOf b) = wOf (addV r a b) := by
  have a1 := okV_in ha
  have b1 := okV_in hb
  unfold infV at a1 b1
  rcases hr with rfl | rfl | rfl
  · rw [show rAdd 1 (wOf a) (wOf b) = wMin (wOf a) (wOf b) from rfl, wMin_pos (by omega) (by omega)]
    rfl
  · rw [show rAdd 2 (wOf a) (wOf b) = wTruth (!decide (wOf a = wOf b) || !decide (wOf a = (0, 0))) from rfl]
    unfold OkV at ha hb
    simp only [if_true] at ha hb
    rcases ha with rfl | rfl <;> rcases hb with rfl | rfl <;> decide
  · rw [show rAdd 4 (wOf a) (wOf b) = wMin (wOf a) (wOf b) from rfl, wMin_pos (by omega) (by omega)]
    rfl
theorem ringAdd_val {r a b : Int} (hr : RingV r) (ha : OkV r a) (hb : OkV r b) (w : World) : Calls Tryz.prog 36 #[.int .i64 r, wdV (wOf a), wdV (wOf b)] w fun e w' => e = .returned (wdV (wOf (addV r a b))) ∧ Kept [] w w' := by
  have h := ringAdd_any r (wOf a) (wOf b) (wOf_ok a) (wOf_ok b) w
  rwa [rAdd_val hr ha hb] at h
theorem ringNarrow_val {r a : Int} (q : Int) (ha : OkV r a) (w : World) : Calls Tryz.prog 37 #[.int .i64 q, wdV (wOf a)] w fun e w' => e = .returned (.tuple #[.int .i64 a, .bool true]) ∧ Kept [] w w' := by
  have h := ringNarrow_any q (wOf a) (wOf_ok a) w
  rwa [wNarrow_of (okV_64 ha)] at h
theorem zero_any (r : Int) (hr : RingV r ∨ r = 5) (w : World) : Calls Tryz.prog 34 #[.int .i64 r] w fun e w' => e = .returned (.int .i64 (if r = 5 then 0 else zeroV r)) ∧ w' = w := by
  rcases hr with (rfl | rfl | rfl) | rfl
  · go_enter Tryz.func34, Tryz.ntmps34
    go_wp2_with fail
    go_ret
    exact ⟨ret_int (by decide), rfl⟩
  · go_enter Tryz.func34, Tryz.ntmps34
    go_wp2_with fail
    go_ret
    exact ⟨ret_int (by decide), rfl⟩
  · go_enter Tryz.func34, Tryz.ntmps34
    go_wp2_with fail
    go_ret
    exact ⟨ret_int (by decide), rfl⟩
  · go_enter Tryz.func34, Tryz.ntmps34
    go_wp2_with fail
    go_ret
    exact ⟨ret_int (by decide), rfl⟩
theorem zero_val {r : Int} (hr : RingV r) (w : World) : Calls Tryz.prog 34 #[.int .i64 r] w fun e w' => e = .returned (.int .i64 (zeroV r)) ∧ w' = w := by
  have h := zero_any r (.inl hr) w
  rwa [if_neg (by rcases hr with rfl | rfl | rfl <;> decide)] at h
set_option maxRecDepth 100000 in
theorem mul2 (a x : Int) (w : World) : Calls Tryz.prog 84 #[.int .i64 2, .int .i64 a, .int .i64 x] w fun e w' => e = .returned (wdV (wOf (mulV 2 a x))) ∧ Kept [] w w' := by
  have HZ := Lib.hid (Blk.new w 100 (wdC (0, 0)))
  have K0 := Lib.hid ((Kept.refl [] w).alloc (.cells (wdC (0, 0)).toArray 100))
  by_cases h1 : a = 0
  · rw [show wOf (mulV 2 a x) = wTruth false by unfold mulV; rw [if_pos rfl, if_pos (.inl h1)]; rfl]
    go_enter Tryz.func84, Tryz.ntmps84
    go_wp2_with fail
    refine (truth_any _ _).mono ?_
    rintro _ w3 ⟨rfl, hk⟩
    replace HZ := Lib.hid (HZ.out.kept hk (by simp))
    replace K0 := Lib.hid (K0.out.trans hk)
    clear hk
    go_wp2_with (first | (refine wpList_storeBlk rfl 100 (.tmp 6) (.tmp 17) rfl (w.heap.size) _ (wdC (wTruth false)) HZ.out rfl rfl rfl infoWide (by simp [Value.oneCell']) ?_; intro w8 hb8 hk8))
    have e0 := hb8.cell 0
    have e1 := hb8.cell 1
    simp only [List.getElem?_cons_zero, List.getElem?_cons_succ] at e0 e1
    refine bodyPost_ret (v := wdV (wTruth false)) (by simp [results, Tryz.results84, go_sem, e0, e1]) rfl ?_
    exact ⟨rfl, K0.out.then hk8 (fun m hm => by simp at hm; subst hm; exact .inr (by omega))⟩
  · by_cases h2 : x = 0
    · rw [show wOf (mulV 2 a x) = wTruth false by unfold mulV; rw [if_pos rfl, if_pos (.inr h2)]; rfl]
      go_enter Tryz.func84, Tryz.ntmps84
      go_wp2_with fail
      refine (truth_any _ _).mono ?_
      rintro _ w3 ⟨rfl, hk⟩
      replace HZ := Lib.hid (HZ.out.kept hk (by simp))
      replace K0 := Lib.hid (K0.out.trans hk)
      clear hk
      go_wp2_with (first | (refine wpList_storeBlk rfl 100 (.tmp 6) (.tmp 17) rfl (w.heap.size) _ (wdC (wTruth false)) HZ.out rfl rfl rfl infoWide (by simp [Value.oneCell']) ?_; intro w8 hb8 hk8))
      have e0 := hb8.cell 0
      have e1 := hb8.cell 1
      simp only [List.getElem?_cons_zero, List.getElem?_cons_succ] at e0 e1
      refine bodyPost_ret (v := wdV (wTruth false)) (by simp [results, Tryz.results84, go_sem, e0, e1]) rfl ?_
      exact ⟨rfl, K0.out.then hk8 (fun m hm => by simp at hm; subst hm; exact .inr (by omega))⟩
    · rw [show wOf (mulV 2 a x) = wTruth true by unfold mulV; rw [if_pos rfl, if_neg (by omega)]; rfl]
      go_enter Tryz.func84, Tryz.ntmps84
      go_wp2_with fail
      refine (truth_any _ _).mono ?_
      rintro _ w3 ⟨rfl, hk⟩
      rw [show (a != 0 && x != 0) = true from by simp [h1, h2]]
      replace HZ := Lib.hid (HZ.out.kept hk (by simp))
      replace K0 := Lib.hid (K0.out.trans hk)
      clear hk
      go_wp2_with (first | (refine wpList_storeBlk rfl 100 (.tmp 6) (.tmp 17) rfl (w.heap.size) _ (wdC (wTruth true)) HZ.out rfl rfl rfl infoWide (by simp [Value.oneCell']) ?_; intro w8 hb8 hk8))
      have e0 := hb8.cell 0
      have e1 := hb8.cell 1
      simp only [List.getElem?_cons_zero, List.getElem?_cons_succ] at e0 e1
      refine bodyPost_ret (v := wdV (wTruth true)) (by simp [results, Tryz.results84, go_sem, e0, e1]) rfl ?_
      exact ⟨rfl, K0.out.then hk8 (fun m hm => by simp at hm; subst hm; exact .inr (by omega))⟩
set_option maxRecDepth 100000 in
theorem mulFar (r a x : Int) (hr : r = 1 ∨ r = 4) (ha : 0 ≤ a ∧ a ≤ infV) (hx : 0 ≤ x ∧ x ≤ infV) (hf : infV ≤ a ∨ infV ≤ x) (w : World) : Calls Tryz.prog 84 #[.int .i64 r, .int .i64 a, .int .i64 x] w fun e w' => e = .returned (wdV (wOf (mulV r a x))) ∧ Kept [] w w' := by
  rw [show mulV r a x = 4611686018427387904 by unfold mulV; rw [if_neg (by omega), if_pos hf]]
  have HZ := Lib.hid (Blk.new w 100 (wdC (0, 0)))
  have K0 := Lib.hid ((Kept.refl [] w).alloc (.cells (wdC (0, 0)).toArray 100))
  have hmx : (0 : Int) = 0 := rfl
  unfold infV at *
  rcases hr with rfl | rfl
  · by_cases h1 : x ≤ a
    · have h2 : 4611686018427387904 ≤ a := by omega
      clear hmx hf ha hx
      go_enter Tryz.func84, Tryz.ntmps84
      go_wp2_with fail
      refine (ringIs_any _ _).mono ?_
      rintro _ w2 ⟨rfl, rfl⟩
      rw [show ringIs 1 = true from by decide]
      go_wp2_with fail
      refine (of_any 4611686018427387904 (by unfold In64; omega) _).mono ?_
      rintro _ w3 ⟨rfl, hk⟩
      replace HZ := Lib.hid (HZ.out.kept hk (by simp))
      replace K0 := Lib.hid (K0.out.trans hk)
      clear hk
      go_wp2_with (first | (refine wpList_storeBlk rfl 100 (.tmp 6) (.tmp 31) rfl (w.heap.size) _ (wdC (wOf 4611686018427387904)) HZ.out rfl rfl rfl infoWide (by simp [Value.oneCell']) ?_; intro w8 hb8 hk8))
      have e0 := hb8.cell 0
      have e1 := hb8.cell 1
      simp only [List.getElem?_cons_zero, List.getElem?_cons_succ] at e0 e1
      refine bodyPost_ret (v := wdV (wOf 4611686018427387904)) (by simp [results, Tryz.results84, go_sem, e0, e1]) rfl ?_
      exact ⟨rfl, K0.out.then hk8 (fun m hm => by simp at hm; subst hm; exact .inr (by omega))⟩
    · have h2 : 4611686018427387904 ≤ x := by omega
      clear hmx hf ha hx
      go_enter Tryz.func84, Tryz.ntmps84
      go_wp2_with fail
      refine (ringIs_any _ _).mono ?_
      rintro _ w2 ⟨rfl, rfl⟩
      rw [show ringIs 1 = true from by decide]
      go_wp2_with fail
      refine (of_any 4611686018427387904 (by unfold In64; omega) _).mono ?_
      rintro _ w3 ⟨rfl, hk⟩
      replace HZ := Lib.hid (HZ.out.kept hk (by simp))
      replace K0 := Lib.hid (K0.out.trans hk)
      clear hk
      go_wp2_with (first | (refine wpList_storeBlk rfl 100 (.tmp 6) (.tmp 31) rfl (w.heap.size) _ (wdC (wOf 4611686018427387904)) HZ.out rfl rfl rfl infoWide (by simp [Value.oneCell']) ?_; intro w8 hb8 hk8))
      have e0 := hb8.cell 0
      have e1 := hb8.cell 1
      simp only [List.getElem?_cons_zero, List.getElem?_cons_succ] at e0 e1
      refine bodyPost_ret (v := wdV (wOf 4611686018427387904)) (by simp [results, Tryz.results84, go_sem, e0, e1]) rfl ?_
      exact ⟨rfl, K0.out.then hk8 (fun m hm => by simp at hm; subst hm; exact .inr (by omega))⟩
  · by_cases h1 : x ≤ a
    · have h2 : 4611686018427387904 ≤ a := by omega
      clear hmx hf ha hx
      go_enter Tryz.func84, Tryz.ntmps84
      go_wp2_with fail
      refine (ringIs_any _ _).mono ?_
      rintro _ w2 ⟨rfl, rfl⟩
      rw [show ringIs 4 = true from by decide]
      go_wp2_with fail
      refine (of_any 4611686018427387904 (by unfold In64; omega) _).mono ?_
      rintro _ w3 ⟨rfl, hk⟩
      replace HZ := Lib.hid (HZ.out.kept hk (by simp))
      replace K0 := Lib.hid (K0.out.trans hk)
      clear hk
      go_wp2_with (first | (refine wpList_storeBlk rfl 100 (.tmp 6) (.tmp 31) rfl (w.heap.size) _ (wdC (wOf 4611686018427387904)) HZ.out rfl rfl rfl infoWide (by simp [Value.oneCell']) ?_; intro w8 hb8 hk8))
      have e0 := hb8.cell 0
      have e1 := hb8.cell 1
      simp only [List.getElem?_cons_zero, List.getElem?_cons_succ] at e0 e1
      refine bodyPost_ret (v := wdV (wOf 4611686018427387904)) (by simp [results, Tryz.results84, go_sem, e0, e1]) rfl ?_
      exact ⟨rfl, K0.out.then hk8 (fun m hm => by simp at hm; subst hm; exact .inr (by omega))⟩
    · have h2 : 4611686018427387904 ≤ x := by omega
      clear hmx hf ha hx
      go_enter Tryz.func84, Tryz.ntmps84
      go_wp2_with fail
      refine (ringIs_any _ _).mono ?_
      rintro _ w2 ⟨rfl, rfl⟩
      rw [show ringIs 4 = true from by decide]
      go_wp2_with fail
      refine (of_any 4611686018427387904 (by unfold In64; omega) _).mono ?_
      rintro _ w3 ⟨rfl, hk⟩
      replace HZ := Lib.hid (HZ.out.kept hk (by simp))
      replace K0 := Lib.hid (K0.out.trans hk)
      clear hk
      go_wp2_with (first | (refine wpList_storeBlk rfl 100 (.tmp 6) (.tmp 31) rfl (w.heap.size) _ (wdC (wOf 4611686018427387904)) HZ.out rfl rfl rfl infoWide (by simp [Value.oneCell']) ?_; intro w8 hb8 hk8))
      have e0 := hb8.cell 0
      have e1 := hb8.cell 1
      simp only [List.getElem?_cons_zero, List.getElem?_cons_succ] at e0 e1
      refine bodyPost_ret (v := wdV (wOf 4611686018427387904)) (by simp [results, Tryz.results84, go_sem, e0, e1]) rfl ?_
      exact ⟨rfl, K0.out.then hk8 (fun m hm => by simp at hm; subst hm; exact .inr (by omega))⟩
end Go.Proofs.YtblfingmdipopaaGreat
