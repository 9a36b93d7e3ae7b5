/- Comparisons; wide numbers; rings: the small functions' walks. -/
import Derived.Test.YtblfingmdipopaaGreatM03
import Derived.StillTailTactics
import Derived.Sort.Grow
namespace Go.Proofs.YtblfingmdipopaaGreat
set_option linter.unusedSimpArgs false
set_option linter.unusedVariables false
open Go.ChangeShapes Go.WideShapes Go.ChangeAt Go.RowKit
open Go.RowKit (wrap32 wrap64)
set_option maxHeartbeats 4000000
/-- Which one is less. -/
def cmpI (a b : Int) : Int := if a < b then -1 else if b < a then 1 else 0
theorem isNaN_int (a : Int) (w : World) : Calls Tryz.prog 168 #[.int .i64 a] w fun e w' => e = .returned (.bool false) ∧ w' = w := by
  go_enter Tryz.func168, Tryz.ntmps168
  go_wp2
  go_ret
  exact ⟨ret_bool (by simp), rfl⟩
theorem compare_int (a b : Int) (w : World) : Calls Tryz.prog 129 #[.int .i64 a, .int .i64 b] w fun e w' => e = .returned (.int .i64 (cmpI a b)) ∧ w' = w := by
  by_cases h1 : a < b
  · rw [show cmpI a b = -1 from if_pos h1]
    go_enter Tryz.func129, Tryz.ntmps129
    go_wp2_with fail
    refine (isNaN_int a _).mono ?_
    rintro _ w1 ⟨rfl, rfl⟩
    go_wp2_with fail
    refine (isNaN_int b _).mono ?_
    rintro _ w2 ⟨rfl, rfl⟩
    go_wp2_with fail
    go_ret
    exact ⟨rfl, rfl⟩
  by_cases h2 : b < a
  · rw [show cmpI a b = 1 by unfold cmpI; rw [if_neg h1, if_pos h2]]
    go_enter Tryz.func129, Tryz.ntmps129
    go_wp2_with fail
    refine (isNaN_int a _).mono ?_
    rintro _ w1 ⟨rfl, rfl⟩
    go_wp2_with fail
    refine (isNaN_int b _).mono ?_
    rintro _ w2 ⟨rfl, rfl⟩
    go_wp2_with fail
    go_ret
    exact ⟨rfl, rfl⟩
  · rw [show cmpI a b = 0 by unfold cmpI; rw [if_neg h1, if_neg h2]]
    go_enter Tryz.func129, Tryz.ntmps129
    go_wp2_with fail
    refine (isNaN_int a _).mono ?_
    rintro _ w1 ⟨rfl, rfl⟩
    go_wp2_with fail
    refine (isNaN_int b _).mono ?_
    rintro _ w2 ⟨rfl, rfl⟩
    go_wp2_with fail
    go_ret
    exact ⟨rfl, rfl⟩
theorem isNaN_int64 (a : Int) (w : World) : Calls Tryz.prog 172 #[.int .i64 a] w fun e w' => e = .returned (.bool false) ∧ w' = w := by
  go_enter Tryz.func172, Tryz.ntmps172
  go_wp2
  go_ret
  exact ⟨ret_bool (by simp), rfl⟩
theorem compare_int64 (a b : Int) (w : World) : Calls Tryz.prog 139 #[.int .i64 a, .int .i64 b] w fun e w' => e = .returned (.int .i64 (cmpI a b)) ∧ w' = w := by
  by_cases h1 : a < b
  · rw [show cmpI a b = -1 from if_pos h1]
    go_enter Tryz.func139, Tryz.ntmps139
    go_wp2_with fail
    refine (isNaN_int64 a _).mono ?_
    rintro _ w1 ⟨rfl, rfl⟩
    go_wp2_with fail
    refine (isNaN_int64 b _).mono ?_
    rintro _ w2 ⟨rfl, rfl⟩
    go_wp2_with fail
    go_ret
    exact ⟨rfl, rfl⟩
  by_cases h2 : b < a
  · rw [show cmpI a b = 1 by unfold cmpI; rw [if_neg h1, if_pos h2]]
    go_enter Tryz.func139, Tryz.ntmps139
    go_wp2_with fail
    refine (isNaN_int64 a _).mono ?_
    rintro _ w1 ⟨rfl, rfl⟩
    go_wp2_with fail
    refine (isNaN_int64 b _).mono ?_
    rintro _ w2 ⟨rfl, rfl⟩
    go_wp2_with fail
    go_ret
    exact ⟨rfl, rfl⟩
  · rw [show cmpI a b = 0 by unfold cmpI; rw [if_neg h1, if_neg h2]]
    go_enter Tryz.func139, Tryz.ntmps139
    go_wp2_with fail
    refine (isNaN_int64 a _).mono ?_
    rintro _ w1 ⟨rfl, rfl⟩
    go_wp2_with fail
    refine (isNaN_int64 b _).mono ?_
    rintro _ w2 ⟨rfl, rfl⟩
    go_wp2_with fail
    go_ret
    exact ⟨rfl, rfl⟩
theorem isNaN_uint64 (a : Int) (w : World) : Calls Tryz.prog 173 #[.int .u64 a] w fun e w' => e = .returned (.bool false) ∧ w' = w := by
  go_enter Tryz.func173, Tryz.ntmps173
  go_wp2
  go_ret
  exact ⟨ret_bool (by simp), rfl⟩
theorem compare_uint64 (a b : Int) (w : World) : Calls Tryz.prog 140 #[.int .u64 a, .int .u64 b] w fun e w' => e = .returned (.int .i64 (cmpI a b)) ∧ w' = w := by
  by_cases h1 : a < b
  · rw [show cmpI a b = -1 from if_pos h1]
    go_enter Tryz.func140, Tryz.ntmps140
    go_wp2_with fail
    refine (isNaN_uint64 a _).mono ?_
    rintro _ w1 ⟨rfl, rfl⟩
    go_wp2_with fail
    refine (isNaN_uint64 b _).mono ?_
    rintro _ w2 ⟨rfl, rfl⟩
    go_wp2_with fail
    go_ret
    exact ⟨rfl, rfl⟩
  by_cases h2 : b < a
  · rw [show cmpI a b = 1 by unfold cmpI; rw [if_neg h1, if_pos h2]]
    go_enter Tryz.func140, Tryz.ntmps140
    go_wp2_with fail
    refine (isNaN_uint64 a _).mono ?_
    rintro _ w1 ⟨rfl, rfl⟩
    go_wp2_with fail
    refine (isNaN_uint64 b _).mono ?_
    rintro _ w2 ⟨rfl, rfl⟩
    go_wp2_with fail
    go_ret
    exact ⟨rfl, rfl⟩
  · rw [show cmpI a b = 0 by unfold cmpI; rw [if_neg h1, if_neg h2]]
    go_enter Tryz.func140, Tryz.ntmps140
    go_wp2_with fail
    refine (isNaN_uint64 a _).mono ?_
    rintro _ w1 ⟨rfl, rfl⟩
    go_wp2_with fail
    refine (isNaN_uint64 b _).mono ?_
    rintro _ w2 ⟨rfl, rfl⟩
    go_wp2_with fail
    go_ret
    exact ⟨rfl, rfl⟩
/-- The first one that is not 0. -/
def orI (x y : Int) : Int := if x = 0 then y else x
theorem or2_any (x y : Int) (g c : Nat) (w : World) (hb : Blk w g 3 [.int .i64 x, .int .i64 y]) :
    Calls Tryz.prog 128 #[.slice (some ⟨g, 0, none⟩) 2 c] w fun e w' => e = .returned (.int .i64 (orI x y)) ∧ w' = w := by
  have y0 := hb.cell 0
  have y1 := hb.cell 1
  simp only [List.getElem?_cons_zero, List.getElem?_cons_succ] at y0 y1
  clear hb
  by_cases hx : x = 0
  · by_cases hy : y = 0
    · subst hx hy
      rw [show orI 0 0 = 0 from rfl]
      go_enter Tryz.func128, Tryz.ntmps128
      go_wp2_with fail
      refine wp_loop_rounds 3 ?_
      rw [rounds_succ]
      go_wp2
      rw [rounds_succ]
      go_wp2
      rw [rounds_succ]
      go_wp2
      go_ret
      exact ⟨rfl, rfl⟩
    · subst hx
      rw [show orI 0 y = y from rfl]
      go_enter Tryz.func128, Tryz.ntmps128
      go_wp2_with fail
      refine wp_loop_rounds 3 ?_
      rw [rounds_succ]
      go_wp2
      rw [rounds_succ]
      go_wp2
      go_ret
      exact ⟨rfl, rfl⟩
  · rw [show orI x y = x from if_neg hx]
    go_enter Tryz.func128, Tryz.ntmps128
    go_wp2_with fail
    refine wp_loop_rounds 3 ?_
    rw [rounds_succ]
    go_wp2
    go_ret
    exact ⟨rfl, rfl⟩
end Go.Proofs.YtblfingmdipopaaGreat

/- Edges: which one stands ahead. -/
namespace Go.Proofs.YtblfingmdipopaaGreat
set_option linter.unusedSimpArgs false
set_option linter.unusedVariables false
open Go.ChangeShapes Go.WideShapes Go.ChangeAt Go.RowKit
open Go.RowKit (wrap32 wrap64)
open Go.Sort (grow grow_grow alloc_eq_grow)
set_option maxHeartbeats 4000000
/-- The world is as it was, but for draws and new blocks. -/
def Grown (w w' : World) : Prop := ∃ q os, w' = grow (w.drewN q) os
theorem grow_nil (w : World) : grow w #[] = w := by cases w; simp [grow]
theorem Grown.refl (w : World) : Grown w w := ⟨0, #[], by rw [grow_nil]; rfl⟩
theorem Grown.trans {a b c : World} (h : Grown a b) (k : Grown b c) : Grown a c := by
  obtain ⟨q, os, rfl⟩ := h
  obtain ⟨r, ps, rfl⟩ := k
  refine ⟨q + r, os ++ ps, ?_⟩
  rw [← World.drewN_drewN, ← grow_grow]
  rfl
theorem Grown.alloc {a b : World} (h : Grown a b) (o : Obj) : Grown a (b.alloc o) := h.trans ⟨0, #[o], by rw [alloc_eq_grow]; rfl⟩
theorem Grown.drewN {a b : World} (h : Grown a b) (q : Nat) : Grown a (b.drewN q) := h.trans ⟨q, #[], by rw [grow_nil]⟩
theorem Grown.drew {a b : World} (h : Grown a b) : Grown a b.drew := h.trans ⟨1, #[], by rw [grow_nil]; rfl⟩
theorem Grown.kept {a b : World} (h : Grown a b) : Kept [] a b := by
  obtain ⟨q, os, rfl⟩ := h
  exact ⟨rfl, rfl, rfl, by simp [grow], fun i hi _ => by
    show (a.heap ++ os)[i]? = a.heap[i]?
    rw [Array.getElem?_append_left hi]⟩
abbrev Ed := Int × Int × Int
/-- An edge's cells. -/
def edV (e : Ed) : List Value := [.int .i64 e.1, .int .i64 e.2.1, .int .i64 e.2.2]
/-- Which edge stands ahead, by its ends. -/
def endsI (a b : Ed) : Int := orI (cmpI a.1 b.1) (cmpI a.2.1 b.2.1)
def orderI (a b : Ed) : Int := orI (endsI a b) (cmpI a.2.2 b.2.2)
set_option maxRecDepth 100000 in
theorem ends_any (a b : Ed) (w : World) :
    Calls Tryz.prog 209 #[.agg (edV a).toArray, .agg (edV b).toArray] w fun e w' => e = .returned (.int .i64 (endsI a b)) ∧ Grown w w' := by
  obtain ⟨a1, a2, a3⟩ := a
  obtain ⟨b1, b2, b3⟩ := b
  have HX := Lib.hid ((Blk.new w 107 (edV (a1, a2, a3))).alloc (.cells (edV (b1, b2, b3)).toArray 107))
  have HY := Lib.hid (Blk.new1F w (.cells (edV (a1, a2, a3)).toArray 107) 107 (edV (b1, b2, b3)))
  have G := Lib.hid (((Grown.refl w).alloc (.cells (edV (a1, a2, a3)).toArray 107)).alloc (.cells (edV (b1, b2, b3)).toArray 107))
  go_enter Tryz.func209, Tryz.ntmps209
  go_upto_region 1 with (fail)
  refine wp_region_still_tail 10 (by kernel_rfl) (by kernel_rfl) ?_
  simp only [List.take_succ_cons, List.take_zero, List.drop_succ_cons, List.drop_zero]
  change wpStill _ _ (World.drew ((w.alloc (.cells (edV (a1, a2, a3)).toArray 107)).alloc (.cells (edV (b1, b2, b3)).toArray 107))) (fun a' => wpList _ _ _ _ a' (World.drew ((w.alloc (.cells (edV (a1, a2, a3)).toArray 107)).alloc (.cells (edV (b1, b2, b3)).toArray 107)))) _ _
  replace HX := Lib.hid HX.out.drew
  replace HY := Lib.hid HY.out.drew
  replace G := Lib.hid G.out.drew
  generalize World.drew ((w.alloc (.cells (edV (a1, a2, a3)).toArray 107)).alloc (.cells (edV (b1, b2, b3)).toArray 107)) = w2 at *
  generalize w.heap.size + 1 = g2 at HY ⊢
  generalize w.heap.size = g1 at HX ⊢
  have x0 := HX.out.cell 0
  have x1 := HX.out.cell 1
  have y0 := HY.out.cell 0
  have y1 := HY.out.cell 1
  simp only [edV, List.getElem?_cons_zero, List.getElem?_cons_succ] at x0 x1 y0 y1
  repeat still_step
  still_call (compare_int a1 b1 _)
  repeat still_step
  still_call (compare_int a2 b2 _)
  refine wpStill_nil ?_
  clear x0 x1 y0 y1
  have HO := Lib.hid (Blk.new w2 3 [.int .i64 (cmpI a1 b1), .int .i64 (cmpI a2 b2)])
  go_wp2_with fail
  refine (or2_any (cmpI a1 b1) (cmpI a2 b2) _ _ _ HO.out).mono ?_
  rintro _ w3 ⟨rfl, rfl⟩
  go_wp2_with fail
  go_ret
  exact ⟨rfl, G.out.alloc _⟩
end Go.Proofs.YtblfingmdipopaaGreat
