/- Graphs made of others: edges turned, without loops, of weight one, to lesser vertices. -/
import Derived.Test.YtfnhfmffkjljnaaE21
namespace Go.Proofs.Ytfnhfmffkjljnaa
set_option linter.unusedSimpArgs false
set_option linter.unusedVariables false
open Go.ChangeShapes Go.WideShapes Go.ChangeAt Go.RowKit
open Go.RowKit (wrap32 wrap64)
set_option maxHeartbeats 8000000

/-- The edges that are let through, changed. -/
def madeP (f : Ed → Ed) (p : Ed → Bool) (l : List Ed) : List Ed := (l.filter p).map f
theorem madeP_succ (f : Ed → Ed) (p : Ed → Bool) (l : List Ed) {k : Nat} (h : k < l.length) : madeP f p (l.take (k + 1)) = madeP f p (l.take k) ++ (if p l[k] = true then [f l[k]] else []) := by
  unfold madeP
  rw [List.take_succ_eq_append_getElem h, List.filter_append, List.map_append]
  congr 1
  by_cases hp : p l[k] = true
  · simp [hp]
  · simp [hp]
theorem madeP_length (f : Ed → Ed) (p : Ed → Bool) (l : List Ed) : (madeP f p l).length ≤ l.length := by
  unfold madeP
  rw [List.length_map]
  exact List.length_filter_le _ _
theorem madeP_in {f : Ed → Ed} {p : Ed → Bool} {l : List Ed} (hf : ∀ e, In64 e.2.2 → In64 (f e).2.2) (h : ∀ e ∈ l, In64 e.2.2) : ∀ e ∈ madeP f p l, In64 e.2.2 := by
  intro e he
  obtain ⟨x, hx, rfl⟩ := List.mem_map.1 he
  exact hf x (h x (List.mem_filter.1 hx).1)
theorem neq_bool (a b : Int) : (a != b) = !decide (a = b) := by
  by_cases h : a = b
  · simp [h]
  · simp [h]
def turnE (e : Ed) : Ed := (e.2.1, e.1, e.2.2)
def oneE (e : Ed) : Ed := (e.1, e.2.1, 1)
def allE (_ : Ed) : Bool := true
def noLoop (e : Ed) : Bool := !decide (e.1 = e.2.1)
def lowE (e : Ed) : Bool := decide (e.2.1 < e.1)
set_option maxRecDepth 100000 in
theorem chgT (e : Ed) (w : World) : Calls Try.prog 64 #[.agg #[.int .i64 e.1, .int .i64 e.2.1, .int .i64 e.2.2]] w fun x w' => x = .returned (.tuple #[.agg (edV (turnE e)).toArray, .bool (allE e)]) ∧ Kept [] w w' := by
  obtain ⟨a, b, c⟩ := e
  dsimp only
  go_enter Try.func64, Try.ntmps64
  go_wp2_with fail
  refine bodyPost_ret (v := .tuple #[.agg #[.int .i64 b, .int .i64 a, .int .i64 c], .bool true]) (by simp [results, Try.results64, go_sem]) rfl ?_
  exact ⟨rfl, ((Kept.refl _ _).alloc _).alloc _⟩
set_option maxRecDepth 100000 in
theorem chgS (e : Ed) (w : World) : Calls Try.prog 66 #[.agg #[.int .i64 e.1, .int .i64 e.2.1, .int .i64 e.2.2]] w fun x w' => x = .returned (.tuple #[.agg (edV (id e)).toArray, .bool (noLoop e)]) ∧ Kept [] w w' := by
  obtain ⟨a, b, c⟩ := e
  dsimp only
  have HX := Lib.hid ((Blk.new w 41 [.int .i64 a, .int .i64 b, .int .i64 c]).alloc (.cells #[.int .i64 0, .int .i64 0, .int .i64 0] 41))
  have HZ := Lib.hid (Blk.new1F w (.cells #[.int .i64 a, .int .i64 b, .int .i64 c] 41) 41 [.int .i64 0, .int .i64 0, .int .i64 0])
  have K0 := Lib.hid (((Kept.refl [] w).alloc (.cells #[.int .i64 a, .int .i64 b, .int .i64 c] 41)).alloc (.cells #[.int .i64 0, .int .i64 0, .int .i64 0] 41))
  have HG3 := Lib.hid (show w.heap.size ≤ w.heap.size + 1 by omega)
  obtain ⟨z, hz⟩ : ∃ z, z = noLoop (a, b, c) := ⟨_, rfl⟩
  rw [← hz]
  have HZZ := Lib.hid hz
  clear hz
  obtain ⟨post, hpost⟩ : ∃ post : Ending → World → Prop, post = fun x w' => x = .returned (.tuple #[.agg (edV (id (a, b, c))).toArray, .bool z]) ∧ Kept [] w w' := ⟨_, rfl⟩
  rw [← hpost]
  have HPOST := Lib.hid hpost
  clear hpost
  go_enter Try.func66, Try.ntmps66
  go_upto_region 1 with (fail)
  generalize ((w.alloc (.cells #[.int .i64 a, .int .i64 b, .int .i64 c] 41)).alloc (.cells #[.int .i64 0, .int .i64 0, .int .i64 0] 41)) = w2 at *
  have HNE := Lib.hid (show w.heap.size ≠ w.heap.size + 1 by omega)
  generalize w.heap.size + 1 = g3 at HZ HG3 HNE ⊢
  generalize hg1 : w.heap.size = g1 at HX HNE ⊢
  clear hg1
  refine wp_region_held_drew (S := (fun w' => w'.rangeAt g1 0 [.int .i64 a, .int .i64 b, .int .i64 c] ∧ w'.cell? ⟨g1, 0, none⟩ = some (.int .i64 a) ∧ w'.cell? ⟨g1, 1, none⟩ = some (.int .i64 b))) (by kernel_rfl) ?_ (fun hHeld => ?_)
  · exact ⟨HX.out.cell2, HX.out.cell 0, HX.out.cell 1⟩
  replace HX := Lib.hid HX.out.drew
  replace HZ := Lib.hid HZ.out.drew
  replace K0 := Lib.hid K0.out.drew
  refine tkLoad (i := 0) 41 (.tmp 1) g1 0 [.int .i64 a, .int .i64 b, .int .i64 c] _ rfl rfl (by kernel_rfl) (by kernel_rfl) (by kernel_rfl) (fun _ _ _ h => h) (by rfl) rfl rfl (fun w hw => hw.1) Try.underlying41 rfl infoEdge (by assumption) ?_
  try simp only [Act.put, List.setIfInBounds_toArray, List.set_cons_zero, List.set_cons_succ]
  refine tkYes (i := 1) (v := ?_) rfl rfl (by kernel_rfl) (by kernel_rfl) (by kernel_rfl) (fun _ _ _ h => h) (by rfl) ?_ (by assumption) ?_
  rotate_left
  · (intro w' hSw; (try dsimp only at hSw); go_simp; try with_reducible rfl)
  try simp only [Act.put, List.setIfInBounds_toArray, List.set_cons_zero, List.set_cons_succ]
  refine tkYes (i := 2) (v := ?_) rfl rfl (by kernel_rfl) (by kernel_rfl) (by kernel_rfl) (fun _ _ _ h => h) (by rfl) ?_ (by assumption) ?_
  rotate_left
  · (intro w' hSw; (try dsimp only at hSw); go_simp; try with_reducible rfl)
  try simp only [Act.put, List.setIfInBounds_toArray, List.set_cons_zero, List.set_cons_succ]
  refine tkYes (i := 3) (v := ?_) rfl rfl (by kernel_rfl) (by kernel_rfl) (by kernel_rfl) (fun _ _ _ h => h) (by rfl) ?_ (by assumption) ?_
  rotate_left
  · (intro w' hSw; (try dsimp only at hSw); go_simp; try with_reducible rfl)
  try simp only [Act.put, List.setIfInBounds_toArray, List.set_cons_zero, List.set_cons_succ]
  refine tkYes (i := 4) (v := ?_) rfl rfl (by kernel_rfl) (by kernel_rfl) (by kernel_rfl) (fun _ _ _ h => h) (by rfl) ?_ (by assumption) ?_
  rotate_left
  · (intro w' hSw; (try dsimp only at hSw); go_simp; try with_reducible rfl)
  try simp only [Act.put, List.setIfInBounds_toArray, List.set_cons_zero, List.set_cons_succ]
  refine tkYes (i := 5) (v := .bool (a != b)) rfl rfl (by kernel_rfl) (by kernel_rfl) (by kernel_rfl) (fun _ _ _ h => h) (by rfl) ?_ (by assumption) ?_
  skip
  · (intro w' hSw; (try dsimp only at hSw); go_simp; try (simp; done))
  try simp only [Act.put, List.setIfInBounds_toArray, List.set_cons_zero, List.set_cons_succ]
  have HS0 := Blk.setMid [.int .i64 a, .int .i64 b, .int .i64 c] (World.drew w2) 0 _ (by simp) HZ.out
  simp only [List.take_zero, List.nil_append, List.length_cons, List.length_nil, List.drop_succ_cons, List.drop_zero, List.append_nil] at HS0
  refine wpAnyH_ready (rs := [6]) (by kernel_rfl) (by simp) ?_
  refine AllReadyH.cons rfl (fun K hK => ?_) AllReadyH.nil
  refine step_storeMid rfl 41 (.tmp 2) (.tmp 4) rfl g3 0 [.int .i64 a, .int .i64 b, .int .i64 c].toArray rfl rfl (fun j hj => by rw [Nat.zero_add, HZ.out.cell, HZ.out.frozen]; exact ⟨by rw [List.getElem?_eq_getElem (by simpa using hj)]; rfl, rfl⟩) infoEdge (by simp [Value.oneCell']) ?_
  have HST := Lib.hid HS0
  replace HX := Lib.hid (HX.out.kept HS0.2 (by have := HNE.out; simpa using this))
  clear HS0
  generalize hw8 : World.setCells (World.drew w2) g3 0 [.int .i64 a, .int .i64 b, .int .i64 c] = w8 at *
  refine hK.out _ _ ?_ (fun hHeld => ?_)
  · exact ⟨HX.out.cell2, HX.out.cell 0, HX.out.cell 1⟩
  clear hK K
  try simp only [Act.put, List.setIfInBounds_toArray, List.set_cons_zero, List.set_cons_succ]
  refine tkYes (i := 7) (v := ?_) rfl rfl (by kernel_rfl) (by kernel_rfl) (by kernel_rfl) (fun _ _ _ h => h) (by rfl) ?_ (by assumption) ?_
  rotate_left
  · (intro w' hSw; (try dsimp only at hSw); go_simp; try with_reducible rfl)
  try simp only [Act.put, List.setIfInBounds_toArray, List.set_cons_zero, List.set_cons_succ]
  refine wpAnyH_done (by kernel_rfl) ?_ _
  go_wp2_with fail
  obtain ⟨hb8, hk8⟩ := HST.out
  have e0 := hb8.cell 0
  have e1 := hb8.cell 1
  have e2 := hb8.cell 2
  simp only [List.getElem?_cons_zero, List.getElem?_cons_succ] at e0 e1 e2
  refine bodyPost_ret (v := .tuple #[.agg #[.int .i64 a, .int .i64 b, .int .i64 c], .bool z]) (by rw [HZZ.out]; simp [results, Try.results66, go_sem, e0, e1, e2, noLoop, neq_bool]) rfl ?_
  rw [HPOST.out]
  exact ⟨rfl, K0.out.then hk8 (fun m hm => by simp at hm; subst hm; exact .inr HG3.out)⟩
set_option maxRecDepth 100000 in
theorem chgP (e : Ed) (w : World) : Calls Try.prog 67 #[.agg #[.int .i64 e.1, .int .i64 e.2.1, .int .i64 e.2.2]] w fun x w' => x = .returned (.tuple #[.agg (edV (oneE e)).toArray, .bool (allE e)]) ∧ Kept [] w w' := by
  obtain ⟨a, b, c⟩ := e
  dsimp only
  go_enter Try.func67, Try.ntmps67
  go_wp2_with fail
  refine bodyPost_ret (v := .tuple #[.agg #[.int .i64 a, .int .i64 b, .int .i64 1], .bool true]) (by simp [results, Try.results67, go_sem]) rfl ?_
  exact ⟨rfl, ((Kept.refl _ _).alloc _).alloc _⟩
set_option maxRecDepth 100000 in
theorem chgL (e : Ed) (w : World) : Calls Try.prog 68 #[.agg #[.int .i64 e.1, .int .i64 e.2.1, .int .i64 e.2.2]] w fun x w' => x = .returned (.tuple #[.agg (edV (id e)).toArray, .bool (lowE e)]) ∧ Kept [] w w' := by
  obtain ⟨a, b, c⟩ := e
  dsimp only
  have HX := Lib.hid ((Blk.new w 41 [.int .i64 a, .int .i64 b, .int .i64 c]).alloc (.cells #[.int .i64 0, .int .i64 0, .int .i64 0] 41))
  have HZ := Lib.hid (Blk.new1F w (.cells #[.int .i64 a, .int .i64 b, .int .i64 c] 41) 41 [.int .i64 0, .int .i64 0, .int .i64 0])
  have K0 := Lib.hid (((Kept.refl [] w).alloc (.cells #[.int .i64 a, .int .i64 b, .int .i64 c] 41)).alloc (.cells #[.int .i64 0, .int .i64 0, .int .i64 0] 41))
  have HG3 := Lib.hid (show w.heap.size ≤ w.heap.size + 1 by omega)
  obtain ⟨z, hz⟩ : ∃ z, z = lowE (a, b, c) := ⟨_, rfl⟩
  rw [← hz]
  have HZZ := Lib.hid hz
  clear hz
  obtain ⟨post, hpost⟩ : ∃ post : Ending → World → Prop, post = fun x w' => x = .returned (.tuple #[.agg (edV (id (a, b, c))).toArray, .bool z]) ∧ Kept [] w w' := ⟨_, rfl⟩
  rw [← hpost]
  have HPOST := Lib.hid hpost
  clear hpost
  go_enter Try.func68, Try.ntmps68
  go_upto_region 1 with (fail)
  generalize ((w.alloc (.cells #[.int .i64 a, .int .i64 b, .int .i64 c] 41)).alloc (.cells #[.int .i64 0, .int .i64 0, .int .i64 0] 41)) = w2 at *
  have HNE := Lib.hid (show w.heap.size ≠ w.heap.size + 1 by omega)
  generalize w.heap.size + 1 = g3 at HZ HG3 HNE ⊢
  generalize hg1 : w.heap.size = g1 at HX HNE ⊢
  clear hg1
  refine wp_region_held_drew (S := (fun w' => w'.rangeAt g1 0 [.int .i64 a, .int .i64 b, .int .i64 c] ∧ w'.cell? ⟨g1, 0, none⟩ = some (.int .i64 a) ∧ w'.cell? ⟨g1, 1, none⟩ = some (.int .i64 b))) (by kernel_rfl) ?_ (fun hHeld => ?_)
  · exact ⟨HX.out.cell2, HX.out.cell 0, HX.out.cell 1⟩
  replace HX := Lib.hid HX.out.drew
  replace HZ := Lib.hid HZ.out.drew
  replace K0 := Lib.hid K0.out.drew
  refine tkLoad (i := 0) 41 (.tmp 1) g1 0 [.int .i64 a, .int .i64 b, .int .i64 c] _ rfl rfl (by kernel_rfl) (by kernel_rfl) (by kernel_rfl) (fun _ _ _ h => h) (by rfl) rfl rfl (fun w hw => hw.1) Try.underlying41 rfl infoEdge (by assumption) ?_
  try simp only [Act.put, List.setIfInBounds_toArray, List.set_cons_zero, List.set_cons_succ]
  refine tkYes (i := 1) (v := ?_) rfl rfl (by kernel_rfl) (by kernel_rfl) (by kernel_rfl) (fun _ _ _ h => h) (by rfl) ?_ (by assumption) ?_
  rotate_left
  · (intro w' hSw; (try dsimp only at hSw); go_simp; try with_reducible rfl)
  try simp only [Act.put, List.setIfInBounds_toArray, List.set_cons_zero, List.set_cons_succ]
  refine tkYes (i := 2) (v := ?_) rfl rfl (by kernel_rfl) (by kernel_rfl) (by kernel_rfl) (fun _ _ _ h => h) (by rfl) ?_ (by assumption) ?_
  rotate_left
  · (intro w' hSw; (try dsimp only at hSw); go_simp; try with_reducible rfl)
  try simp only [Act.put, List.setIfInBounds_toArray, List.set_cons_zero, List.set_cons_succ]
  refine tkYes (i := 3) (v := ?_) rfl rfl (by kernel_rfl) (by kernel_rfl) (by kernel_rfl) (fun _ _ _ h => h) (by rfl) ?_ (by assumption) ?_
  rotate_left
  · (intro w' hSw; (try dsimp only at hSw); go_simp; try with_reducible rfl)
  try simp only [Act.put, List.setIfInBounds_toArray, List.set_cons_zero, List.set_cons_succ]
  refine tkYes (i := 4) (v := ?_) rfl rfl (by kernel_rfl) (by kernel_rfl) (by kernel_rfl) (fun _ _ _ h => h) (by rfl) ?_ (by assumption) ?_
  rotate_left
  · (intro w' hSw; (try dsimp only at hSw); go_simp; try with_reducible rfl)
  try simp only [Act.put, List.setIfInBounds_toArray, List.set_cons_zero, List.set_cons_succ]
  refine tkYes (i := 5) (v := .bool (decide (b < a))) rfl rfl (by kernel_rfl) (by kernel_rfl) (by kernel_rfl) (fun _ _ _ h => h) (by rfl) ?_ (by assumption) ?_
  skip
  · (intro w' hSw; (try dsimp only at hSw); go_simp; try (simp; done))
  try simp only [Act.put, List.setIfInBounds_toArray, List.set_cons_zero, List.set_cons_succ]
  have HS0 := Blk.setMid [.int .i64 a, .int .i64 b, .int .i64 c] (World.drew w2) 0 _ (by simp) HZ.out
  simp only [List.take_zero, List.nil_append, List.length_cons, List.length_nil, List.drop_succ_cons, List.drop_zero, List.append_nil] at HS0
  refine wpAnyH_ready (rs := [6]) (by kernel_rfl) (by simp) ?_
  refine AllReadyH.cons rfl (fun K hK => ?_) AllReadyH.nil
  refine step_storeMid rfl 41 (.tmp 2) (.tmp 4) rfl g3 0 [.int .i64 a, .int .i64 b, .int .i64 c].toArray rfl rfl (fun j hj => by rw [Nat.zero_add, HZ.out.cell, HZ.out.frozen]; exact ⟨by rw [List.getElem?_eq_getElem (by simpa using hj)]; rfl, rfl⟩) infoEdge (by simp [Value.oneCell']) ?_
  have HST := Lib.hid HS0
  replace HX := Lib.hid (HX.out.kept HS0.2 (by have := HNE.out; simpa using this))
  clear HS0
  generalize hw8 : World.setCells (World.drew w2) g3 0 [.int .i64 a, .int .i64 b, .int .i64 c] = w8 at *
  refine hK.out _ _ ?_ (fun hHeld => ?_)
  · exact ⟨HX.out.cell2, HX.out.cell 0, HX.out.cell 1⟩
  clear hK K
  try simp only [Act.put, List.setIfInBounds_toArray, List.set_cons_zero, List.set_cons_succ]
  refine tkYes (i := 7) (v := ?_) rfl rfl (by kernel_rfl) (by kernel_rfl) (by kernel_rfl) (fun _ _ _ h => h) (by rfl) ?_ (by assumption) ?_
  rotate_left
  · (intro w' hSw; (try dsimp only at hSw); go_simp; try with_reducible rfl)
  try simp only [Act.put, List.setIfInBounds_toArray, List.set_cons_zero, List.set_cons_succ]
  refine wpAnyH_done (by kernel_rfl) ?_ _
  go_wp2_with fail
  obtain ⟨hb8, hk8⟩ := HST.out
  have e0 := hb8.cell 0
  have e1 := hb8.cell 1
  have e2 := hb8.cell 2
  simp only [List.getElem?_cons_zero, List.getElem?_cons_succ] at e0 e1 e2
  refine bodyPost_ret (v := .tuple #[.agg #[.int .i64 a, .int .i64 b, .int .i64 c], .bool z]) (by rw [HZZ.out]; simp [results, Try.results68, go_sem, e0, e1, e2, lowE, neq_bool]) rfl ?_
  rw [HPOST.out]
  exact ⟨rfl, K0.out.then hk8 (fun m hm => by simp at hm; subst hm; exact .inr HG3.out)⟩
end Go.Proofs.Ytfnhfmffkjljnaa
