/- Canonical graphs; graphs made of others. -/
import Derived.Test.YtblfingmdipopaaGreatK14
import Derived.Test.YtblfingmdipopaaGreatK15
namespace Go.Proofs.YtblfingmdipopaaGreat
set_option linter.unusedSimpArgs false
set_option linter.unusedVariables false
open Go.ChangeShapes Go.WideShapes Go.ChangeAt Go.RowKit
open Go.RowKit (wrap32 wrap64)
set_option maxHeartbeats 8000000

theorem infoGraph : (Tryz.prog.info? 56).map (·.size) = some 2 := by kernel_rfl
/-- The canonical edges. -/
def canonP (l : List Ed) : List Ed := (combP 1 l).2
/-- A graph that a call hands back: its edges are the call's own. -/
def GrPost (w : World) (n : Int) (m : List Ed) (e : Ending) (w' : World) : Prop := ∃ v, e = .returned (.agg #[.int .i64 n, v]) ∧ w'.ownsRow w.heap.size 107 3 v m.length (m.flatMap edV) ∧ Kept [] w w'
set_option maxRecDepth 100000 in
theorem canon_any (n : Int) (l : List Ed) (A : Option Addr) (c : Nat) (w : World) (hl : l.length ≤ 1048576) (hA : Reads w A (l.flatMap edV)) (hw : ∀ e ∈ l, In64 e.2.2) :
    Calls Tryz.prog 150 #[.agg #[.int .i64 n, .slice A l.length c]] w (GrPost w n (canonP l)) := by
  have HA := Lib.hid hA
  have HW := Lib.hid hw
  have HL := Lib.hid hl
  have HB := Lib.hid ((Blk.new w 56 (grV n A l.length c)).alloc (.cells #[.int .i64 0, .slice none 0 0] 56))
  have HZ := Lib.hid (Blk.new1F w (.cells #[.int .i64 n, .slice A l.length c] 56) 56 [.int .i64 0, .slice none 0 0])
  have K0 := Lib.hid (((Kept.refl [] w).alloc (.cells #[.int .i64 n, .slice A l.length c] 56)).alloc (.cells #[.int .i64 0, .slice none 0 0] 56))
  clear hA hw hl
  unfold GrPost
  go_enter Tryz.func150, Tryz.ntmps150
  go_wp2_with fail
  refine (combine_ok 1 l A c _ (by decide) HL.out (HA.out.kept0 K0.out) HW.out).mono ?_
  rintro _ w3 ⟨v, rfl, ho, hk⟩
  obtain ⟨A3, c3, rfl⟩ := own_n ho
  have HO := Lib.hid (own_le (base' := w.heap.size) ho K0.out.size)
  replace HB := Lib.hid (HB.out.kept hk (by simp))
  replace HZ := Lib.hid (HZ.out.kept hk (by simp))
  have K := Lib.hid (K0.out.trans hk)
  clear ho hk K0
  have y0 := HB.out.cell 0
  simp only [List.getElem?_cons_zero] at y0
  go_wp2_with (first | (refine wpList_storeBlk rfl 56 (.tmp 2) (.tmp 14) rfl (w.heap.size + 1) _ [.int .i64 n, .slice A3 (combP 1 l).2.length c3] HZ.out rfl rfl rfl infoGraph (by simp [Value.oneCell']) ?_; intro w8 hb8 hk8))
  have e0 := hb8.cell 0
  have e1 := hb8.cell 1
  simp only [List.getElem?_cons_zero, List.getElem?_cons_succ] at e0 e1
  refine bodyPost_ret (v := .agg #[.int .i64 n, .slice A3 (combP 1 l).2.length c3]) (by simp [results, Tryz.results150, go_sem, e0, e1]) rfl ?_
  refine ⟨_, rfl, ?_, K.out.then hk8 (fun m hm => by simp at hm; subst hm; exact .inr (by omega))⟩
  have f8 : KeptB w.heap.size [56] w3 w8 := (KeptB.refl _ _ w3).step (L := [w.heap.size + 1]) hk8 (fun m hm => by simp at hm; subst hm; exact ⟨by omega, _, _, _, HZ.out, by simp⟩)
  exact own_keptB HO.out f8 (by decide)
set_option maxRecDepth 100000 in
theorem refCanon_any (n : Int) (l : List Ed) (A : Option Addr) (c : Nat) (w : World) (hl : l.length ≤ 1048576) (hA : Reads w A (l.flatMap edV)) (hw : ∀ e ∈ l, In64 e.2.2) :
    Calls Tryz.prog 39 #[.agg #[.int .i64 n, .slice A l.length c]] w (GrPost w n (canonP l)) := by
  have HA := Lib.hid hA
  have HW := Lib.hid hw
  have HL := Lib.hid hl
  have HB := Lib.hid ((Blk.new w 56 (grV n A l.length c)).alloc (.cells #[.int .i64 0, .slice none 0 0] 56))
  have HZ := Lib.hid (Blk.new1F w (.cells #[.int .i64 n, .slice A l.length c] 56) 56 [.int .i64 0, .slice none 0 0])
  have K0 := Lib.hid (((Kept.refl [] w).alloc (.cells #[.int .i64 n, .slice A l.length c] 56)).alloc (.cells #[.int .i64 0, .slice none 0 0] 56))
  clear hA hw hl
  unfold GrPost
  go_enter Tryz.func39, Tryz.ntmps39
  go_wp2_with fail
  refine (refCombine_ok 1 l A c _ (by decide) HL.out (HA.out.kept0 K0.out) HW.out).mono ?_
  rintro _ w3 ⟨v, rfl, ho, hk⟩
  obtain ⟨A3, c3, rfl⟩ := own_n ho
  have HO := Lib.hid (own_le (base' := w.heap.size) ho K0.out.size)
  replace HB := Lib.hid (HB.out.kept hk (by simp))
  replace HZ := Lib.hid (HZ.out.kept hk (by simp))
  have K := Lib.hid (K0.out.trans hk)
  clear ho hk K0
  have y0 := HB.out.cell 0
  simp only [List.getElem?_cons_zero] at y0
  go_wp2_with (first | (refine wpList_storeBlk rfl 56 (.tmp 2) (.tmp 14) rfl (w.heap.size + 1) _ [.int .i64 n, .slice A3 (combP 1 l).2.length c3] HZ.out rfl rfl rfl infoGraph (by simp [Value.oneCell']) ?_; intro w8 hb8 hk8))
  have e0 := hb8.cell 0
  have e1 := hb8.cell 1
  simp only [List.getElem?_cons_zero, List.getElem?_cons_succ] at e0 e1
  refine bodyPost_ret (v := .agg #[.int .i64 n, .slice A3 (combP 1 l).2.length c3]) (by simp [results, Tryz.results39, go_sem, e0, e1]) rfl ?_
  refine ⟨_, rfl, ?_, K.out.then hk8 (fun m hm => by simp at hm; subst hm; exact .inr (by omega))⟩
  have f8 : KeptB w.heap.size [56] w3 w8 := (KeptB.refl _ _ w3).step (L := [w.heap.size + 1]) hk8 (fun m hm => by simp at hm; subst hm; exact ⟨by omega, _, _, _, HZ.out, by simp⟩)
  exact own_keptB HO.out f8 (by decide)
end Go.Proofs.YtblfingmdipopaaGreat

/- Graphs made of others: edges turned, without loops, of weight one, to lesser vertices. -/
namespace Go.Proofs.YtblfingmdipopaaGreat
set_option linter.unusedSimpArgs false
set_option linter.unusedVariables false
open Go.ChangeShapes Go.WideShapes Go.ChangeAt Go.RowKit
open Go.RowKit (wrap32 wrap64)
set_option maxHeartbeats 8000000

/-- The edges that are let through, changed. -/
def madeP (f : Ed → Ed) (p : Ed → Bool) (l : List Ed) : List Ed := (l.filter p).map f
theorem madeP_succ (f : Ed → Ed) (p : Ed → Bool) (l : List Ed) {k : Nat} (h : k < l.length) : madeP f p (l.take (k + 1)) = madeP f p (l.take k) ++ (if p l[k] = true then [f l[k]] else []) := by
  unfold madeP
  rw [List.take_succ_eq_append_getElem h, List.filter_append, List.map_append]
  congr 1
  by_cases hp : p l[k] = true
  · simp [hp]
  · simp [hp]
theorem madeP_length (f : Ed → Ed) (p : Ed → Bool) (l : List Ed) : (madeP f p l).length ≤ l.length := by
  unfold madeP
  rw [List.length_map]
  exact List.length_filter_le _ _
theorem madeP_in {f : Ed → Ed} {p : Ed → Bool} {l : List Ed} (hf : ∀ e, In64 e.2.2 → In64 (f e).2.2) (h : ∀ e ∈ l, In64 e.2.2) : ∀ e ∈ madeP f p l, In64 e.2.2 := by
  intro e he
  obtain ⟨x, hx, rfl⟩ := List.mem_map.1 he
  exact hf x (h x (List.mem_filter.1 hx).1)
theorem neq_bool (a b : Int) : (a != b) = !decide (a = b) := by
  by_cases h : a = b
  · simp [h]
  · simp [h]
def turnE (e : Ed) : Ed := (e.2.1, e.1, e.2.2)
def oneE (e : Ed) : Ed := (e.1, e.2.1, 1)
def allE (_ : Ed) : Bool := true
def noLoop (e : Ed) : Bool := !decide (e.1 = e.2.1)
def lowE (e : Ed) : Bool := decide (e.2.1 < e.1)
set_option maxRecDepth 100000 in
theorem chgT (e : Ed) (w : World) : Calls Tryz.prog 178 #[.agg #[.int .i64 e.1, .int .i64 e.2.1, .int .i64 e.2.2]] w fun x w' => x = .returned (.tuple #[.agg (edV (turnE e)).toArray, .bool (allE e)]) ∧ Kept [] w w' := by
  obtain ⟨a, b, c⟩ := e
  dsimp only
  go_enter Tryz.func178, Tryz.ntmps178
  go_wp2_with fail
  refine bodyPost_ret (v := .tuple #[.agg #[.int .i64 b, .int .i64 a, .int .i64 c], .bool true]) (by simp [results, Tryz.results178, go_sem]) rfl ?_
  exact ⟨rfl, ((Kept.refl _ _).alloc _).alloc _⟩
set_option maxRecDepth 100000 in
theorem chgS (e : Ed) (w : World) : Calls Tryz.prog 149 #[.agg #[.int .i64 e.1, .int .i64 e.2.1, .int .i64 e.2.2]] w fun x w' => x = .returned (.tuple #[.agg (edV (id e)).toArray, .bool (noLoop e)]) ∧ Kept [] w w' := by
  obtain ⟨a, b, c⟩ := e
  dsimp only
  have HX := Lib.hid ((Blk.new w 107 [.int .i64 a, .int .i64 b, .int .i64 c]).alloc (.cells #[.int .i64 0, .int .i64 0, .int .i64 0] 107))
  have HZ := Lib.hid (Blk.new1F w (.cells #[.int .i64 a, .int .i64 b, .int .i64 c] 107) 107 [.int .i64 0, .int .i64 0, .int .i64 0])
  have K0 := Lib.hid (((Kept.refl [] w).alloc (.cells #[.int .i64 a, .int .i64 b, .int .i64 c] 107)).alloc (.cells #[.int .i64 0, .int .i64 0, .int .i64 0] 107))
  have HG3 := Lib.hid (show w.heap.size ≤ w.heap.size + 1 by omega)
  obtain ⟨z, hz⟩ : ∃ z, z = noLoop (a, b, c) := ⟨_, rfl⟩
  rw [← hz]
  have HZZ := Lib.hid hz
  clear hz
  obtain ⟨post, hpost⟩ : ∃ post : Ending → World → Prop, post = fun x w' => x = .returned (.tuple #[.agg (edV (id (a, b, c))).toArray, .bool z]) ∧ Kept [] w w' := ⟨_, rfl⟩
  rw [← hpost]
  have HPOST := Lib.hid hpost
  clear hpost
  go_enter Tryz.func149, Tryz.ntmps149
  go_upto_region 1 with (fail)
  generalize ((w.alloc (.cells #[.int .i64 a, .int .i64 b, .int .i64 c] 107)).alloc (.cells #[.int .i64 0, .int .i64 0, .int .i64 0] 107)) = w2 at *
  have HNE := Lib.hid (show w.heap.size ≠ w.heap.size + 1 by omega)
  generalize w.heap.size + 1 = g3 at HZ HG3 HNE ⊢
  generalize hg1 : w.heap.size = g1 at HX HNE ⊢
  clear hg1
  refine wp_region_held_drew (S := (fun w' => w'.rangeAt g1 0 [.int .i64 a, .int .i64 b, .int .i64 c] ∧ w'.cell? ⟨g1, 0, none⟩ = some (.int .i64 a) ∧ w'.cell? ⟨g1, 1, none⟩ = some (.int .i64 b))) (by kernel_rfl) ?_ (fun hHeld => ?_)
  · exact ⟨HX.out.cell2, HX.out.cell 0, HX.out.cell 1⟩
  replace HX := Lib.hid HX.out.drew
  replace HZ := Lib.hid HZ.out.drew
  replace K0 := Lib.hid K0.out.drew
  refine tkLoad (i := 0) 107 (.tmp 1) g1 0 [.int .i64 a, .int .i64 b, .int .i64 c] _ rfl rfl (by kernel_rfl) (by kernel_rfl) (by kernel_rfl) (fun _ _ _ h => h) (by rfl) rfl rfl (fun w hw => hw.1) Tryz.underlying107 rfl infoEdge (by assumption) ?_
  try simp only [Act.put, List.setIfInBounds_toArray, List.set_cons_zero, List.set_cons_succ]
  refine tkYes (i := 1) (v := ?_) rfl rfl (by kernel_rfl) (by kernel_rfl) (by kernel_rfl) (fun _ _ _ h => h) (by rfl) ?_ (by assumption) ?_
  rotate_left
  · (intro w' hSw; (try dsimp only at hSw); go_simp; try with_reducible rfl)
  try simp only [Act.put, List.setIfInBounds_toArray, List.set_cons_zero, List.set_cons_succ]
  refine tkYes (i := 2) (v := ?_) rfl rfl (by kernel_rfl) (by kernel_rfl) (by kernel_rfl) (fun _ _ _ h => h) (by rfl) ?_ (by assumption) ?_
  rotate_left
  · (intro w' hSw; (try dsimp only at hSw); go_simp; try with_reducible rfl)
  try simp only [Act.put, List.setIfInBounds_toArray, List.set_cons_zero, List.set_cons_succ]
  refine tkYes (i := 3) (v := ?_) rfl rfl (by kernel_rfl) (by kernel_rfl) (by kernel_rfl) (fun _ _ _ h => h) (by rfl) ?_ (by assumption) ?_
  rotate_left
  · (intro w' hSw; (try dsimp only at hSw); go_simp; try with_reducible rfl)
  try simp only [Act.put, List.setIfInBounds_toArray, List.set_cons_zero, List.set_cons_succ]
  refine tkYes (i := 4) (v := ?_) rfl rfl (by kernel_rfl) (by kernel_rfl) (by kernel_rfl) (fun _ _ _ h => h) (by rfl) ?_ (by assumption) ?_
  rotate_left
  · (intro w' hSw; (try dsimp only at hSw); go_simp; try with_reducible rfl)
  try simp only [Act.put, List.setIfInBounds_toArray, List.set_cons_zero, List.set_cons_succ]
  refine tkYes (i := 5) (v := .bool (a != b)) rfl rfl (by kernel_rfl) (by kernel_rfl) (by kernel_rfl) (fun _ _ _ h => h) (by rfl) ?_ (by assumption) ?_
  skip
  · (intro w' hSw; (try dsimp only at hSw); go_simp; try (simp; done))
  try simp only [Act.put, List.setIfInBounds_toArray, List.set_cons_zero, List.set_cons_succ]
  have HS0 := Blk.setMid [.int .i64 a, .int .i64 b, .int .i64 c] (World.drew w2) 0 _ (by simp) HZ.out
  simp only [List.take_zero, List.nil_append, List.length_cons, List.length_nil, List.drop_succ_cons, List.drop_zero, List.append_nil] at HS0
  refine wpAnyH_ready (rs := [6]) (by kernel_rfl) (by simp) ?_
  refine AllReadyH.cons rfl (fun K hK => ?_) AllReadyH.nil
  refine step_storeMid rfl 107 (.tmp 2) (.tmp 4) rfl g3 0 [.int .i64 a, .int .i64 b, .int .i64 c].toArray rfl rfl (fun j hj => by rw [Nat.zero_add, HZ.out.cell, HZ.out.frozen]; exact ⟨by rw [List.getElem?_eq_getElem (by simpa using hj)]; rfl, rfl⟩) infoEdge (by simp [Value.oneCell']) ?_
  have HST := Lib.hid HS0
  replace HX := Lib.hid (HX.out.kept HS0.2 (by have := HNE.out; simpa using this))
  clear HS0
  generalize hw8 : World.setCells (World.drew w2) g3 0 [.int .i64 a, .int .i64 b, .int .i64 c] = w8 at *
  refine hK.out _ _ ?_ (fun hHeld => ?_)
  · exact ⟨HX.out.cell2, HX.out.cell 0, HX.out.cell 1⟩
  clear hK K
  try simp only [Act.put, List.setIfInBounds_toArray, List.set_cons_zero, List.set_cons_succ]
  refine tkYes (i := 7) (v := ?_) rfl rfl (by kernel_rfl) (by kernel_rfl) (by kernel_rfl) (fun _ _ _ h => h) (by rfl) ?_ (by assumption) ?_
  rotate_left
  · (intro w' hSw; (try dsimp only at hSw); go_simp; try with_reducible rfl)
  try simp only [Act.put, List.setIfInBounds_toArray, List.set_cons_zero, List.set_cons_succ]
  refine wpAnyH_done (by kernel_rfl) ?_ _
  go_wp2_with fail
  obtain ⟨hb8, hk8⟩ := HST.out
  have e0 := hb8.cell 0
  have e1 := hb8.cell 1
  have e2 := hb8.cell 2
  simp only [List.getElem?_cons_zero, List.getElem?_cons_succ] at e0 e1 e2
  refine bodyPost_ret (v := .tuple #[.agg #[.int .i64 a, .int .i64 b, .int .i64 c], .bool z]) (by rw [HZZ.out]; simp [results, Tryz.results149, go_sem, e0, e1, e2, noLoop, neq_bool]) rfl ?_
  rw [HPOST.out]
  exact ⟨rfl, K0.out.then hk8 (fun m hm => by simp at hm; subst hm; exact .inr HG3.out)⟩
set_option maxRecDepth 100000 in
theorem chgP (e : Ed) (w : World) : Calls Tryz.prog 153 #[.agg #[.int .i64 e.1, .int .i64 e.2.1, .int .i64 e.2.2]] w fun x w' => x = .returned (.tuple #[.agg (edV (oneE e)).toArray, .bool (allE e)]) ∧ Kept [] w w' := by
  obtain ⟨a, b, c⟩ := e
  dsimp only
  go_enter Tryz.func153, Tryz.ntmps153
  go_wp2_with fail
  refine bodyPost_ret (v := .tuple #[.agg #[.int .i64 a, .int .i64 b, .int .i64 1], .bool true]) (by simp [results, Tryz.results153, go_sem]) rfl ?_
  exact ⟨rfl, ((Kept.refl _ _).alloc _).alloc _⟩
end Go.Proofs.YtblfingmdipopaaGreat
