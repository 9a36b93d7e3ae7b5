/- Graphs made of others: edges turned, without loops, of weight one, to lesser vertices. -/
import Derived.Test.YtibjpjpbmkdddaaE21
namespace Go.Proofs.Ytibjpjpbmkdddaa
set_option linter.unusedSimpArgs false
set_option linter.unusedVariables false
open Go.ChangeShapes Go.WideShapes Go.ChangeAt Go.RowKit
open Go.RowKit (wrap32 wrap64)
set_option maxHeartbeats 8000000

/-- The edges that are let through, changed. -/
def madeP (f : Ed → Ed) (p : Ed → Bool) (l : List Ed) : List Ed := (l.filter p).map f
theorem madeP_succ (f : Ed → Ed) (p : Ed → Bool) (l : List Ed) {k : Nat} (h : k < l.length) : madeP f p (l.take (k + 1)) = madeP f p (l.take k) ++ (if p l[k] = true then [f l[k]] else []) := by
  unfold madeP
  rw [List.take_succ_eq_append_getElem h, List.filter_append, List.map_append]
  congr 1
  by_cases hp : p l[k] = true
  · simp [hp]
  · simp [hp]
theorem madeP_length (f : Ed → Ed) (p : Ed → Bool) (l : List Ed) : (madeP f p l).length ≤ l.length := by
  unfold madeP
  rw [List.length_map]
  exact List.length_filter_le _ _
theorem madeP_in {f : Ed → Ed} {p : Ed → Bool} {l : List Ed} (hf : ∀ e, In64 e.2.2 → In64 (f e).2.2) (h : ∀ e ∈ l, In64 e.2.2) : ∀ e ∈ madeP f p l, In64 e.2.2 := by
  intro e he
  obtain ⟨x, hx, rfl⟩ := List.mem_map.1 he
  exact hf x (h x (List.mem_filter.1 hx).1)
theorem neq_bool (a b : Int) : (a != b) = !decide (a = b) := by
  by_cases h : a = b
  · simp [h]
  · simp [h]
def turnE (e : Ed) : Ed := (e.2.1, e.1, e.2.2)
def oneE (e : Ed) : Ed := (e.1, e.2.1, 1)
def allE (_ : Ed) : Bool := true
def noLoop (e : Ed) : Bool := !decide (e.1 = e.2.1)
def lowE (e : Ed) : Bool := decide (e.2.1 < e.1)
set_option maxRecDepth 100000 in
theorem chgT (e : Ed) (w : World) : Calls Try.prog 50 #[.agg #[.int .i64 e.1, .int .i64 e.2.1, .int .i64 e.2.2]] w fun x w' => x = .returned (.tuple #[.agg (edV (turnE e)).toArray, .bool (allE e)]) ∧ Kept [] w w' := by
  obtain ⟨a, b, c⟩ := e
  dsimp only
  go_enter Try.func50, Try.ntmps50
  go_wp2_with fail
  refine bodyPost_ret (v := .tuple #[.agg #[.int .i64 b, .int .i64 a, .int .i64 c], .bool true]) (by simp [results, Try.results50, go_sem]) rfl ?_
  exact ⟨rfl, ((Kept.refl _ _).alloc _).alloc _⟩
end Go.Proofs.Ytibjpjpbmkdddaa
