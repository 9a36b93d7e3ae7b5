/- Comparisons; wide numbers; rings: the small functions' walks. -/
import Derived.Test.YtibjpjpbmkdddaaE1
import Derived.StillTailTactics
namespace Go.Proofs.Ytibjpjpbmkdddaa
set_option linter.unusedSimpArgs false
set_option linter.unusedVariables false
open Go.ChangeShapes Go.WideShapes Go.ChangeAt Go.RowKit
open Go.RowKit (wrap32 wrap64)
set_option maxHeartbeats 4000000

/-- Which one is less. -/
def cmpI (a b : Int) : Int := if a < b then -1 else if b < a then 1 else 0

theorem isNaN_int (a : Int) (w : World) : Calls Try.prog 119 #[.int .i64 a] w fun e w' => e = .returned (.bool false) ∧ w' = w := by
  go_enter Try.func119, Try.ntmps119
  go_wp2
  go_ret
  exact ⟨ret_bool (by simp), rfl⟩
theorem compare_int (a b : Int) (w : World) : Calls Try.prog 87 #[.int .i64 a, .int .i64 b] w fun e w' => e = .returned (.int .i64 (cmpI a b)) ∧ w' = w := by
  by_cases h1 : a < b
  · rw [show cmpI a b = -1 from if_pos h1]
    go_enter Try.func87, Try.ntmps87
    go_wp2_with fail
    refine (isNaN_int a _).mono ?_
    rintro _ w1 ⟨rfl, rfl⟩
    go_wp2_with fail
    refine (isNaN_int b _).mono ?_
    rintro _ w2 ⟨rfl, rfl⟩
    go_wp2_with fail
    go_ret
    exact ⟨rfl, rfl⟩
  by_cases h2 : b < a
  · rw [show cmpI a b = 1 by unfold cmpI; rw [if_neg h1, if_pos h2]]
    go_enter Try.func87, Try.ntmps87
    go_wp2_with fail
    refine (isNaN_int a _).mono ?_
    rintro _ w1 ⟨rfl, rfl⟩
    go_wp2_with fail
    refine (isNaN_int b _).mono ?_
    rintro _ w2 ⟨rfl, rfl⟩
    go_wp2_with fail
    go_ret
    exact ⟨rfl, rfl⟩
  · rw [show cmpI a b = 0 by unfold cmpI; rw [if_neg h1, if_neg h2]]
    go_enter Try.func87, Try.ntmps87
    go_wp2_with fail
    refine (isNaN_int a _).mono ?_
    rintro _ w1 ⟨rfl, rfl⟩
    go_wp2_with fail
    refine (isNaN_int b _).mono ?_
    rintro _ w2 ⟨rfl, rfl⟩
    go_wp2_with fail
    go_ret
    exact ⟨rfl, rfl⟩

theorem isNaN_int64 (a : Int) (w : World) : Calls Try.prog 145 #[.int .i64 a] w fun e w' => e = .returned (.bool false) ∧ w' = w := by
  go_enter Try.func145, Try.ntmps145
  go_wp2
  go_ret
  exact ⟨ret_bool (by simp), rfl⟩
theorem compare_int64 (a b : Int) (w : World) : Calls Try.prog 118 #[.int .i64 a, .int .i64 b] w fun e w' => e = .returned (.int .i64 (cmpI a b)) ∧ w' = w := by
  by_cases h1 : a < b
  · rw [show cmpI a b = -1 from if_pos h1]
    go_enter Try.func118, Try.ntmps118
    go_wp2_with fail
    refine (isNaN_int64 a _).mono ?_
    rintro _ w1 ⟨rfl, rfl⟩
    go_wp2_with fail
    refine (isNaN_int64 b _).mono ?_
    rintro _ w2 ⟨rfl, rfl⟩
    go_wp2_with fail
    go_ret
    exact ⟨rfl, rfl⟩
  by_cases h2 : b < a
  · rw [show cmpI a b = 1 by unfold cmpI; rw [if_neg h1, if_pos h2]]
    go_enter Try.func118, Try.ntmps118
    go_wp2_with fail
    refine (isNaN_int64 a _).mono ?_
    rintro _ w1 ⟨rfl, rfl⟩
    go_wp2_with fail
    refine (isNaN_int64 b _).mono ?_
    rintro _ w2 ⟨rfl, rfl⟩
    go_wp2_with fail
    go_ret
    exact ⟨rfl, rfl⟩
  · rw [show cmpI a b = 0 by unfold cmpI; rw [if_neg h1, if_neg h2]]
    go_enter Try.func118, Try.ntmps118
    go_wp2_with fail
    refine (isNaN_int64 a _).mono ?_
    rintro _ w1 ⟨rfl, rfl⟩
    go_wp2_with fail
    refine (isNaN_int64 b _).mono ?_
    rintro _ w2 ⟨rfl, rfl⟩
    go_wp2_with fail
    go_ret
    exact ⟨rfl, rfl⟩

theorem isNaN_uint64 (a : Int) (w : World) : Calls Try.prog 157 #[.int .u64 a] w fun e w' => e = .returned (.bool false) ∧ w' = w := by
  go_enter Try.func157, Try.ntmps157
  go_wp2
  go_ret
  exact ⟨ret_bool (by simp), rfl⟩
theorem compare_uint64 (a b : Int) (w : World) : Calls Try.prog 152 #[.int .u64 a, .int .u64 b] w fun e w' => e = .returned (.int .i64 (cmpI a b)) ∧ w' = w := by
  by_cases h1 : a < b
  · rw [show cmpI a b = -1 from if_pos h1]
    go_enter Try.func152, Try.ntmps152
    go_wp2_with fail
    refine (isNaN_uint64 a _).mono ?_
    rintro _ w1 ⟨rfl, rfl⟩
    go_wp2_with fail
    refine (isNaN_uint64 b _).mono ?_
    rintro _ w2 ⟨rfl, rfl⟩
    go_wp2_with fail
    go_ret
    exact ⟨rfl, rfl⟩
  by_cases h2 : b < a
  · rw [show cmpI a b = 1 by unfold cmpI; rw [if_neg h1, if_pos h2]]
    go_enter Try.func152, Try.ntmps152
    go_wp2_with fail
    refine (isNaN_uint64 a _).mono ?_
    rintro _ w1 ⟨rfl, rfl⟩
    go_wp2_with fail
    refine (isNaN_uint64 b _).mono ?_
    rintro _ w2 ⟨rfl, rfl⟩
    go_wp2_with fail
    go_ret
    exact ⟨rfl, rfl⟩
  · rw [show cmpI a b = 0 by unfold cmpI; rw [if_neg h1, if_neg h2]]
    go_enter Try.func152, Try.ntmps152
    go_wp2_with fail
    refine (isNaN_uint64 a _).mono ?_
    rintro _ w1 ⟨rfl, rfl⟩
    go_wp2_with fail
    refine (isNaN_uint64 b _).mono ?_
    rintro _ w2 ⟨rfl, rfl⟩
    go_wp2_with fail
    go_ret
    exact ⟨rfl, rfl⟩

/-- The first one that is not 0. -/
def orI (x y : Int) : Int := if x = 0 then y else x
theorem or2_any (x y : Int) (g c : Nat) (w : World) (hb : Blk w g 3 [.int .i64 x, .int .i64 y]) :
    Calls Try.prog 86 #[.slice (some ⟨g, 0, none⟩) 2 c] w fun e w' => e = .returned (.int .i64 (orI x y)) ∧ w' = w := by
  have y0 := hb.cell 0
  have y1 := hb.cell 1
  simp only [List.getElem?_cons_zero, List.getElem?_cons_succ] at y0 y1
  clear hb
  by_cases hx : x = 0
  · by_cases hy : y = 0
    · subst hx hy
      rw [show orI 0 0 = 0 from rfl]
      go_enter Try.func86, Try.ntmps86
      go_wp2_with fail
      refine wp_loop_rounds 3 ?_
      rw [rounds_succ]
      go_wp2
      rw [rounds_succ]
      go_wp2
      rw [rounds_succ]
      go_wp2
      go_ret
      exact ⟨rfl, rfl⟩
    · subst hx
      rw [show orI 0 y = y from rfl]
      go_enter Try.func86, Try.ntmps86
      go_wp2_with fail
      refine wp_loop_rounds 3 ?_
      rw [rounds_succ]
      go_wp2
      rw [rounds_succ]
      go_wp2
      go_ret
      exact ⟨rfl, rfl⟩
  · rw [show orI x y = x from if_neg hx]
    go_enter Try.func86, Try.ntmps86
    go_wp2_with fail
    refine wp_loop_rounds 3 ?_
    rw [rounds_succ]
    go_wp2
    go_ret
    exact ⟨rfl, rfl⟩
end Go.Proofs.Ytibjpjpbmkdddaa
