/- Wide numbers; rings: the program's and the reference's. -/
import Derived.Test.YtibjpjpbmkdddaaE4
namespace Go.Proofs.Ytibjpjpbmkdddaa
set_option linter.unusedSimpArgs false
set_option linter.unusedVariables false
open Go.ChangeShapes Go.WideShapes Go.ChangeAt Go.RowKit
open Go.RowKit (wrap32 wrap64)
set_option maxHeartbeats 4000000

/-- A number as a wide one. -/
def wOf (n : Int) : Wd := (if n < 0 then -1 else 0, (n % 18446744073709551616).toNat)
def WdOk (u : Wd) : Prop := In64 u.1 ∧ u.2 < 18446744073709551616
theorem u64_wrap (n : Int) : IntKind.u64.wrap n = n % 18446744073709551616 := by simp [IntKind.wrap, IntKind.signed, IntKind.bits]
theorem i64_wrap (n : Int) : IntKind.i64.wrap n = (n + 9223372036854775808) % 18446744073709551616 - 9223372036854775808 := by simp [IntKind.wrap, IntKind.signed, IntKind.bits]; omega
theorem wOf_ok (n : Int) : WdOk (wOf n) := by
  unfold WdOk wOf In64
  dsimp only
  refine ⟨?_, by omega⟩
  split <;> omega
theorem wOf_val {n : Int} (hn : In64 n) : wdV (wOf n) = .agg #[.int .i64 (n / 9223372036854775808), .int .u64 (IntKind.u64.wrap n)] := by
  unfold In64 at hn
  rw [u64_wrap]
  have h1 : (if n < 0 then (-1 : Int) else 0) = n / 9223372036854775808 := by split <;> omega
  have h2 : (((n % 18446744073709551616).toNat : Nat) : Int) = n % 18446744073709551616 := by omega
  simp only [wdV, wOf, h1, h2]
theorem of_any (n : Int) (hn : In64 n) (w : World) : Calls Try.prog 79 #[.int .i64 n] w fun e w' => e = .returned (wdV (wOf n)) ∧ Kept [] w w' := by
  rw [wOf_val hn]
  clear hn
  go_enter Try.func79, Try.ntmps79
  go_wp2_with fail
  refine bodyPost_ret (v := .agg #[.int .i64 (n / 9223372036854775808), .int .u64 (IntKind.u64.wrap n)]) (by simp [results, Try.results79, go_sem]) rfl ?_
  exact ⟨rfl, (Kept.refl _ _).alloc _⟩
theorem fieldsWide : Try.prog.underlying 124 = some (.struct (Try.prog.fieldsOf 124)) := by kernel_rfl
theorem stoodWide : Try.prog.stoodInHeld 124 = false := by kernel_rfl
theorem neqWide (x y : Wd) (w : World) : (binOp .neq 124 (.agg #[.int .i64 x.1, .int .u64 (x.2 : Int)]) (.agg #[.int .i64 y.1, .int .u64 (y.2 : Int)])).run Try.prog w = .ok (.bool (!decide (x = y))) w := by
  have u0 := Try.underlying2
  have a0 := Try.isAgg2
  have z0 := Try.sizeOf2
  have u1 := Try.underlying122
  have a1 := Try.isAgg122
  have z1 := Try.sizeOf122
  obtain ⟨a, b⟩ := x
  obtain ⟨d, e⟩ := y
  rw [run_neq_struct, show (10000 : Nat) = 9999 + 1 from rfl, run_equalIn_agg w 9999 124 _ _ fieldsWide stoodWide]
  simp only [Program.fieldsOf, Try.underlying124]
  go_simp
  by_cases h0 : a = d <;> by_cases h1 : b = e <;> simp [h0, h1, Int.natCast_inj]
theorem eqlWide (x y : Wd) (w : World) : (binOp .eql 124 (.agg #[.int .i64 x.1, .int .u64 (x.2 : Int)]) (.agg #[.int .i64 y.1, .int .u64 (y.2 : Int)])).run Try.prog w = .ok (.bool (decide (x = y))) w := by
  have u0 := Try.underlying2
  have a0 := Try.isAgg2
  have z0 := Try.sizeOf2
  have u1 := Try.underlying122
  have a1 := Try.isAgg122
  have z1 := Try.sizeOf122
  obtain ⟨a, b⟩ := x
  obtain ⟨d, e⟩ := y
  rw [run_eql_struct, show (10000 : Nat) = 9999 + 1 from rfl, run_equalIn_agg w 9999 124 _ _ fieldsWide stoodWide]
  simp only [Program.fieldsOf, Try.underlying124]
  go_simp
  by_cases h0 : a = d <;> by_cases h1 : b = e <;> simp [h0, h1, Int.natCast_inj]
theorem fieldsEdge : Try.prog.underlying 28 = some (.struct (Try.prog.fieldsOf 28)) := by kernel_rfl
theorem stoodEdge : Try.prog.stoodInHeld 28 = false := by kernel_rfl
theorem neqEdge (x y : Ed) (w : World) : (binOp .neq 28 (.agg #[.int .i64 x.1, .int .i64 x.2.1, .int .i64 x.2.2]) (.agg #[.int .i64 y.1, .int .i64 y.2.1, .int .i64 y.2.2])).run Try.prog w = .ok (.bool (!decide (x = y))) w := by
  have u0 := Try.underlying3
  have a0 := Try.isAgg3
  have z0 := Try.sizeOf3
  have u1 := Try.underlying2
  have a1 := Try.isAgg2
  have z1 := Try.sizeOf2
  obtain ⟨a, b, c⟩ := x
  obtain ⟨d, e, f⟩ := y
  rw [run_neq_struct, show (10000 : Nat) = 9999 + 1 from rfl, run_equalIn_agg w 9999 28 _ _ fieldsEdge stoodEdge]
  simp only [Program.fieldsOf, Try.underlying28]
  go_simp
  by_cases h0 : a = d <;> by_cases h1 : b = e <;> by_cases h2 : c = f <;> simp [h0, h1, h2, Int.natCast_inj]
theorem eqlEdge (x y : Ed) (w : World) : (binOp .eql 28 (.agg #[.int .i64 x.1, .int .i64 x.2.1, .int .i64 x.2.2]) (.agg #[.int .i64 y.1, .int .i64 y.2.1, .int .i64 y.2.2])).run Try.prog w = .ok (.bool (decide (x = y))) w := by
  have u0 := Try.underlying3
  have a0 := Try.isAgg3
  have z0 := Try.sizeOf3
  have u1 := Try.underlying2
  have a1 := Try.isAgg2
  have z1 := Try.sizeOf2
  obtain ⟨a, b, c⟩ := x
  obtain ⟨d, e, f⟩ := y
  rw [run_eql_struct, show (10000 : Nat) = 9999 + 1 from rfl, run_equalIn_agg w 9999 28 _ _ fieldsEdge stoodEdge]
  simp only [Program.fieldsOf, Try.underlying28]
  go_simp
  by_cases h0 : a = d <;> by_cases h1 : b = e <;> by_cases h2 : c = f <;> simp [h0, h1, h2, Int.natCast_inj]
theorem guardWide : Try.prog.eqGuardType Try.prog.depth 124 = false := by kernel_rfl
theorem guardEdge : Try.prog.eqGuardType Try.prog.depth 28 = false := by kernel_rfl

/-- Is there such a ring? -/
def ringIs (r : Int) : Bool := decide (0 < r) && decide (r < 6)
theorem ringIs_any (r : Int) (w : World) : Calls Try.prog 78 #[.int .i64 r] w fun e w' => e = .returned (.bool (ringIs r)) ∧ w' = w := by
  by_cases h1 : 0 < r
  · go_enter Try.func78, Try.ntmps78
    go_wp2_with fail
    go_ret
    exact ⟨ret_bool (by simp [ringIs, h1]), rfl⟩
  · go_enter Try.func78, Try.ntmps78
    go_wp2_with fail
    go_ret
    exact ⟨ret_bool (by unfold ringIs; rw [decide_eq_false (show ¬ 0 < r by omega)]; simp), rfl⟩
/-- The lower half as a number with a sign. -/
def sgn (n : Nat) : Int := if n < 9223372036854775808 then n else (n : Int) - 18446744073709551616
theorem sgn_wrap {n : Nat} (h : n < 18446744073709551616) : IntKind.i64.wrap (n : Int) = sgn n := by
  rw [i64_wrap]; unfold sgn; split <;> omega
theorem sgn_in {n : Nat} (h : n < 18446744073709551616) : In64 (sgn n) := by unfold In64 sgn; split <;> omega
/-- A wide number as a number, if it is one. -/
def wNarrow (u : Wd) : Int × Bool := if wOf (sgn u.2) = u then (sgn u.2, true) else (0, false)
theorem wNarrow_of {n : Int} (h : In64 n) : wNarrow (wOf n) = (n, true) := by
  unfold In64 at h
  have e : sgn (wOf n).2 = n := by unfold sgn wOf; dsimp only; split <;> omega
  unfold wNarrow
  rw [e, if_pos rfl]
end Go.Proofs.Ytibjpjpbmkdddaa
