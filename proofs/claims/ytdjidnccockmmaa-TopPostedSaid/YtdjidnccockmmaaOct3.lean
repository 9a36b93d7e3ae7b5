/- The walks of octet.Reader's methods that do not move it: what is needed, where it stands, what is left, its fault. -/
import Derived.Test.YtdjidnccockmmaaOct2
namespace Go.Proofs.Ytdjidnccockmmaa
open Go.RowKit
open Go.RowKit (wrap32 wrap64)

/-- What a read gives up with. -/
def brk (e at_ : Int) : PanicEntry := { v := .iface 138 (.agg #[.int .i64 e, .int .i64 at_]), recovered := false }

theorem fail_any (e at_ : Int) (w : World) :
    Calls Try.prog 116 #[.int .i64 e, .int .i64 at_] w fun x w' => x = .panicked [brk e at_] ∧ w = w' := by
  go_enter Try.func116, Try.ntmps116
  go_wp2
  exact ⟨rfl, rfl, rfl⟩

section
variable (p : Nat) (A : Option Addr) (len cap : Nat) (pos : Nat) (n : Int) (w : World)
theorem need_nil : Calls Try.prog 98 #[.pointer none, .int .i64 n] w fun x w' => x = .panicked [brk 10 0] ∧ w = w' := by
  go_enter Try.func98, Try.ntmps98
  go_wp2_with (go_at_call 116; refine (fail_any _ _ _).mono ?_; rintro x w' ⟨rfl, rfl⟩)
  exact ⟨rfl, rfl, rfl⟩
theorem need_dead (e : Int) (he : e ≠ 0) (h2 : w.cell? ⟨p, 2, none⟩ = some (.int .i64 e)) :
    Calls Try.prog 98 #[.pointer (some ⟨p, 0, none⟩), .int .i64 n] w fun x w' => x = .panicked [brk 10 0] ∧ w = w' := by
  have hb : (e != 0) = true := by rw [bne_iff_ne]; exact he
  clear he
  go_enter Try.func98, Try.ntmps98
  go_wp2_with (go_at_call 116; refine (fail_any _ _ _).mono ?_; rintro x w' ⟨rfl, rfl⟩)
  exact ⟨rfl, rfl, rfl⟩
theorem need_neg (hn : n < 0) (h1 : w.cell? ⟨p, 1, none⟩ = some (.int .i64 pos)) (h2 : w.cell? ⟨p, 2, none⟩ = some (.int .i64 0)) :
    Calls Try.prog 98 #[.pointer (some ⟨p, 0, none⟩), .int .i64 n] w fun x w' => x = .panicked [brk 3 pos] ∧ w = w' := by
  go_enter Try.func98, Try.ntmps98
  go_wp2_with (go_at_call 116; refine (fail_any _ _ _).mono ?_; rintro x w' ⟨rfl, rfl⟩)
  exact ⟨rfl, rfl, rfl⟩
theorem need_short (hn : 0 ≤ n) (hs : (len : Int) - pos < n) (hp : pos ≤ len) (hl : (len : Int) ≤ 9223372036854775807) (h0 : w.cell? ⟨p, 0, none⟩ = some (.slice A len cap)) (h1 : w.cell? ⟨p, 1, none⟩ = some (.int .i64 pos)) (h2 : w.cell? ⟨p, 2, none⟩ = some (.int .i64 0)) :
    Calls Try.prog 98 #[.pointer (some ⟨p, 0, none⟩), .int .i64 n] w fun x w' => x = .panicked [brk 2 len] ∧ ∃ k, w' = w.drewN k := by
  go_enter Try.func98, Try.ntmps98
  go_wp2_with fail
  go_quiet (fail)
  go_wp2_with (go_at_call 116; refine (fail_any _ _ _).mono ?_; rintro x w' ⟨rfl, rfl⟩)
  exact ⟨rfl, rfl, _, rfl⟩
theorem need_ok (hn : 0 ≤ n) (hs : n ≤ (len : Int) - pos) (hp : pos ≤ len) (hl : (len : Int) ≤ 9223372036854775807) (h0 : w.cell? ⟨p, 0, none⟩ = some (.slice A len cap)) (h1 : w.cell? ⟨p, 1, none⟩ = some (.int .i64 pos)) (h2 : w.cell? ⟨p, 2, none⟩ = some (.int .i64 0)) :
    Calls Try.prog 98 #[.pointer (some ⟨p, 0, none⟩), .int .i64 n] w fun x w' => x = .returned (.tuple #[]) ∧ ∃ k, w' = w.drewN k := by
  go_enter Try.func98, Try.ntmps98
  go_wp2_with fail
  go_quiet (fail)
  go_wp2
  go_end0
  exact ⟨rfl, _, rfl⟩

theorem at_nil : Calls Try.prog 30 #[.pointer none] w fun x w' => x = .returned (.int .i64 0) ∧ w = w' := by
  go_enter Try.func30, Try.ntmps30
  go_wp2
  go_ret
  exact ⟨rfl, rfl⟩
theorem at_any (h1 : w.cell? ⟨p, 1, none⟩ = some (.int .i64 n)) : Calls Try.prog 30 #[.pointer (some ⟨p, 0, none⟩)] w fun x w' => x = .returned (.int .i64 n) ∧ w = w' := by
  go_enter Try.func30, Try.ntmps30
  go_wp2
  go_ret
  exact ⟨rfl, rfl⟩
theorem left_nil : Calls Try.prog 25 #[.pointer none] w fun x w' => x = .returned (.int .i64 0) ∧ w = w' := by
  go_enter Try.func25, Try.ntmps25
  go_wp2
  go_ret
  exact ⟨rfl, rfl⟩
theorem left_dead (e : Int) (he : e ≠ 0) (h2 : w.cell? ⟨p, 2, none⟩ = some (.int .i64 e)) : Calls Try.prog 25 #[.pointer (some ⟨p, 0, none⟩)] w fun x w' => x = .returned (.int .i64 0) ∧ w = w' := by
  have hb : (e != 0) = true := by rw [bne_iff_ne]; exact he
  clear he
  go_enter Try.func25, Try.ntmps25
  go_wp2
  go_ret
  exact ⟨rfl, rfl⟩
theorem left_ok (hp : pos ≤ len) (hl : (len : Int) ≤ 9223372036854775807) (h0 : w.cell? ⟨p, 0, none⟩ = some (.slice A len cap)) (h1 : w.cell? ⟨p, 1, none⟩ = some (.int .i64 pos)) (h2 : w.cell? ⟨p, 2, none⟩ = some (.int .i64 0)) :
    Calls Try.prog 25 #[.pointer (some ⟨p, 0, none⟩)] w fun x w' => x = .returned (.int .i64 ((len : Int) - pos)) ∧ ∃ k, w' = w.drewN k := by
  go_enter Try.func25, Try.ntmps25
  go_wp2_with fail
  go_quiet (fail)
  go_wp2
  go_ret
  exact ⟨rfl, _, rfl⟩
theorem fault_nil : Calls Try.prog 26 #[.pointer none] w fun x w' => x = .returned (.agg #[.int .i64 0, .int .i64 0]) ∧ Kept [] w w' := by
  go_enter Try.func26, Try.ntmps26
  go_wp2
  exact bodyPost_ret (v := .agg #[.int .i64 0, .int .i64 0]) (by simp [results, Try.results26, go_sem]) rfl ⟨rfl, (Kept.refl _ _).alloc _⟩
theorem fault_any (e f : Int) (h2 : w.cell? ⟨p, 2, none⟩ = some (.int .i64 e)) (h3 : w.cell? ⟨p, 3, none⟩ = some (.int .i64 f)) :
    Calls Try.prog 26 #[.pointer (some ⟨p, 0, none⟩)] w fun x w' => x = .returned (.agg #[.int .i64 e, .int .i64 f]) ∧ Kept [] w w' := by
  have hp := World.block_lt_of_cell? _ _ h2
  go_enter Try.func26, Try.ntmps26
  go_wp2
  exact bodyPost_ret (v := .agg #[.int .i64 e, .int .i64 f]) (by simp [results, Try.results26, go_sem]) rfl ⟨rfl, (Kept.refl _ _).alloc _⟩
theorem end_nil : Calls Try.prog 31 #[.pointer none] w fun x w' => x = .returned (.bool false) ∧ ∃ k, w' = w.drewN k := by
  go_enter Try.func31, Try.ntmps31
  go_wp2_with fail
  go_quiet (fail)
  go_wp2
  go_ret
  exact ⟨rfl, _, rfl⟩
theorem end_dead (e : Int) (he : e ≠ 0) (h2 : w.cell? ⟨p, 2, none⟩ = some (.int .i64 e)) : Calls Try.prog 31 #[.pointer (some ⟨p, 0, none⟩)] w fun x w' => x = .returned (.bool false) ∧ ∃ k, w' = w.drewN k := by
  have hb : (e == 0) = false := by rw [beq_eq_false_iff_ne]; exact he
  clear he
  go_enter Try.func31, Try.ntmps31
  go_wp2_with fail
  go_quiet (fail)
  go_wp2
  go_ret
  exact ⟨rfl, _, rfl⟩
theorem end_ok (h0 : w.cell? ⟨p, 0, none⟩ = some (.slice A len cap)) (h1 : w.cell? ⟨p, 1, none⟩ = some (.int .i64 pos)) (h2 : w.cell? ⟨p, 2, none⟩ = some (.int .i64 0)) :
    Calls Try.prog 31 #[.pointer (some ⟨p, 0, none⟩)] w fun x w' => x = .returned (.bool ((pos : Int) == (len : Int))) ∧ ∃ k, w' = w.drewN k := by
  go_enter Try.func31, Try.ntmps31
  go_wp2_with fail
  go_quiet (fail)
  go_wp2
  go_ret
  exact ⟨rfl, _, rfl⟩
end
end Go.Proofs.Ytdjidnccockmmaa
