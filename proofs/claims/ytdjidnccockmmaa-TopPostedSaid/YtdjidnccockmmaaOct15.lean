/- Readers that are nil: nothing is read. And one step of both readers, whatever its kind. -/
import Derived.Test.YtdjidnccockmmaaOct14
namespace Go.Proofs.Ytdjidnccockmmaa
open Go.RowKit
open Go.RowKit (wrap32 wrap64)
set_option maxHeartbeats 1000000

theorem u8_nil (w : World) : Calls Try.prog 24 #[.pointer none] w fun x w' => x = .returned (.int .u8 0) ∧ Kept [] w w' := by
  go_enter_defers Try.func24, Try.ntmps24
  go_wp2_with (go_at_call 55; refine (next_nil _ _).mono ?_; rintro x w1 ⟨rfl, rfl⟩)
  refine leaves_cons (f := 54) (args := #[.pointer none]) (by simp) (by simp [go_sem]) ?_
  refine (caught_nil 10 0 [] _).mono ?_
  rintro e u' w'' ⟨rfl, rfl, hk⟩
  simp only [settle, Leaves, List.dropWhile_nil]
  refine ⟨_, results_tmp rfl _ _ _, ?_⟩
  exact ⟨rfl, hk⟩
theorem u32_nil (w : World) : Calls Try.prog 22 #[.pointer none] w fun x w' => x = .returned (.int .u32 0) ∧ Kept [] w w' := by
  go_enter_defers Try.func22, Try.ntmps22
  go_wp2_with (go_at_call 55; refine (next_nil _ _).mono ?_; rintro x w1 ⟨rfl, rfl⟩)
  refine leaves_cons (f := 54) (args := #[.pointer none]) (by simp) (by simp [go_sem]) ?_
  refine (caught_nil 10 0 [] _).mono ?_
  rintro e u' w'' ⟨rfl, rfl, hk⟩
  simp only [settle, Leaves, List.dropWhile_nil]
  refine ⟨_, results_tmp rfl _ _ _, ?_⟩
  exact ⟨rfl, hk⟩
theorem i64_nil (w : World) : Calls Try.prog 23 #[.pointer none] w fun x w' => x = .returned (.int .i64 0) ∧ Kept [] w w' := by
  go_enter_defers Try.func23, Try.ntmps23
  go_wp2_with (go_at_call 55; refine (next_nil _ _).mono ?_; rintro x w1 ⟨rfl, rfl⟩)
  refine leaves_cons (f := 54) (args := #[.pointer none]) (by simp) (by simp [go_sem]) ?_
  refine (caught_nil 10 0 [] _).mono ?_
  rintro e u' w'' ⟨rfl, rfl, hk⟩
  simp only [settle, Leaves, List.dropWhile_nil]
  refine ⟨_, results_tmp rfl _ _ _, ?_⟩
  exact ⟨rfl, hk⟩
theorem take_nil (n : Int) (w : World) : Calls Try.prog 21 #[.pointer none, .int .i64 n] w fun x w' => x = .returned (.slice none 0 0) ∧ Kept [] w w' := by
  go_enter_defers Try.func21, Try.ntmps21
  go_wp2_with (go_at_call 55; refine (next_nil _ _).mono ?_; rintro x w1 ⟨rfl, rfl⟩)
  refine leaves_cons (f := 54) (args := #[.pointer none]) (by simp) (by simp [go_sem]) ?_
  refine (caught_nil 10 0 [] _).mono ?_
  rintro e u' w'' ⟨rfl, rfl, hk⟩
  simp only [settle, Leaves, List.dropWhile_nil]
  refine ⟨_, results_tmp rfl _ _ _, ?_⟩
  exact ⟨rfl, hk⟩

theorem read_any (p s : Nat) (R : Rd) (k n : Int) (w : World) (hp : RdAt 87 w p R) (hs : RdAt 92 w s R) :
    Calls Try.prog 28 #[.agg #[.pointer (some ⟨p, 0, none⟩), .pointer (some ⟨s, 0, none⟩)], .agg #[.int .i64 k, .int .i64 n]] w fun e w' => e = .returned (.bool true) ∧ RdAt 87 w' p (R.step k n) ∧ RdAt 92 w' s (R.step k n) ∧ Kept [p, s] w w' := by
  unfold Rd.step
  by_cases h0 : k = 0
  · subst h0; simp only [if_true]; exact read_u8 p s R n w hp hs
  by_cases h1 : k = 1
  · subst h1; exact read_u32 p s R n w hp hs
  by_cases h2 : k = 2
  · subst h2; exact read_i64 p s R n w hp hs
  by_cases h3 : k = 3
  · subst h3; exact read_take p s R n w hp hs
  by_cases h4 : k = 4
  · subst h4; exact read_fail p s R n w hp hs
  rw [if_neg h0, if_neg h1, if_neg h2, if_neg h3, if_neg h4]
  exact read_end p s R k n w h0 h1 h2 h3 h4 hp hs
end Go.Proofs.Ytdjidnccockmmaa
