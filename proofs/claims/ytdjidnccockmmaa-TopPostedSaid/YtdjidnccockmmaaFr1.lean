/- Frames: what is wrong with one, in plain words; the small functions. -/
import Derived.Test.YtdjidnccockmmaaLaw2
namespace Go.Proofs.Ytdjidnccockmmaa
set_option linter.unusedSimpArgs false
set_option linter.unusedVariables false
open Go.ChangeShapes Go.WideShapes Go.ChangeAt Go.RowKit
open Go.RowKit (wrap32 wrap64)
set_option maxHeartbeats 1000000

/-- From 0 on, at most so great. -/
def inR (n m : Int) : Bool := decide (0 ≤ n) && decide (n ≤ m)
/-- What was summed at a place, as the program has it. -/
def sumV (s : Int × Int × Nat) : List Value := [.int .i64 s.1, .int .i64 s.2.1, .int .u64 (s.2.2 : Int)]
/-- A value of a matrix, as the program has it. -/
def tripV (t : Int × Int × Int) : List Value := [.int .i64 t.1, .int .i64 t.2.1, .int .i64 t.2.2]

theorem within_any (n m : Int) (w : World) : Calls Try.prog 72 #[.int .i64 n, .int .i64 m] w fun e w' => e = .returned (.bool (inR n m)) ∧ w' = w := by
  by_cases h : 0 ≤ n
  · go_enter Try.func72, Try.ntmps72
    go_wp2
    go_ret
    exact ⟨ret_bool (by simp [inR, h]), rfl⟩
  · go_enter Try.func72, Try.ntmps72
    go_wp2
    go_ret
    exact ⟨ret_bool (by simp [inR]; omega), rfl⟩
theorem swithin_any (n m : Int) (w : World) : Calls Try.prog 101 #[.int .i64 n, .int .i64 m] w fun e w' => e = .returned (.bool (inR n m)) ∧ w' = w := by
  by_cases h : 0 ≤ n
  · go_enter Try.func101, Try.ntmps101
    go_wp2
    go_ret
    exact ⟨ret_bool (by simp [inR, h]), rfl⟩
  · go_enter Try.func101, Try.ntmps101
    go_wp2
    go_ret
    exact ⟨ret_bool (by simp [inR]; omega), rfl⟩
theorem worker_any (n : Int) (w : World) : Calls Try.prog 71 #[.int .i64 n] w fun e w' => e = .returned (.bool (inR n 63)) ∧ w' = w := by
  go_enter Try.func71, Try.ntmps71
  go_wp2_with fail
  refine (within_any n 63 _).mono ?_
  rintro e w1 ⟨rfl, rfl⟩
  go_wp2_with fail
  go_ret
  exact ⟨rfl, rfl⟩
/-- Is that sum's place none? -/
def badSum (s : Int × Int × Nat) : Bool := !inR s.1 4095
def badTrip (t : Int × Int × Int) : Bool := !inR t.1 4095 || !inR t.2.1 4095
theorem badSum_any (s : Int × Int × Nat) (w : World) : Calls Try.prog 75 #[.agg #[.int .i64 s.1, .int .i64 s.2.1, .int .u64 (s.2.2 : Int)]] w fun e w' => e = .returned (.bool (badSum s)) ∧ Kept [] w w' := by
  go_enter Try.func75, Try.ntmps75
  go_wp2_with fail
  refine (within_any s.1 4095 _).mono ?_
  rintro e w1 ⟨rfl, rfl⟩
  go_wp2_with fail
  go_ret
  exact ⟨rfl, (Kept.refl _ _).alloc _⟩
theorem badTrip_any (t : Int × Int × Int) (w : World) : Calls Try.prog 77 #[.agg #[.int .i64 t.1, .int .i64 t.2.1, .int .i64 t.2.2]] w fun e w' => e = .returned (.bool (badTrip t)) ∧ Kept [] w w' := by
  by_cases h : inR t.1 4095 = true
  · have H := Lib.hid h
    clear h
    go_enter Try.func77, Try.ntmps77
    go_wp2_with fail
    refine (within_any t.1 4095 _).mono ?_
    rintro e w1 ⟨rfl, rfl⟩
    rw [H.out]
    go_wp2_with fail
    refine (within_any t.2.1 4095 _).mono ?_
    rintro e w1 ⟨rfl, rfl⟩
    go_wp2_with fail
    go_ret
    exact ⟨ret_bool (by simp [badTrip, H.out]), (Kept.refl _ _).alloc _⟩
  · have H := Lib.hid (Bool.eq_false_iff.2 h)
    clear h
    go_enter Try.func77, Try.ntmps77
    go_wp2_with fail
    refine (within_any t.1 4095 _).mono ?_
    rintro e w1 ⟨rfl, rfl⟩
    rw [H.out]
    go_wp2_with fail
    go_ret
    exact ⟨ret_bool (by simp [badTrip, H.out]), (Kept.refl _ _).alloc _⟩
/-- The closure that asks whether items rise: its cell 'last' (block g) is turned. -/
theorem badItem_any (a v last n : Int) (g h : Nat) (z : Value) (w : World) (hg : Blk w g 3 [.int .i64 last]) (hh : Blk w h 56 [.int .i64 n, z]) (hgh : g ≠ h) :
    Calls Try.prog 103 #[.agg #[.int .i64 a, .int .i64 v], .pointer (some ⟨g, 0, none⟩), .pointer (some ⟨h, 0, none⟩)] w fun e w' => e = .returned (.bool (decide (a ≤ last) || decide (n ≤ a))) ∧ Blk w' g 3 [.int .i64 a] ∧ Kept [g] w w' := by
  have HG := Lib.hid hg
  have HH := Lib.hid hh
  have hgl := hg.lt
  have c0 := (hg.alloc (.cells #[.int .i64 a, .int .i64 v] 99)).cell 0
  have d0 := (hh.alloc (.cells #[.int .i64 a, .int .i64 v] 99)).cell 0
  have f0 := (hg.alloc (.cells #[.int .i64 a, .int .i64 v] 99)).frozen 0
  simp only [List.getElem?_cons_zero] at c0 d0
  clear hg hh
  by_cases hl : a ≤ last
  · go_enter Try.func103, Try.ntmps103
    go_wp2
    go_ret
    exact ⟨ret_bool (by simp [hl]), (HG.out.set 0 _).alloc _, ((Kept.refl _ _).setCell (.inl (by simp)) _).alloc _⟩
  · go_enter Try.func103, Try.ntmps103
    go_wp2
    go_ret
    exact ⟨ret_bool (by simp; omega), (HG.out.set 0 _).alloc _, ((Kept.refl _ _).setCell (.inl (by simp)) _).alloc _⟩
end Go.Proofs.Ytdjidnccockmmaa
