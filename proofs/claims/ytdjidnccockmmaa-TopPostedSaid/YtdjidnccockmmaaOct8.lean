/- The walks of the reference's reader, and of octet's Open and Fail. -/
import Derived.Test.YtdjidnccockmmaaOct7
import Derived.Test.YtdjidnccockmmaaLib2
namespace Go.Proofs.Ytdjidnccockmmaa
open Go.RowKit
open Go.RowKit (wrap32 wrap64)
set_option maxHeartbeats 1000000

theorem open_any (l : List UInt8) (A : Option Addr) (c : Nat) (w : World) (hr : Reads w A (l.map byteV)) (hl : l.length ≤ 1073741824) :
    Calls Try.prog 20 #[.slice A l.length c] w fun e w' => ∃ p, e = .returned (.pointer (some ⟨p, 0, none⟩)) ∧ w.heap.size ≤ p ∧ RdAt 87 w' p ⟨l, 0, 0, 0⟩ ∧ Kept [] w w' := by
  have HR := Lib.hid hr
  clear hr
  go_enter Try.func20, Try.ntmps20
  go_wp2_with fail
  refine (clone_bytes l A c _ HR.out (by omega)).mono ?_
  rintro e w1 ⟨v, rfl, ho, hk⟩
  obtain ⟨A', c', rfl, _, _, hr', hf⟩ := own_form ho
  have HO := Lib.hid ho
  have HK := Lib.hid hk
  have hs := hk.size
  clear ho hk hr' hf
  go_wp2
  go_ret
  refine ⟨_, rfl, hs, ⟨⟨A', c', ?_, ?_⟩, Nat.zero_le _, hl⟩, HK.out.alloc _⟩
  · exact Blk.new w1 _ [.slice A' l.length c', .int .i64 0, .int .i64 0, .int .i64 0]
  · exact own_base (HO.out.alloc _) (Nat.zero_le _)

theorem ofail_skip (p : Nat) (e a f : Int) (w : World) (h : f ≠ 0 ∨ e = 0) (h2 : w.cell? ⟨p, 2, none⟩ = some (.int .i64 f)) :
    Calls Try.prog 29 #[.pointer (some ⟨p, 0, none⟩), .int .i64 e, .int .i64 a] w fun x w' => x = .returned (.tuple #[]) ∧ w = w' := by
  by_cases hf : f = 0
  · obtain rfl : e = 0 := by rcases h with h | h; exact absurd hf h; exact h
    subst hf
    clear h
    go_enter Try.func29, Try.ntmps29
    go_wp2
    go_end0
    exact ⟨rfl, rfl⟩
  · have hb : (f == 0) = false := by rw [beq_eq_false_iff_ne]; exact hf
    clear hf h
    go_enter Try.func29, Try.ntmps29
    go_wp2
    go_end0
    exact ⟨rfl, rfl⟩
theorem ofail_set (p : Nat) (e a f : Int) (v pos : Value) (w : World) (he : e ≠ 0) (hB : Blk w p 87 [v, pos, .int .i64 0, .int .i64 f]) :
    Calls Try.prog 29 #[.pointer (some ⟨p, 0, none⟩), .int .i64 e, .int .i64 a] w fun x w' => x = .returned (.tuple #[]) ∧ Blk w' p 87 [v, pos, .int .i64 e, .int .i64 a] ∧ Kept [p] w w' := by
  have hb : (e != 0) = true := by rw [bne_iff_ne]; exact he
  have h2 := hB.cell 2
  have h3 := hB.cell 3
  have f2 := hB.frozen 2
  have f3 := hB.frozen 3
  simp only [List.getElem?_cons_zero, List.getElem?_cons_succ] at h2 h3
  have HB := Lib.hid hB
  clear hB he
  go_enter Try.func29, Try.ntmps29
  go_wp2
  go_end0
  refine ⟨rfl, ?_, ((Kept.refl [p] w).setCell (p := ⟨p, 2, none⟩) (.inl (List.mem_singleton.2 rfl)) _).setCell (p := ⟨p, 3, none⟩) (.inl (List.mem_singleton.2 rfl)) _⟩
  have := (HB.out.set 2 (.int .i64 e)).set 3 (.int .i64 a)
  simpa using this
theorem ofail_nil (e a : Int) (w : World) :
    Calls Try.prog 29 #[.pointer none, .int .i64 e, .int .i64 a] w fun x w' => x = .returned (.tuple #[]) ∧ w = w' := by
  go_enter Try.func29, Try.ntmps29
  go_wp2
  go_end0
  exact ⟨rfl, rfl⟩

/-! The reference. -/
section
variable (p : Nat) (A : Option Addr) (len cap : Nat) (pos : Nat) (n : Int) (w : World)
theorem rdead_yes (e : Int) (he : e ≠ 0) (h2 : w.cell? ⟨p, 2, none⟩ = some (.int .i64 e)) : Calls Try.prog 100 #[.pointer (some ⟨p, 0, none⟩)] w fun x w' => x = .returned (.bool true) ∧ w = w' := by
  have hb : (e != 0) = true := by rw [bne_iff_ne]; exact he
  clear he
  go_enter Try.func100, Try.ntmps100
  go_wp2
  go_ret
  exact ⟨rfl, rfl⟩
theorem rdead_no (h2 : w.cell? ⟨p, 2, none⟩ = some (.int .i64 0)) : Calls Try.prog 100 #[.pointer (some ⟨p, 0, none⟩)] w fun x w' => x = .returned (.bool false) ∧ w = w' := by
  go_enter Try.func100, Try.ntmps100
  go_wp2
  go_ret
  exact ⟨rfl, rfl⟩
theorem rat_any (h1 : w.cell? ⟨p, 1, none⟩ = some (.int .i64 n)) : Calls Try.prog 65 #[.pointer (some ⟨p, 0, none⟩)] w fun x w' => x = .returned (.int .i64 n) ∧ w = w' := by
  go_enter Try.func65, Try.ntmps65
  go_wp2
  go_ret
  exact ⟨rfl, rfl⟩
theorem rleft_dead (e : Int) (he : e ≠ 0) (h2 : w.cell? ⟨p, 2, none⟩ = some (.int .i64 e)) : Calls Try.prog 66 #[.pointer (some ⟨p, 0, none⟩)] w fun x w' => x = .returned (.int .i64 0) ∧ w = w' := by
  go_enter Try.func66, Try.ntmps66
  go_wp2_with fail
  refine (rdead_yes p _ e he h2).mono ?_
  rintro x w' ⟨rfl, rfl⟩
  go_wp2
  go_ret
  exact ⟨rfl, rfl⟩
theorem rleft_ok (hp : pos ≤ len) (hl : (len : Int) ≤ 9223372036854775807) (h0 : w.cell? ⟨p, 0, none⟩ = some (.slice A len cap)) (h1 : w.cell? ⟨p, 1, none⟩ = some (.int .i64 pos)) (h2 : w.cell? ⟨p, 2, none⟩ = some (.int .i64 0)) :
    Calls Try.prog 66 #[.pointer (some ⟨p, 0, none⟩)] w fun x w' => x = .returned (.int .i64 ((len : Int) - pos)) ∧ ∃ k, w' = w.drewN k := by
  go_enter Try.func66, Try.ntmps66
  go_wp2_with fail
  refine (rdead_no p _ h2).mono ?_
  rintro x w' ⟨rfl, rfl⟩
  go_wp2_with fail
  go_quiet (fail)
  go_wp2
  go_ret
  exact ⟨rfl, _, rfl⟩
theorem rfault_any (e f : Int) (h2 : w.cell? ⟨p, 2, none⟩ = some (.int .i64 e)) (h3 : w.cell? ⟨p, 3, none⟩ = some (.int .i64 f)) :
    Calls Try.prog 67 #[.pointer (some ⟨p, 0, none⟩)] w fun x w' => x = .returned (.agg #[.int .i64 e, .int .i64 f]) ∧ Kept [] w w' := by
  have hp := World.block_lt_of_cell? _ _ h2
  go_enter Try.func67, Try.ntmps67
  go_wp2
  exact bodyPost_ret (v := .agg #[.int .i64 e, .int .i64 f]) (by simp [results, Try.results67, go_sem]) rfl ⟨rfl, (Kept.refl _ _).alloc _⟩
theorem rend_dead (e : Int) (he : e ≠ 0) (h2 : w.cell? ⟨p, 2, none⟩ = some (.int .i64 e)) : Calls Try.prog 64 #[.pointer (some ⟨p, 0, none⟩)] w fun x w' => x = .returned (.bool false) ∧ ∃ k, w' = w.drewN k := by
  go_enter Try.func64, Try.ntmps64
  go_wp2_with fail
  go_quiet ((go_at_call 100; exact quiet_eq (rdead_yes p (w.drewN _) e he (by exact h2))))
  go_wp2
  go_ret
  exact ⟨rfl, _, rfl⟩
theorem rend_ok (h0 : w.cell? ⟨p, 0, none⟩ = some (.slice A len cap)) (h1 : w.cell? ⟨p, 1, none⟩ = some (.int .i64 pos)) (h2 : w.cell? ⟨p, 2, none⟩ = some (.int .i64 0)) :
    Calls Try.prog 64 #[.pointer (some ⟨p, 0, none⟩)] w fun x w' => x = .returned (.bool ((pos : Int) == (len : Int))) ∧ ∃ k, w' = w.drewN k := by
  go_enter Try.func64, Try.ntmps64
  go_wp2_with fail
  go_quiet ((go_at_call 100; exact quiet_eq (rdead_no p (w.drewN _) (by exact h2))))
  go_wp2
  go_ret
  exact ⟨rfl, _, rfl⟩
end
end Go.Proofs.Ytdjidnccockmmaa
