/- Where both readers stand, what is left, their fault, whether they are at the end: said of a reader in memory. -/
import Derived.Test.YtdjidnccockmmaaOct10
namespace Go.Proofs.Ytdjidnccockmmaa
open Go.RowKit
open Go.RowKit (wrap32 wrap64)
set_option maxHeartbeats 1000000
def Rd.left (R : Rd) : Int := if R.e ≠ 0 then 0 else (R.b.length : Int) - R.pos
def Rd.atEnd (R : Rd) : Bool := decide (R.e = 0 ∧ R.pos = R.b.length)

theorem at_rd (p : Nat) (R : Rd) (w : World) (h : RdAt 87 w p R) : Calls Try.prog 30 #[.pointer (some ⟨p, 0, none⟩)] w fun x w' => x = .returned (.int .i64 R.pos) ∧ w = w' := by
  obtain ⟨⟨A, cap, hb, hown⟩, hle, hbig⟩ := h
  have h1 := hb.cell 1
  simp only [List.getElem?_cons_zero, List.getElem?_cons_succ] at h1
  exact at_any p R.pos w h1
theorem left_rd (p : Nat) (R : Rd) (w : World) (h : RdAt 87 w p R) : Calls Try.prog 25 #[.pointer (some ⟨p, 0, none⟩)] w fun x w' => x = .returned (.int .i64 R.left) ∧ ∃ k, w' = w.drewN k := by
  obtain ⟨⟨A, cap, hb, hown⟩, hle, hbig⟩ := h
  have h0 := hb.cell 0
  have h1 := hb.cell 1
  have h2 := hb.cell 2
  simp only [List.getElem?_cons_zero, List.getElem?_cons_succ] at h0 h1 h2
  unfold Rd.left
  by_cases he : R.e = 0
  · rw [if_neg (by simp [he])]
    rw [he] at h2
    exact left_ok p A R.b.length cap R.pos w hle (by omega) h0 h1 h2
  · rw [if_pos he]
    refine (left_dead p w R.e he h2).mono ?_
    rintro x w' ⟨rfl, rfl⟩
    exact ⟨rfl, 0, rfl⟩
theorem fault_rd (p : Nat) (R : Rd) (w : World) (h : RdAt 87 w p R) : Calls Try.prog 26 #[.pointer (some ⟨p, 0, none⟩)] w fun x w' => x = .returned (.agg #[.int .i64 R.e, .int .i64 R.fat]) ∧ Kept [] w w' := by
  obtain ⟨⟨A, cap, hb, hown⟩, hle, hbig⟩ := h
  have h2 := hb.cell 2
  have h3 := hb.cell 3
  simp only [List.getElem?_cons_zero, List.getElem?_cons_succ] at h2 h3
  exact fault_any p w R.e R.fat h2 h3
theorem end_rd (p : Nat) (R : Rd) (w : World) (h : RdAt 87 w p R) : Calls Try.prog 31 #[.pointer (some ⟨p, 0, none⟩)] w fun x w' => x = .returned (.bool R.atEnd) ∧ ∃ k, w' = w.drewN k := by
  obtain ⟨⟨A, cap, hb, hown⟩, hle, hbig⟩ := h
  have h0 := hb.cell 0
  have h1 := hb.cell 1
  have h2 := hb.cell 2
  simp only [List.getElem?_cons_zero, List.getElem?_cons_succ] at h0 h1 h2
  by_cases he : R.e = 0
  · rw [he] at h2
    refine (end_ok p A R.b.length cap R.pos w h0 h1 h2).mono ?_
    rintro x w' ⟨rfl, hk⟩
    refine ⟨ret_bool ?_, hk⟩
    unfold Rd.atEnd
    rw [Bool.eq_iff_iff]
    simp [he]
    omega
  · refine (end_dead p w R.e he h2).mono ?_
    rintro x w' ⟨rfl, hk⟩
    exact ⟨ret_bool (by simp [Rd.atEnd, he]), hk⟩

theorem rat_rd (p : Nat) (R : Rd) (w : World) (h : RdAt 92 w p R) : Calls Try.prog 65 #[.pointer (some ⟨p, 0, none⟩)] w fun x w' => x = .returned (.int .i64 R.pos) ∧ w = w' := by
  obtain ⟨⟨A, cap, hb, hown⟩, hle, hbig⟩ := h
  have h1 := hb.cell 1
  simp only [List.getElem?_cons_zero, List.getElem?_cons_succ] at h1
  exact rat_any p R.pos w h1
theorem rleft_rd (p : Nat) (R : Rd) (w : World) (h : RdAt 92 w p R) : Calls Try.prog 66 #[.pointer (some ⟨p, 0, none⟩)] w fun x w' => x = .returned (.int .i64 R.left) ∧ ∃ k, w' = w.drewN k := by
  obtain ⟨⟨A, cap, hb, hown⟩, hle, hbig⟩ := h
  have h0 := hb.cell 0
  have h1 := hb.cell 1
  have h2 := hb.cell 2
  simp only [List.getElem?_cons_zero, List.getElem?_cons_succ] at h0 h1 h2
  unfold Rd.left
  by_cases he : R.e = 0
  · rw [if_neg (by simp [he])]
    rw [he] at h2
    exact rleft_ok p A R.b.length cap R.pos w hle (by omega) h0 h1 h2
  · rw [if_pos he]
    refine (rleft_dead p w R.e he h2).mono ?_
    rintro x w' ⟨rfl, rfl⟩
    exact ⟨rfl, 0, rfl⟩
theorem rfault_rd (p : Nat) (R : Rd) (w : World) (h : RdAt 92 w p R) : Calls Try.prog 67 #[.pointer (some ⟨p, 0, none⟩)] w fun x w' => x = .returned (.agg #[.int .i64 R.e, .int .i64 R.fat]) ∧ Kept [] w w' := by
  obtain ⟨⟨A, cap, hb, hown⟩, hle, hbig⟩ := h
  have h2 := hb.cell 2
  have h3 := hb.cell 3
  simp only [List.getElem?_cons_zero, List.getElem?_cons_succ] at h2 h3
  exact rfault_any p w R.e R.fat h2 h3
theorem rend_rd (p : Nat) (R : Rd) (w : World) (h : RdAt 92 w p R) : Calls Try.prog 64 #[.pointer (some ⟨p, 0, none⟩)] w fun x w' => x = .returned (.bool R.atEnd) ∧ ∃ k, w' = w.drewN k := by
  obtain ⟨⟨A, cap, hb, hown⟩, hle, hbig⟩ := h
  have h0 := hb.cell 0
  have h1 := hb.cell 1
  have h2 := hb.cell 2
  simp only [List.getElem?_cons_zero, List.getElem?_cons_succ] at h0 h1 h2
  by_cases he : R.e = 0
  · rw [he] at h2
    refine (rend_ok p A R.b.length cap R.pos w h0 h1 h2).mono ?_
    rintro x w' ⟨rfl, hk⟩
    refine ⟨ret_bool ?_, hk⟩
    unfold Rd.atEnd
    rw [Bool.eq_iff_iff]
    simp [he]
    omega
  · refine (rend_dead p w R.e he h2).mono ?_
    rintro x w' ⟨rfl, hk⟩
    exact ⟨ret_bool (by simp [Rd.atEnd, he]), hk⟩
end Go.Proofs.Ytdjidnccockmmaa
