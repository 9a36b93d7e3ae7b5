/- Texts merged by a program: Oct8, Oct9, Oct10, Oct11. -/
import Derived.Test.YtibjpjpbmkdddaaLb

namespace Go.Proofs.Ytibjpjpbmkdddaa
/-! Oct8 -/
open Go.RowKit
open Go.RowKit (wrap32 wrap64)
set_option maxHeartbeats 1000000
theorem open_any (l : List UInt8) (A : Option Addr) (c : Nat) (w : World) (hr : Reads w A (l.map byteV)) (hl : l.length ≤ 1073741824) :
    Calls Try.prog 35 #[.slice A l.length c] w fun e w' => ∃ p, e = .returned (.pointer (some ⟨p, 0, none⟩)) ∧ w.heap.size ≤ p ∧ RdAt 138 w' p ⟨l, 0, 0, 0⟩ ∧ Kept [] w w' := by
  have HR := Lib.hid hr
  clear hr
  go_enter Try.func35, Try.ntmps35
  go_wp2_with fail
  refine (clone_bytes l A c _ HR.out (by omega)).mono ?_
  rintro e w1 ⟨v, rfl, ho, hk⟩
  obtain ⟨A', c', rfl, _, _, hr', hf⟩ := own_form ho
  have HO := Lib.hid ho
  have HK := Lib.hid hk
  have hs := hk.size
  clear ho hk hr' hf
  go_wp2
  go_ret
  refine ⟨_, rfl, hs, ⟨⟨A', c', ?_, ?_⟩, Nat.zero_le _, hl⟩, HK.out.alloc _⟩
  · exact Blk.new w1 _ [.slice A' l.length c', .int .i64 0, .int .i64 0, .int .i64 0]
  · exact own_base (HO.out.alloc _) (Nat.zero_le _)
section
variable (p : Nat) (A : Option Addr) (len cap : Nat) (pos : Nat) (n : Int) (w : World)
end
/-! Oct9 -/
open Go.RowKit
open Go.RowKit (wrap32 wrap64)
set_option maxHeartbeats 1000000
/-- A fault that is noted. -/
def Rd.fail (R : Rd) (e a : Int) : Rd := if R.e ≠ 0 ∨ e = 0 then R else { R with e := e, fat := a }
theorem own_turned {t : TypeId} {w w' : World} {p n : Nat} {v : Value} {xs cs : List Value} (hown : w.ownsRow 0 5 1 v n xs) (hb : Blk w p t cs) (ht : 5 ≠ t) (hk : Kept [p] w w') : w'.ownsRow 0 5 1 v n xs :=
  own_kept hown hk (fun g hg hm => by simp at hm; subst hm; exact own_ne_blk hown hb ht hg)
/-! Oct10 -/
open Go.RowKit
open Go.RowKit (wrap32 wrap64)
set_option maxHeartbeats 1000000
/-- The bytes behind the first k make so great a number. -/
theorem num_cons (l : List UInt8) (k : Nat) (h : k < l.length) : num (l.drop k) = num (l.drop (k + 1)) * 256 + l[k].toNat := by
  rw [List.drop_eq_getElem_cons h]
  simp only [num]
  omega
theorem num_drop_lt (l : List UInt8) (k : Nat) (h8 : l.length ≤ 8) (h : k < l.length) : num (l.drop (k + 1)) * 256 + l[k].toNat < 18446744073709551616 := by
  rw [← num_cons l k h]
  have h1 := num_lt (l.drop k)
  have h2 : 256 ^ (l.drop k).length ≤ 256 ^ 8 := Nat.pow_le_pow_right (by decide) (by simp; omega)
  have h3 : 256 ^ 8 = 18446744073709551616 := by decide
  omega
/-! Oct11 -/
open Go.RowKit
open Go.RowKit (wrap32 wrap64)
set_option maxHeartbeats 1000000
def Rd.left (R : Rd) : Int := if R.e ≠ 0 then 0 else (R.b.length : Int) - R.pos
def Rd.atEnd (R : Rd) : Bool := decide (R.e = 0 ∧ R.pos = R.b.length)
theorem at_rd (p : Nat) (R : Rd) (w : World) (h : RdAt 138 w p R) : Calls Try.prog 42 #[.pointer (some ⟨p, 0, none⟩)] w fun x w' => x = .returned (.int .i64 R.pos) ∧ w = w' := by
  obtain ⟨⟨A, cap, hb, hown⟩, hle, hbig⟩ := h
  have h1 := hb.cell 1
  simp only [List.getElem?_cons_zero, List.getElem?_cons_succ] at h1
  exact at_any p R.pos w h1
theorem fault_rd (p : Nat) (R : Rd) (w : World) (h : RdAt 138 w p R) : Calls Try.prog 96 #[.pointer (some ⟨p, 0, none⟩)] w fun x w' => x = .returned (.agg #[.int .i64 R.e, .int .i64 R.fat]) ∧ Kept [] w w' := by
  obtain ⟨⟨A, cap, hb, hown⟩, hle, hbig⟩ := h
  have h2 := hb.cell 2
  have h3 := hb.cell 3
  simp only [List.getElem?_cons_zero, List.getElem?_cons_succ] at h2 h3
  exact fault_any p w R.e R.fat h2 h3
theorem end_rd (p : Nat) (R : Rd) (w : World) (h : RdAt 138 w p R) : Calls Try.prog 97 #[.pointer (some ⟨p, 0, none⟩)] w fun x w' => x = .returned (.bool R.atEnd) ∧ ∃ k, w' = w.drewN k := by
  obtain ⟨⟨A, cap, hb, hown⟩, hle, hbig⟩ := h
  have h0 := hb.cell 0
  have h1 := hb.cell 1
  have h2 := hb.cell 2
  simp only [List.getElem?_cons_zero, List.getElem?_cons_succ] at h0 h1 h2
  by_cases he : R.e = 0
  · rw [he] at h2
    refine (end_ok p A R.b.length cap R.pos w h0 h1 h2).mono ?_
    rintro x w' ⟨rfl, hk⟩
    refine ⟨ret_bool ?_, hk⟩
    unfold Rd.atEnd
    rw [Bool.eq_iff_iff]
    simp [he]
    omega
  · refine (end_dead p w R.e he h2).mono ?_
    rintro x w' ⟨rfl, hk⟩
    exact ⟨ret_bool (by simp [Rd.atEnd, he]), hk⟩
end Go.Proofs.Ytibjpjpbmkdddaa
