/- Texts merged by a program: Oct1, Oct2, Oct3, Oct4. -/
import Derived.Test.YtibjpjpbmkdddaaE0
import Derived.Test.YtibjpjpbmkdddaaLib2

namespace Go.Proofs.Ytibjpjpbmkdddaa
/-! Oct1 -/
open Go.RowKit
/-! Oct2 -/
open Go.RowKit
open Go.RowKit (wrap32 wrap64)
/-- The number that bytes are, the lowest one first. -/
def num : List UInt8 → Nat
  | [] => 0
  | b :: l => b.toNat + 256 * num l
theorem num_lt (l : List UInt8) : num l < 256 ^ l.length := by
  induction l with
  | nil => simp [num]
  | cons b l ih => have := b.toNat_lt; simp only [num, List.length_cons, Nat.pow_succ]; omega
theorem num_snoc (l : List UInt8) (b : UInt8) : num (l ++ [b]) = num l + b.toNat * 256 ^ l.length := by
  induction l with
  | nil => simp [num]
  | cons c l ih => simp only [List.cons_append, num, ih, List.length_cons, Nat.pow_succ, Nat.mul_add, Nat.add_assoc]; rw [Nat.mul_left_comm 256 b.toNat, Nat.mul_comm 256 (256 ^ l.length)]
theorem num_le (n k : Nat) : num (le n k) = n % 256 ^ k := by
  induction k generalizing n with
  | zero => simp [le, num, Nat.mod_one]
  | succ k ih => simp only [le, num, ih, Nat.pow_succ]; rw [Nat.mul_comm (256 ^ k) 256, Nat.mod_mul]; simp
set_option maxHeartbeats 1000000 in
theorem clone_bytes (l : List UInt8) (A : Option Addr) (c : Nat) (w : World) (hr : Reads w A (l.map byteV)) (hl : l.length ≤ 140737488355328) :
    Calls Try.prog 89 #[.slice A l.length c] w fun e w' => ∃ v, e = .returned v ∧ w'.ownsRow w.heap.size 5 1 v l.length (l.map byteV) ∧ Kept [] w w' := by
  have HR := Lib.hid hr
  clear hr
  have heq := fun (wx : World) => Lib.run_eql_slice_nil (P := Try.prog) wx 31 5 A l.length c 0 0 Try.underlying31
  rcases A with _ | ad
  · have hl0 : l = [] := by
      rcases l with _ | ⟨b, l⟩
      · rfl
      · obtain ⟨_, _, h, _⟩ := HR.out (by simp); cases h
    subst hl0
    clear hl heq
    have heq := fun (wx : World) => Lib.run_eql_slice_nil (P := Try.prog) wx 31 5 none 0 c 0 0 Try.underlying31
    simp only [List.length_nil]
    go_enter Try.func89, Try.ntmps89
    go_wp2
    go_ret
    exact ⟨_, rfl, World.ownsRow_nil _ _ _ _, Kept.refl _ _⟩
  · go_enter Try.func89, Try.ntmps89
    go_wp2_with (first | (at_builtin; refine wpList_app _ rfl (.tmp 5) (.tmp 6) _ rfl 5 (.int .u8 0) 1 1 Try.underlying31 infoU8 rfl (by decide) w.heap.size (.slice (some ⟨w.heap.size, 0, none⟩) 0 0) 0 [] rfl (World.ownsRow_made w #[] 0 (Nat.le_refl _) (by decide) rfl) _ l.length c (l.map byteV) rfl (by simp) (HR.out.kept0 ((Kept.refl _ _).alloc _)) (by simp [byteV, Value.oneCell']) (by omega) (by unfold maxLen; omega) (by simp) ?_; intro v1 w1 hown1 hk1 hb1))
    go_ret
    refine ⟨_, rfl, by simpa using hown1, ((Kept.refl _ _).alloc _).then hk1 (by simp [Value.ownBlock])⟩
theorem clone_bytes_n (l : List UInt8) (n : Nat) (A : Option Addr) (c : Nat) (w : World) (hn : l.length = n) (hr : Reads w A (l.map byteV)) (hl : n ≤ 140737488355328) :
    Calls Try.prog 89 #[.slice A n c] w fun e w' => ∃ v, e = .returned v ∧ w'.ownsRow w.heap.size 5 1 v n (l.map byteV) ∧ Kept [] w w' := by
  subst hn
  exact clone_bytes l A c w hr hl
/-- The next byte is put to those that were read. -/
theorem num_step {l : List UInt8} {k q x : Nat} (hk : k < l.length) (h8 : k < 8) (hq : q = num (l.take k)) (hx : x = l[k].toNat) :
    Value.int .u64 (bits .or .u64 (q : Int) (IntKind.u64.wrap (IntKind.u64.wrap (x : Int) * 2 ^ (8 * k)))) = .int .u64 ((num (l.take (k + 1)) : Nat) : Int) := by
  have hq2 : q < 256 ^ k := by
    have := num_lt (l.take k)
    rw [List.length_take, Nat.min_eq_left (Nat.le_of_lt hk)] at this
    omega
  have hx2 : x < 256 := by rw [hx]; exact l[k].toNat_lt
  have hp : 256 ^ k ≤ 256 ^ 7 := Nat.pow_le_pow_right (by decide) (by omega)
  have hm : x * 256 ^ k < 18446744073709551616 := by
    have h1 : x * 256 ^ k ≤ 255 * 256 ^ 7 := Nat.mul_le_mul (by omega) hp
    have h2 : 255 * 256 ^ 7 < 18446744073709551616 := by decide
    omega
  have e2 : (2 : Int) ^ (8 * k) = ((256 ^ k : Nat) : Int) := by rw [Int.pow_mul]; simp
  have e3 : IntKind.u64.wrap (IntKind.u64.wrap (x : Int) * 2 ^ (8 * k)) = ((x * 256 ^ k : Nat) : Int) := by
    have e1 : IntKind.u64.wrap (x : Int) = x := by rw [IntKind.wrap_u64]; omega
    rw [e1, e2, ← Int.natCast_mul, IntKind.wrap_u64]
    omega
  have e4 : q ||| (x * 256 ^ k) = q + x * 256 ^ k := by
    have h := Nat.shiftLeft_add_eq_or_of_lt (i := 8 * k) (b := q) (by rw [Nat.pow_mul]; exact hq2) x
    rw [Nat.shiftLeft_eq, Nat.pow_mul] at h
    rw [Nat.or_comm, ← h, Nat.add_comm]
  rw [e3, u64_or_nat q (x * 256 ^ k) (by have : 256 ^ k ≤ 256 ^ 7 := hp; omega) hm, e4]
  have e5 : l.take (k + 1) = l.take k ++ [l[k]] := by rw [List.take_add_one, List.getElem?_eq_getElem hk]; rfl
  rw [e5, num_snoc, List.length_take, Nat.min_eq_left (Nat.le_of_lt hk), ← hq, ← hx]
set_option maxHeartbeats 1000000 in
theorem number_u32 (l : List UInt8) (A : Option Addr) (c : Nat) (w : World) (hr : Reads w A (l.map byteV)) (hl : l.length ≤ 8) :
    Calls Try.prog 120 #[.slice A l.length c] w fun e w' => e = .returned (.int .u32 ((num l % 4294967296 : Nat) : Int)) ∧ w = w' := by
  have HR := Lib.hid hr
  clear hr
  go_enter Try.func120, Try.ntmps120
  go_wp2
  go_loop [3, 8] (fun s i => ∃ k : Nat, k ≤ l.length ∧ i = .int .i64 k ∧ s = .int .u64 ((num (l.take k) : Nat) : Int)) (fun _ i => l.length - (intOf i).toNat)
  case atStart => exact ⟨0, by omega, rfl, rfl⟩
  case round =>
    obtain ⟨k, hk, rfl, rfl⟩ := hrel
    obtain ⟨q, hq⟩ : ∃ q, q = num (l.take k) := ⟨_, rfl⟩
    rw [← hq]
    have Hq := Lib.hid hq
    clear hq
    by_cases hlt : k < l.length
    · obtain ⟨b, off, rfl, hc⟩ := byteV_at HR.out hlt
      obtain ⟨x, hx⟩ : ∃ x, x = l[k].toNat := ⟨_, rfl⟩
      rw [← hx] at hc
      have Hx := Lib.hid hx
      clear hx
      go_wp2
      go_round
      case rel => exact ⟨k + 1, by omega, by go_num, num_step hlt (by omega) Hq.out Hx.out⟩
      case measure => simp [intOf]; omega
    · obtain rfl : k = l.length := by omega
      go_wp2
      go_ret
      exact ⟨ret_int (by rw [Hq.out, List.take_of_length_le (Nat.le_refl _)]), rfl⟩
set_option maxHeartbeats 1000000 in
theorem number_i64 (l : List UInt8) (A : Option Addr) (c : Nat) (w : World) (hr : Reads w A (l.map byteV)) (hl : l.length ≤ 8) :
    Calls Try.prog 94 #[.slice A l.length c] w fun e w' => e = .returned (.int .i64 (wrap64 ((num l : Nat) : Int))) ∧ w = w' := by
  have HR := Lib.hid hr
  clear hr
  go_enter Try.func94, Try.ntmps94
  go_wp2
  go_loop [3, 8] (fun s i => ∃ k : Nat, k ≤ l.length ∧ i = .int .i64 k ∧ s = .int .u64 ((num (l.take k) : Nat) : Int)) (fun _ i => l.length - (intOf i).toNat)
  case atStart => exact ⟨0, by omega, rfl, rfl⟩
  case round =>
    obtain ⟨k, hk, rfl, rfl⟩ := hrel
    obtain ⟨q, hq⟩ : ∃ q, q = num (l.take k) := ⟨_, rfl⟩
    rw [← hq]
    have Hq := Lib.hid hq
    clear hq
    by_cases hlt : k < l.length
    · obtain ⟨b, off, rfl, hc⟩ := byteV_at HR.out hlt
      obtain ⟨x, hx⟩ : ∃ x, x = l[k].toNat := ⟨_, rfl⟩
      rw [← hx] at hc
      have Hx := Lib.hid hx
      clear hx
      go_wp2
      go_round
      case rel => exact ⟨k + 1, by omega, by go_num, num_step hlt (by omega) Hq.out Hx.out⟩
      case measure => simp [intOf]; omega
    · obtain rfl : k = l.length := by omega
      go_wp2
      go_ret
      exact ⟨ret_int (by rw [Hq.out, List.take_of_length_le (Nat.le_refl _)]), rfl⟩
set_option maxHeartbeats 1000000 in
theorem number_u8 (l : List UInt8) (A : Option Addr) (c : Nat) (w : World) (hr : Reads w A (l.map byteV)) (hl : l.length ≤ 8) :
    Calls Try.prog 112 #[.slice A l.length c] w fun e w' => e = .returned (.int .u8 ((num l % 256 : Nat) : Int)) ∧ w = w' := by
  have HR := Lib.hid hr
  clear hr
  go_enter Try.func112, Try.ntmps112
  go_wp2
  go_loop [3, 8] (fun s i => ∃ k : Nat, k ≤ l.length ∧ i = .int .i64 k ∧ s = .int .u64 ((num (l.take k) : Nat) : Int)) (fun _ i => l.length - (intOf i).toNat)
  case atStart => exact ⟨0, by omega, rfl, rfl⟩
  case round =>
    obtain ⟨k, hk, rfl, rfl⟩ := hrel
    obtain ⟨q, hq⟩ : ∃ q, q = num (l.take k) := ⟨_, rfl⟩
    rw [← hq]
    have Hq := Lib.hid hq
    clear hq
    by_cases hlt : k < l.length
    · obtain ⟨b, off, rfl, hc⟩ := byteV_at HR.out hlt
      obtain ⟨x, hx⟩ : ∃ x, x = l[k].toNat := ⟨_, rfl⟩
      rw [← hx] at hc
      have Hx := Lib.hid hx
      clear hx
      go_wp2
      go_round
      case rel => exact ⟨k + 1, by omega, by go_num, num_step hlt (by omega) Hq.out Hx.out⟩
      case measure => simp [intOf]; omega
    · obtain rfl : k = l.length := by omega
      go_wp2
      go_ret
      exact ⟨ret_int (by rw [Hq.out, List.take_of_length_le (Nat.le_refl _)]), rfl⟩
theorem put32_any (n : Nat) (w : World) (hn : n < 4294967296) :
    Calls Try.prog 85 #[.int .u32 (n : Int)] w fun e w' => e = .returned (.slice (some ⟨w.heap.size, 0, none⟩) 4 4) ∧ Blk w' w.heap.size 5 ((le n 4).map byteV) ∧ Kept [] w w' := by
  go_enter Try.func85, Try.ntmps85
  go_wp2_with fail
  refine (bytes_any n 4 _ (by omega)).mono ?_
  rintro e w1 ⟨rfl, hb, hk⟩
  go_wp2
  go_ret
  exact ⟨rfl, hb, hk⟩
/-- A number of 64 bits with a sign, by its bits. -/
def u64of (m : Int) : Nat := (m % 18446744073709551616).toNat
theorem u64of_lt (m : Int) : Lt64 (u64of m) := by unfold Lt64 u64of; omega
theorem wrap_u64of (m : Int) : IntKind.u64.wrap m = ((u64of m : Nat) : Int) := by rw [IntKind.wrap_u64]; unfold u64of; omega
theorem wrap64_u64of (m : Int) (h : -9223372036854775808 ≤ m) (h2 : m ≤ 9223372036854775807) : wrap64 ((u64of m : Nat) : Int) = m := by unfold wrap64 u64of; omega
theorem put64_any (m : Int) (w : World) :
    Calls Try.prog 34 #[.int .i64 m] w fun e w' => e = .returned (.slice (some ⟨w.heap.size, 0, none⟩) 8 8) ∧ Blk w' w.heap.size 5 ((le (u64of m) 8).map byteV) ∧ Kept [] w w' := by
  go_enter Try.func34, Try.ntmps34
  go_wp2_with fail
  rw [wrap_u64of]
  refine (bytes_any (u64of m) 8 _ (by omega)).mono ?_
  rintro e w1 ⟨rfl, hb, hk⟩
  go_wp2
  go_ret
  exact ⟨rfl, hb, hk⟩
/-! Oct3 -/
open Go.RowKit
open Go.RowKit (wrap32 wrap64)
/-- What a read gives up with. -/
def brk (e at_ : Int) : PanicEntry := { v := .iface 171 (.agg #[.int .i64 e, .int .i64 at_]), recovered := false }
theorem fail_any (e at_ : Int) (w : World) :
    Calls Try.prog 146 #[.int .i64 e, .int .i64 at_] w fun x w' => x = .panicked [brk e at_] ∧ w = w' := by
  go_enter Try.func146, Try.ntmps146
  go_wp2
  exact ⟨rfl, rfl, rfl⟩
section
variable (p : Nat) (A : Option Addr) (len cap : Nat) (pos : Nat) (n : Int) (w : World)
theorem need_nil : Calls Try.prog 121 #[.pointer none, .int .i64 n] w fun x w' => x = .panicked [brk 10 0] ∧ w = w' := by
  go_enter Try.func121, Try.ntmps121
  go_wp2_with (go_at_call 146; refine (fail_any _ _ _).mono ?_; rintro x w' ⟨rfl, rfl⟩)
  exact ⟨rfl, rfl, rfl⟩
theorem need_dead (e : Int) (he : e ≠ 0) (h2 : w.cell? ⟨p, 2, none⟩ = some (.int .i64 e)) :
    Calls Try.prog 121 #[.pointer (some ⟨p, 0, none⟩), .int .i64 n] w fun x w' => x = .panicked [brk 10 0] ∧ w = w' := by
  have hb : (e != 0) = true := by rw [bne_iff_ne]; exact he
  clear he
  go_enter Try.func121, Try.ntmps121
  go_wp2_with (go_at_call 146; refine (fail_any _ _ _).mono ?_; rintro x w' ⟨rfl, rfl⟩)
  exact ⟨rfl, rfl, rfl⟩
theorem need_neg (hn : n < 0) (h1 : w.cell? ⟨p, 1, none⟩ = some (.int .i64 pos)) (h2 : w.cell? ⟨p, 2, none⟩ = some (.int .i64 0)) :
    Calls Try.prog 121 #[.pointer (some ⟨p, 0, none⟩), .int .i64 n] w fun x w' => x = .panicked [brk 3 pos] ∧ w = w' := by
  go_enter Try.func121, Try.ntmps121
  go_wp2_with (go_at_call 146; refine (fail_any _ _ _).mono ?_; rintro x w' ⟨rfl, rfl⟩)
  exact ⟨rfl, rfl, rfl⟩
theorem need_short (hn : 0 ≤ n) (hs : (len : Int) - pos < n) (hp : pos ≤ len) (hl : (len : Int) ≤ 9223372036854775807) (h0 : w.cell? ⟨p, 0, none⟩ = some (.slice A len cap)) (h1 : w.cell? ⟨p, 1, none⟩ = some (.int .i64 pos)) (h2 : w.cell? ⟨p, 2, none⟩ = some (.int .i64 0)) :
    Calls Try.prog 121 #[.pointer (some ⟨p, 0, none⟩), .int .i64 n] w fun x w' => x = .panicked [brk 2 len] ∧ ∃ k, w' = w.drewN k := by
  go_enter Try.func121, Try.ntmps121
  go_wp2_with fail
  go_quiet (fail)
  go_wp2_with (go_at_call 146; refine (fail_any _ _ _).mono ?_; rintro x w' ⟨rfl, rfl⟩)
  exact ⟨rfl, rfl, _, rfl⟩
theorem need_ok (hn : 0 ≤ n) (hs : n ≤ (len : Int) - pos) (hp : pos ≤ len) (hl : (len : Int) ≤ 9223372036854775807) (h0 : w.cell? ⟨p, 0, none⟩ = some (.slice A len cap)) (h1 : w.cell? ⟨p, 1, none⟩ = some (.int .i64 pos)) (h2 : w.cell? ⟨p, 2, none⟩ = some (.int .i64 0)) :
    Calls Try.prog 121 #[.pointer (some ⟨p, 0, none⟩), .int .i64 n] w fun x w' => x = .returned (.tuple #[]) ∧ ∃ k, w' = w.drewN k := by
  go_enter Try.func121, Try.ntmps121
  go_wp2_with fail
  go_quiet (fail)
  go_wp2
  go_end0
  exact ⟨rfl, _, rfl⟩
theorem at_nil : Calls Try.prog 42 #[.pointer none] w fun x w' => x = .returned (.int .i64 0) ∧ w = w' := by
  go_enter Try.func42, Try.ntmps42
  go_wp2
  go_ret
  exact ⟨rfl, rfl⟩
theorem at_any (h1 : w.cell? ⟨p, 1, none⟩ = some (.int .i64 n)) : Calls Try.prog 42 #[.pointer (some ⟨p, 0, none⟩)] w fun x w' => x = .returned (.int .i64 n) ∧ w = w' := by
  go_enter Try.func42, Try.ntmps42
  go_wp2
  go_ret
  exact ⟨rfl, rfl⟩
theorem fault_nil : Calls Try.prog 96 #[.pointer none] w fun x w' => x = .returned (.agg #[.int .i64 0, .int .i64 0]) ∧ Kept [] w w' := by
  go_enter Try.func96, Try.ntmps96
  go_wp2
  exact bodyPost_ret (v := .agg #[.int .i64 0, .int .i64 0]) (by simp [results, Try.results96, go_sem]) rfl ⟨rfl, (Kept.refl _ _).alloc _⟩
theorem fault_any (e f : Int) (h2 : w.cell? ⟨p, 2, none⟩ = some (.int .i64 e)) (h3 : w.cell? ⟨p, 3, none⟩ = some (.int .i64 f)) :
    Calls Try.prog 96 #[.pointer (some ⟨p, 0, none⟩)] w fun x w' => x = .returned (.agg #[.int .i64 e, .int .i64 f]) ∧ Kept [] w w' := by
  have hp := World.block_lt_of_cell? _ _ h2
  go_enter Try.func96, Try.ntmps96
  go_wp2
  exact bodyPost_ret (v := .agg #[.int .i64 e, .int .i64 f]) (by simp [results, Try.results96, go_sem]) rfl ⟨rfl, (Kept.refl _ _).alloc _⟩
theorem end_nil : Calls Try.prog 97 #[.pointer none] w fun x w' => x = .returned (.bool false) ∧ ∃ k, w' = w.drewN k := by
  go_enter Try.func97, Try.ntmps97
  go_wp2_with fail
  go_quiet (fail)
  go_wp2
  go_ret
  exact ⟨rfl, _, rfl⟩
theorem end_dead (e : Int) (he : e ≠ 0) (h2 : w.cell? ⟨p, 2, none⟩ = some (.int .i64 e)) : Calls Try.prog 97 #[.pointer (some ⟨p, 0, none⟩)] w fun x w' => x = .returned (.bool false) ∧ ∃ k, w' = w.drewN k := by
  have hb : (e == 0) = false := by rw [beq_eq_false_iff_ne]; exact he
  clear he
  go_enter Try.func97, Try.ntmps97
  go_wp2_with fail
  go_quiet (fail)
  go_wp2
  go_ret
  exact ⟨rfl, _, rfl⟩
theorem end_ok (h0 : w.cell? ⟨p, 0, none⟩ = some (.slice A len cap)) (h1 : w.cell? ⟨p, 1, none⟩ = some (.int .i64 pos)) (h2 : w.cell? ⟨p, 2, none⟩ = some (.int .i64 0)) :
    Calls Try.prog 97 #[.pointer (some ⟨p, 0, none⟩)] w fun x w' => x = .returned (.bool ((pos : Int) == (len : Int))) ∧ ∃ k, w' = w.drewN k := by
  go_enter Try.func97, Try.ntmps97
  go_wp2_with fail
  go_quiet (fail)
  go_wp2
  go_ret
  exact ⟨rfl, _, rfl⟩
end
/-! Oct4 -/
open Go.RowKit
open Go.RowKit (wrap32 wrap64)
/-- A reader: its bytes, where it stands, its fault. -/
structure Rd where
  b : List UInt8
  pos : Nat
  e : Int
  fat : Int
/-- Block p is that reader (t: the struct's type). -/
structure RdAt (t : TypeId) (w : World) (p : Nat) (R : Rd) : Prop where
  ex : ∃ A cap, Blk w p t [.slice A R.b.length cap, .int .i64 R.pos, .int .i64 R.e, .int .i64 R.fat] ∧ w.ownsRow 0 5 1 (.slice A R.b.length cap) R.b.length (R.b.map byteV)
  le : R.pos ≤ R.b.length
  big : R.b.length ≤ 1073741824
section
set_option maxHeartbeats 1000000
variable (p g : Nat) (l : List UInt8) (cap : Nat) (pos n : Nat) (f : Int) (w : World)
theorem drop_reads {w : World} {l : List UInt8} {g : Nat} {pos n : Nat} (hr : Reads w (some ⟨g, 0, none⟩) (l.map byteV)) : Reads w (some ⟨g, pos, none⟩) (((l.drop pos).take n).map byteV) := by
  intro hx
  obtain ⟨b, off, e, hb, hc⟩ := hr (by rintro h0; simp at h0; subst h0; simp at hx)
  obtain ⟨rfl, rfl⟩ : b = g ∧ off = 0 := by simp at e; exact ⟨e.1.symm, e.2.symm⟩
  refine ⟨b, pos, rfl, hb, fun j u hu => ?_⟩
  have : (l.map byteV)[pos + j]? = some u := by
    rw [List.map_take, List.map_drop, List.getElem?_take] at hu
    split at hu
    · rw [List.getElem?_drop] at hu; exact hu
    · cases hu
  have := hc (pos + j) u this
  rwa [Nat.zero_add] at this
theorem next_ok (hp : pos + n ≤ l.length) (hcap : l.length ≤ cap) (hne : cap ≠ pos) (hl : l.length ≤ 1073741824) (hb : Blk w p 138 [.slice (some ⟨g, 0, none⟩) l.length cap, .int .i64 pos, .int .i64 0, .int .i64 f]) (hr : Reads w (some ⟨g, 0, none⟩) (l.map byteV)) :
    Calls Try.prog 95 #[.pointer (some ⟨p, 0, none⟩), .int .i64 n] w fun x w' => ∃ v, x = .returned v ∧ w'.ownsRow w.heap.size 5 1 v n (((l.drop pos).take n).map byteV) ∧
      Blk w' p 138 [.slice (some ⟨g, 0, none⟩) l.length cap, .int .i64 ((pos + n : Nat) : Int), .int .i64 0, .int .i64 f] ∧ Kept [p] w w' := by
  have h0 := hb.cell 0
  have h1 := hb.cell 1
  have h2 := hb.cell 2
  simp only [List.getElem?_cons_zero, List.getElem?_cons_succ] at h0 h1 h2
  have hlt := hb.lt
  have hf := hb.frozen 1
  have HB := Lib.hid hb
  have HR := Lib.hid hr
  clear hb hr
  have hlen : ((l.drop pos).take n).length = n := by simp; omega
  have Hlen := Lib.hid hlen
  clear hlen
  go_enter Try.func95, Try.ntmps95
  go_wp2_with (go_at_call 121; refine (need_ok p (some ⟨g, 0, none⟩) l.length cap pos n _ (by omega) (by omega) (by omega) (by omega) h0 h1 h2).mono ?_; rintro x w1 ⟨rfl, k1, rfl⟩)
  have hS0 : Kept [] w (w.drewN k1).drew := ((Kept.refl _ _).drewN k1).drew
  have i1 : (0 : Int) ≤ (pos : Int) := by omega
  have i2 : (pos : Int) ≤ (pos : Int) + (n : Int) := by omega
  have i3 : (pos : Int) + (n : Int) ≤ (cap : Int) := by omega
  have i6 : ¬ cap = pos := hne
  have i5 : ((pos : Int) + (n : Int)).toNat = pos + n := by omega
  have i4 : IntKind.i64.wrap ((pos : Int) + (n : Int)) = (pos : Int) + (n : Int) := IntWalk.i64_in _ (by omega)
  go_region_held3 (fun w' => Kept [] w w' ∧ w'.cell? ⟨p, 0, none⟩ = some (.slice (some ⟨g, 0, none⟩) l.length cap) ∧ w'.cell? ⟨p, 1, none⟩ = some (.int .i64 pos)) (first | assumption | exact ⟨hS0, h0, h1⟩) (first | (go_at_call 89; refine (clone_bytes_n ((l.drop pos).take n) n _ _ _ Hlen.out (drop_reads (HR.out.kept0 hS0)) (by omega)).mono ?_; rintro x w2 ⟨v, rfl, hown, hk2⟩; have hS : Kept [] w w2 ∧ w2.cell? ⟨p, 0, none⟩ = some (.slice (some ⟨g, 0, none⟩) l.length cap) ∧ w2.cell? ⟨p, 1, none⟩ = some (.int .i64 pos) := ⟨hS0.trans hk2, ((hS0.trans hk2).cell (p := ⟨p, 0, none⟩) hlt (by simp)).trans h0, ((hS0.trans hk2).cell (p := ⟨p, 1, none⟩) hlt (by simp)).trans h1⟩))
  obtain ⟨hk, hc0, hc1⟩ := hS
  have hf1 := (hk.frozen (p := ⟨p, 1, none⟩) hlt (by simp)).trans hf
  clear i5 hk2 h0 h1 h2 hS0 hc0 hf
  have HK := Lib.hid hk
  have HO := Lib.hid hown
  clear hk hown
  go_wp2
  go_ret
  refine ⟨_, rfl, ?_, ?_, ?_⟩
  · exact ownsRow_setCell_below HO.out (a := ⟨p, 1, none⟩) hlt _
  · have := (HB.out.kept HK.out (by simp)).set 1 (.int .i64 ((pos : Int) + (n : Int)))
    simpa using this
  · exact (HK.out.mono (by simp)).setCell (.inl (by simp)) _
end
theorem run_assert_hit {P : Program} (w : World) (xt t : TypeId) (fs : Array Field) (v : Value) (h : P.underlying t = some (.struct fs)) : (Instr.typeAssert (.iface t v) xt t true).run P w = .ok (.tuple #[v, .bool true]) w := by
  simp [Instr.typeAssert, run_underlying h]
set_option maxHeartbeats 400000 in
theorem caught_idle (a : Option Addr) (w : World) :
    CallsD Try.prog 93 #[.pointer a] .returning w fun e u' w' => e = .returned (.tuple #[]) ∧ u' = .returning ∧ w = w' := by
  refine callsD_of_wpS Try.func93 rfl fun c₀ cs hu => ?_
  refine wpS_seq_k fun K hK => ?_
  apply wpS_region
  simp only [Try.ntmps93, List.size_toArray, List.length_cons, List.length_nil, Nat.reduceAdd, Nat.reduceSub, Array.replicate_succ,
     Array.replicate_zero, List.push_toArray, List.append_toArray, List.nil_append, List.cons_append]
  simp [wpOpsS, go_sem, recoverD, hu, Exit.thenS]
  refine hK _ _ _ (wpS_of_wp ?_)
  clear hK K
  have HU := Lib.hid hu
  clear hu
  go_wp2
  exact postS_ret rfl rfl .returning (by rw [← frame_mode c₀ HU.out]) ⟨rfl, rfl, rfl⟩
set_option maxHeartbeats 400000 in
theorem caught_nil (e a : Int) (older : List PanicEntry) (w : World) :
    CallsD Try.prog 93 #[.pointer none] (.panicking (brk e a :: older)) w fun x u' w' => x = .returned (.tuple #[]) ∧ u' = .panicking ({ brk e a with recovered := true } :: older) ∧ Kept [] w w' := by
  have hta := fun (v : Value) (wx : World) => run_assert_hit (P := Try.prog) wx 20 171 _ v Try.underlying171
  unfold brk
  refine callsD_of_wpS Try.func93 rfl fun c₀ cs hu => ?_
  refine wpS_seq_k fun K hK => ?_
  apply wpS_region
  simp only [Try.ntmps93, List.size_toArray, List.length_cons, List.length_nil, Nat.reduceAdd, Nat.reduceSub, Array.replicate_succ,
     Array.replicate_zero, List.push_toArray, List.append_toArray, List.nil_append, List.cons_append]
  simp [wpOpsS, go_sem, recoverD, hu, Exit.thenS]
  refine hK _ _ _ (wpS_of_wp ?_)
  clear hK K
  have HU := Lib.hid hu
  clear hu
  go_wp2
  exact postS_end rfl rfl _ rfl ⟨rfl, rfl, (Kept.refl _ _).alloc _⟩
set_option maxHeartbeats 400000 in
theorem caught_dead (p : Nat) (e a f : Int) (hf : f ≠ 0) (older : List PanicEntry) (w : World) (h2 : w.cell? ⟨p, 2, none⟩ = some (.int .i64 f)) :
    CallsD Try.prog 93 #[.pointer (some ⟨p, 0, none⟩)] (.panicking (brk e a :: older)) w fun x u' w' => x = .returned (.tuple #[]) ∧ u' = .panicking ({ brk e a with recovered := true } :: older) ∧ Kept [] w w' := by
  have hb : (f == 0) = false := by rw [beq_eq_false_iff_ne]; exact hf
  have hlt := World.block_lt_of_cell? _ _ h2
  clear hf
  have hta := fun (v : Value) (wx : World) => run_assert_hit (P := Try.prog) wx 20 171 _ v Try.underlying171
  unfold brk
  refine callsD_of_wpS Try.func93 rfl fun c₀ cs hu => ?_
  refine wpS_seq_k fun K hK => ?_
  apply wpS_region
  simp only [Try.ntmps93, List.size_toArray, List.length_cons, List.length_nil, Nat.reduceAdd, Nat.reduceSub, Array.replicate_succ,
     Array.replicate_zero, List.push_toArray, List.append_toArray, List.nil_append, List.cons_append]
  simp [wpOpsS, go_sem, recoverD, hu, Exit.thenS]
  refine hK _ _ _ (wpS_of_wp ?_)
  clear hK K
  have HU := Lib.hid hu
  clear hu
  go_wp2
  exact postS_end rfl rfl _ rfl ⟨rfl, rfl, (Kept.refl _ _).alloc _⟩
set_option maxHeartbeats 400000 in
theorem caught_first (p : Nat) (v pos : Value) (e a f : Int) (older : List PanicEntry) (w : World) (hB : Blk w p 138 [v, pos, .int .i64 0, .int .i64 f]) :
    CallsD Try.prog 93 #[.pointer (some ⟨p, 0, none⟩)] (.panicking (brk e a :: older)) w fun x u' w' => x = .returned (.tuple #[]) ∧ u' = .panicking ({ brk e a with recovered := true } :: older) ∧
      Blk w' p 138 [v, pos, .int .i64 e, .int .i64 a] ∧ Kept [p] w w' := by
  have h2 := hB.cell 2
  have h3 := hB.cell 3
  have f2 := hB.frozen 2
  have f3 := hB.frozen 3
  simp only [List.getElem?_cons_zero, List.getElem?_cons_succ] at h2 h3
  have hlt := hB.lt
  have HB := Lib.hid hB
  clear hB
  have hta := fun (v : Value) (wx : World) => run_assert_hit (P := Try.prog) wx 20 171 _ v Try.underlying171
  unfold brk
  refine callsD_of_wpS Try.func93 rfl fun c₀ cs hu => ?_
  refine wpS_seq_k fun K hK => ?_
  apply wpS_region
  simp only [Try.ntmps93, List.size_toArray, List.length_cons, List.length_nil, Nat.reduceAdd, Nat.reduceSub, Array.replicate_succ,
     Array.replicate_zero, List.push_toArray, List.append_toArray, List.nil_append, List.cons_append]
  simp [wpOpsS, go_sem, recoverD, hu, Exit.thenS]
  refine hK _ _ _ (wpS_of_wp ?_)
  clear hK K
  have HU := Lib.hid hu
  clear hu
  go_wp2
  refine postS_end rfl rfl _ rfl ⟨rfl, rfl, ?_, (((Kept.refl [p] w).setCell (p := ⟨p, 2, none⟩) (.inl (List.mem_singleton.2 rfl)) _).setCell (p := ⟨p, 3, none⟩) (.inl (List.mem_singleton.2 rfl)) _).alloc _⟩
  have := ((HB.out.set 2 (.int .i64 e)).set 3 (.int .i64 a)).alloc (.cells #[.int .i64 e, .int .i64 a] 171)
  simpa using this
end Go.Proofs.Ytibjpjpbmkdddaa
