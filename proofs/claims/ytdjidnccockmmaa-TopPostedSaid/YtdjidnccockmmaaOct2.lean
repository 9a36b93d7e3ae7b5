/- The walks of the copies of bytes, of numbers put together of bytes, and of the bytes of numbers. -/
import Derived.Test.YtdjidnccockmmaaOct1
namespace Go.Proofs.Ytdjidnccockmmaa
open Go.RowKit
open Go.RowKit (wrap32 wrap64)

/-- The number that bytes are, the lowest one first. -/
def num : List UInt8 → Nat
  | [] => 0
  | b :: l => b.toNat + 256 * num l
theorem num_lt (l : List UInt8) : num l < 256 ^ l.length := by
  induction l with
  | nil => simp [num]
  | cons b l ih => have := b.toNat_lt; simp only [num, List.length_cons, Nat.pow_succ]; omega
theorem num_snoc (l : List UInt8) (b : UInt8) : num (l ++ [b]) = num l + b.toNat * 256 ^ l.length := by
  induction l with
  | nil => simp [num]
  | cons c l ih => simp only [List.cons_append, num, ih, List.length_cons, Nat.pow_succ, Nat.mul_add, Nat.add_assoc]; rw [Nat.mul_left_comm 256 b.toNat, Nat.mul_comm 256 (256 ^ l.length)]
theorem num_le (n k : Nat) : num (le n k) = n % 256 ^ k := by
  induction k generalizing n with
  | zero => simp [le, num, Nat.mod_one]
  | succ k ih => simp only [le, num, ih, Nat.pow_succ]; rw [Nat.mul_comm (256 ^ k) 256, Nat.mod_mul]; simp

set_option maxHeartbeats 1000000 in
theorem clone_bytes (l : List UInt8) (A : Option Addr) (c : Nat) (w : World) (hr : Reads w A (l.map byteV)) (hl : l.length ≤ 140737488355328) :
    Calls Try.prog 53 #[.slice A l.length c] w fun e w' => ∃ v, e = .returned v ∧ w'.ownsRow w.heap.size 5 1 v l.length (l.map byteV) ∧ Kept [] w w' := by
  have HR := Lib.hid hr
  clear hr
  have heq := fun (wx : World) => Lib.run_eql_slice_nil (P := Try.prog) wx 25 5 A l.length c 0 0 Try.underlying25
  rcases A with _ | ad
  · have hl0 : l = [] := by
      rcases l with _ | ⟨b, l⟩
      · rfl
      · obtain ⟨_, _, h, _⟩ := HR.out (by simp); cases h
    subst hl0
    clear hl heq
    have heq := fun (wx : World) => Lib.run_eql_slice_nil (P := Try.prog) wx 25 5 none 0 c 0 0 Try.underlying25
    simp only [List.length_nil]
    go_enter Try.func53, Try.ntmps53
    go_wp2
    go_ret
    exact ⟨_, rfl, World.ownsRow_nil _ _ _ _, Kept.refl _ _⟩
  · go_enter Try.func53, Try.ntmps53
    go_wp2_with (first | (at_builtin; refine wpList_app _ rfl (.tmp 5) (.tmp 6) _ rfl 5 (.int .u8 0) 1 1 Try.underlying25 infoU8 rfl (by decide) w.heap.size (.slice (some ⟨w.heap.size, 0, none⟩) 0 0) 0 [] rfl (World.ownsRow_made w #[] 0 (Nat.le_refl _) (by decide) rfl) _ l.length c (l.map byteV) rfl (by simp) (HR.out.kept0 ((Kept.refl _ _).alloc _)) (by simp [byteV, Value.oneCell']) (by omega) (by unfold maxLen; omega) (by simp) ?_; intro v1 w1 hown1 hk1 hb1))
    go_ret
    refine ⟨_, rfl, by simpa using hown1, ((Kept.refl _ _).alloc _).then hk1 (by simp [Value.ownBlock])⟩

theorem clone_bytes_n (l : List UInt8) (n : Nat) (A : Option Addr) (c : Nat) (w : World) (hn : l.length = n) (hr : Reads w A (l.map byteV)) (hl : n ≤ 140737488355328) :
    Calls Try.prog 53 #[.slice A n c] w fun e w' => ∃ v, e = .returned v ∧ w'.ownsRow w.heap.size 5 1 v n (l.map byteV) ∧ Kept [] w w' := by
  subst hn
  exact clone_bytes l A c w hr hl

/-- The next byte is put to those that were read. -/
theorem num_step {l : List UInt8} {k q x : Nat} (hk : k < l.length) (h8 : k < 8) (hq : q = num (l.take k)) (hx : x = l[k].toNat) :
    Value.int .u64 (bits .or .u64 (q : Int) (IntKind.u64.wrap (IntKind.u64.wrap (x : Int) * 2 ^ (8 * k)))) = .int .u64 ((num (l.take (k + 1)) : Nat) : Int) := by
  have hq2 : q < 256 ^ k := by
    have := num_lt (l.take k)
    rw [List.length_take, Nat.min_eq_left (Nat.le_of_lt hk)] at this
    omega
  have hx2 : x < 256 := by rw [hx]; exact l[k].toNat_lt
  have hp : 256 ^ k ≤ 256 ^ 7 := Nat.pow_le_pow_right (by decide) (by omega)
  have hm : x * 256 ^ k < 18446744073709551616 := by
    have h1 : x * 256 ^ k ≤ 255 * 256 ^ 7 := Nat.mul_le_mul (by omega) hp
    have h2 : 255 * 256 ^ 7 < 18446744073709551616 := by decide
    omega
  have e2 : (2 : Int) ^ (8 * k) = ((256 ^ k : Nat) : Int) := by rw [Int.pow_mul]; simp
  have e3 : IntKind.u64.wrap (IntKind.u64.wrap (x : Int) * 2 ^ (8 * k)) = ((x * 256 ^ k : Nat) : Int) := by
    have e1 : IntKind.u64.wrap (x : Int) = x := by rw [IntKind.wrap_u64]; omega
    rw [e1, e2, ← Int.natCast_mul, IntKind.wrap_u64]
    omega
  have e4 : q ||| (x * 256 ^ k) = q + x * 256 ^ k := by
    have h := Nat.shiftLeft_add_eq_or_of_lt (i := 8 * k) (b := q) (by rw [Nat.pow_mul]; exact hq2) x
    rw [Nat.shiftLeft_eq, Nat.pow_mul] at h
    rw [Nat.or_comm, ← h, Nat.add_comm]
  rw [e3, u64_or_nat q (x * 256 ^ k) (by have : 256 ^ k ≤ 256 ^ 7 := hp; omega) hm, e4]
  have e5 : l.take (k + 1) = l.take k ++ [l[k]] := by rw [List.take_add_one, List.getElem?_eq_getElem hk]; rfl
  rw [e5, num_snoc, List.length_take, Nat.min_eq_left (Nat.le_of_lt hk), ← hq, ← hx]

set_option maxHeartbeats 1000000 in
theorem number_u32 (l : List UInt8) (A : Option Addr) (c : Nat) (w : World) (hr : Reads w A (l.map byteV)) (hl : l.length ≤ 8) :
    Calls Try.prog 56 #[.slice A l.length c] w fun e w' => e = .returned (.int .u32 ((num l % 4294967296 : Nat) : Int)) ∧ w = w' := by
  have HR := Lib.hid hr
  clear hr
  go_enter Try.func56, Try.ntmps56
  go_wp2
  go_loop [3, 8] (fun s i => ∃ k : Nat, k ≤ l.length ∧ i = .int .i64 k ∧ s = .int .u64 ((num (l.take k) : Nat) : Int)) (fun _ i => l.length - (intOf i).toNat)
  case atStart => exact ⟨0, by omega, rfl, rfl⟩
  case round =>
    obtain ⟨k, hk, rfl, rfl⟩ := hrel
    obtain ⟨q, hq⟩ : ∃ q, q = num (l.take k) := ⟨_, rfl⟩
    rw [← hq]
    have Hq := Lib.hid hq
    clear hq
    by_cases hlt : k < l.length
    · obtain ⟨b, off, rfl, hc⟩ := byteV_at HR.out hlt
      obtain ⟨x, hx⟩ : ∃ x, x = l[k].toNat := ⟨_, rfl⟩
      rw [← hx] at hc
      have Hx := Lib.hid hx
      clear hx
      go_wp2
      go_round
      case rel => exact ⟨k + 1, by omega, by go_num, num_step hlt (by omega) Hq.out Hx.out⟩
      case measure => simp [intOf]; omega
    · obtain rfl : k = l.length := by omega
      go_wp2
      go_ret
      exact ⟨ret_int (by rw [Hq.out, List.take_of_length_le (Nat.le_refl _)]), rfl⟩
set_option maxHeartbeats 1000000 in
theorem number_i64 (l : List UInt8) (A : Option Addr) (c : Nat) (w : World) (hr : Reads w A (l.map byteV)) (hl : l.length ≤ 8) :
    Calls Try.prog 57 #[.slice A l.length c] w fun e w' => e = .returned (.int .i64 (wrap64 ((num l : Nat) : Int))) ∧ w = w' := by
  have HR := Lib.hid hr
  clear hr
  go_enter Try.func57, Try.ntmps57
  go_wp2
  go_loop [3, 8] (fun s i => ∃ k : Nat, k ≤ l.length ∧ i = .int .i64 k ∧ s = .int .u64 ((num (l.take k) : Nat) : Int)) (fun _ i => l.length - (intOf i).toNat)
  case atStart => exact ⟨0, by omega, rfl, rfl⟩
  case round =>
    obtain ⟨k, hk, rfl, rfl⟩ := hrel
    obtain ⟨q, hq⟩ : ∃ q, q = num (l.take k) := ⟨_, rfl⟩
    rw [← hq]
    have Hq := Lib.hid hq
    clear hq
    by_cases hlt : k < l.length
    · obtain ⟨b, off, rfl, hc⟩ := byteV_at HR.out hlt
      obtain ⟨x, hx⟩ : ∃ x, x = l[k].toNat := ⟨_, rfl⟩
      rw [← hx] at hc
      have Hx := Lib.hid hx
      clear hx
      go_wp2
      go_round
      case rel => exact ⟨k + 1, by omega, by go_num, num_step hlt (by omega) Hq.out Hx.out⟩
      case measure => simp [intOf]; omega
    · obtain rfl : k = l.length := by omega
      go_wp2
      go_ret
      exact ⟨ret_int (by rw [Hq.out, List.take_of_length_le (Nat.le_refl _)]), rfl⟩
set_option maxHeartbeats 1000000 in
theorem number_u8 (l : List UInt8) (A : Option Addr) (c : Nat) (w : World) (hr : Reads w A (l.map byteV)) (hl : l.length ≤ 8) :
    Calls Try.prog 58 #[.slice A l.length c] w fun e w' => e = .returned (.int .u8 ((num l % 256 : Nat) : Int)) ∧ w = w' := by
  have HR := Lib.hid hr
  clear hr
  go_enter Try.func58, Try.ntmps58
  go_wp2
  go_loop [3, 8] (fun s i => ∃ k : Nat, k ≤ l.length ∧ i = .int .i64 k ∧ s = .int .u64 ((num (l.take k) : Nat) : Int)) (fun _ i => l.length - (intOf i).toNat)
  case atStart => exact ⟨0, by omega, rfl, rfl⟩
  case round =>
    obtain ⟨k, hk, rfl, rfl⟩ := hrel
    obtain ⟨q, hq⟩ : ∃ q, q = num (l.take k) := ⟨_, rfl⟩
    rw [← hq]
    have Hq := Lib.hid hq
    clear hq
    by_cases hlt : k < l.length
    · obtain ⟨b, off, rfl, hc⟩ := byteV_at HR.out hlt
      obtain ⟨x, hx⟩ : ∃ x, x = l[k].toNat := ⟨_, rfl⟩
      rw [← hx] at hc
      have Hx := Lib.hid hx
      clear hx
      go_wp2
      go_round
      case rel => exact ⟨k + 1, by omega, by go_num, num_step hlt (by omega) Hq.out Hx.out⟩
      case measure => simp [intOf]; omega
    · obtain rfl : k = l.length := by omega
      go_wp2
      go_ret
      exact ⟨ret_int (by rw [Hq.out, List.take_of_length_le (Nat.le_refl _)]), rfl⟩

/-! The bytes of numbers. -/
theorem put8_any (n : Nat) (w : World) (hn : n < 256) :
    Calls Try.prog 14 #[.int .u8 (n : Int)] w fun e w' => e = .returned (.slice (some ⟨w.heap.size, 0, none⟩) 1 1) ∧ Blk w' w.heap.size 5 ((le n 1).map byteV) ∧ Kept [] w w' := by
  have e : byteV (UInt8.ofNat n) = .int .u8 n := by simp [byteV, Nat.mod_eq_of_lt hn]
  have E := Lib.hid e
  clear e hn
  go_enter Try.func14, Try.ntmps14
  go_wp2
  go_ret
  refine ⟨rfl, ?_, (Kept.refl _ _).alloc _⟩
  simp only [le, List.map_cons, List.map_nil, E.out]
  exact Blk.new _ _ _
theorem rput8_any (n : Nat) (w : World) (hn : n < 256) :
    Calls Try.prog 15 #[.int .u8 (n : Int)] w fun e w' => ∃ v, e = .returned v ∧ w'.ownsRow w.heap.size 5 1 v 1 ((le n 1).map byteV) ∧ Kept [] w w' := by
  go_enter Try.func15, Try.ntmps15
  go_wp2_with fail
  refine (put_any n 1 _ (by unfold Lt64; omega) (by omega)).mono ?_
  rintro e w1 ⟨v, rfl, hown, hk⟩
  go_wp2
  go_ret
  exact ⟨_, rfl, hown, hk⟩
theorem put32_any (n : Nat) (w : World) (hn : n < 4294967296) :
    Calls Try.prog 16 #[.int .u32 (n : Int)] w fun e w' => e = .returned (.slice (some ⟨w.heap.size, 0, none⟩) 4 4) ∧ Blk w' w.heap.size 5 ((le n 4).map byteV) ∧ Kept [] w w' := by
  go_enter Try.func16, Try.ntmps16
  go_wp2_with fail
  refine (bytes_any n 4 _ (by omega)).mono ?_
  rintro e w1 ⟨rfl, hb, hk⟩
  go_wp2
  go_ret
  exact ⟨rfl, hb, hk⟩
theorem rput32_any (n : Nat) (w : World) (hn : n < 4294967296) :
    Calls Try.prog 17 #[.int .u32 (n : Int)] w fun e w' => ∃ v, e = .returned v ∧ w'.ownsRow w.heap.size 5 1 v 4 ((le n 4).map byteV) ∧ Kept [] w w' := by
  go_enter Try.func17, Try.ntmps17
  go_wp2_with fail
  refine (put_any n 4 _ (by unfold Lt64; omega) (by omega)).mono ?_
  rintro e w1 ⟨v, rfl, hown, hk⟩
  go_wp2
  go_ret
  exact ⟨_, rfl, hown, hk⟩
/-- A number of 64 bits with a sign, by its bits. -/
def u64of (m : Int) : Nat := (m % 18446744073709551616).toNat
theorem u64of_lt (m : Int) : Lt64 (u64of m) := by unfold Lt64 u64of; omega
theorem wrap_u64of (m : Int) : IntKind.u64.wrap m = ((u64of m : Nat) : Int) := by rw [IntKind.wrap_u64]; unfold u64of; omega
theorem wrap64_u64of (m : Int) (h : -9223372036854775808 ≤ m) (h2 : m ≤ 9223372036854775807) : wrap64 ((u64of m : Nat) : Int) = m := by unfold wrap64 u64of; omega
theorem put64_any (m : Int) (w : World) :
    Calls Try.prog 18 #[.int .i64 m] w fun e w' => e = .returned (.slice (some ⟨w.heap.size, 0, none⟩) 8 8) ∧ Blk w' w.heap.size 5 ((le (u64of m) 8).map byteV) ∧ Kept [] w w' := by
  go_enter Try.func18, Try.ntmps18
  go_wp2_with fail
  rw [wrap_u64of]
  refine (bytes_any (u64of m) 8 _ (by omega)).mono ?_
  rintro e w1 ⟨rfl, hb, hk⟩
  go_wp2
  go_ret
  exact ⟨rfl, hb, hk⟩
theorem rput64_any (m : Int) (w : World) :
    Calls Try.prog 19 #[.int .i64 m] w fun e w' => ∃ v, e = .returned v ∧ w'.ownsRow w.heap.size 5 1 v 8 ((le (u64of m) 8).map byteV) ∧ Kept [] w w' := by
  go_enter Try.func19, Try.ntmps19
  go_wp2_with fail
  rw [wrap_u64of]
  refine (put_any (u64of m) 8 _ (u64of_lt m) (by omega)).mono ?_
  rintro e w1 ⟨v, rfl, hown, hk⟩
  go_wp2
  go_ret
  exact ⟨_, rfl, hown, hk⟩
end Go.Proofs.Ytdjidnccockmmaa
