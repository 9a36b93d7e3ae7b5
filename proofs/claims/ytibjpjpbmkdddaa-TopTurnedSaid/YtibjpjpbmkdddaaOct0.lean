/- The walks of octet's and the reference's smallest functions: numbers' bytes, copies of slices, whether two slices are the same. -/
import Derived.Test.YtibjpjpbmkdddaaLib
namespace Go.Proofs.Ytibjpjpbmkdddaa
open Go.RowKit

/-- A byte as the program has it. -/
def byteV (b : UInt8) : Value := .int .u8 (b.toNat : Int)
/-- So many bytes of a number, the lowest one first. -/
def le (n : Nat) : Nat → List UInt8
  | 0 => []
  | k + 1 => UInt8.ofNat n :: le (n / 256) k
theorem le_length (n k : Nat) : (le n k).length = k := by induction k generalizing n with
  | zero => rfl
  | succ k ih => simp [le, ih]
theorem le_get (n k i : Nat) (h : i < k) : (le n k)[i]? = some (UInt8.ofNat (n / 256 ^ i)) := by
  induction k generalizing n i with
  | zero => omega
  | succ k ih =>
    cases i with
    | zero => simp [le]
    | succ i => simp only [le, List.getElem?_cons_succ]; rw [ih _ _ (by omega), Nat.div_div_eq_div_mul, Nat.pow_succ, Nat.mul_comm]

/-- A number of 64 bits without a sign. -/
def Lt64 (n : Nat) : Prop := n < 18446744073709551616
theorem Lt64.div {n : Nat} (h : Lt64 n) (k : Nat) : Lt64 (n / k) := Nat.lt_of_le_of_lt (Nat.div_le_self _ _) h
theorem wrap64_div (q : Nat) (h : Lt64 q) : Value.int .u64 (IntKind.u64.wrap ((q : Int) / 256)) = .int .u64 ((q / 256 : Nat) : Int) := by
  unfold Lt64 at h
  rw [IntKind.wrap_u64]
  congr 1
  omega
theorem infoU8 : Info Try.prog 5 (.int .u8 0) 1 1 := by unfold Info; kernel_rfl

/-- The next byte is laid. -/
theorem set_next {n many k : Nat} (hl : (le n many).length = many) (hk : k < many) :
    (((le n many).map byteV).take k ++ List.replicate (many - k) (Value.int .u8 0)).set k (.int .u8 (↑n / 2 ^ (8 * k) % 256)) = ((le n many).map byteV).take (k + 1) ++ List.replicate (many - (k + 1)) (Value.int .u8 0) := by
  have e : List.replicate (many - k) (Value.int .u8 0) = .int .u8 0 :: List.replicate (many - (k + 1)) (Value.int .u8 0) := by
    rw [show many - k = (many - (k + 1)) + 1 from by omega, List.replicate_succ]
  have hg : ((le n many).map byteV)[k]? = some (.int .u8 (↑n / 2 ^ (8 * k) % 256)) := by
    have e2 : (2 : Int) ^ (8 * k) = 256 ^ k := by rw [Int.pow_mul]; rfl
    rw [List.getElem?_map, le_get n many k hk, e2]
    simp [byteV]
  rw [List.set_append, if_neg (by simp [hl]; omega), e, List.take_add_one, hg]
  simp [hl, Nat.min_eq_left (Nat.le_of_lt hk)]

set_option maxHeartbeats 1000000 in
theorem bytes_any (n many : Nat) (w : World) (hm : many ≤ 8) :
    Calls Try.prog 88 #[.int .u64 (n : Int), .int .i64 (many : Int)] w fun e w' => e = .returned (.slice (some ⟨w.heap.size, 0, none⟩) many many) ∧ Blk w' w.heap.size 5 ((le n many).map byteV) ∧ Kept [] w w' := by
  go_enter Try.func88, Try.ntmps88
  go_wp2_with (first | (at_make; refine wpList_mk _ rfl _ _ _ rfl 5 _ 1 Try.underlying31 infoU8 rfl _ _ _ _ many rfl rfl rfl rfl (by omega) (by unfold maxLen; omega) ?_; intro w1 hblk hkept))
  have HB := Lib.hid hblk
  have HK := Lib.hid hkept
  clear hblk hkept
  go_loopw [11] (fun i wr => ∃ k : Nat, k ≤ many ∧ i = .int .i64 k ∧ Blk wr w.heap.size 5 (((le n many).map byteV).take k ++ List.replicate (many - k) (.int .u8 0)) ∧ Kept [] w wr) (fun i _ => many - (intOf i).toNat)
  case atStart => exact ⟨0, by omega, rfl, by simpa using HB.out, HK.out⟩
  case round =>
    obtain ⟨k, hk, rfl, hb, hkk⟩ := hrel
    by_cases hlt : k < many
    · have hc := hb.cell k
      rw [List.getElem?_append_right (by simp; omega)] at hc
      simp only [List.length_take, List.length_map, le_length, Nat.min_eq_left hk, Nat.sub_self, List.getElem?_replicate, show 0 < many - k from by omega, if_true] at hc
      have hf := hb.frozen k
      have Hb := Lib.hid hb
      have Hk := Lib.hid hkk
      clear hb hkk
      go_wp2
      go_roundw
      case rel =>
        refine ⟨k + 1, by omega, by go_num, ?_, Hk.out.setCell (.inr (Nat.le_refl _)) _⟩
        have := Hb.out.set k (.int .u8 (↑n / 2 ^ (8 * k) % 256))
        rw [set_next (le_length n many) hlt] at this
        exact this
      case measure => simp [intOf]; omega
    · have : k = many := by omega
      subst this
      have Hb := Lib.hid hb
      have Hk := Lib.hid hkk
      clear hb hkk
      go_wp2
      go_ret
      refine ⟨rfl, ?_, Hk.out⟩
      have := Hb.out
      simpa [List.take_of_length_le, le_length] using this

set_option maxHeartbeats 1000000 in
def Bytes (w : World) (v : Value) (l : List UInt8) : Prop := ∃ A c, v = .slice A l.length c ∧ l.length ≤ c ∧ c ≤ maxLen ∧ Reads w A (l.map byteV)

theorem byteV_at {w : World} {A : Option Addr} {l : List UInt8} (h : Reads w A (l.map byteV)) {k : Nat} (hk : k < l.length) :
    ∃ b off, A = some ⟨b, off, none⟩ ∧ w.cell? ⟨b, off + k, none⟩ = some (.int .u8 (l[k].toNat : Int)) := by
  obtain ⟨b, off, e, _, hc⟩ := h (by intro h0; have := congrArg List.length h0; simp at this; subst this; simp at hk)
  exact ⟨b, off, e, hc k _ (by simp [hk, byteV])⟩
theorem take_step {x y : List UInt8} {k : Nat} (h : x.take k = y.take k) (hx : k < x.length) (hy : k < y.length) (e : x[k] = y[k]) : x.take (k + 1) = y.take (k + 1) := by
  rw [List.take_add_one, List.take_add_one, h, List.getElem?_eq_getElem hx, List.getElem?_eq_getElem hy, e]

end Go.Proofs.Ytibjpjpbmkdddaa
