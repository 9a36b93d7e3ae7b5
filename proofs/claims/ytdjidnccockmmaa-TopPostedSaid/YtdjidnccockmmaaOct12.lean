/- The law's own fixed calls: they answer true. -/
import Derived.Test.YtdjidnccockmmaaOct11
namespace Go.Proofs.Ytdjidnccockmmaa
open Go.RowKit
open Go.RowKit (wrap32 wrap64)
set_option maxHeartbeats 1000000

theorem fieldsFault : Try.prog.underlying 40 = some (.struct (Try.prog.fieldsOf 40)) := by kernel_rfl
theorem stoodFault : Try.prog.stoodInHeld 40 = false := by kernel_rfl
theorem guardFault : Try.prog.eqGuardType Try.prog.depth 40 = false := by kernel_rfl

theorem eqFault (a b c d : Int) (w : World) : (binOp .eql 40 (.agg #[.int .i64 a, .int .i64 b]) (.agg #[.int .i64 c, .int .i64 d])).run Try.prog w = .ok (.bool (a == c && b == d)) w := by
  have u3 := Try.underlying3
  have u38 := Try.underlying38
  have a3 := Try.isAgg3
  have a38 := Try.isAgg38
  have z3 := Try.sizeOf3
  have z38 := Try.sizeOf38
  rw [run_eql_struct, show (10000 : Nat) = 9999 + 1 from rfl, run_equalIn_agg w 9999 40 _ _ fieldsFault stoodFault]
  simp only [Program.fieldsOf, Try.underlying40]
  go_simp
  by_cases h1 : a = c <;> by_cases h2 : b = d <;> simp [h1, h2]
theorem neqFault (a b c d : Int) (w : World) : (binOp .neq 40 (.agg #[.int .i64 a, .int .i64 b]) (.agg #[.int .i64 c, .int .i64 d])).run Try.prog w = .ok (.bool (!(a == c && b == d))) w := by
  have u3 := Try.underlying3
  have u38 := Try.underlying38
  have a3 := Try.isAgg3
  have a38 := Try.isAgg38
  have z3 := Try.sizeOf3
  have z38 := Try.sizeOf38
  rw [run_neq_struct, show (10000 : Nat) = 9999 + 1 from rfl, run_equalIn_agg w 9999 40 _ _ fieldsFault stoodFault]
  simp only [Program.fieldsOf, Try.underlying40]
  go_simp
  by_cases h1 : a = c <;> by_cases h2 : b = d <;> simp [h1, h2]

theorem open_n (l : List UInt8) (n : Nat) (A : Option Addr) (c : Nat) (w : World) (hn : l.length = n) (hr : Reads w A (l.map byteV)) (hl : n ≤ 1073741824) :
    Calls Try.prog 20 #[.slice A n c] w fun e w' => ∃ p, e = .returned (.pointer (some ⟨p, 0, none⟩)) ∧ w.heap.size ≤ p ∧ RdAt 87 w' p ⟨l, 0, 0, 0⟩ ∧ Kept [] w w' := by
  subst hn
  exact open_any l A c w hr hl
theorem sameBytes_n (x y : List UInt8) (n m : Nat) (A B : Option Addr) (c d : Nat) (w : World) (hn : x.length = n) (hm : y.length = m) (hx : Reads w A (x.map byteV)) (hy : Reads w B (y.map byteV)) (hlx : n ≤ maxLen) (hly : m ≤ maxLen) :
    Calls Try.prog 13 #[.slice A n c, .slice B m d] w fun e w' => e = .returned (.bool (decide (x = y))) ∧ ∃ n, w' = w.drewN n := by
  subst hn
  subst hm
  exact sameBytes_any x y A B c d w hx hy hlx hly

theorem u8_is (p : Nat) (R R' : Rd) (x : Int) (w : World) (h : RdAt 87 w p R) (hx : ((num (R.got 1) % 256 : Nat) : Int) = x) (ha : R.after 1 = R') :
    Calls Try.prog 24 #[.pointer (some ⟨p, 0, none⟩)] w fun e w' => e = .returned (.int .u8 x) ∧ RdAt 87 w' p R' ∧ Kept [p] w w' := by
  subst hx
  subst ha
  exact u8_any p R w h
theorem u32_is (p : Nat) (R R' : Rd) (x : Int) (w : World) (h : RdAt 87 w p R) (hx : ((num (R.got 4) % 4294967296 : Nat) : Int) = x) (ha : R.after 4 = R') :
    Calls Try.prog 22 #[.pointer (some ⟨p, 0, none⟩)] w fun e w' => e = .returned (.int .u32 x) ∧ RdAt 87 w' p R' ∧ Kept [p] w w' := by
  subst hx
  subst ha
  exact u32_any p R w h
theorem i64_is (p : Nat) (R R' : Rd) (x : Int) (w : World) (h : RdAt 87 w p R) (hx : wrap64 ((num (R.got 8) : Nat) : Int) = x) (ha : R.after 8 = R') :
    Calls Try.prog 23 #[.pointer (some ⟨p, 0, none⟩)] w fun e w' => e = .returned (.int .i64 x) ∧ RdAt 87 w' p R' ∧ Kept [p] w w' := by
  subst hx
  subst ha
  exact i64_any p R w h
theorem ru8_is (p : Nat) (R R' : Rd) (x : Int) (w : World) (h : RdAt 92 w p R) (hx : ((num (R.got 1) % 256 : Nat) : Int) = x) (ha : R.after 1 = R') :
    Calls Try.prog 59 #[.pointer (some ⟨p, 0, none⟩)] w fun e w' => e = .returned (.int .u8 x) ∧ RdAt 92 w' p R' ∧ Kept [p] w w' := by
  subst hx
  subst ha
  exact ru8_any p R w h
theorem ru32_is (p : Nat) (R R' : Rd) (x : Int) (w : World) (h : RdAt 92 w p R) (hx : ((num (R.got 4) % 4294967296 : Nat) : Int) = x) (ha : R.after 4 = R') :
    Calls Try.prog 60 #[.pointer (some ⟨p, 0, none⟩)] w fun e w' => e = .returned (.int .u32 x) ∧ RdAt 92 w' p R' ∧ Kept [p] w w' := by
  subst hx
  subst ha
  exact ru32_any p R w h
theorem ri64_is (p : Nat) (R R' : Rd) (x : Int) (w : World) (h : RdAt 92 w p R) (hx : wrap64 ((num (R.got 8) : Nat) : Int) = x) (ha : R.after 8 = R') :
    Calls Try.prog 61 #[.pointer (some ⟨p, 0, none⟩)] w fun e w' => e = .returned (.int .i64 x) ∧ RdAt 92 w' p R' ∧ Kept [p] w w' := by
  subst hx
  subst ha
  exact ri64_any p R w h

theorem left_is (p : Nat) (R : Rd) (x : Int) (w : World) (h : RdAt 87 w p R) (hx : R.left = x) : Calls Try.prog 25 #[.pointer (some ⟨p, 0, none⟩)] w fun e w' => e = .returned (.int .i64 x) ∧ ∃ k, w' = w.drewN k := by
  subst hx
  exact left_rd p R w h
theorem end_is (p : Nat) (R : Rd) (x : Bool) (w : World) (h : RdAt 87 w p R) (hx : R.atEnd = x) : Calls Try.prog 31 #[.pointer (some ⟨p, 0, none⟩)] w fun e w' => e = .returned (.bool x) ∧ ∃ k, w' = w.drewN k := by
  subst hx
  exact end_rd p R w h
theorem rleft_is (p : Nat) (R : Rd) (x : Int) (w : World) (h : RdAt 92 w p R) (hx : R.left = x) : Calls Try.prog 66 #[.pointer (some ⟨p, 0, none⟩)] w fun e w' => e = .returned (.int .i64 x) ∧ ∃ k, w' = w.drewN k := by
  subst hx
  exact rleft_rd p R w h
theorem rend_is (p : Nat) (R : Rd) (x : Bool) (w : World) (h : RdAt 92 w p R) (hx : R.atEnd = x) : Calls Try.prog 64 #[.pointer (some ⟨p, 0, none⟩)] w fun e w' => e = .returned (.bool x) ∧ ∃ k, w' = w.drewN k := by
  subst hx
  exact rend_rd p R w h
theorem live_any (w : World) : Calls Try.prog 12 #[] w fun e w' => e = .returned (.bool true) ∧ Kept [] w w' := by
  have F3 := guardFault
  have F4 := eqFault
  go_enter Try.func12, Try.ntmps12
  go_wp2_with fail
  refine (open_n [2, 1, 0] 3 _ _ _ rfl (Reads.of_blk (Blk.new w 5 [.int .u8 2, .int .u8 1, .int .u8 0]) (fun _ _ h => h)) (by decide)).mono ?_
  rintro e w1 ⟨p, rfl, hp, hr, hk⟩
  have K1 := Lib.hid (((Kept.refl [] w).alloc _).trans hk)
  have P1 := Lib.hid (show w.heap.size ≤ p by simp at hp; omega)
  have HR := Lib.hid hr
  clear hr hk hp
  go_wp2_with fail
  refine (u32_is p _ ⟨[2, 1, 0], 0, 2, 3⟩ 0 _ HR.out rfl rfl).mono ?_
  rintro e w2 ⟨rfl, hr, hk⟩
  have K2 := Lib.hid (K1.out.then hk (by intro m hm; simp at hm; subst hm; exact .inr P1.out))
  have HR := Lib.hid hr
  clear hr hk K1
  go_wp2_with fail
  refine (open_n [2, 1, 0, 0, 9] 5 _ _ _ rfl (Reads.of_blk (Blk.new w2 5 [.int .u8 2, .int .u8 1, .int .u8 0, .int .u8 0, .int .u8 9]) (fun _ _ h => h)) (by decide)).mono ?_
  rintro e w3 ⟨q, rfl, hq, hr, hk⟩
  have K3 := Lib.hid ((K2.out.alloc _).trans hk)
  have P2 := Lib.hid (show w.heap.size ≤ q by have := K2.out.size; simp at hq; omega)
  have HQ := Lib.hid hr
  have HP := Lib.hid ((HR.out.kept0 ((Kept.refl [] w2).alloc _)).kept0 hk)
  clear hr hk hq HR K2
  go_wp2_with fail
  refine (fault_rd p _ _ HP.out).mono ?_
  rintro e w4 ⟨rfl, hk⟩
  have K4 := Lib.hid (K3.out.trans hk)
  have HQ := Lib.hid (HQ.out.kept0 hk)
  have HP := Lib.hid (HP.out.kept0 hk)
  clear hk K3
  go_wp2_with fail
  refine (at_rd p _ _ HP.out).mono ?_
  rintro e w5 ⟨rfl, rfl⟩
  go_wp2_with fail
  refine (left_is p _ 0 _ HP.out rfl).mono ?_
  rintro e w5 ⟨rfl, k5, rfl⟩
  have K5 := Lib.hid (K4.out.drewN k5)
  have HQ := Lib.hid (HQ.out.kept0 ((Kept.refl [] w4).drewN k5))
  clear HP K4
  go_wp2_with fail
  refine (u32_is q _ ⟨[2, 1, 0, 0, 9], 4, 0, 0⟩ 258 _ HQ.out rfl rfl).mono ?_
  rintro e w6 ⟨rfl, hr, hk⟩
  have K6 := Lib.hid (K5.out.then hk (by intro m hm; simp at hm; subst hm; exact .inr P2.out))
  have HQ := Lib.hid hr
  clear hr hk K5
  go_wp2_with fail
  refine (left_is q _ 1 _ HQ.out rfl).mono ?_
  rintro e w7 ⟨rfl, k7, rfl⟩
  have K7 := Lib.hid (K6.out.drewN k7)
  have HQ := Lib.hid (HQ.out.kept0 ((Kept.refl [] w6).drewN k7))
  clear K6
  go_wp2_with fail
  refine (u8_is q _ ⟨[2, 1, 0, 0, 9], 5, 0, 0⟩ 9 _ HQ.out rfl rfl).mono ?_
  rintro e w8 ⟨rfl, hr, hk⟩
  have K8 := Lib.hid (K7.out.then hk (by intro m hm; simp at hm; subst hm; exact .inr P2.out))
  have HQ := Lib.hid hr
  clear hr hk K7
  go_wp2_with fail
  refine (end_is q _ true _ HQ.out rfl).mono ?_
  rintro e w9 ⟨rfl, k9, rfl⟩
  have K9 := Lib.hid (K8.out.drewN k9)
  clear K8 HQ
  go_wp2_with fail
  refine (put32_any 258 _ (by decide)).mono ?_
  rintro e w10 ⟨rfl, hb, hk⟩
  have K10 := Lib.hid (K9.out.trans hk)
  have HB := Lib.hid hb
  clear hb hk K9
  go_wp2_with fail
  refine (sameBytes_n (le 258 4) [2, 1, 0, 0] 4 4 _ _ _ _ _ rfl rfl (Reads.of_blk (HB.out.alloc _) (fun _ _ h => h)) (Reads.of_blk (Blk.new w10 5 [.int .u8 2, .int .u8 1, .int .u8 0, .int .u8 0]) (fun _ _ h => h)) (by decide) (by decide)).mono ?_
  rintro e w11 ⟨rfl, k11, rfl⟩
  have K11 := Lib.hid ((K10.out.alloc (.cells #[.int .u8 2, .int .u8 1, .int .u8 0, .int .u8 0] 5)).drewN k11)
  have E11 : decide (le 258 4 = [2, 1, 0, 0]) = true := by decide
  clear K10 HB
  go_wp2_with fail
  refine (put64_any (-1) _).mono ?_
  rintro e w12 ⟨rfl, hb, hk⟩
  have K12 := Lib.hid (K11.out.trans hk)
  clear hb hk K11
  go_wp2_with fail
  refine (put8_any 1 _ (by decide)).mono ?_
  rintro e w13 ⟨rfl, hb, hk⟩
  have K13 := Lib.hid (K12.out.trans hk)
  clear hb hk K12
  go_wp2_with fail
  go_ret
  exact ⟨rfl, K13.out⟩
end Go.Proofs.Ytdjidnccockmmaa
