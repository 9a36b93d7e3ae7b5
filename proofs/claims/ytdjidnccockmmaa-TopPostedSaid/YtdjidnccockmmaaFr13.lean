/- Frames: the source of numbers that are read, in plain words; its small functions, which give up with a fault. -/
import Derived.Test.YtdjidnccockmmaaOct15
import Derived.Test.YtdjidnccockmmaaShut
namespace Go.Proofs.Ytdjidnccockmmaa
set_option linter.unusedSimpArgs false
set_option linter.unusedVariables false
open Go.ChangeShapes Go.WideShapes Go.ChangeAt Go.RowKit
open Go.RowKit (wrap32 wrap64)
set_option maxHeartbeats 4000000

/-- With what reading gives up. -/
def stp (e a : Int) : PanicEntry := { v := .iface 117 (.agg #[.int .i64 e, .int .i64 a]), recovered := false }

theorem unless_ok (e a : Int) (w : World) : Calls Try.prog 111 #[.bool true, .int .i64 e, .int .i64 a] w fun x w' => x = .returned (.tuple #[]) ∧ w = w' := by
  go_enter Try.func111, Try.ntmps111
  go_wp2
  go_end0
  exact ⟨rfl, rfl⟩
theorem unless_bad (e a : Int) (w : World) : Calls Try.prog 111 #[.bool false, .int .i64 e, .int .i64 a] w fun x w' => x = .panicked [stp e a] ∧ w = w' := by
  go_enter Try.func111, Try.ntmps111
  go_wp2
  exact ⟨rfl, rfl, rfl⟩
theorem unless_no (b : Bool) (e a : Int) (w : World) (hb : b = false) : Calls Try.prog 111 #[.bool b, .int .i64 e, .int .i64 a] w fun x w' => x = .panicked [stp e a] ∧ w = w' := by subst hb; exact unless_bad e a w
theorem unless_yes (b : Bool) (e a : Int) (w : World) (hb : b = true) : Calls Try.prog 111 #[.bool b, .int .i64 e, .int .i64 a] w fun x w' => x = .returned (.tuple #[]) ∧ w = w' := by subst hb; exact unless_ok e a w
/-- What a call comes to: a value and a reader behind it, or it gives up. -/
def GotI (p : Nat) (w : World) (r : Except (Int × Int) (Int × Rd)) (x : Ending) (w' : World) : Prop :=
  match r with
  | .ok (n, R) => x = .returned (.int .i64 n) ∧ RdAt 87 w' p R ∧ Kept [p] w w'
  | .error (e, a) => x = .panicked [stp e a] ∧ Kept [p] w w'

/-- Nothing is wrong with the reader, or the call gives up with what is. -/
def GotU (R : Rd) (w : World) (x : Ending) (w' : World) : Prop := (if R.e = 0 then x = .returned (.tuple #[]) else x = .panicked [stp R.e R.fat]) ∧ Kept [] w w'
set_option maxRecDepth 100000 in
theorem sok_any (p : Nat) (R : Rd) (w : World) (h : RdAt 87 w p R) :
    Calls Try.prog 118 #[.agg #[.pointer (some ⟨p, 0, none⟩)]] w (GotU R w) := by
  have H := Lib.hid (h.kept0 ((Kept.refl [] w).alloc (.cells #[.pointer (some ⟨p, 0, none⟩)] 120)))
  clear h
  by_cases he : R.e = 0
  · have HE := Lib.hid he
    clear he
    go_enter Try.func118, Try.ntmps118
    go_wp2_with fail
    refine (fault_rd p R _ H.out).mono ?_
    rintro x w1 ⟨rfl, hk⟩
    have K1 := Lib.hid (((Kept.refl [] w).alloc _).trans hk)
    rw [HE.out]
    clear hk
    go_wp2_with fail
    refine (unless_ok _ _ _).mono ?_
    rintro x w2 ⟨rfl, rfl⟩
    go_wp2_with fail
    go_end0
    exact ⟨by rw [if_pos HE.out], K1.out.alloc _⟩
  · have HE := Lib.hid he
    have hb : (R.e == 0) = false := by rw [beq_eq_false_iff_ne]; exact he
    clear he
    go_enter Try.func118, Try.ntmps118
    go_wp2_with fail
    refine (fault_rd p R _ H.out).mono ?_
    rintro x w1 ⟨rfl, hk⟩
    have K1 := Lib.hid (((Kept.refl [] w).alloc _).trans hk)
    clear hk
    go_wp2_with fail
    refine (unless_bad _ _ _).mono ?_
    rintro x w2 ⟨rfl, rfl⟩
    go_wp2_with fail
    exact ⟨rfl, by rw [if_neg HE.out], K1.out.alloc _⟩

/-- A number of k bytes that is read: from low on, up to most; else that error at its place. -/
def Rd.rd (R : Rd) (k low most e : Int) : Except (Int × Int) (Int × Rd) :=
  if (R.after k).e ≠ 0 then .error ((R.after k).e, (R.after k).fat)
  else if low ≤ (num (R.got k) : Int) ∧ (num (R.got k) : Int) ≤ most then .ok ((num (R.got k) : Int), R.after k) else .error (e, R.pos)
/-- A number of eight bytes that is read. -/
def Rd.word (R : Rd) : Except (Int × Int) (Int × Rd) :=
  if (R.after 8).e ≠ 0 then .error ((R.after 8).e, (R.after 8).fat) else .ok (wrap64 ((num (R.got 8) : Nat) : Int), R.after 8)
theorem got_le (R : Rd) (k : Nat) : (R.got k).length ≤ k := by
  unfold Rd.got
  split
  · simp; omega
  · simp
theorem num_got_mod (R : Rd) (k : Nat) : num (R.got k) % 256 ^ k = num (R.got k) :=
  Nat.mod_eq_of_lt (Nat.lt_of_lt_of_le (num_lt _) (Nat.pow_le_pow_right (by decide) (got_le R k)))
theorem num_got1 (R : Rd) : num (R.got 1) % 256 = num (R.got 1) := by have := num_got_mod R 1; simpa using this
theorem num_got4 (R : Rd) : num (R.got 4) % 4294967296 = num (R.got 4) := by have := num_got_mod R 4; simpa using this
theorem num_got4_lt (R : Rd) : (num (R.got 4) : Int) < 4294967296 := by have := num_got4 R; have := Nat.mod_lt (num (R.got 4)) (show 0 < 4294967296 by decide); omega
theorem num_got1_lt (R : Rd) : (num (R.got 1) : Int) < 256 := by have := num_got1 R; have := Nat.mod_lt (num (R.got 1)) (show 0 < 256 by decide); omega

set_option maxRecDepth 100000 in
theorem sone_any (p : Nat) (R : Rd) (low most e : Int) (w : World) (h : RdAt 87 w p R) :
    Calls Try.prog 107 #[.agg #[.pointer (some ⟨p, 0, none⟩)], .int .i64 low, .int .i64 most, .int .i64 e] w (GotI p w (R.rd 1 low most e)) := by
  have H := Lib.hid (h.kept0 ((Kept.refl [] w).alloc (.cells #[.pointer (some ⟨p, 0, none⟩)] 120)))
  have hlt := num_got1_lt R
  have hnp : w.heap.size ≠ p := by
    obtain ⟨_, _, hb, _⟩ := h.ex
    have := hb.lt
    omega
  have hb0 := Blk.new w 120 [.pointer (some ⟨p, 0, none⟩)]
  have HB := Lib.hid hb0
  clear h hb0
  go_enter Try.func107, Try.ntmps107
  go_wp2_with fail
  refine (at_rd p R _ H.out).mono ?_
  rintro x w1 ⟨rfl, rfl⟩
  go_wp2_with fail
  refine (u8_any p R _ H.out).mono ?_
  rintro x w1 ⟨rfl, hr, hk⟩
  rw [num_got1]
  have HR := Lib.hid hr
  have K1 := Lib.hid (((Kept.refl [p] w).alloc _).trans hk)
  have HB1 := HB.out.kept hk (by simpa using hnp)
  have y0 := HB1.cell 0
  have hl1 := HB1.lt
  simp only [List.getElem?_cons_zero] at y0
  clear hr hk HB1
  go_wp2_with fail
  refine (sok_any p (R.after 1) _ HR.out).mono ?_
  rintro x w2 ⟨hx, hk⟩
  have K2 := Lib.hid (K1.out.then hk (by simp))
  have HR2 := Lib.hid (HR.out.kept0 hk)
  clear hk y0 hl1
  by_cases he : (R.after 1).e = 0
  case neg =>
    rw [if_neg he] at hx
    subst hx
    have HE := Lib.hid he
    clear he
    go_wp2_with fail
    refine ⟨rfl, ?_⟩
    unfold Rd.rd
    rw [if_pos HE.out]
    exact ⟨rfl, K2.out⟩
  rw [if_pos he] at hx
  subst hx
  have HE := Lib.hid he
  clear he
  by_cases g1 : low ≤ (num (R.got 1) : Int)
  case neg =>
    go_wp2_with fail
    refine (unless_no _ _ _ _ (by first | rfl | (simp; omega))).mono ?_
    rintro x w3 ⟨rfl, rfl⟩
    go_wp2_with fail
    refine ⟨rfl, ?_⟩
    unfold Rd.rd
    rw [if_neg (by simpa using HE.out), if_neg (by omega)]
    exact ⟨rfl, K2.out⟩
  by_cases g2 : (num (R.got 1) : Int) ≤ most
  case neg =>
    go_wp2_with fail
    refine (unless_no _ _ _ _ (by first | rfl | (simp; omega))).mono ?_
    rintro x w3 ⟨rfl, rfl⟩
    go_wp2_with fail
    refine ⟨rfl, ?_⟩
    unfold Rd.rd
    rw [if_neg (by simpa using HE.out), if_neg (by omega)]
    exact ⟨rfl, K2.out⟩
  go_wp2_with fail
  refine (unless_yes _ _ _ _ (by first | rfl | (simp; omega))).mono ?_
  rintro x w3 ⟨rfl, rfl⟩
  go_wp2_with fail
  go_ret
  unfold Rd.rd
  rw [if_neg (by simpa using HE.out), if_pos ⟨g1, g2⟩]
  exact ⟨rfl, HR2.out, K2.out⟩

set_option maxRecDepth 100000 in
theorem sfour_any (p : Nat) (R : Rd) (most e : Int) (w : World) (h : RdAt 87 w p R) :
    Calls Try.prog 108 #[.agg #[.pointer (some ⟨p, 0, none⟩)], .int .i64 most, .int .i64 e] w (GotI p w (R.rd 4 0 most e)) := by
  have H := Lib.hid (h.kept0 ((Kept.refl [] w).alloc (.cells #[.pointer (some ⟨p, 0, none⟩)] 120)))
  have hlt := num_got4_lt R
  have hnp : w.heap.size ≠ p := by
    obtain ⟨_, _, hb, _⟩ := h.ex
    have := hb.lt
    omega
  have hb0 := Blk.new w 120 [.pointer (some ⟨p, 0, none⟩)]
  have HB := Lib.hid hb0
  clear h hb0
  go_enter Try.func108, Try.ntmps108
  go_wp2_with fail
  refine (at_rd p R _ H.out).mono ?_
  rintro x w1 ⟨rfl, rfl⟩
  go_wp2_with fail
  refine (u32_any p R _ H.out).mono ?_
  rintro x w1 ⟨rfl, hr, hk⟩
  rw [num_got4]
  have HR := Lib.hid hr
  have K1 := Lib.hid (((Kept.refl [p] w).alloc _).trans hk)
  have HB1 := HB.out.kept hk (by simpa using hnp)
  have y0 := HB1.cell 0
  have hl1 := HB1.lt
  simp only [List.getElem?_cons_zero] at y0
  clear hr hk HB1
  go_wp2_with fail
  refine (sok_any p (R.after 4) _ HR.out).mono ?_
  rintro x w2 ⟨hx, hk⟩
  have K2 := Lib.hid (K1.out.then hk (by simp))
  have HR2 := Lib.hid (HR.out.kept0 hk)
  clear hk y0 hl1
  by_cases he : (R.after 4).e = 0
  case neg =>
    rw [if_neg he] at hx
    subst hx
    have HE := Lib.hid he
    clear he
    go_wp2_with fail
    refine ⟨rfl, ?_⟩
    unfold Rd.rd
    rw [if_pos HE.out]
    exact ⟨rfl, K2.out⟩
  rw [if_pos he] at hx
  subst hx
  have HE := Lib.hid he
  clear he
  by_cases g2 : (num (R.got 4) : Int) ≤ most
  case neg =>
    go_wp2_with fail
    refine (unless_no _ _ _ _ (by first | rfl | (simp; omega))).mono ?_
    rintro x w3 ⟨rfl, rfl⟩
    go_wp2_with fail
    refine ⟨rfl, ?_⟩
    unfold Rd.rd
    rw [if_neg (by simpa using HE.out), if_neg (by omega)]
    exact ⟨rfl, K2.out⟩
  go_wp2_with fail
  refine (unless_yes _ _ _ _ (by first | rfl | (simp; omega))).mono ?_
  rintro x w3 ⟨rfl, rfl⟩
  go_wp2_with fail
  go_ret
  unfold Rd.rd
  rw [if_neg (by simpa using HE.out), if_pos ⟨by omega, g2⟩]
  exact ⟨rfl, HR2.out, K2.out⟩

set_option maxRecDepth 100000 in
theorem seight_any (p : Nat) (R : Rd) (w : World) (h : RdAt 87 w p R) :
    Calls Try.prog 109 #[.agg #[.pointer (some ⟨p, 0, none⟩)]] w (GotI p w R.word) := by
  have H := Lib.hid (h.kept0 ((Kept.refl [] w).alloc (.cells #[.pointer (some ⟨p, 0, none⟩)] 120)))
  have hnp : w.heap.size ≠ p := by
    obtain ⟨_, _, hb, _⟩ := h.ex
    have := hb.lt
    omega
  have hb0 := Blk.new w 120 [.pointer (some ⟨p, 0, none⟩)]
  have HB := Lib.hid hb0
  clear h hb0
  go_enter Try.func109, Try.ntmps109
  go_wp2_with fail
  refine (i64_any p R _ H.out).mono ?_
  rintro x w1 ⟨rfl, hr, hk⟩
  generalize hn : wrap64 ((num (R.got 8) : Nat) : Int) = n
  have HN := Lib.hid hn
  have HR := Lib.hid hr
  have K1 := Lib.hid (((Kept.refl [p] w).alloc _).trans hk)
  have HB1 := HB.out.kept hk (by simpa using hnp)
  have y0 := HB1.cell 0
  have hl1 := HB1.lt
  simp only [List.getElem?_cons_zero] at y0
  clear hr hk HB1 hn
  go_wp2_with fail
  refine (sok_any p (R.after 8) _ HR.out).mono ?_
  rintro x w2 ⟨hx, hk⟩
  have K2 := Lib.hid (K1.out.then hk (by simp))
  have HR2 := Lib.hid (HR.out.kept0 hk)
  clear hk y0 hl1
  by_cases he : (R.after 8).e = 0
  case neg =>
    rw [if_neg he] at hx
    subst hx
    have HE := Lib.hid he
    clear he
    go_wp2_with fail
    refine ⟨rfl, ?_⟩
    unfold Rd.word
    rw [if_pos HE.out]
    exact ⟨rfl, K2.out⟩
  rw [if_pos he] at hx
  subst hx
  have HE := Lib.hid he
  clear he
  go_wp2_with fail
  go_ret
  unfold Rd.word
  rw [if_neg (by simpa using HE.out), HN.out]
  exact ⟨rfl, HR2.out, K2.out⟩

/-- A place that is read, which stands behind another one. -/
def Rd.rise (R : Rd) (last most : Int) : Except (Int × Int) (Int × Rd) :=
  match R.rd 4 0 most 3 with
  | .error x => .error x
  | .ok (n, R') => if last < n then .ok (n, R') else .error (6, R.pos)

set_option maxRecDepth 100000 in
theorem srising_any (p : Nat) (R : Rd) (last most : Int) (w : World) (h : RdAt 87 w p R) :
    Calls Try.prog 110 #[.agg #[.pointer (some ⟨p, 0, none⟩)], .int .i64 last, .int .i64 most] w (GotI p w (R.rise last most)) := by
  have H := Lib.hid (h.kept0 ((Kept.refl [] w).alloc (.cells #[.pointer (some ⟨p, 0, none⟩)] 120)))
  have K0 := Lib.hid ((Kept.refl [p] w).alloc (.cells #[.pointer (some ⟨p, 0, none⟩)] 120))
  clear h
  go_enter Try.func110, Try.ntmps110
  go_wp2_with fail
  refine (at_rd p R _ H.out).mono ?_
  rintro x w1 ⟨rfl, rfl⟩
  go_wp2_with fail
  refine (sfour_any p R most 3 _ H.out).mono ?_
  intro x w1 hx
  rcases hr : R.rd 4 0 most 3 with ⟨e, a⟩ | ⟨n, R'⟩
  · rw [hr] at hx
    obtain ⟨rfl, hk⟩ := hx
    have K1 := Lib.hid (K0.out.trans hk)
    have HR := Lib.hid hr
    clear hk hr
    go_wp2_with fail
    refine ⟨rfl, ?_⟩
    unfold Rd.rise
    rw [HR.out]
    exact ⟨rfl, K1.out⟩
  · rw [hr] at hx
    obtain ⟨rfl, hrd, hk⟩ := hx
    have K1 := Lib.hid (K0.out.trans hk)
    have HRD := Lib.hid hrd
    have HR := Lib.hid hr
    clear hk hr hrd
    by_cases g : last < n
    · go_wp2_with fail
      refine (unless_yes _ _ _ _ (by first | rfl | (simp; omega))).mono ?_
      rintro x w3 ⟨rfl, rfl⟩
      go_wp2_with fail
      go_ret
      unfold Rd.rise
      rw [HR.out]
      simp only []
      rw [if_pos g]
      exact ⟨rfl, HRD.out, K1.out⟩
    · go_wp2_with fail
      refine (unless_no _ _ _ _ (by first | rfl | (simp; omega))).mono ?_
      rintro x w3 ⟨rfl, rfl⟩
      go_wp2_with fail
      refine ⟨rfl, ?_⟩
      unfold Rd.rise
      rw [HR.out]
      simp only []
      rw [if_neg (by omega)]
      exact ⟨rfl, K1.out⟩
end Go.Proofs.Ytdjidnccockmmaa
