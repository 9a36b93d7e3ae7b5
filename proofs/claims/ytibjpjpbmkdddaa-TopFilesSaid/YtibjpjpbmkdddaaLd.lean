/- Loader: the source of numbers that are read, its small functions, which give up with a fault (lines of the frames' text, turned). -/
import Derived.Test.YtibjpjpbmkdddaaLc
import Derived.Test.YtibjpjpbmkdddaaShut
import Derived.Laws.IdiomStrings
import Derived.Laws.BytesArg
namespace Go.Proofs.Ytibjpjpbmkdddaa
set_option linter.unusedSimpArgs false
set_option linter.unusedVariables false
open Go.ChangeShapes Go.WideShapes Go.ChangeAt Go.RowKit
open Go.RowKit (wrap32 wrap64)
set_option maxHeartbeats 4000000

/-- With what reading gives up. -/
def stp (e a : Int) : PanicEntry := { v := .iface 140 (.agg #[.int .i64 e, .int .i64 a]), recovered := false }

theorem unless_ok (e a : Int) (w : World) : Calls Try.prog 45 #[.bool true, .int .i64 e, .int .i64 a] w fun x w' => x = .returned (.tuple #[]) ∧ w = w' := by
  go_enter Try.func45, Try.ntmps45
  go_wp2
  go_end0
  exact ⟨rfl, rfl⟩
theorem unless_bad (e a : Int) (w : World) : Calls Try.prog 45 #[.bool false, .int .i64 e, .int .i64 a] w fun x w' => x = .panicked [stp e a] ∧ w = w' := by
  go_enter Try.func45, Try.ntmps45
  go_wp2
  exact ⟨rfl, rfl, rfl⟩
theorem unless_no (b : Bool) (e a : Int) (w : World) (hb : b = false) : Calls Try.prog 45 #[.bool b, .int .i64 e, .int .i64 a] w fun x w' => x = .panicked [stp e a] ∧ w = w' := by subst hb; exact unless_bad e a w
theorem unless_yes (b : Bool) (e a : Int) (w : World) (hb : b = true) : Calls Try.prog 45 #[.bool b, .int .i64 e, .int .i64 a] w fun x w' => x = .returned (.tuple #[]) ∧ w = w' := by subst hb; exact unless_ok e a w
/-- What a call comes to: a value and a reader behind it, or it gives up. -/
def GotI (p : Nat) (w : World) (r : Except (Int × Int) (Int × Rd)) (x : Ending) (w' : World) : Prop :=
  match r with
  | .ok (n, R) => x = .returned (.int .i64 n) ∧ RdAt 138 w' p R ∧ Kept [p] w w'
  | .error (e, a) => x = .panicked [stp e a] ∧ Kept [p] w w'

/-- Nothing is wrong with the reader, or the call gives up with what is. -/
def GotU (R : Rd) (w : World) (x : Ending) (w' : World) : Prop := (if R.e = 0 then x = .returned (.tuple #[]) else x = .panicked [stp R.e R.fat]) ∧ Kept [] w w'
set_option maxRecDepth 100000 in
theorem sok_any (p : Nat) (R : Rd) (w : World) (h : RdAt 138 w p R) :
    Calls Try.prog 44 #[.agg #[.pointer (some ⟨p, 0, none⟩)]] w (GotU R w) := by
  have H := Lib.hid (h.kept0 ((Kept.refl [] w).alloc (.cells #[.pointer (some ⟨p, 0, none⟩)] 77)))
  clear h
  by_cases he : R.e = 0
  · have HE := Lib.hid he
    clear he
    go_enter Try.func44, Try.ntmps44
    go_wp2_with fail
    refine (fault_rd p R _ H.out).mono ?_
    rintro x w1 ⟨rfl, hk⟩
    have K1 := Lib.hid (((Kept.refl [] w).alloc _).trans hk)
    rw [HE.out]
    clear hk
    go_wp2_with fail
    refine (unless_ok _ _ _).mono ?_
    rintro x w2 ⟨rfl, rfl⟩
    go_wp2_with fail
    go_end0
    exact ⟨by rw [if_pos HE.out], K1.out.alloc _⟩
  · have HE := Lib.hid he
    have hb : (R.e == 0) = false := by rw [beq_eq_false_iff_ne]; exact he
    clear he
    go_enter Try.func44, Try.ntmps44
    go_wp2_with fail
    refine (fault_rd p R _ H.out).mono ?_
    rintro x w1 ⟨rfl, hk⟩
    have K1 := Lib.hid (((Kept.refl [] w).alloc _).trans hk)
    clear hk
    go_wp2_with fail
    refine (unless_bad _ _ _).mono ?_
    rintro x w2 ⟨rfl, rfl⟩
    go_wp2_with fail
    exact ⟨rfl, by rw [if_neg HE.out], K1.out.alloc _⟩

/-- A number of k bytes that is read: from low on, up to most; else that error at its place. -/
def Rd.rd (R : Rd) (k low most e : Int) : Except (Int × Int) (Int × Rd) :=
  if (R.after k).e ≠ 0 then .error ((R.after k).e, (R.after k).fat)
  else if low ≤ (num (R.got k) : Int) ∧ (num (R.got k) : Int) ≤ most then .ok ((num (R.got k) : Int), R.after k) else .error (e, R.pos)
/-- A number of eight bytes that is read. -/
def Rd.word (R : Rd) : Except (Int × Int) (Int × Rd) :=
  if (R.after 8).e ≠ 0 then .error ((R.after 8).e, (R.after 8).fat) else .ok (wrap64 ((num (R.got 8) : Nat) : Int), R.after 8)
theorem got_le (R : Rd) (k : Nat) : (R.got k).length ≤ k := by
  unfold Rd.got
  split
  · simp; omega
  · simp
theorem num_got_mod (R : Rd) (k : Nat) : num (R.got k) % 256 ^ k = num (R.got k) :=
  Nat.mod_eq_of_lt (Nat.lt_of_lt_of_le (num_lt _) (Nat.pow_le_pow_right (by decide) (got_le R k)))
theorem num_got1 (R : Rd) : num (R.got 1) % 256 = num (R.got 1) := by have := num_got_mod R 1; simpa using this
theorem num_got4 (R : Rd) : num (R.got 4) % 4294967296 = num (R.got 4) := by have := num_got_mod R 4; simpa using this
theorem num_got4_lt (R : Rd) : (num (R.got 4) : Int) < 4294967296 := by have := num_got4 R; have := Nat.mod_lt (num (R.got 4)) (show 0 < 4294967296 by decide); omega
theorem num_got1_lt (R : Rd) : (num (R.got 1) : Int) < 256 := by have := num_got1 R; have := Nat.mod_lt (num (R.got 1)) (show 0 < 256 by decide); omega

set_option maxRecDepth 100000 in
theorem smost_any (p : Nat) (R : Rd) (most e : Int) (w : World) (h : RdAt 138 w p R) :
    Calls Try.prog 39 #[.agg #[.pointer (some ⟨p, 0, none⟩)], .int .i64 most, .int .i64 e] w (GotI p w (R.rd 4 0 most e)) := by
  have H := Lib.hid (h.kept0 ((Kept.refl [] w).alloc (.cells #[.pointer (some ⟨p, 0, none⟩)] 77)))
  have hlt := num_got4_lt R
  have hnp : w.heap.size ≠ p := by
    obtain ⟨_, _, hb, _⟩ := h.ex
    have := hb.lt
    omega
  have hb0 := Blk.new w 77 [.pointer (some ⟨p, 0, none⟩)]
  have HB := Lib.hid hb0
  clear h hb0
  go_enter Try.func39, Try.ntmps39
  go_wp2_with fail
  refine (at_rd p R _ H.out).mono ?_
  rintro x w1 ⟨rfl, rfl⟩
  go_wp2_with fail
  refine (u32_any p R _ H.out).mono ?_
  rintro x w1 ⟨rfl, hr, hk⟩
  rw [num_got4]
  have HR := Lib.hid hr
  have K1 := Lib.hid (((Kept.refl [p] w).alloc _).trans hk)
  have HB1 := HB.out.kept hk (by simpa using hnp)
  have y0 := HB1.cell 0
  have hl1 := HB1.lt
  simp only [List.getElem?_cons_zero] at y0
  clear hr hk HB1
  go_wp2_with fail
  refine (sok_any p (R.after 4) _ HR.out).mono ?_
  rintro x w2 ⟨hx, hk⟩
  have K2 := Lib.hid (K1.out.then hk (by simp))
  have HR2 := Lib.hid (HR.out.kept0 hk)
  clear hk y0 hl1
  by_cases he : (R.after 4).e = 0
  case neg =>
    rw [if_neg he] at hx
    subst hx
    have HE := Lib.hid he
    clear he
    go_wp2_with fail
    refine ⟨rfl, ?_⟩
    unfold Rd.rd
    rw [if_pos HE.out]
    exact ⟨rfl, K2.out⟩
  rw [if_pos he] at hx
  subst hx
  have HE := Lib.hid he
  clear he
  by_cases g2 : (num (R.got 4) : Int) ≤ most
  case neg =>
    go_wp2_with fail
    refine (unless_no _ _ _ _ (by first | rfl | (simp; omega))).mono ?_
    rintro x w3 ⟨rfl, rfl⟩
    go_wp2_with fail
    refine ⟨rfl, ?_⟩
    unfold Rd.rd
    rw [if_neg (by simpa using HE.out), if_neg (by omega)]
    exact ⟨rfl, K2.out⟩
  go_wp2_with fail
  refine (unless_yes _ _ _ _ (by first | rfl | (simp; omega))).mono ?_
  rintro x w3 ⟨rfl, rfl⟩
  go_wp2_with fail
  go_ret
  unfold Rd.rd
  rw [if_neg (by simpa using HE.out), if_pos ⟨by omega, g2⟩]
  exact ⟨rfl, HR2.out, K2.out⟩

/-- What a call comes to that hands nothing back: a reader behind it, or it gives up. -/
def GotR (p : Nat) (w : World) (r : Except (Int × Int) Rd) (x : Ending) (w' : World) : Prop :=
  match r with
  | .ok R => x = .returned (.tuple #[]) ∧ RdAt 138 w' p R ∧ Kept [p] w w'
  | .error (e, a) => x = .panicked [stp e a] ∧ Kept [p] w w'
/-- Four bytes that stand there. -/
def Rd.mark (R : Rd) (m : List UInt8) : Except (Int × Int) Rd :=
  if (R.after 4).e ≠ 0 then .error ((R.after 4).e, (R.after 4).fat) else if R.got 4 = m then .ok (R.after 4) else .error (1, 0)
theorem run_str (l : List UInt8) (A : Option Addr) (c : Nat) (w : World) (h : Reads w A (l.map byteV)) : (convert 31 9 (.slice A l.length c)).run Try.prog w = .ok (.string ⟨l.toArray⟩) w := by
  cases A with
  | none =>
    have hl : l = [] := by
      by_cases h0 : l = []
      · exact h0
      · obtain ⟨b, off, e, _⟩ := h (by simpa using h0)
        cases e
    subst hl
    exact run_convert_bytes_nil w 31 5 Try.underlying31 Try.underlying5 0 c 9 Try.underlying9
  | some a =>
    by_cases h0 : l = []
    · refine run_convert_bytes_back w 31 9 5 a c l Try.underlying31 Try.underlying5 Try.underlying9 (fun j hj => ?_)
      subst h0
      simp at hj
    · obtain ⟨b, off, e, _, hc⟩ := h (by simpa using h0)
      obtain rfl := Option.some.inj e
      refine run_convert_bytes_back w 31 9 5 ⟨b, off, none⟩ c l Try.underlying31 Try.underlying5 Try.underlying9 (fun j hj => ?_)
      have := hc j (byteV l[j]) (by simp [hj])
      have e : (⟨b, off, none⟩ : Addr).add j = ⟨b, off + j, none⟩ := by
        unfold Addr.add
        split
        · rename_i h; have h' : j = 0 := by simpa using h
          subst h'; rfl
        · rfl
      rw [e]
      exact this
theorem str_eq {l m : List UInt8} : ((⟨l.toArray⟩ : ByteArray) == ⟨m.toArray⟩) = decide (l = m) := by
  show (l.toArray == m.toArray) = decide (l = m)
  by_cases h : l = m
  · subst h; simp
  · simp [h]
set_option maxRecDepth 100000 in
theorem smark_any (p : Nat) (R : Rd) (m : List UInt8) (w : World) (hm : m.length = 4) (h : RdAt 138 w p R) :
    Calls Try.prog 38 #[.agg #[.pointer (some ⟨p, 0, none⟩)], .string ⟨m.toArray⟩] w (GotR p w (R.mark m)) := by
  have H := Lib.hid (h.kept0 ((Kept.refl [] w).alloc (.cells #[.pointer (some ⟨p, 0, none⟩)] 77)))
  have hnp : w.heap.size ≠ p := by
    obtain ⟨_, _, hb, _⟩ := h.ex
    have := hb.lt
    omega
  have hb0 := Blk.new w 77 [.pointer (some ⟨p, 0, none⟩)]
  have HB := Lib.hid hb0
  have hs : (⟨m.toArray⟩ : ByteArray).size = 4 := by show m.toArray.size = 4; simpa using hm
  clear h hb0
  go_enter Try.func38, Try.ntmps38
  go_wp2_with fail
  refine (take_any p R 4 _ H.out).mono ?_
  rintro x w1 ⟨v, rfl, ho, hr, hk⟩
  obtain ⟨B, cb, rfl⟩ := own_n ho
  have HO := Lib.hid (Reads.of_own ho)
  have HR := Lib.hid hr
  have K1 := Lib.hid (((Kept.refl [p] w).alloc _).trans hk)
  have HB1 := HB.out.kept hk (by simpa using hnp)
  have y0 := HB1.cell 0
  have hl1 := HB1.lt
  simp only [List.getElem?_cons_zero] at y0
  clear hr hk HB1 ho
  go_wp2_with fail
  refine (sok_any p (R.after 4) _ HR.out).mono ?_
  rintro x w2 ⟨hx, hk⟩
  have K2 := Lib.hid (K1.out.then hk (by simp))
  have HR2 := Lib.hid (HR.out.kept0 hk)
  have hcv := run_str (R.got 4) B cb w2 (HO.out.kept0 hk)
  clear hk y0 hl1
  by_cases he : (R.after 4).e = 0
  case neg =>
    rw [if_neg he] at hx
    subst hx
    have HE := Lib.hid he
    clear he
    go_wp2_with fail
    refine ⟨rfl, ?_⟩
    unfold Rd.mark
    rw [if_pos HE.out]
    exact ⟨rfl, K2.out⟩
  rw [if_pos he] at hx
  subst hx
  have HE := Lib.hid he
  clear he
  have hse : ((⟨(R.got 4).toArray⟩ : ByteArray) == ⟨m.toArray⟩) = decide (R.got 4 = m) := str_eq
  by_cases g2 : R.got 4 = m
  · have G := Lib.hid g2
    rw [decide_eq_true g2] at hse
    clear g2
    go_wp2_with fail
    refine (unless_yes _ _ _ _ (by first | rfl | exact hse | (simpa using G.out))).mono ?_
    rintro x w3 ⟨rfl, rfl⟩
    go_wp2_with fail
    go_end0
    unfold Rd.mark
    rw [if_neg (by simpa using HE.out), if_pos G.out]
    exact ⟨rfl, HR2.out, K2.out⟩
  · have G := Lib.hid g2
    rw [decide_eq_false g2] at hse
    clear g2
    go_wp2_with fail
    refine (unless_no _ _ _ _ (by first | rfl | exact hse | (simpa using G.out))).mono ?_
    rintro x w3 ⟨rfl, rfl⟩
    go_wp2_with fail
    refine ⟨rfl, ?_⟩
    unfold Rd.mark
    rw [if_neg (by simpa using HE.out), if_neg G.out]
    exact ⟨rfl, K2.out⟩
/-- Nothing is left. -/
def GotE (R : Rd) (w : World) (x : Ending) (w' : World) : Prop := (if R.atEnd = true then x = .returned (.tuple #[]) else x = .panicked [stp 4 R.pos]) ∧ Kept [] w w'
set_option maxRecDepth 100000 in
theorem send_any (p : Nat) (R : Rd) (w : World) (h : RdAt 138 w p R) :
    Calls Try.prog 46 #[.agg #[.pointer (some ⟨p, 0, none⟩)]] w (GotE R w) := by
  have H := Lib.hid (h.kept0 ((Kept.refl [] w).alloc (.cells #[.pointer (some ⟨p, 0, none⟩)] 77)))
  have HB := Lib.hid (Blk.new w 77 [.pointer (some ⟨p, 0, none⟩)])
  have K0 := Lib.hid ((Kept.refl [] w).alloc (.cells #[.pointer (some ⟨p, 0, none⟩)] 77))
  clear h
  obtain ⟨z, hz⟩ : ∃ z, z = R.atEnd := ⟨_, rfl⟩
  unfold GotE
  rw [← hz]
  have HZ := Lib.hid hz.symm
  clear hz
  go_enter Try.func46, Try.ntmps46
  go_upto_region 1 with (fail)
  generalize w.alloc (.cells #[.pointer (some ⟨p, 0, none⟩)] 77) = w1 at *
  generalize w.heap.size = g at HB ⊢
  refine wp_region_held_drew (S := (fun w' => w'.cell? ⟨g, 0, none⟩ = some (.pointer (some ⟨p, 0, none⟩)))) (by kernel_rfl) ?_ (fun hHeld => ?_)
  · exact HB.out.cell 0
  replace H := Lib.hid (H.out.kept0 ((Kept.refl [] w1).drew))
  replace HB := Lib.hid (HB.out.kept ((Kept.refl [] w1).drew) (by simp))
  replace K0 := Lib.hid (K0.out.trans ((Kept.refl [] w1).drew))
  refine tkYes (i := 0) (v := ?_) rfl rfl (by kernel_rfl) (by kernel_rfl) (by kernel_rfl) (fun _ _ _ h => h) (by rfl) ?_ (by assumption) ?_
  rotate_left
  · (intro w' hSw; (try dsimp only at hSw); go_simp; try with_reducible rfl)
  try simp only [Act.put, List.setIfInBounds_toArray, List.set_cons_zero, List.set_cons_succ]
  refine tkYes (i := 1) (v := ?_) rfl rfl (by kernel_rfl) (by kernel_rfl) (by kernel_rfl) (fun _ _ _ h => h) (by rfl) ?_ (by assumption) ?_
  rotate_left
  · (intro w' hSw; (try dsimp only at hSw); go_simp; try with_reducible rfl)
  try simp only [Act.put, List.setIfInBounds_toArray, List.set_cons_zero, List.set_cons_succ]
  refine tkYes (i := 3) (v := ?_) rfl rfl (by kernel_rfl) (by kernel_rfl) (by kernel_rfl) (fun _ _ _ h => h) (by rfl) ?_ (by assumption) ?_
  rotate_left
  · (intro w' hSw; (try dsimp only at hSw); go_simp; try with_reducible rfl)
  try simp only [Act.put, List.setIfInBounds_toArray, List.set_cons_zero, List.set_cons_succ]
  refine tkYes (i := 4) (v := ?_) rfl rfl (by kernel_rfl) (by kernel_rfl) (by kernel_rfl) (fun _ _ _ h => h) (by rfl) ?_ (by assumption) ?_
  rotate_left
  · (intro w' hSw; (try dsimp only at hSw); go_simp; try with_reducible rfl)
  try simp only [Act.put, List.setIfInBounds_toArray, List.set_cons_zero, List.set_cons_succ]
  refine wpAnyH_ready (rs := [2]) (by kernel_rfl) (by simp) ?_
  refine AllReadyH.cons rfl (fun K hK => ?_) AllReadyH.nil
  go_simp
  refine (end_rd p R _ H.out).mono ?_
  rintro x w2 ⟨rfl, nq, hnq⟩
  rw [HZ.out]
  have hk : Kept [] w1.drew w2 := hnq ▸ (Kept.refl [] _).drewN nq
  clear hnq
  replace H := Lib.hid (H.out.kept0 hk)
  replace HB := Lib.hid (HB.out.kept hk (by simp))
  replace K0 := Lib.hid (K0.out.trans hk)
  clear hk
  go_wp2_with fail
  refine hK.out _ _ ?_ (fun hHeld => ?_)
  · exact HB.out.cell 0
  clear hK K
  try simp only [Act.put, List.setIfInBounds_toArray, List.set_cons_zero, List.set_cons_succ]
  refine wpAnyH_ready (rs := [5]) (by kernel_rfl) (by simp) ?_
  refine AllReadyH.cons rfl (fun K hK => ?_) AllReadyH.nil
  go_simp
  refine (at_rd p R _ H.out).mono ?_
  rintro x w3 ⟨rfl, rfl⟩
  go_wp2_with fail
  refine hK.out _ _ ?_ (fun hHeld => ?_)
  · exact HB.out.cell 0
  clear hK K
  try simp only [Act.put, List.setIfInBounds_toArray, List.set_cons_zero, List.set_cons_succ]
  cases z
  · refine wpAnyH_ready (rs := [6]) (by kernel_rfl) (by simp) ?_
    refine AllReadyH.cons rfl (fun K hK => ?_) AllReadyH.nil
    go_simp
    refine (unless_bad _ _ _).mono ?_
    rintro x w4 ⟨rfl, rfl⟩
    go_wp2_with fail
    exact ⟨rfl, rfl, K0.out⟩
  · refine wpAnyH_ready (rs := [6]) (by kernel_rfl) (by simp) ?_
    refine AllReadyH.cons rfl (fun K hK => ?_) AllReadyH.nil
    go_simp
    refine (unless_ok _ _ _).mono ?_
    rintro x w4 ⟨rfl, rfl⟩
    go_wp2_with fail
    refine hK.out _ _ ?_ (fun hHeld => ?_)
    · exact HB.out.cell 0
    clear hK K
    try simp only [Act.put, List.setIfInBounds_toArray, List.set_cons_zero, List.set_cons_succ]
    refine wpAnyH_done (by kernel_rfl) ?_ _
    go_wp2_with fail
    go_end0
    exact ⟨rfl, K0.out⟩
end Go.Proofs.Ytibjpjpbmkdddaa
