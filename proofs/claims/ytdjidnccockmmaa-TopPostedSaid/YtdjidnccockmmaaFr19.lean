/- Frames: the document's reading of a number, and how its reading keeps step with the program's. -/
import Derived.Test.YtdjidnccockmmaaFr18
namespace Go.Proofs.Ytdjidnccockmmaa
set_option linter.unusedSimpArgs false
set_option linter.unusedVariables false
open Go.ChangeShapes Go.WideShapes Go.ChangeAt Go.RowKit
open Go.RowKit (wrap32 wrap64)
set_option maxHeartbeats 4000000

/-- A number that is read, or 0 and a reader with a fault. -/
def Rd.numR (R : Rd) (k low most e : Int) : Int × Rd :=
  if (R.after k).e ≠ 0 then (0, R.after k) else if low ≤ (num (R.got k) : Int) ∧ (num (R.got k) : Int) ≤ most then ((num (R.got k) : Int), R.after k) else (0, (R.after k).fail e R.pos)

theorem fieldErrno (a b : Int) (w : World) : (Instr.field 40 (.agg #[.int .i64 a, .int .i64 b]) 0).run Try.prog w = .ok (.int .i64 a) w := by kernel_rfl
section
set_option maxRecDepth 400000
variable (p : Nat) (R : Rd) (low most e : Int) (w : World)
theorem rnum1_any (h : RdAt 92 w p R) :
    Calls Try.prog 85 #[.pointer (some ⟨p, 0, none⟩), .bool true, .int .i64 low, .int .i64 most, .int .i64 e] w fun x w' => x = .returned (.int .i64 (R.numR 1 low most e).1) ∧ RdAt 92 w' p (R.numR 1 low most e).2 ∧ Kept [p] w w' := by
  have H := Lib.hid h
  have hlt := num_got1_lt R
  clear h
  have hfe := fun (a b : Int) (wx : World) => fieldErrno a b wx
  go_enter Try.func85, Try.ntmps85
  go_wp2_with fail
  refine (rat_rd p R _ H.out).mono ?_
  rintro x w1 ⟨rfl, rfl⟩
  go_wp2_with fail
  refine (ru8_any p R _ H.out).mono ?_
  rintro x w1 ⟨rfl, hr, hk⟩
  rw [num_got1]
  have HR := Lib.hid hr
  have K1 := Lib.hid hk
  clear hr hk
  go_wp2_with fail
  refine (rfault_rd p (R.after 1) _ HR.out).mono ?_
  rintro x w2 ⟨rfl, hk⟩
  have K2 := Lib.hid (K1.out.then hk (by simp))
  have HR2 := Lib.hid (HR.out.kept0 hk)
  clear hk hlt
  by_cases he : (R.after 1).e = 0
  case neg =>
    have HE := Lib.hid he
    have hb : ((R.after 1).e != 0) = true := by rw [bne_iff_ne]; exact he
    clear he
    go_wp2_with fail
    go_ret
    unfold Rd.numR
    rw [if_pos HE.out]
    exact ⟨rfl, HR2.out, K2.out⟩
  have HE := Lib.hid he
  have hb : ((R.after 1).e != 0) = false := by rw [he]; rfl
  clear he
  by_cases g1 : low ≤ (num (R.got 1) : Int)
  case neg =>
    go_wp2_with fail
    refine (rfail_any p (R.after 1) e R.pos _ HR2.out).mono ?_
    rintro x w3 ⟨rfl, hr, hk⟩
    have HR3 := Lib.hid hr
    have K3 := Lib.hid (K2.out.trans hk)
    clear hr hk
    go_wp2_with fail
    go_ret
    unfold Rd.numR
    rw [if_neg (by simpa using HE.out), if_neg (by omega)]
    exact ⟨rfl, HR3.out, K3.out⟩
  by_cases g2 : (num (R.got 1) : Int) ≤ most
  case neg =>
    go_wp2_with fail
    refine (rfail_any p (R.after 1) e R.pos _ HR2.out).mono ?_
    rintro x w3 ⟨rfl, hr, hk⟩
    have HR3 := Lib.hid hr
    have K3 := Lib.hid (K2.out.trans hk)
    clear hr hk
    go_wp2_with fail
    go_ret
    unfold Rd.numR
    rw [if_neg (by simpa using HE.out), if_neg (by omega)]
    exact ⟨rfl, HR3.out, K3.out⟩
  go_wp2_with fail
  go_ret
  unfold Rd.numR
  rw [if_neg (by simpa using HE.out), if_pos ⟨g1, g2⟩]
  exact ⟨rfl, HR2.out, K2.out⟩
theorem rnum4_any (h : RdAt 92 w p R) :
    Calls Try.prog 85 #[.pointer (some ⟨p, 0, none⟩), .bool false, .int .i64 low, .int .i64 most, .int .i64 e] w fun x w' => x = .returned (.int .i64 (R.numR 4 low most e).1) ∧ RdAt 92 w' p (R.numR 4 low most e).2 ∧ Kept [p] w w' := by
  have H := Lib.hid h
  have hlt := num_got4_lt R
  clear h
  have hfe := fun (a b : Int) (wx : World) => fieldErrno a b wx
  go_enter Try.func85, Try.ntmps85
  go_wp2_with fail
  refine (rat_rd p R _ H.out).mono ?_
  rintro x w1 ⟨rfl, rfl⟩
  go_wp2_with fail
  refine (ru32_any p R _ H.out).mono ?_
  rintro x w1 ⟨rfl, hr, hk⟩
  rw [num_got4]
  have HR := Lib.hid hr
  have K1 := Lib.hid hk
  clear hr hk
  go_wp2_with fail
  refine (rfault_rd p (R.after 4) _ HR.out).mono ?_
  rintro x w2 ⟨rfl, hk⟩
  have K2 := Lib.hid (K1.out.then hk (by simp))
  have HR2 := Lib.hid (HR.out.kept0 hk)
  clear hk hlt
  by_cases he : (R.after 4).e = 0
  case neg =>
    have HE := Lib.hid he
    have hb : ((R.after 4).e != 0) = true := by rw [bne_iff_ne]; exact he
    clear he
    go_wp2_with fail
    go_ret
    unfold Rd.numR
    rw [if_pos HE.out]
    exact ⟨rfl, HR2.out, K2.out⟩
  have HE := Lib.hid he
  have hb : ((R.after 4).e != 0) = false := by rw [he]; rfl
  clear he
  by_cases g1 : low ≤ (num (R.got 4) : Int)
  case neg =>
    go_wp2_with fail
    refine (rfail_any p (R.after 4) e R.pos _ HR2.out).mono ?_
    rintro x w3 ⟨rfl, hr, hk⟩
    have HR3 := Lib.hid hr
    have K3 := Lib.hid (K2.out.trans hk)
    clear hr hk
    go_wp2_with fail
    go_ret
    unfold Rd.numR
    rw [if_neg (by simpa using HE.out), if_neg (by omega)]
    exact ⟨rfl, HR3.out, K3.out⟩
  by_cases g2 : (num (R.got 4) : Int) ≤ most
  case neg =>
    go_wp2_with fail
    refine (rfail_any p (R.after 4) e R.pos _ HR2.out).mono ?_
    rintro x w3 ⟨rfl, hr, hk⟩
    have HR3 := Lib.hid hr
    have K3 := Lib.hid (K2.out.trans hk)
    clear hr hk
    go_wp2_with fail
    go_ret
    unfold Rd.numR
    rw [if_neg (by simpa using HE.out), if_neg (by omega)]
    exact ⟨rfl, HR3.out, K3.out⟩
  go_wp2_with fail
  go_ret
  unfold Rd.numR
  rw [if_neg (by simpa using HE.out), if_pos ⟨g1, g2⟩]
  exact ⟨rfl, HR2.out, K2.out⟩
end

/-- The program's reading d goes on as c, unless something is wrong. -/
def St (d : Except (Int × Int) Fr) (R : Rd) (c : Except (Int × Int) Fr) : Prop := if R.e ≠ 0 then d = .error (R.e, R.fat) else d = c
theorem St.dead {d c c' : Except (Int × Int) Fr} {R : Rd} (h : St d R c) (he : R.e ≠ 0) : St d R c' := by
  unfold St at h ⊢; rw [if_pos he] at h ⊢; exact h
theorem St.live {d c : Except (Int × Int) Fr} {R : Rd} (h : St d R c) (he : R.e = 0) : d = c := by
  unfold St at h; rw [if_neg (by simpa using he)] at h; exact h
theorem St.mk {d c : Except (Int × Int) Fr} {R : Rd} (h : R.e = 0 → d = c) (h2 : R.e ≠ 0 → d = .error (R.e, R.fat)) : St d R c := by
  unfold St; split
  · rename_i h'; exact h2 h'
  · rename_i h'; exact h (by simpa using h')
theorem after_dead {R : Rd} {k : Int} (h : R.e ≠ 0) : R.after k = R := by unfold Rd.after; rw [if_pos h]
theorem fail_dead {R : Rd} {e a : Int} (h : R.e ≠ 0) : R.fail e a = R := by unfold Rd.fail; rw [if_pos (.inl h)]
theorem fail_live {R : Rd} {e a : Int} (h : R.e = 0) (he : e ≠ 0) : (R.fail e a).e = e ∧ (R.fail e a).fat = a := by
  unfold Rd.fail; rw [if_neg (by simp [h, he])]; exact ⟨rfl, rfl⟩
theorem numR_dead {R : Rd} {k low most e : Int} (h : R.e ≠ 0) : R.numR k low most e = (0, R) := by
  unfold Rd.numR; rw [after_dead h, if_pos h]
theorem numR_ok {R R' : Rd} {k low most e n : Int} (h : R.rd k low most e = .ok (n, R')) : R.numR k low most e = (n, R') ∧ R'.e = 0 := by
  unfold Rd.rd at h
  split at h
  · cases h
  · rename_i h1
    split at h
    · rename_i h2
      injection h with h
      injection h with ha hb
      subst ha hb
      unfold Rd.numR
      rw [if_neg h1, if_pos h2]
      exact ⟨rfl, by simpa using h1⟩
    · cases h
theorem numR_err {R : Rd} {k low most e x a : Int} (h : R.rd k low most e = .error (x, a)) (he : e ≠ 0) : (R.numR k low most e).1 = 0 ∧ (R.numR k low most e).2.e = x ∧ (R.numR k low most e).2.fat = a ∧ x ≠ 0 := by
  unfold Rd.rd at h
  split at h
  · rename_i h1
    injection h with h
    injection h with ha hb
    subst ha hb
    unfold Rd.numR
    rw [if_pos h1]
    exact ⟨rfl, rfl, rfl, h1⟩
  · rename_i h1
    split at h
    · cases h
    · rename_i h2
      injection h with h
      injection h with ha hb
      subst ha hb
      unfold Rd.numR
      rw [if_neg h1, if_neg h2]
      obtain ⟨p1, p2⟩ := fail_live (R := R.after k) (e := e) (a := R.pos) (by simpa using h1) he
      exact ⟨rfl, p1, p2, he⟩
/-- A number is read on both sides. -/
theorem St.numb {d : Except (Int × Int) Fr} {R : Rd} {k low most e : Int} {f : Int × Rd → Except (Int × Int) Fr} (h : St d R ((R.rd k low most e).bind f)) (he : e ≠ 0) : St d (R.numR k low most e).2 (f (R.numR k low most e)) := by
  by_cases h0 : R.e = 0
  · have hd := h.live h0
    rcases hr : R.rd k low most e with ⟨x, a⟩ | ⟨n, R'⟩
    · obtain ⟨_, h2, h3, h4⟩ := numR_err hr he
      rw [hr] at hd
      refine St.mk (fun h => absurd (h2.symm.trans h) h4) (fun _ => ?_)
      rw [h2, h3]; exact hd
    · obtain ⟨h1, h2⟩ := numR_ok hr
      rw [hr] at hd
      rw [h1]
      exact St.mk (fun _ => hd) (fun h => absurd h2 h)
  · rw [numR_dead h0]
    exact h.dead h0
theorem numR_range {R : Rd} {k most e : Int} (hm : 0 ≤ most) : 0 ≤ (R.numR k 0 most e).1 ∧ (R.numR k 0 most e).1 ≤ most := by
  unfold Rd.numR
  split
  · exact ⟨Int.le_refl _, hm⟩
  · split
    · rename_i h; exact h
    · exact ⟨Int.le_refl _, hm⟩
/-- A number of eight bytes is read on both sides. -/
theorem St.word {d : Except (Int × Int) Fr} {R : Rd} {f : Int × Rd → Except (Int × Int) Fr} (h : St d R (R.word.bind f)) : St d (R.after 8) (f (wrap64 ((num (R.got 8) : Nat) : Int), R.after 8)) := by
  by_cases h0 : R.e = 0
  · have hd := h.live h0
    unfold Rd.word at hd
    split at hd
    · rename_i h1
      exact St.mk (fun h => absurd h h1) (fun _ => hd)
    · rename_i h1
      exact St.mk (fun _ => hd) (fun h => absurd h h1)
  · rw [after_dead h0]
    exact h.dead h0
/-- A place that stands behind another one is read on both sides. -/
theorem St.rise {d : Except (Int × Int) Fr} {R : Rd} {last most : Int} {f : Int × Rd → Except (Int × Int) Fr} (h : St d R ((R.rise last most).bind f)) (h0 : R.e = 0) (hl : -1 ≤ last) :
    (last < (R.numR 4 0 most 3).1 ∨ last = -1 → St d (R.numR 4 0 most 3).2 (f (R.numR 4 0 most 3))) ∧
    ((R.numR 4 0 most 3).1 ≤ last → St d ((R.numR 4 0 most 3).2.fail 6 R.pos) (f ((R.numR 4 0 most 3).1, (R.numR 4 0 most 3).2.fail 6 R.pos))) := by
  have hd := h.live h0
  unfold Rd.rise at hd
  rcases hr : R.rd 4 0 most 3 with ⟨x, a⟩ | ⟨n, R'⟩
  · obtain ⟨h1, h2, h3, h4⟩ := numR_err hr (by decide)
    rw [hr] at hd
    have hne : (R.numR 4 0 most 3).2.e ≠ 0 := by rw [h2]; exact h4
    refine ⟨fun _ => St.mk (fun h => absurd h hne) (fun _ => by rw [h2, h3]; exact hd), fun _ => ?_⟩
    rw [fail_dead hne]
    exact St.mk (fun h => absurd h hne) (fun _ => by rw [h2, h3]; exact hd)
  · obtain ⟨h1, h2⟩ := numR_ok hr
    have hn := rd_range hr
    rw [hr] at hd
    simp only [] at hd
    rw [h1]
    refine ⟨fun hc => ?_, fun hc => ?_⟩
    · rw [if_pos (by omega)] at hd
      exact St.mk (fun _ => hd) (fun h => absurd h2 h)
    · simp only [] at hc
      rw [if_neg (by omega)] at hd
      obtain ⟨p1, p2⟩ := fail_live (R := R') (e := 6) (a := R.pos) h2 (by decide)
      refine St.mk (fun h => absurd (p1.symm.trans h) (by decide)) (fun _ => ?_)
      simp only []
      rw [p1, p2]; exact hd
end Go.Proofs.Ytdjidnccockmmaa
