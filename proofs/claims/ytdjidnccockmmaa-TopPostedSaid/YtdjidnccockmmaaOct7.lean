/- The contracts of octet.Reader's reads of numbers. -/
import Derived.Test.YtdjidnccockmmaaOct6
namespace Go.Proofs.Ytdjidnccockmmaa
open Go.RowKit
open Go.RowKit (wrap32 wrap64)

set_option maxHeartbeats 1000000 in
theorem u8_any (p : Nat) (R : Rd) (w : World) (h : RdAt 87 w p R) :
    Calls Try.prog 24 #[.pointer (some ⟨p, 0, none⟩)] w fun x w' => x = .returned (.int .u8 ((num (R.got 1) % 256 : Nat) : Int)) ∧ RdAt 87 w' p (R.after 1) ∧ Kept [p] w w' := by
  have H := Lib.hid h
  clear h
  by_cases hc : R.can 1
  · have hl := Rd.got_length hc
    have HC := Lib.hid hc
    have HL := Lib.hid hl
    clear hc hl
    go_enter_defers Try.func24, Try.ntmps24
    go_wp2_with fail
    refine (next_good p R 1 _ H.out HC.out).mono ?_
    rintro x w1 ⟨v, rfl, ho, hr, hk⟩
    obtain ⟨A, c, rfl, _, _, hreads, _⟩ := own_form ho
    have HR := Lib.hid hr
    have HK := Lib.hid hk
    have HX := Lib.hid hreads
    clear ho hr hk hreads
    go_wp2_with fail
    refine (number_u8 (R.got 1) A c _ HX.out (by rw [HL.out]; decide)).mono ?_
    rintro x w2 ⟨rfl, rfl⟩
    go_wp2_with fail
    refine leaves_cons (f := 54) (args := #[.pointer (some ⟨p, 0, none⟩)]) (by simp) (by simp [go_sem]) ?_
    refine (caught_idle (some ⟨p, 0, none⟩) _).mono ?_
    rintro e u' w'' ⟨rfl, rfl, rfl⟩
    refine ⟨_, results_tmp rfl _ _ _, ?_⟩
    exact ⟨rfl, HR.out, HK.out⟩
  · have HC := Lib.hid hc
    have hg : R.got 1 = [] := by unfold Rd.got; rw [if_neg hc]
    have HG := Lib.hid hg
    obtain ⟨E, hE⟩ : ∃ E, E = brk (R.why 1).1 (R.why 1).2 := ⟨_, rfl⟩
    have HN := Lib.hid (next_bad p R 1 w H.out hc)
    have HE := Lib.hid hE
    rw [← hE] at HN
    clear hc hE hg
    go_enter_defers Try.func24, Try.ntmps24
    go_wp2_with (go_at_call 55; refine HN.out.mono ?_; rintro x w1 ⟨rfl, k, rfl⟩)
    refine leaves_cons (f := 54) (args := #[.pointer (some ⟨p, 0, none⟩)]) (by simp) (by simp [go_sem]) ?_
    rw [HE.out]
    refine (caught_bad p R 1 _ (H.out.kept0 ((Kept.refl _ _).drewN k)) HC.out).mono ?_
    rintro e u' w'' ⟨rfl, rfl, hr, hk⟩
    simp only [settle, Leaves, List.dropWhile_nil]
    refine ⟨_, results_tmp rfl _ _ _, ?_⟩
    refine ⟨?_, hr, ((Kept.refl _ _).drewN k).then hk (by simp)⟩
    rw [HG.out]
    first | rfl | exact ret_int (by simp [num, wrap64])

set_option maxHeartbeats 1000000 in
theorem u32_any (p : Nat) (R : Rd) (w : World) (h : RdAt 87 w p R) :
    Calls Try.prog 22 #[.pointer (some ⟨p, 0, none⟩)] w fun x w' => x = .returned (.int .u32 ((num (R.got 4) % 4294967296 : Nat) : Int)) ∧ RdAt 87 w' p (R.after 4) ∧ Kept [p] w w' := by
  have H := Lib.hid h
  clear h
  by_cases hc : R.can 4
  · have hl := Rd.got_length hc
    have HC := Lib.hid hc
    have HL := Lib.hid hl
    clear hc hl
    go_enter_defers Try.func22, Try.ntmps22
    go_wp2_with fail
    refine (next_good p R 4 _ H.out HC.out).mono ?_
    rintro x w1 ⟨v, rfl, ho, hr, hk⟩
    obtain ⟨A, c, rfl, _, _, hreads, _⟩ := own_form ho
    have HR := Lib.hid hr
    have HK := Lib.hid hk
    have HX := Lib.hid hreads
    clear ho hr hk hreads
    go_wp2_with fail
    refine (number_u32 (R.got 4) A c _ HX.out (by rw [HL.out]; decide)).mono ?_
    rintro x w2 ⟨rfl, rfl⟩
    go_wp2_with fail
    refine leaves_cons (f := 54) (args := #[.pointer (some ⟨p, 0, none⟩)]) (by simp) (by simp [go_sem]) ?_
    refine (caught_idle (some ⟨p, 0, none⟩) _).mono ?_
    rintro e u' w'' ⟨rfl, rfl, rfl⟩
    refine ⟨_, results_tmp rfl _ _ _, ?_⟩
    exact ⟨rfl, HR.out, HK.out⟩
  · have HC := Lib.hid hc
    have hg : R.got 4 = [] := by unfold Rd.got; rw [if_neg hc]
    have HG := Lib.hid hg
    obtain ⟨E, hE⟩ : ∃ E, E = brk (R.why 4).1 (R.why 4).2 := ⟨_, rfl⟩
    have HN := Lib.hid (next_bad p R 4 w H.out hc)
    have HE := Lib.hid hE
    rw [← hE] at HN
    clear hc hE hg
    go_enter_defers Try.func22, Try.ntmps22
    go_wp2_with (go_at_call 55; refine HN.out.mono ?_; rintro x w1 ⟨rfl, k, rfl⟩)
    refine leaves_cons (f := 54) (args := #[.pointer (some ⟨p, 0, none⟩)]) (by simp) (by simp [go_sem]) ?_
    rw [HE.out]
    refine (caught_bad p R 4 _ (H.out.kept0 ((Kept.refl _ _).drewN k)) HC.out).mono ?_
    rintro e u' w'' ⟨rfl, rfl, hr, hk⟩
    simp only [settle, Leaves, List.dropWhile_nil]
    refine ⟨_, results_tmp rfl _ _ _, ?_⟩
    refine ⟨?_, hr, ((Kept.refl _ _).drewN k).then hk (by simp)⟩
    rw [HG.out]
    first | rfl | exact ret_int (by simp [num, wrap64])

set_option maxHeartbeats 1000000 in
theorem i64_any (p : Nat) (R : Rd) (w : World) (h : RdAt 87 w p R) :
    Calls Try.prog 23 #[.pointer (some ⟨p, 0, none⟩)] w fun x w' => x = .returned (.int .i64 (wrap64 ((num (R.got 8) : Nat) : Int))) ∧ RdAt 87 w' p (R.after 8) ∧ Kept [p] w w' := by
  have H := Lib.hid h
  clear h
  by_cases hc : R.can 8
  · have hl := Rd.got_length hc
    have HC := Lib.hid hc
    have HL := Lib.hid hl
    clear hc hl
    go_enter_defers Try.func23, Try.ntmps23
    go_wp2_with fail
    refine (next_good p R 8 _ H.out HC.out).mono ?_
    rintro x w1 ⟨v, rfl, ho, hr, hk⟩
    obtain ⟨A, c, rfl, _, _, hreads, _⟩ := own_form ho
    have HR := Lib.hid hr
    have HK := Lib.hid hk
    have HX := Lib.hid hreads
    clear ho hr hk hreads
    go_wp2_with fail
    refine (number_i64 (R.got 8) A c _ HX.out (by rw [HL.out]; decide)).mono ?_
    rintro x w2 ⟨rfl, rfl⟩
    go_wp2_with fail
    refine leaves_cons (f := 54) (args := #[.pointer (some ⟨p, 0, none⟩)]) (by simp) (by simp [go_sem]) ?_
    refine (caught_idle (some ⟨p, 0, none⟩) _).mono ?_
    rintro e u' w'' ⟨rfl, rfl, rfl⟩
    refine ⟨_, results_tmp rfl _ _ _, ?_⟩
    exact ⟨rfl, HR.out, HK.out⟩
  · have HC := Lib.hid hc
    have hg : R.got 8 = [] := by unfold Rd.got; rw [if_neg hc]
    have HG := Lib.hid hg
    obtain ⟨E, hE⟩ : ∃ E, E = brk (R.why 8).1 (R.why 8).2 := ⟨_, rfl⟩
    have HN := Lib.hid (next_bad p R 8 w H.out hc)
    have HE := Lib.hid hE
    rw [← hE] at HN
    clear hc hE hg
    go_enter_defers Try.func23, Try.ntmps23
    go_wp2_with (go_at_call 55; refine HN.out.mono ?_; rintro x w1 ⟨rfl, k, rfl⟩)
    refine leaves_cons (f := 54) (args := #[.pointer (some ⟨p, 0, none⟩)]) (by simp) (by simp [go_sem]) ?_
    rw [HE.out]
    refine (caught_bad p R 8 _ (H.out.kept0 ((Kept.refl _ _).drewN k)) HC.out).mono ?_
    rintro e u' w'' ⟨rfl, rfl, hr, hk⟩
    simp only [settle, Leaves, List.dropWhile_nil]
    refine ⟨_, results_tmp rfl _ _ _, ?_⟩
    refine ⟨?_, hr, ((Kept.refl _ _).drewN k).then hk (by simp)⟩
    rw [HG.out]
    first | rfl | exact ret_int (by simp [num, wrap64])
end Go.Proofs.Ytdjidnccockmmaa
