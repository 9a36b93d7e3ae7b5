/- The contracts of octet.Reader's reads, Open and Fail. -/
import Derived.Test.YtdjidnccockmmaaOct5
namespace Go.Proofs.Ytdjidnccockmmaa
open Go.RowKit
open Go.RowKit (wrap32 wrap64)

theorem RdAt.kept0 {t : TypeId} {w w' : World} {p : Nat} {R : Rd} (h : RdAt t w p R) (hk : Kept [] w w') : RdAt t w' p R := by
  obtain ⟨⟨A, cap, hb, hown⟩, hle, hbig⟩ := h
  exact ⟨⟨A, cap, hb.kept hk (by simp), own_kept hown hk (fun g _ => by simp)⟩, hle, hbig⟩
/-- Another block of another element type is turned. -/
theorem RdAt.kept1 {t t' : TypeId} {w w' : World} {p g : Nat} {R : Rd} {cs : List Value} (h : RdAt t w p R) (hg : Blk w g t' cs) (ht : t ≠ t') (ht' : 5 ≠ t') (hk : Kept [g] w w') : RdAt t w' p R := by
  obtain ⟨⟨A, cap, hb, hown⟩, hle, hbig⟩ := h
  refine ⟨⟨A, cap, hb.kept hk (by simp; exact hb.ne hg ht), own_kept hown hk (fun x hx hm => ?_)⟩, hle, hbig⟩
  simp at hm
  subst hm
  exact own_ne_blk hown hg ht' hx

/-- The fault that a read that can't be gives up with. -/
def Rd.why (R : Rd) (n : Int) : Int × Int := if R.e ≠ 0 then (10, 0) else if n < 0 then (3, R.pos) else (2, R.b.length)

theorem next_bad (p : Nat) (R : Rd) (n : Int) (w : World) (h : RdAt 87 w p R) (hc : ¬ R.can n) :
    Calls Try.prog 55 #[.pointer (some ⟨p, 0, none⟩), .int .i64 n] w fun x w' => x = .panicked [brk (R.why n).1 (R.why n).2] ∧ ∃ k, w' = w.drewN k := by
  obtain ⟨⟨A, cap, hb, hown⟩, hle, hbig⟩ := h
  have need : Calls Try.prog 98 #[.pointer (some ⟨p, 0, none⟩), .int .i64 n] w fun x w' => x = .panicked [brk (R.why n).1 (R.why n).2] ∧ ∃ k, w' = w.drewN k := by
    have h0 := hb.cell 0
    have h1 := hb.cell 1
    have h2 := hb.cell 2
    simp only [List.getElem?_cons_zero, List.getElem?_cons_succ] at h0 h1 h2
    unfold Rd.why
    by_cases he : R.e = 0
    · rw [he] at h2
      by_cases hn : n < 0
      · refine (need_neg p R.pos n w hn h1 h2).mono ?_
        rintro x w' ⟨rfl, rfl⟩
        exact ⟨by simp [he, hn], 0, rfl⟩
      · have hs : (R.b.length : Int) - R.pos < n := by
          rcases Int.lt_or_le ((R.b.length : Int) - R.pos) n with h' | h'
          · exact h'
          · exact absurd ⟨he, by omega, h'⟩ hc
        refine (need_short p A R.b.length cap R.pos n w (by omega) hs hle (by omega) h0 h1 h2).mono ?_
        rintro x w' ⟨rfl, k, rfl⟩
        exact ⟨by simp [he, hn], k, rfl⟩
    · refine (need_dead p n w R.e he h2).mono ?_
      rintro x w' ⟨rfl, rfl⟩
      exact ⟨by simp [he], 0, rfl⟩
  obtain ⟨E, hE⟩ : ∃ E, E = brk (R.why n).1 (R.why n).2 := ⟨_, rfl⟩
  rw [← hE] at need ⊢
  have HN := Lib.hid need
  clear need hE hb hown hle hbig hc
  go_enter Try.func55, Try.ntmps55
  go_wp2_with (go_at_call 98; refine HN.out.mono ?_; rintro x w' ⟨rfl, k, rfl⟩)
  exact ⟨rfl, rfl, k, rfl⟩
theorem next_nil (n : Int) (w : World) :
    Calls Try.prog 55 #[.pointer none, .int .i64 n] w fun x w' => x = .panicked [brk 10 0] ∧ w = w' := by
  go_enter Try.func55, Try.ntmps55
  go_wp2_with (go_at_call 98; refine (need_nil _ _).mono ?_; rintro x w' ⟨rfl, rfl⟩)
  exact ⟨rfl, rfl, rfl⟩

/-- What the deferred call makes of a read that gave up. -/
theorem caught_bad (p : Nat) (R : Rd) (n : Int) (w : World) (h : RdAt 87 w p R) (hc : ¬ R.can n) :
    CallsD Try.prog 54 #[.pointer (some ⟨p, 0, none⟩)] (.panicking [brk (R.why n).1 (R.why n).2]) w fun x u' w' => x = .returned (.tuple #[]) ∧ u' = .panicking [{ brk (R.why n).1 (R.why n).2 with recovered := true }] ∧
      RdAt 87 w' p (R.after n) ∧ Kept [p] w w' := by
  have h' := h
  obtain ⟨⟨A, cap, hb, hown⟩, hle, hbig⟩ := h
  by_cases he : R.e = 0
  · refine (caught_first p _ _ _ _ R.fat [] w (by rw [he] at hb; exact hb)).mono ?_
    rintro x u' w' ⟨rfl, rfl, hb', hk⟩
    refine ⟨rfl, rfl, ?_, hk⟩
    have ha : R.after n = { R with e := (R.why n).1, fat := (R.why n).2 } := by
      by_cases hn : n < 0
      · simp [Rd.after, Rd.why, he, hn]
      · have hs : (R.b.length : Int) - R.pos < n := by
          rcases Int.lt_or_le ((R.b.length : Int) - R.pos) n with h' | h'
          · exact h'
          · exact absurd ⟨he, by omega, h'⟩ hc
        simp [Rd.after, Rd.why, he, hn, hs]
    rw [ha]
    refine ⟨⟨A, cap, hb', own_kept hown hk (fun g hg hm => ?_)⟩, hle, hbig⟩
    simp at hm
    subst hm
    exact own_ne_blk hown hb (by decide) hg
  · have h2 := hb.cell 2
    simp only [List.getElem?_cons_zero, List.getElem?_cons_succ] at h2
    refine (caught_dead p _ _ R.e he [] w h2).mono ?_
    rintro x u' w' ⟨rfl, rfl, hk⟩
    refine ⟨rfl, rfl, ?_, hk.mono (by simp)⟩
    have ha : R.after n = R := by unfold Rd.after; rw [if_pos he]
    rw [ha]
    exact h'.kept0 hk

set_option maxHeartbeats 1000000 in
theorem take_any (p : Nat) (R : Rd) (n : Int) (w : World) (h : RdAt 87 w p R) :
    Calls Try.prog 21 #[.pointer (some ⟨p, 0, none⟩), .int .i64 n] w fun x w' => ∃ v, x = .returned v ∧ w'.ownsRow w.heap.size 5 1 v (R.got n).length ((R.got n).map byteV) ∧
      RdAt 87 w' p (R.after n) ∧ Kept [p] w w' := by
  have H := Lib.hid h
  clear h
  by_cases hc : R.can n
  · have HC := Lib.hid hc
    clear hc
    go_enter_defers Try.func21, Try.ntmps21
    go_wp2_with (go_at_call 55; refine (next_good p R n _ H.out HC.out).mono ?_; rintro x w1 ⟨v, rfl, ho, hr, hk⟩; have HO := Lib.hid ho; have HR := Lib.hid hr; have HK := Lib.hid hk; clear ho hr hk)
    refine leaves_cons (f := 54) (args := #[.pointer (some ⟨p, 0, none⟩)]) (by simp) (by simp [go_sem]) ?_
    refine (caught_idle (some ⟨p, 0, none⟩) _).mono ?_
    rintro e u' w'' ⟨rfl, rfl, rfl⟩
    refine ⟨_, results_tmp rfl _ _ _, ?_⟩
    exact ⟨v, rfl, HO.out, HR.out, HK.out⟩
  · have HC := Lib.hid hc
    have hg : R.got n = [] := by unfold Rd.got; rw [if_neg hc]
    have HG := Lib.hid hg
    obtain ⟨E, hE⟩ : ∃ E, E = brk (R.why n).1 (R.why n).2 := ⟨_, rfl⟩
    have HN := Lib.hid (next_bad p R n w H.out hc)
    have HE := Lib.hid hE
    rw [← hE] at HN
    clear hc hE hg
    go_enter_defers Try.func21, Try.ntmps21
    go_wp2_with (go_at_call 55; refine HN.out.mono ?_; rintro x w1 ⟨rfl, k, rfl⟩)
    refine leaves_cons (f := 54) (args := #[.pointer (some ⟨p, 0, none⟩)]) (by simp) (by simp [go_sem]) ?_
    rw [HE.out]
    refine (caught_bad p R n _ (H.out.kept0 ((Kept.refl _ _).drewN k)) HC.out).mono ?_
    rintro e u' w'' ⟨rfl, rfl, hr, hk⟩
    simp only [settle, Leaves, List.dropWhile_nil]
    refine ⟨_, results_tmp rfl _ _ _, ?_⟩
    refine ⟨.slice none 0 0, rfl, ?_, hr, ((Kept.refl _ _).drewN k).then hk (by simp)⟩
    rw [HG.out]
    exact World.ownsRow_nil _ _ _ _
end Go.Proofs.Ytdjidnccockmmaa
