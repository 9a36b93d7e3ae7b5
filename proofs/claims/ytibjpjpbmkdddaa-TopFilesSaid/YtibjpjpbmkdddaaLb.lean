/- Texts merged by a program: Oct5, Oct6, Oct7. -/
import Derived.Test.YtibjpjpbmkdddaaLa

namespace Go.Proofs.Ytibjpjpbmkdddaa
/-! Oct5 -/
open Go.RowKit
open Go.RowKit (wrap32 wrap64)
/-- Can so many bytes be read? -/
def Rd.can (R : Rd) (n : Int) : Prop := R.e = 0 ∧ 0 ≤ n ∧ n ≤ (R.b.length : Int) - R.pos
instance (R : Rd) (n : Int) : Decidable (R.can n) := by unfold Rd.can; infer_instance
/-- What is read. -/
def Rd.got (R : Rd) (n : Int) : List UInt8 := if R.can n then (R.b.drop R.pos).take n.toNat else []
/-- The reader behind a read. -/
def Rd.after (R : Rd) (n : Int) : Rd :=
  if R.e ≠ 0 then R else if n < 0 then { R with e := 3, fat := R.pos } else if (R.b.length : Int) - R.pos < n then { R with e := 2, fat := R.b.length } else { R with pos := R.pos + n.toNat }
theorem Rd.after_can {R : Rd} {n : Int} (h : R.can n) : R.after n = { R with pos := R.pos + n.toNat } := by
  obtain ⟨h1, h2, h3⟩ := h
  unfold Rd.after
  rw [if_neg (by simp [h1]), if_neg (by omega), if_neg (by omega)]
theorem Rd.got_length {R : Rd} {n : Int} (h : R.can n) : (R.got n).length = n.toNat := by
  unfold Rd.got
  rw [if_pos h]
  obtain ⟨h1, h2, h3⟩ := h
  simp
  omega
set_option maxHeartbeats 1000000 in
theorem next_zero (p : Nat) (A : Option Addr) (len : Nat) (f : Int) (w : World) (hl : len ≤ 1073741824) (hb : Blk w p 138 [.slice A len len, .int .i64 len, .int .i64 0, .int .i64 f]) :
    Calls Try.prog 95 #[.pointer (some ⟨p, 0, none⟩), .int .i64 0] w fun x w' => ∃ v, x = .returned v ∧ w'.ownsRow w.heap.size 5 1 v 0 [] ∧
      Blk w' p 138 [.slice A len len, .int .i64 len, .int .i64 0, .int .i64 f] ∧ Kept [p] w w' := by
  have h0 := hb.cell 0
  have h1 := hb.cell 1
  have h2 := hb.cell 2
  simp only [List.getElem?_cons_zero, List.getElem?_cons_succ] at h0 h1 h2
  have hlt := hb.lt
  have hf := hb.frozen 1
  have HB := Lib.hid hb
  clear hb
  go_enter Try.func95, Try.ntmps95
  go_wp2_with (go_at_call 121; refine (need_ok p A len len len 0 _ (by omega) (by omega) (by omega) (by omega) h0 h1 h2).mono ?_; rintro x w1 ⟨rfl, k1, rfl⟩)
  have hS0 : Kept [] w (w.drewN k1).drew := ((Kept.refl _ _).drewN k1).drew
  have i1 : (0 : Int) ≤ (len : Int) := by omega
  have i3 : (len : Int) ≤ (len : Int) + 0 := by omega
  have i4 : IntKind.i64.wrap ((len : Int) + 0) = (len : Int) := by rw [Int.add_zero]; exact IntWalk.i64_in _ (by omega)
  have i7 : IntKind.i64.wrap (len : Int) = (len : Int) := IntWalk.i64_in _ (by omega)
  go_region_held3 (fun w' => Kept [] w w' ∧ w'.cell? ⟨p, 0, none⟩ = some (.slice A len len) ∧ w'.cell? ⟨p, 1, none⟩ = some (.int .i64 len)) (first | assumption | exact ⟨hS0, h0, h1⟩) (first | (go_at_call 89; refine (clone_bytes_n [] 0 _ _ _ rfl (Reads.nil _ _) (by omega)).mono ?_; rintro x w2 ⟨v, rfl, hown, hk2⟩; have hS : Kept [] w w2 ∧ w2.cell? ⟨p, 0, none⟩ = some (.slice A len len) ∧ w2.cell? ⟨p, 1, none⟩ = some (.int .i64 len) := ⟨hS0.trans hk2, ((hS0.trans hk2).cell (p := ⟨p, 0, none⟩) hlt (by simp)).trans h0, ((hS0.trans hk2).cell (p := ⟨p, 1, none⟩) hlt (by simp)).trans h1⟩))
  obtain ⟨hk, hc0, hc1⟩ := hS
  have hf1 := (hk.frozen (p := ⟨p, 1, none⟩) hlt (by simp)).trans hf
  clear hk2 h0 h1 h2 hS0 hc0 hf
  have HK := Lib.hid hk
  have HO := Lib.hid hown
  clear hk hown
  go_wp2
  go_ret
  refine ⟨_, rfl, ?_, ?_, ?_⟩
  · exact ownsRow_setCell_below HO.out (a := ⟨p, 1, none⟩) hlt _
  · have := (HB.out.kept HK.out (by simp)).set 1 (.int .i64 (len : Int))
    simpa using this
  · exact (HK.out.mono (by simp)).setCell (.inl (by simp)) _
set_option maxHeartbeats 1000000 in
theorem next_good (p : Nat) (R : Rd) (n : Int) (w : World) (h : RdAt 138 w p R) (hc : R.can n) :
    Calls Try.prog 95 #[.pointer (some ⟨p, 0, none⟩), .int .i64 n] w fun x w' => ∃ v, x = .returned v ∧ w'.ownsRow w.heap.size 5 1 v (R.got n).length ((R.got n).map byteV) ∧
      RdAt 138 w' p (R.after n) ∧ Kept [p] w w' := by
  obtain ⟨⟨A, cap, hb, hown⟩, hle, hbig⟩ := h
  have hgl := Rd.got_length hc
  have hac := Rd.after_can hc
  obtain ⟨he, hn0, hn⟩ := hc
  have hgot : R.got n = (R.b.drop R.pos).take n.toNat := by unfold Rd.got; rw [if_pos ⟨he, hn0, hn⟩]
  obtain ⟨m, rfl⟩ := Int.eq_ofNat_of_zero_le hn0
  simp only [Int.toNat_natCast] at hgl hac hgot
  rw [he] at hb
  obtain ⟨A', cap', hv, hlc, hcm, hr, hf⟩ := own_form hown
  injection hv with hA hlen hcap
  subst hA hcap
  have finish : (Calls Try.prog 95 #[.pointer (some ⟨p, 0, none⟩), .int .i64 (m : Int)] w fun x w' => ∃ v, x = .returned v ∧ w'.ownsRow w.heap.size 5 1 v m (((R.b.drop R.pos).take m).map byteV) ∧
      Blk w' p 138 [.slice A R.b.length cap, .int .i64 ((R.pos + m : Nat) : Int), .int .i64 0, .int .i64 R.fat] ∧ Kept [p] w w') → 
      Calls Try.prog 95 #[.pointer (some ⟨p, 0, none⟩), .int .i64 (m : Int)] w fun x w' => ∃ v, x = .returned v ∧ w'.ownsRow w.heap.size 5 1 v (R.got m).length ((R.got m).map byteV) ∧
      RdAt 138 w' p (R.after m) ∧ Kept [p] w w' := by
    intro H
    refine H.mono ?_
    rintro x w' ⟨v, rfl, ho, hb', hk⟩
    refine ⟨v, rfl, ?_, ?_, hk⟩
    · rw [hgl, hgot]; exact ho
    · rw [hac]
      refine ⟨⟨A, cap, by rw [he]; exact hb', own_kept hown hk ?_⟩, by simp only; omega, hbig⟩
      intro g hg hm
      simp at hm
      subst hm
      exact own_ne_blk hown hb (by decide) hg
  refine finish ?_
  have zero : cap = R.pos → Calls Try.prog 95 #[.pointer (some ⟨p, 0, none⟩), .int .i64 (m : Int)] w fun x w' => ∃ v, x = .returned v ∧ w'.ownsRow w.heap.size 5 1 v m (((R.b.drop R.pos).take m).map byteV) ∧
      Blk w' p 138 [.slice A R.b.length cap, .int .i64 ((R.pos + m : Nat) : Int), .int .i64 0, .int .i64 R.fat] ∧ Kept [p] w w' := by
    intro hcp
    have e1 : R.b.length = R.pos := by omega
    have e2 : m = 0 := by omega
    subst e2
    have H := next_zero p A R.b.length R.fat w hbig (by rw [hcp, ← e1] at hb; exact hb)
    refine H.mono ?_
    rintro x w' ⟨v, rfl, ho, hb', hk⟩
    refine ⟨v, rfl, by simpa using ho, ?_, hk⟩
    rw [hcp, ← e1]
    exact hb'
  rcases A with _ | ad
  · refine zero ?_
    rcases hown.2 with ⟨h, _⟩ | ⟨g, _, _, h, _⟩
    · injection h with _ h1 h2
      omega
    · simp at h
  · obtain ⟨g, rfl, _, hglt⟩ := hf ad rfl
    by_cases hcp : cap = R.pos
    · exact zero hcp
    · exact next_ok p g R.b cap R.pos m R.fat w (by omega) hlc hcp hbig hb hr
/-! Oct6 -/
open Go.RowKit
open Go.RowKit (wrap32 wrap64)
theorem RdAt.kept0 {t : TypeId} {w w' : World} {p : Nat} {R : Rd} (h : RdAt t w p R) (hk : Kept [] w w') : RdAt t w' p R := by
  obtain ⟨⟨A, cap, hb, hown⟩, hle, hbig⟩ := h
  exact ⟨⟨A, cap, hb.kept hk (by simp), own_kept hown hk (fun g _ => by simp)⟩, hle, hbig⟩
/-- Another block of another element type is turned. -/
theorem RdAt.kept1 {t t' : TypeId} {w w' : World} {p g : Nat} {R : Rd} {cs : List Value} (h : RdAt t w p R) (hg : Blk w g t' cs) (ht : t ≠ t') (ht' : 5 ≠ t') (hk : Kept [g] w w') : RdAt t w' p R := by
  obtain ⟨⟨A, cap, hb, hown⟩, hle, hbig⟩ := h
  refine ⟨⟨A, cap, hb.kept hk (by simp; exact hb.ne hg ht), own_kept hown hk (fun x hx hm => ?_)⟩, hle, hbig⟩
  simp at hm
  subst hm
  exact own_ne_blk hown hg ht' hx
/-- The fault that a read that can't be gives up with. -/
def Rd.why (R : Rd) (n : Int) : Int × Int := if R.e ≠ 0 then (10, 0) else if n < 0 then (3, R.pos) else (2, R.b.length)
theorem next_bad (p : Nat) (R : Rd) (n : Int) (w : World) (h : RdAt 138 w p R) (hc : ¬ R.can n) :
    Calls Try.prog 95 #[.pointer (some ⟨p, 0, none⟩), .int .i64 n] w fun x w' => x = .panicked [brk (R.why n).1 (R.why n).2] ∧ ∃ k, w' = w.drewN k := by
  obtain ⟨⟨A, cap, hb, hown⟩, hle, hbig⟩ := h
  have need : Calls Try.prog 121 #[.pointer (some ⟨p, 0, none⟩), .int .i64 n] w fun x w' => x = .panicked [brk (R.why n).1 (R.why n).2] ∧ ∃ k, w' = w.drewN k := by
    have h0 := hb.cell 0
    have h1 := hb.cell 1
    have h2 := hb.cell 2
    simp only [List.getElem?_cons_zero, List.getElem?_cons_succ] at h0 h1 h2
    unfold Rd.why
    by_cases he : R.e = 0
    · rw [he] at h2
      by_cases hn : n < 0
      · refine (need_neg p R.pos n w hn h1 h2).mono ?_
        rintro x w' ⟨rfl, rfl⟩
        exact ⟨by simp [he, hn], 0, rfl⟩
      · have hs : (R.b.length : Int) - R.pos < n := by
          rcases Int.lt_or_le ((R.b.length : Int) - R.pos) n with h' | h'
          · exact h'
          · exact absurd ⟨he, by omega, h'⟩ hc
        refine (need_short p A R.b.length cap R.pos n w (by omega) hs hle (by omega) h0 h1 h2).mono ?_
        rintro x w' ⟨rfl, k, rfl⟩
        exact ⟨by simp [he, hn], k, rfl⟩
    · refine (need_dead p n w R.e he h2).mono ?_
      rintro x w' ⟨rfl, rfl⟩
      exact ⟨by simp [he], 0, rfl⟩
  obtain ⟨E, hE⟩ : ∃ E, E = brk (R.why n).1 (R.why n).2 := ⟨_, rfl⟩
  rw [← hE] at need ⊢
  have HN := Lib.hid need
  clear need hE hb hown hle hbig hc
  go_enter Try.func95, Try.ntmps95
  go_wp2_with (go_at_call 121; refine HN.out.mono ?_; rintro x w' ⟨rfl, k, rfl⟩)
  exact ⟨rfl, rfl, k, rfl⟩
theorem next_nil (n : Int) (w : World) :
    Calls Try.prog 95 #[.pointer none, .int .i64 n] w fun x w' => x = .panicked [brk 10 0] ∧ w = w' := by
  go_enter Try.func95, Try.ntmps95
  go_wp2_with (go_at_call 121; refine (need_nil _ _).mono ?_; rintro x w' ⟨rfl, rfl⟩)
  exact ⟨rfl, rfl, rfl⟩
/-- What the deferred call makes of a read that gave up. -/
theorem caught_bad (p : Nat) (R : Rd) (n : Int) (w : World) (h : RdAt 138 w p R) (hc : ¬ R.can n) :
    CallsD Try.prog 93 #[.pointer (some ⟨p, 0, none⟩)] (.panicking [brk (R.why n).1 (R.why n).2]) w fun x u' w' => x = .returned (.tuple #[]) ∧ u' = .panicking [{ brk (R.why n).1 (R.why n).2 with recovered := true }] ∧
      RdAt 138 w' p (R.after n) ∧ Kept [p] w w' := by
  have h' := h
  obtain ⟨⟨A, cap, hb, hown⟩, hle, hbig⟩ := h
  by_cases he : R.e = 0
  · refine (caught_first p _ _ _ _ R.fat [] w (by rw [he] at hb; exact hb)).mono ?_
    rintro x u' w' ⟨rfl, rfl, hb', hk⟩
    refine ⟨rfl, rfl, ?_, hk⟩
    have ha : R.after n = { R with e := (R.why n).1, fat := (R.why n).2 } := by
      by_cases hn : n < 0
      · simp [Rd.after, Rd.why, he, hn]
      · have hs : (R.b.length : Int) - R.pos < n := by
          rcases Int.lt_or_le ((R.b.length : Int) - R.pos) n with h' | h'
          · exact h'
          · exact absurd ⟨he, by omega, h'⟩ hc
        simp [Rd.after, Rd.why, he, hn, hs]
    rw [ha]
    refine ⟨⟨A, cap, hb', own_kept hown hk (fun g hg hm => ?_)⟩, hle, hbig⟩
    simp at hm
    subst hm
    exact own_ne_blk hown hb (by decide) hg
  · have h2 := hb.cell 2
    simp only [List.getElem?_cons_zero, List.getElem?_cons_succ] at h2
    refine (caught_dead p _ _ R.e he [] w h2).mono ?_
    rintro x u' w' ⟨rfl, rfl, hk⟩
    refine ⟨rfl, rfl, ?_, hk.mono (by simp)⟩
    have ha : R.after n = R := by unfold Rd.after; rw [if_pos he]
    rw [ha]
    exact h'.kept0 hk
set_option maxHeartbeats 1000000 in
theorem take_any (p : Nat) (R : Rd) (n : Int) (w : World) (h : RdAt 138 w p R) :
    Calls Try.prog 91 #[.pointer (some ⟨p, 0, none⟩), .int .i64 n] w fun x w' => ∃ v, x = .returned v ∧ w'.ownsRow w.heap.size 5 1 v (R.got n).length ((R.got n).map byteV) ∧
      RdAt 138 w' p (R.after n) ∧ Kept [p] w w' := by
  have H := Lib.hid h
  clear h
  by_cases hc : R.can n
  · have HC := Lib.hid hc
    clear hc
    go_enter_defers Try.func91, Try.ntmps91
    go_wp2_with (go_at_call 95; refine (next_good p R n _ H.out HC.out).mono ?_; rintro x w1 ⟨v, rfl, ho, hr, hk⟩; have HO := Lib.hid ho; have HR := Lib.hid hr; have HK := Lib.hid hk; clear ho hr hk)
    refine leaves_cons (f := 93) (args := #[.pointer (some ⟨p, 0, none⟩)]) (by simp) (by simp [go_sem]) ?_
    refine (caught_idle (some ⟨p, 0, none⟩) _).mono ?_
    rintro e u' w'' ⟨rfl, rfl, rfl⟩
    refine ⟨_, results_tmp rfl _ _ _, ?_⟩
    exact ⟨v, rfl, HO.out, HR.out, HK.out⟩
  · have HC := Lib.hid hc
    have hg : R.got n = [] := by unfold Rd.got; rw [if_neg hc]
    have HG := Lib.hid hg
    obtain ⟨E, hE⟩ : ∃ E, E = brk (R.why n).1 (R.why n).2 := ⟨_, rfl⟩
    have HN := Lib.hid (next_bad p R n w H.out hc)
    have HE := Lib.hid hE
    rw [← hE] at HN
    clear hc hE hg
    go_enter_defers Try.func91, Try.ntmps91
    go_wp2_with (go_at_call 95; refine HN.out.mono ?_; rintro x w1 ⟨rfl, k, rfl⟩)
    refine leaves_cons (f := 93) (args := #[.pointer (some ⟨p, 0, none⟩)]) (by simp) (by simp [go_sem]) ?_
    rw [HE.out]
    refine (caught_bad p R n _ (H.out.kept0 ((Kept.refl _ _).drewN k)) HC.out).mono ?_
    rintro e u' w'' ⟨rfl, rfl, hr, hk⟩
    simp only [settle, Leaves, List.dropWhile_nil]
    refine ⟨_, results_tmp rfl _ _ _, ?_⟩
    refine ⟨.slice none 0 0, rfl, ?_, hr, ((Kept.refl _ _).drewN k).then hk (by simp)⟩
    rw [HG.out]
    exact World.ownsRow_nil _ _ _ _
/-! Oct7 -/
open Go.RowKit
open Go.RowKit (wrap32 wrap64)
set_option maxHeartbeats 1000000 in
theorem u8_any (p : Nat) (R : Rd) (w : World) (h : RdAt 138 w p R) :
    Calls Try.prog 72 #[.pointer (some ⟨p, 0, none⟩)] w fun x w' => x = .returned (.int .u8 ((num (R.got 1) % 256 : Nat) : Int)) ∧ RdAt 138 w' p (R.after 1) ∧ Kept [p] w w' := by
  have H := Lib.hid h
  clear h
  by_cases hc : R.can 1
  · have hl := Rd.got_length hc
    have HC := Lib.hid hc
    have HL := Lib.hid hl
    clear hc hl
    go_enter_defers Try.func72, Try.ntmps72
    go_wp2_with fail
    refine (next_good p R 1 _ H.out HC.out).mono ?_
    rintro x w1 ⟨v, rfl, ho, hr, hk⟩
    obtain ⟨A, c, rfl, _, _, hreads, _⟩ := own_form ho
    have HR := Lib.hid hr
    have HK := Lib.hid hk
    have HX := Lib.hid hreads
    clear ho hr hk hreads
    go_wp2_with fail
    refine (number_u8 (R.got 1) A c _ HX.out (by rw [HL.out]; decide)).mono ?_
    rintro x w2 ⟨rfl, rfl⟩
    go_wp2_with fail
    refine leaves_cons (f := 93) (args := #[.pointer (some ⟨p, 0, none⟩)]) (by simp) (by simp [go_sem]) ?_
    refine (caught_idle (some ⟨p, 0, none⟩) _).mono ?_
    rintro e u' w'' ⟨rfl, rfl, rfl⟩
    refine ⟨_, results_tmp rfl _ _ _, ?_⟩
    exact ⟨rfl, HR.out, HK.out⟩
  · have HC := Lib.hid hc
    have hg : R.got 1 = [] := by unfold Rd.got; rw [if_neg hc]
    have HG := Lib.hid hg
    obtain ⟨E, hE⟩ : ∃ E, E = brk (R.why 1).1 (R.why 1).2 := ⟨_, rfl⟩
    have HN := Lib.hid (next_bad p R 1 w H.out hc)
    have HE := Lib.hid hE
    rw [← hE] at HN
    clear hc hE hg
    go_enter_defers Try.func72, Try.ntmps72
    go_wp2_with (go_at_call 95; refine HN.out.mono ?_; rintro x w1 ⟨rfl, k, rfl⟩)
    refine leaves_cons (f := 93) (args := #[.pointer (some ⟨p, 0, none⟩)]) (by simp) (by simp [go_sem]) ?_
    rw [HE.out]
    refine (caught_bad p R 1 _ (H.out.kept0 ((Kept.refl _ _).drewN k)) HC.out).mono ?_
    rintro e u' w'' ⟨rfl, rfl, hr, hk⟩
    simp only [settle, Leaves, List.dropWhile_nil]
    refine ⟨_, results_tmp rfl _ _ _, ?_⟩
    refine ⟨?_, hr, ((Kept.refl _ _).drewN k).then hk (by simp)⟩
    rw [HG.out]
    first | rfl | exact ret_int (by simp [num, wrap64])
set_option maxHeartbeats 1000000 in
theorem u32_any (p : Nat) (R : Rd) (w : World) (h : RdAt 138 w p R) :
    Calls Try.prog 92 #[.pointer (some ⟨p, 0, none⟩)] w fun x w' => x = .returned (.int .u32 ((num (R.got 4) % 4294967296 : Nat) : Int)) ∧ RdAt 138 w' p (R.after 4) ∧ Kept [p] w w' := by
  have H := Lib.hid h
  clear h
  by_cases hc : R.can 4
  · have hl := Rd.got_length hc
    have HC := Lib.hid hc
    have HL := Lib.hid hl
    clear hc hl
    go_enter_defers Try.func92, Try.ntmps92
    go_wp2_with fail
    refine (next_good p R 4 _ H.out HC.out).mono ?_
    rintro x w1 ⟨v, rfl, ho, hr, hk⟩
    obtain ⟨A, c, rfl, _, _, hreads, _⟩ := own_form ho
    have HR := Lib.hid hr
    have HK := Lib.hid hk
    have HX := Lib.hid hreads
    clear ho hr hk hreads
    go_wp2_with fail
    refine (number_u32 (R.got 4) A c _ HX.out (by rw [HL.out]; decide)).mono ?_
    rintro x w2 ⟨rfl, rfl⟩
    go_wp2_with fail
    refine leaves_cons (f := 93) (args := #[.pointer (some ⟨p, 0, none⟩)]) (by simp) (by simp [go_sem]) ?_
    refine (caught_idle (some ⟨p, 0, none⟩) _).mono ?_
    rintro e u' w'' ⟨rfl, rfl, rfl⟩
    refine ⟨_, results_tmp rfl _ _ _, ?_⟩
    exact ⟨rfl, HR.out, HK.out⟩
  · have HC := Lib.hid hc
    have hg : R.got 4 = [] := by unfold Rd.got; rw [if_neg hc]
    have HG := Lib.hid hg
    obtain ⟨E, hE⟩ : ∃ E, E = brk (R.why 4).1 (R.why 4).2 := ⟨_, rfl⟩
    have HN := Lib.hid (next_bad p R 4 w H.out hc)
    have HE := Lib.hid hE
    rw [← hE] at HN
    clear hc hE hg
    go_enter_defers Try.func92, Try.ntmps92
    go_wp2_with (go_at_call 95; refine HN.out.mono ?_; rintro x w1 ⟨rfl, k, rfl⟩)
    refine leaves_cons (f := 93) (args := #[.pointer (some ⟨p, 0, none⟩)]) (by simp) (by simp [go_sem]) ?_
    rw [HE.out]
    refine (caught_bad p R 4 _ (H.out.kept0 ((Kept.refl _ _).drewN k)) HC.out).mono ?_
    rintro e u' w'' ⟨rfl, rfl, hr, hk⟩
    simp only [settle, Leaves, List.dropWhile_nil]
    refine ⟨_, results_tmp rfl _ _ _, ?_⟩
    refine ⟨?_, hr, ((Kept.refl _ _).drewN k).then hk (by simp)⟩
    rw [HG.out]
    first | rfl | exact ret_int (by simp [num, wrap64])
set_option maxHeartbeats 1000000 in
theorem i64_any (p : Nat) (R : Rd) (w : World) (h : RdAt 138 w p R) :
    Calls Try.prog 43 #[.pointer (some ⟨p, 0, none⟩)] w fun x w' => x = .returned (.int .i64 (wrap64 ((num (R.got 8) : Nat) : Int))) ∧ RdAt 138 w' p (R.after 8) ∧ Kept [p] w w' := by
  have H := Lib.hid h
  clear h
  by_cases hc : R.can 8
  · have hl := Rd.got_length hc
    have HC := Lib.hid hc
    have HL := Lib.hid hl
    clear hc hl
    go_enter_defers Try.func43, Try.ntmps43
    go_wp2_with fail
    refine (next_good p R 8 _ H.out HC.out).mono ?_
    rintro x w1 ⟨v, rfl, ho, hr, hk⟩
    obtain ⟨A, c, rfl, _, _, hreads, _⟩ := own_form ho
    have HR := Lib.hid hr
    have HK := Lib.hid hk
    have HX := Lib.hid hreads
    clear ho hr hk hreads
    go_wp2_with fail
    refine (number_i64 (R.got 8) A c _ HX.out (by rw [HL.out]; decide)).mono ?_
    rintro x w2 ⟨rfl, rfl⟩
    go_wp2_with fail
    refine leaves_cons (f := 93) (args := #[.pointer (some ⟨p, 0, none⟩)]) (by simp) (by simp [go_sem]) ?_
    refine (caught_idle (some ⟨p, 0, none⟩) _).mono ?_
    rintro e u' w'' ⟨rfl, rfl, rfl⟩
    refine ⟨_, results_tmp rfl _ _ _, ?_⟩
    exact ⟨rfl, HR.out, HK.out⟩
  · have HC := Lib.hid hc
    have hg : R.got 8 = [] := by unfold Rd.got; rw [if_neg hc]
    have HG := Lib.hid hg
    obtain ⟨E, hE⟩ : ∃ E, E = brk (R.why 8).1 (R.why 8).2 := ⟨_, rfl⟩
    have HN := Lib.hid (next_bad p R 8 w H.out hc)
    have HE := Lib.hid hE
    rw [← hE] at HN
    clear hc hE hg
    go_enter_defers Try.func43, Try.ntmps43
    go_wp2_with (go_at_call 95; refine HN.out.mono ?_; rintro x w1 ⟨rfl, k, rfl⟩)
    refine leaves_cons (f := 93) (args := #[.pointer (some ⟨p, 0, none⟩)]) (by simp) (by simp [go_sem]) ?_
    rw [HE.out]
    refine (caught_bad p R 8 _ (H.out.kept0 ((Kept.refl _ _).drewN k)) HC.out).mono ?_
    rintro e u' w'' ⟨rfl, rfl, hr, hk⟩
    simp only [settle, Leaves, List.dropWhile_nil]
    refine ⟨_, results_tmp rfl _ _ _, ?_⟩
    refine ⟨?_, hr, ((Kept.refl _ _).drewN k).then hk (by simp)⟩
    rw [HG.out]
    first | rfl | exact ret_int (by simp [num, wrap64])
end Go.Proofs.Ytibjpjpbmkdddaa
