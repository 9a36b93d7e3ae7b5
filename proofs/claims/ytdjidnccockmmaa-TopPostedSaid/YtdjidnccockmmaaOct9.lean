/- The walks of the reference's reads, and the contracts of both readers, said of a reader in memory. -/
import Derived.Test.YtdjidnccockmmaaOct8
namespace Go.Proofs.Ytdjidnccockmmaa
open Go.RowKit
open Go.RowKit (wrap32 wrap64)
set_option maxHeartbeats 1000000

theorem ropen_any (l : List UInt8) (A : Option Addr) (c : Nat) (w : World) (hr : Reads w A (l.map byteV)) (hl : l.length ≤ 1073741824) :
    Calls Try.prog 27 #[.slice A l.length c] w fun e w' => ∃ p, e = .returned (.pointer (some ⟨p, 0, none⟩)) ∧ w.heap.size ≤ p ∧ RdAt 92 w' p ⟨l, 0, 0, 0⟩ ∧ Kept [] w w' := by
  have HR := Lib.hid hr
  clear hr
  go_enter Try.func27, Try.ntmps27
  go_wp2_with (first | (at_builtin; refine wpList_app _ rfl (.tmp 10) (.tmp 11) _ rfl 5 (.int .u8 0) 1 1 Try.underlying25 infoU8 rfl (by decide) w.heap.size (.slice none 0 0) 0 [] rfl (World.ownsRow_nil _ _ _ _) A l.length c (l.map byteV) rfl (by simp) (HR.out.kept0 ((Kept.refl _ _).alloc _)) (by simp [byteV, Value.oneCell']) (by omega) (by unfold maxLen; omega) (by simp) ?_; intro v1 w1 hown1 hk1 hb1; have hblk := (Blk.new w 92 [.slice none 0 0, .int .i64 0, .int .i64 0, .int .i64 0]).kept hk1 (by simp [Value.ownBlock]); have c0 := hblk.cell 0; have f0 := hblk.frozen 0; obtain ⟨A1, c1, rfl, _, _, hr1, hf1⟩ := own_form hown1; have HO := Lib.hid hown1; have HK := Lib.hid hk1; have HB := Lib.hid hblk; clear hown1 hk1 hblk hb1 hr1 hf1; simp only [List.getElem?_cons_zero] at c0))
  go_ret
  have hK : Kept [] w w1 := ((Kept.refl [] w).alloc _).then HK.out (by simp [Value.ownBlock])
  refine ⟨_, rfl, Nat.le_refl _, ⟨⟨A1, c1, ?_, ?_⟩, Nat.zero_le _, hl⟩, hK.setCell (.inr (Nat.le_refl _)) _⟩
  · have := HB.out.set 0 (.slice A1 (0 + l.length) c1)
    simpa using this
  · have h1 : w1.ownsRow w.heap.size 5 1 (.slice A1 l.length c1) l.length (l.map byteV) := by simpa using HO.out
    have h2 := own_ne_blk h1 HB.out (by decide)
    exact own_base (own_kept h1 ((Kept.refl [w.heap.size] w1).setCell (p := ⟨w.heap.size, 0, none⟩) (.inl (List.mem_singleton.2 rfl)) _) (fun g hg hm => by simp at hm; subst hm; exact h2 hg)) (Nat.zero_le _)

theorem rfail_skip (p : Nat) (e a f : Int) (w : World) (h : f ≠ 0 ∨ e = 0) (h2 : w.cell? ⟨p, 2, none⟩ = some (.int .i64 f)) :
    Calls Try.prog 63 #[.pointer (some ⟨p, 0, none⟩), .int .i64 e, .int .i64 a] w fun x w' => x = .returned (.tuple #[]) ∧ w = w' := by
  by_cases hf : f = 0
  · obtain rfl : e = 0 := by rcases h with h | h; exact absurd hf h; exact h
    subst hf
    clear h
    go_enter Try.func63, Try.ntmps63
    go_wp2_with fail
    refine (rdead_no p _ h2).mono ?_
    rintro x w' ⟨rfl, rfl⟩
    go_wp2
    go_end0
    exact ⟨rfl, rfl⟩
  · have HF := Lib.hid hf
    clear hf h
    go_enter Try.func63, Try.ntmps63
    go_wp2_with fail
    refine (rdead_yes p _ f HF.out h2).mono ?_
    rintro x w' ⟨rfl, rfl⟩
    go_wp2
    go_end0
    exact ⟨rfl, rfl⟩
theorem rfail_set (p : Nat) (e a f : Int) (v pos : Value) (w : World) (he : e ≠ 0) (hB : Blk w p 92 [v, pos, .int .i64 0, .int .i64 f]) :
    Calls Try.prog 63 #[.pointer (some ⟨p, 0, none⟩), .int .i64 e, .int .i64 a] w fun x w' => x = .returned (.tuple #[]) ∧ Blk w' p 92 [v, pos, .int .i64 e, .int .i64 a] ∧ Kept [p] w w' := by
  have hb : (e != 0) = true := by rw [bne_iff_ne]; exact he
  have h2 := hB.cell 2
  have h3 := hB.cell 3
  have f2 := hB.frozen 2
  have f3 := hB.frozen 3
  simp only [List.getElem?_cons_zero, List.getElem?_cons_succ] at h2 h3
  have HB := Lib.hid hB
  clear hB he
  go_enter Try.func63, Try.ntmps63
  go_wp2_with fail
  refine (rdead_no p _ h2).mono ?_
  rintro x w' ⟨rfl, rfl⟩
  go_wp2
  go_end0
  refine ⟨rfl, ?_, ((Kept.refl [p] w).setCell (p := ⟨p, 2, none⟩) (.inl (List.mem_singleton.2 rfl)) _).setCell (p := ⟨p, 3, none⟩) (.inl (List.mem_singleton.2 rfl)) _⟩
  have := (HB.out.set 2 (.int .i64 e)).set 3 (.int .i64 a)
  simpa using this

/-- A fault that is noted. -/
def Rd.fail (R : Rd) (e a : Int) : Rd := if R.e ≠ 0 ∨ e = 0 then R else { R with e := e, fat := a }
theorem own_turned {t : TypeId} {w w' : World} {p n : Nat} {v : Value} {xs cs : List Value} (hown : w.ownsRow 0 5 1 v n xs) (hb : Blk w p t cs) (ht : 5 ≠ t) (hk : Kept [p] w w') : w'.ownsRow 0 5 1 v n xs :=
  own_kept hown hk (fun g hg hm => by simp at hm; subst hm; exact own_ne_blk hown hb ht hg)

theorem ofail_any (p : Nat) (R : Rd) (e a : Int) (w : World) (h : RdAt 87 w p R) :
    Calls Try.prog 29 #[.pointer (some ⟨p, 0, none⟩), .int .i64 e, .int .i64 a] w fun x w' => x = .returned (.tuple #[]) ∧ RdAt 87 w' p (R.fail e a) ∧ Kept [p] w w' := by
  have h' := h
  obtain ⟨⟨A, cap, hb, hown⟩, hle, hbig⟩ := h
  have h2 := hb.cell 2
  simp only [List.getElem?_cons_zero, List.getElem?_cons_succ] at h2
  unfold Rd.fail
  by_cases hc : R.e ≠ 0 ∨ e = 0
  · refine (ofail_skip p e a R.e w hc h2).mono ?_
    rintro x w' ⟨rfl, rfl⟩
    rw [if_pos hc]
    exact ⟨rfl, h', Kept.refl _ _⟩
  · have he : R.e = 0 := by simp only [ne_eq, not_or, Decidable.not_not] at hc; exact hc.1
    have he2 : e ≠ 0 := fun h => hc (.inr h)
    refine (ofail_set p e a R.fat _ _ w he2 (by rw [he] at hb; exact hb)).mono ?_
    rintro x w' ⟨rfl, hb', hk⟩
    rw [if_neg hc]
    exact ⟨rfl, ⟨⟨A, cap, hb', own_turned hown hb (by decide) hk⟩, hle, hbig⟩, hk⟩
theorem rfail_any (p : Nat) (R : Rd) (e a : Int) (w : World) (h : RdAt 92 w p R) :
    Calls Try.prog 63 #[.pointer (some ⟨p, 0, none⟩), .int .i64 e, .int .i64 a] w fun x w' => x = .returned (.tuple #[]) ∧ RdAt 92 w' p (R.fail e a) ∧ Kept [p] w w' := by
  have h' := h
  obtain ⟨⟨A, cap, hb, hown⟩, hle, hbig⟩ := h
  have h2 := hb.cell 2
  simp only [List.getElem?_cons_zero, List.getElem?_cons_succ] at h2
  unfold Rd.fail
  by_cases hc : R.e ≠ 0 ∨ e = 0
  · refine (rfail_skip p e a R.e w hc h2).mono ?_
    rintro x w' ⟨rfl, rfl⟩
    rw [if_pos hc]
    exact ⟨rfl, h', Kept.refl _ _⟩
  · have he : R.e = 0 := by simp only [ne_eq, not_or, Decidable.not_not] at hc; exact hc.1
    have he2 : e ≠ 0 := fun h => hc (.inr h)
    refine (rfail_set p e a R.fat _ _ w he2 (by rw [he] at hb; exact hb)).mono ?_
    rintro x w' ⟨rfl, hb', hk⟩
    rw [if_neg hc]
    exact ⟨rfl, ⟨⟨A, cap, hb', own_turned hown hb (by decide) hk⟩, hle, hbig⟩, hk⟩

theorem rtake_dead (p : Nat) (e n : Int) (w : World) (he : e ≠ 0) (h2 : w.cell? ⟨p, 2, none⟩ = some (.int .i64 e)) :
    Calls Try.prog 62 #[.pointer (some ⟨p, 0, none⟩), .int .i64 n] w fun x w' => x = .returned (.slice none 0 0) ∧ w = w' := by
  go_enter Try.func62, Try.ntmps62
  go_wp2_with fail
  refine (rdead_yes p _ e he h2).mono ?_
  rintro x w' ⟨rfl, rfl⟩
  go_wp2
  go_ret
  exact ⟨rfl, rfl⟩
theorem rtake_neg (p : Nat) (pos : Nat) (f n : Int) (v : Value) (w : World) (hn : n < 0) (hB : Blk w p 92 [v, .int .i64 pos, .int .i64 0, .int .i64 f]) :
    Calls Try.prog 62 #[.pointer (some ⟨p, 0, none⟩), .int .i64 n] w fun x w' => x = .returned (.slice none 0 0) ∧ Blk w' p 92 [v, .int .i64 pos, .int .i64 3, .int .i64 pos] ∧ Kept [p] w w' := by
  have h1 := hB.cell 1
  have h2 := hB.cell 2
  simp only [List.getElem?_cons_zero, List.getElem?_cons_succ] at h1 h2
  have HB := Lib.hid hB
  clear hB
  go_enter Try.func62, Try.ntmps62
  go_wp2_with fail
  refine (rdead_no p _ h2).mono ?_
  rintro x w' ⟨rfl, rfl⟩
  go_wp2_with fail
  refine (rfail_set p 3 pos f v (.int .i64 pos) _ (by decide) HB.out).mono ?_
  rintro x w' ⟨rfl, hb', hk⟩
  have HB' := Lib.hid hb'
  have HK := Lib.hid hk
  clear hb' hk
  go_wp2
  go_ret
  exact ⟨rfl, HB'.out, HK.out⟩
theorem rtake_short (p : Nat) (A : Option Addr) (len cap pos : Nat) (f n : Int) (w : World) (hn : 0 ≤ n) (hs : (len : Int) - pos < n) (hp : pos ≤ len) (hl : (len : Int) ≤ 9223372036854775807) (hB : Blk w p 92 [.slice A len cap, .int .i64 pos, .int .i64 0, .int .i64 f]) :
    Calls Try.prog 62 #[.pointer (some ⟨p, 0, none⟩), .int .i64 n] w fun x w' => x = .returned (.slice none 0 0) ∧ Blk w' p 92 [.slice A len cap, .int .i64 pos, .int .i64 2, .int .i64 len] ∧ Kept [p] w w' := by
  have h0 := hB.cell 0
  have h1 := hB.cell 1
  have h2 := hB.cell 2
  simp only [List.getElem?_cons_zero, List.getElem?_cons_succ] at h0 h1 h2
  have HB := Lib.hid hB
  clear hB
  go_enter Try.func62, Try.ntmps62
  go_wp2_with fail
  refine (rdead_no p _ h2).mono ?_
  rintro x w' ⟨rfl, rfl⟩
  go_wp2_with fail
  go_quiet (fail)
  go_wp2_with fail
  refine (rfail_set p 2 len f (.slice A len cap) (.int .i64 pos) _ (by decide) (HB.out.drewN _)).mono ?_
  rintro x w' ⟨rfl, hb', hk⟩
  have HB' := Lib.hid hb'
  have HK := Lib.hid hk
  clear hb' hk
  go_wp2
  go_ret
  exact ⟨rfl, HB'.out, ((Kept.refl _ _).drewN _).trans HK.out⟩
end Go.Proofs.Ytdjidnccockmmaa
