/- Texts merged by a program: Oct1, Oct2, Oct8, Oct9, Oct10, Oct11. -/
import Derived.Test.YtfnhfmffkjljnaaGreatLv

namespace Go.Proofs.YtfnhfmffkjljnaaGreat
/-! Oct1 -/
open Go.RowKit
set_option maxHeartbeats 1000000 in
theorem put_any (n many : Nat) (w : World) (hn : Lt64 n) (hm : many ≤ 8) :
    Calls Tryz.prog 75 #[.int .u64 (n : Int), .int .i64 (many : Int)] w fun e w' => ∃ v, e = .returned v ∧ w'.ownsRow w.heap.size 5 1 v many ((le n many).map byteV) ∧ Kept [] w w' := by
  go_enter Tryz.func75, Tryz.ntmps75
  go_wp2
  go_loopw [0, 5, 6] (fun n' out i wr => ∃ k : Nat, k ≤ many ∧ n' = .int .u64 ((n / 256 ^ k : Nat) : Int) ∧ i = .int .i64 k ∧ wr.ownsRow w.heap.size 5 1 out k (((le n many).map byteV).take k) ∧ Kept [] w wr) (fun _ _ i _ => many - (intOf i).toNat)
  case atStart => exact ⟨0, by omega, by simp, rfl, by simpa using World.ownsRow_nil _ _ _ _, Kept.refl _ _⟩
  case round =>
    obtain ⟨k, hk, rfl, rfl, hown, hkk⟩ := hrel
    obtain ⟨q, hq⟩ : ∃ q, q = n / 256 ^ k := ⟨_, rfl⟩
    rw [← hq]
    have Hq := Lib.hid hq
    have Hown := Lib.hid hown
    have Hk := Lib.hid hkk
    clear hq hown hkk
    by_cases hlt : k < many
    · go_wp2_with (first | (at_builtin; refine wpList_app _ rfl (.tmp 12) (.tmp 16) _ rfl 5 (.int .u8 0) 1 1 Tryz.underlying26 infoU8 rfl (by decide) w.heap.size _ k _ rfl (Hown.out.alloc _) _ 1 _ [.int .u8 (q % 256)] rfl rfl (Reads.of_blk (Blk.new _ _ [.int .u8 (q % 256)]) (fun _ _ h => h)) (by simp [Value.oneCell']) (by omega) (by unfold maxLen; omega) (by have := Hk.out.size; simp; omega) ?_; intro v1 w1 hown1 hk1 hb1))
      go_roundw
      case rel =>
        refine ⟨k + 1, by omega, ?_, by go_num, ?_, Hk.out.app1 hk1 Hown.out⟩
        · rw [wrap64_div q (by rw [Hq.out]; exact hn.div _), Hq.out, Nat.div_div_eq_div_mul, ← Nat.pow_succ]
        · rw [List.take_add_one, List.getElem?_map, le_get n many k hlt]
          have e : byteV (UInt8.ofNat (n / 256 ^ k)) = .int .u8 (q % 256) := by rw [Hq.out]; simp [byteV]
          simpa [e] using hown1
      case measure => simp [intOf]; omega
    · have : k = many := by omega
      subst this
      go_wp2
      go_ret
      refine ⟨_, rfl, ?_, Hk.out⟩
      have := Hown.out
      rw [List.take_of_length_le (by simp [le_length])] at this
      exact this
/-! Oct2 -/
open Go.RowKit
open Go.RowKit (wrap32 wrap64)
theorem rput32_any (n : Nat) (w : World) (hn : n < 4294967296) :
    Calls Tryz.prog 31 #[.int .u32 (n : Int)] w fun e w' => ∃ v, e = .returned v ∧ w'.ownsRow w.heap.size 5 1 v 4 ((le n 4).map byteV) ∧ Kept [] w w' := by
  go_enter Tryz.func31, Tryz.ntmps31
  go_wp2_with fail
  refine (put_any n 4 _ (by unfold Lt64; omega) (by omega)).mono ?_
  rintro e w1 ⟨v, rfl, hown, hk⟩
  go_wp2
  go_ret
  exact ⟨_, rfl, hown, hk⟩
theorem rput64_any (m : Int) (w : World) :
    Calls Tryz.prog 61 #[.int .i64 m] w fun e w' => ∃ v, e = .returned v ∧ w'.ownsRow w.heap.size 5 1 v 8 ((le (u64of m) 8).map byteV) ∧ Kept [] w w' := by
  go_enter Tryz.func61, Tryz.ntmps61
  go_wp2_with fail
  rw [wrap_u64of]
  refine (put_any (u64of m) 8 _ (u64of_lt m) (by omega)).mono ?_
  rintro e w1 ⟨v, rfl, hown, hk⟩
  go_wp2
  go_ret
  exact ⟨_, rfl, hown, hk⟩
/-! Oct8 -/
open Go.RowKit
open Go.RowKit (wrap32 wrap64)
set_option maxHeartbeats 1000000
section
variable (p : Nat) (A : Option Addr) (len cap : Nat) (pos : Nat) (n : Int) (w : World)
theorem rdead_yes (e : Int) (he : e ≠ 0) (h2 : w.cell? ⟨p, 2, none⟩ = some (.int .i64 e)) : Calls Tryz.prog 88 #[.pointer (some ⟨p, 0, none⟩)] w fun x w' => x = .returned (.bool true) ∧ w = w' := by
  have hb : (e != 0) = true := by rw [bne_iff_ne]; exact he
  clear he
  go_enter Tryz.func88, Tryz.ntmps88
  go_wp2
  go_ret
  exact ⟨rfl, rfl⟩
theorem rdead_no (h2 : w.cell? ⟨p, 2, none⟩ = some (.int .i64 0)) : Calls Tryz.prog 88 #[.pointer (some ⟨p, 0, none⟩)] w fun x w' => x = .returned (.bool false) ∧ w = w' := by
  go_enter Tryz.func88, Tryz.ntmps88
  go_wp2
  go_ret
  exact ⟨rfl, rfl⟩
theorem rat_any (h1 : w.cell? ⟨p, 1, none⟩ = some (.int .i64 n)) : Calls Tryz.prog 47 #[.pointer (some ⟨p, 0, none⟩)] w fun x w' => x = .returned (.int .i64 n) ∧ w = w' := by
  go_enter Tryz.func47, Tryz.ntmps47
  go_wp2
  go_ret
  exact ⟨rfl, rfl⟩
theorem rfault_any (e f : Int) (h2 : w.cell? ⟨p, 2, none⟩ = some (.int .i64 e)) (h3 : w.cell? ⟨p, 3, none⟩ = some (.int .i64 f)) :
    Calls Tryz.prog 51 #[.pointer (some ⟨p, 0, none⟩)] w fun x w' => x = .returned (.agg #[.int .i64 e, .int .i64 f]) ∧ Kept [] w w' := by
  have hp := World.block_lt_of_cell? _ _ h2
  go_enter Tryz.func51, Tryz.ntmps51
  go_wp2
  exact bodyPost_ret (v := .agg #[.int .i64 e, .int .i64 f]) (by simp [results, Tryz.results51, go_sem]) rfl ⟨rfl, (Kept.refl _ _).alloc _⟩
theorem rend_dead (e : Int) (he : e ≠ 0) (h2 : w.cell? ⟨p, 2, none⟩ = some (.int .i64 e)) : Calls Tryz.prog 52 #[.pointer (some ⟨p, 0, none⟩)] w fun x w' => x = .returned (.bool false) ∧ ∃ k, w' = w.drewN k := by
  go_enter Tryz.func52, Tryz.ntmps52
  go_wp2_with fail
  go_quiet ((go_at_call 88; exact quiet_eq (rdead_yes p (w.drewN _) e he (by exact h2))))
  go_wp2
  go_ret
  exact ⟨rfl, _, rfl⟩
theorem rend_ok (h0 : w.cell? ⟨p, 0, none⟩ = some (.slice A len cap)) (h1 : w.cell? ⟨p, 1, none⟩ = some (.int .i64 pos)) (h2 : w.cell? ⟨p, 2, none⟩ = some (.int .i64 0)) :
    Calls Tryz.prog 52 #[.pointer (some ⟨p, 0, none⟩)] w fun x w' => x = .returned (.bool ((pos : Int) == (len : Int))) ∧ ∃ k, w' = w.drewN k := by
  go_enter Tryz.func52, Tryz.ntmps52
  go_wp2_with fail
  go_quiet ((go_at_call 88; exact quiet_eq (rdead_no p (w.drewN _) (by exact h2))))
  go_wp2
  go_ret
  exact ⟨rfl, _, rfl⟩
end
/-! Oct9 -/
open Go.RowKit
open Go.RowKit (wrap32 wrap64)
set_option maxHeartbeats 1000000
theorem ropen_any (l : List UInt8) (A : Option Addr) (c : Nat) (w : World) (hr : Reads w A (l.map byteV)) (hl : l.length ≤ 1073741824) :
    Calls Tryz.prog 45 #[.slice A l.length c] w fun e w' => ∃ p, e = .returned (.pointer (some ⟨p, 0, none⟩)) ∧ w.heap.size ≤ p ∧ RdAt 110 w' p ⟨l, 0, 0, 0⟩ ∧ Kept [] w w' := by
  have HR := Lib.hid hr
  clear hr
  go_enter Tryz.func45, Tryz.ntmps45
  go_wp2_with (first | (at_builtin; refine wpList_app _ rfl (.tmp 10) (.tmp 11) _ rfl 5 (.int .u8 0) 1 1 Tryz.underlying26 infoU8 rfl (by decide) w.heap.size (.slice none 0 0) 0 [] rfl (World.ownsRow_nil _ _ _ _) A l.length c (l.map byteV) rfl (by simp) (HR.out.kept0 ((Kept.refl _ _).alloc _)) (by simp [byteV, Value.oneCell']) (by omega) (by unfold maxLen; omega) (by simp) ?_; intro v1 w1 hown1 hk1 hb1; have hblk := (Blk.new w 110 [.slice none 0 0, .int .i64 0, .int .i64 0, .int .i64 0]).kept hk1 (by simp [Value.ownBlock]); have c0 := hblk.cell 0; have f0 := hblk.frozen 0; obtain ⟨A1, c1, rfl, _, _, hr1, hf1⟩ := own_form hown1; have HO := Lib.hid hown1; have HK := Lib.hid hk1; have HB := Lib.hid hblk; clear hown1 hk1 hblk hb1 hr1 hf1; simp only [List.getElem?_cons_zero] at c0))
  go_ret
  have hK : Kept [] w w1 := ((Kept.refl [] w).alloc _).then HK.out (by simp [Value.ownBlock])
  refine ⟨_, rfl, Nat.le_refl _, ⟨⟨A1, c1, ?_, ?_⟩, Nat.zero_le _, hl⟩, hK.setCell (.inr (Nat.le_refl _)) _⟩
  · have := HB.out.set 0 (.slice A1 (0 + l.length) c1)
    simpa using this
  · have h1 : w1.ownsRow w.heap.size 5 1 (.slice A1 l.length c1) l.length (l.map byteV) := by simpa using HO.out
    have h2 := own_ne_blk h1 HB.out (by decide)
    exact own_base (own_kept h1 ((Kept.refl [w.heap.size] w1).setCell (p := ⟨w.heap.size, 0, none⟩) (.inl (List.mem_singleton.2 rfl)) _) (fun g hg hm => by simp at hm; subst hm; exact h2 hg)) (Nat.zero_le _)
theorem rfail_skip (p : Nat) (e a f : Int) (w : World) (h : f ≠ 0 ∨ e = 0) (h2 : w.cell? ⟨p, 2, none⟩ = some (.int .i64 f)) :
    Calls Tryz.prog 49 #[.pointer (some ⟨p, 0, none⟩), .int .i64 e, .int .i64 a] w fun x w' => x = .returned (.tuple #[]) ∧ w = w' := by
  by_cases hf : f = 0
  · obtain rfl : e = 0 := by rcases h with h | h; exact absurd hf h; exact h
    subst hf
    clear h
    go_enter Tryz.func49, Tryz.ntmps49
    go_wp2_with fail
    refine (rdead_no p _ h2).mono ?_
    rintro x w' ⟨rfl, rfl⟩
    go_wp2
    go_end0
    exact ⟨rfl, rfl⟩
  · have HF := Lib.hid hf
    clear hf h
    go_enter Tryz.func49, Tryz.ntmps49
    go_wp2_with fail
    refine (rdead_yes p _ f HF.out h2).mono ?_
    rintro x w' ⟨rfl, rfl⟩
    go_wp2
    go_end0
    exact ⟨rfl, rfl⟩
theorem rfail_set (p : Nat) (e a f : Int) (v pos : Value) (w : World) (he : e ≠ 0) (hB : Blk w p 110 [v, pos, .int .i64 0, .int .i64 f]) :
    Calls Tryz.prog 49 #[.pointer (some ⟨p, 0, none⟩), .int .i64 e, .int .i64 a] w fun x w' => x = .returned (.tuple #[]) ∧ Blk w' p 110 [v, pos, .int .i64 e, .int .i64 a] ∧ Kept [p] w w' := by
  have hb : (e != 0) = true := by rw [bne_iff_ne]; exact he
  have h2 := hB.cell 2
  have h3 := hB.cell 3
  have f2 := hB.frozen 2
  have f3 := hB.frozen 3
  simp only [List.getElem?_cons_zero, List.getElem?_cons_succ] at h2 h3
  have HB := Lib.hid hB
  clear hB he
  go_enter Tryz.func49, Tryz.ntmps49
  go_wp2_with fail
  refine (rdead_no p _ h2).mono ?_
  rintro x w' ⟨rfl, rfl⟩
  go_wp2
  go_end0
  refine ⟨rfl, ?_, ((Kept.refl [p] w).setCell (p := ⟨p, 2, none⟩) (.inl (List.mem_singleton.2 rfl)) _).setCell (p := ⟨p, 3, none⟩) (.inl (List.mem_singleton.2 rfl)) _⟩
  have := (HB.out.set 2 (.int .i64 e)).set 3 (.int .i64 a)
  simpa using this
theorem rfail_any (p : Nat) (R : Rd) (e a : Int) (w : World) (h : RdAt 110 w p R) :
    Calls Tryz.prog 49 #[.pointer (some ⟨p, 0, none⟩), .int .i64 e, .int .i64 a] w fun x w' => x = .returned (.tuple #[]) ∧ RdAt 110 w' p (R.fail e a) ∧ Kept [p] w w' := by
  have h' := h
  obtain ⟨⟨A, cap, hb, hown⟩, hle, hbig⟩ := h
  have h2 := hb.cell 2
  simp only [List.getElem?_cons_zero, List.getElem?_cons_succ] at h2
  unfold Rd.fail
  by_cases hc : R.e ≠ 0 ∨ e = 0
  · refine (rfail_skip p e a R.e w hc h2).mono ?_
    rintro x w' ⟨rfl, rfl⟩
    rw [if_pos hc]
    exact ⟨rfl, h', Kept.refl _ _⟩
  · have he : R.e = 0 := by simp only [ne_eq, not_or, Decidable.not_not] at hc; exact hc.1
    have he2 : e ≠ 0 := fun h => hc (.inr h)
    refine (rfail_set p e a R.fat _ _ w he2 (by rw [he] at hb; exact hb)).mono ?_
    rintro x w' ⟨rfl, hb', hk⟩
    rw [if_neg hc]
    exact ⟨rfl, ⟨⟨A, cap, hb', own_turned hown hb (by decide) hk⟩, hle, hbig⟩, hk⟩
theorem rtake_dead (p : Nat) (e n : Int) (w : World) (he : e ≠ 0) (h2 : w.cell? ⟨p, 2, none⟩ = some (.int .i64 e)) :
    Calls Tryz.prog 86 #[.pointer (some ⟨p, 0, none⟩), .int .i64 n] w fun x w' => x = .returned (.slice none 0 0) ∧ w = w' := by
  go_enter Tryz.func86, Tryz.ntmps86
  go_wp2_with fail
  refine (rdead_yes p _ e he h2).mono ?_
  rintro x w' ⟨rfl, rfl⟩
  go_wp2
  go_ret
  exact ⟨rfl, rfl⟩
theorem rtake_neg (p : Nat) (pos : Nat) (f n : Int) (v : Value) (w : World) (hn : n < 0) (hB : Blk w p 110 [v, .int .i64 pos, .int .i64 0, .int .i64 f]) :
    Calls Tryz.prog 86 #[.pointer (some ⟨p, 0, none⟩), .int .i64 n] w fun x w' => x = .returned (.slice none 0 0) ∧ Blk w' p 110 [v, .int .i64 pos, .int .i64 3, .int .i64 pos] ∧ Kept [p] w w' := by
  have h1 := hB.cell 1
  have h2 := hB.cell 2
  simp only [List.getElem?_cons_zero, List.getElem?_cons_succ] at h1 h2
  have HB := Lib.hid hB
  clear hB
  go_enter Tryz.func86, Tryz.ntmps86
  go_wp2_with fail
  refine (rdead_no p _ h2).mono ?_
  rintro x w' ⟨rfl, rfl⟩
  go_wp2_with fail
  refine (rfail_set p 3 pos f v (.int .i64 pos) _ (by decide) HB.out).mono ?_
  rintro x w' ⟨rfl, hb', hk⟩
  have HB' := Lib.hid hb'
  have HK := Lib.hid hk
  clear hb' hk
  go_wp2
  go_ret
  exact ⟨rfl, HB'.out, HK.out⟩
theorem rtake_short (p : Nat) (A : Option Addr) (len cap pos : Nat) (f n : Int) (w : World) (hn : 0 ≤ n) (hs : (len : Int) - pos < n) (hp : pos ≤ len) (hl : (len : Int) ≤ 9223372036854775807) (hB : Blk w p 110 [.slice A len cap, .int .i64 pos, .int .i64 0, .int .i64 f]) :
    Calls Tryz.prog 86 #[.pointer (some ⟨p, 0, none⟩), .int .i64 n] w fun x w' => x = .returned (.slice none 0 0) ∧ Blk w' p 110 [.slice A len cap, .int .i64 pos, .int .i64 2, .int .i64 len] ∧ Kept [p] w w' := by
  have h0 := hB.cell 0
  have h1 := hB.cell 1
  have h2 := hB.cell 2
  simp only [List.getElem?_cons_zero, List.getElem?_cons_succ] at h0 h1 h2
  have HB := Lib.hid hB
  clear hB
  go_enter Tryz.func86, Tryz.ntmps86
  go_wp2_with fail
  refine (rdead_no p _ h2).mono ?_
  rintro x w' ⟨rfl, rfl⟩
  go_wp2_with fail
  go_quiet (fail)
  go_wp2_with fail
  refine (rfail_set p 2 len f (.slice A len cap) (.int .i64 pos) _ (by decide) (HB.out.drewN _)).mono ?_
  rintro x w' ⟨rfl, hb', hk⟩
  have HB' := Lib.hid hb'
  have HK := Lib.hid hk
  clear hb' hk
  go_wp2
  go_ret
  exact ⟨rfl, HB'.out, ((Kept.refl _ _).drewN _).trans HK.out⟩
/-! Oct10 -/
open Go.RowKit
open Go.RowKit (wrap32 wrap64)
set_option maxHeartbeats 1000000
theorem rtake_ok (p g : Nat) (l : List UInt8) (cap pos n : Nat) (f : Int) (w : World) (hp : pos + n ≤ l.length) (hcap : l.length ≤ cap) (hne : cap ≠ pos) (hl : l.length ≤ 1073741824) (hb : Blk w p 110 [.slice (some ⟨g, 0, none⟩) l.length cap, .int .i64 pos, .int .i64 0, .int .i64 f]) (hr : Reads w (some ⟨g, 0, none⟩) (l.map byteV)) :
    Calls Tryz.prog 86 #[.pointer (some ⟨p, 0, none⟩), .int .i64 n] w fun x w' => ∃ v, x = .returned v ∧ w'.ownsRow w.heap.size 5 1 v n (((l.drop pos).take n).map byteV) ∧
      Blk w' p 110 [.slice (some ⟨g, 0, none⟩) l.length cap, .int .i64 ((pos + n : Nat) : Int), .int .i64 0, .int .i64 f] ∧ Kept [p] w w' := by
  have h0 := hb.cell 0
  have h1 := hb.cell 1
  have h2 := hb.cell 2
  simp only [List.getElem?_cons_zero, List.getElem?_cons_succ] at h0 h1 h2
  have hlt := hb.lt
  have hf := hb.frozen 1
  have HB := Lib.hid hb
  have HR := Lib.hid hr
  clear hb hr
  have hlen : (((l.drop pos).take n).map byteV).length = n * 1 := by simp; omega
  have Hlen := Lib.hid hlen
  clear hlen
  go_enter Tryz.func86, Tryz.ntmps86
  go_wp2_with fail
  refine (rdead_no p _ h2).mono ?_
  rintro x w' ⟨rfl, rfl⟩
  go_wp2_with fail
  go_quiet (fail)
  go_wp2_with fail
  have hS0 : Kept [] w (w.drewN nq).drew := ((Kept.refl _ _).drewN nq).drew
  have hsz : w.heap.size ≤ (w.drewN nq).drew.heap.size := Nat.le_refl _
  have i1 : (0 : Int) ≤ (pos : Int) := by omega
  have i2 : (pos : Int) ≤ (pos : Int) + (n : Int) := by omega
  have i3 : (pos : Int) + (n : Int) ≤ (cap : Int) := by omega
  have i6 : ¬ cap = pos := hne
  have i8 : (0 + n) * 1 ≤ 140737488355328 := by omega
  have i9 : 0 + n ≤ maxLen := by unfold maxLen; omega
  have i5 : ((pos : Int) + (n : Int)).toNat = pos + n := by omega
  have i4 : IntKind.i64.wrap ((pos : Int) + (n : Int)) = (pos : Int) + (n : Int) := IntWalk.i64_in _ (by omega)
  have I8 := Lib.hid i8
  have I9 := Lib.hid i9
  clear i8 i9
  go_region_held3 (fun w' => Kept [] w w' ∧ w'.cell? ⟨p, 0, none⟩ = some (.slice (some ⟨g, 0, none⟩) l.length cap) ∧ w'.cell? ⟨p, 1, none⟩ = some (.int .i64 pos)) (first | assumption | exact ⟨hS0, h0, h1⟩)
    (first | (refine step_app _ rfl (.tmp 35) (.tmp 50) _ rfl 5 (.int .u8 0) 1 1 Tryz.underlying26 infoU8 rfl (by decide) w.heap.size (.slice none 0 0) 0 [] rfl (World.ownsRow_nil _ _ _ _) (some ⟨g, pos, none⟩) n (cap - pos) (((l.drop pos).take n).map byteV) rfl Hlen.out (drop_reads (HR.out.kept0 hS0)) (by intro u hu; obtain ⟨_, _, rfl⟩ := List.mem_map.1 hu; rfl) I8.out I9.out hsz ?_; intro v2 w2 hown hk2 hb2; have hS : Kept [] w w2 ∧ w2.cell? ⟨p, 0, none⟩ = some (.slice (some ⟨g, 0, none⟩) l.length cap) ∧ w2.cell? ⟨p, 1, none⟩ = some (.int .i64 pos) := ⟨hS0.trans hk2, ((hS0.trans hk2).cell (p := ⟨p, 0, none⟩) hlt (by simp)).trans h0, ((hS0.trans hk2).cell (p := ⟨p, 1, none⟩) hlt (by simp)).trans h1⟩))
  obtain ⟨hk, hc0, hc1⟩ := hS
  have hf1 := (hk.frozen (p := ⟨p, 1, none⟩) hlt (by simp)).trans hf
  clear i5 hk2 h0 h1 h2 hS0 hc0 hf hb2
  have HK := Lib.hid hk
  have HO := Lib.hid hown
  clear hk hown
  go_wp2
  go_ret
  refine ⟨_, rfl, ?_, ?_, ?_⟩
  · have h := HO.out
    rw [Nat.zero_add, List.nil_append] at h
    exact ownsRow_setCell_below h (a := ⟨p, 1, none⟩) hlt _
  · have := (HB.out.kept HK.out (by simp)).set 1 (.int .i64 ((pos : Int) + (n : Int)))
    simpa using this
  · exact (HK.out.mono (by simp)).setCell (.inl (by simp)) _
theorem rtake_zero (p : Nat) (A : Option Addr) (len : Nat) (f : Int) (w : World) (hl : len ≤ 1073741824) (hb : Blk w p 110 [.slice A len len, .int .i64 len, .int .i64 0, .int .i64 f]) :
    Calls Tryz.prog 86 #[.pointer (some ⟨p, 0, none⟩), .int .i64 0] w fun x w' => ∃ v, x = .returned v ∧ w'.ownsRow w.heap.size 5 1 v 0 [] ∧
      Blk w' p 110 [.slice A len len, .int .i64 len, .int .i64 0, .int .i64 f] ∧ Kept [p] w w' := by
  have h0 := hb.cell 0
  have h1 := hb.cell 1
  have h2 := hb.cell 2
  simp only [List.getElem?_cons_zero, List.getElem?_cons_succ] at h0 h1 h2
  have hlt := hb.lt
  have hf := hb.frozen 1
  have HB := Lib.hid hb
  clear hb
  go_enter Tryz.func86, Tryz.ntmps86
  go_wp2_with fail
  refine (rdead_no p _ h2).mono ?_
  rintro x w' ⟨rfl, rfl⟩
  go_wp2_with fail
  go_quiet (fail)
  go_wp2_with fail
  have hS0 : Kept [] w (w.drewN nq).drew := ((Kept.refl _ _).drewN nq).drew
  have hsz : w.heap.size ≤ (w.drewN nq).drew.heap.size := Nat.le_refl _
  have i1 : (0 : Int) ≤ (len : Int) := by omega
  have i8 : (0 + 0) * 1 ≤ 140737488355328 := by omega
  have i9 : 0 + 0 ≤ maxLen := by unfold maxLen; omega
  have i7 : IntKind.i64.wrap (len : Int) = (len : Int) := IntWalk.i64_in _ (by omega)
  have I8 := Lib.hid i8
  have I9 := Lib.hid i9
  clear i8 i9
  go_region_held3 (fun w' => Kept [] w w' ∧ w'.cell? ⟨p, 0, none⟩ = some (.slice A len len) ∧ w'.cell? ⟨p, 1, none⟩ = some (.int .i64 len)) (first | assumption | exact ⟨hS0, h0, h1⟩)
    (first | (refine step_app _ rfl (.tmp 35) (.tmp 50) _ rfl 5 (.int .u8 0) 1 1 Tryz.underlying26 infoU8 rfl (by decide) w.heap.size (.slice none 0 0) 0 [] rfl (World.ownsRow_nil _ _ _ _) A 0 0 [] rfl rfl (Reads.nil _ _) (by intro u hu; cases hu) I8.out I9.out hsz ?_; intro v2 w2 hown hk2 hb2; have hS : Kept [] w w2 ∧ w2.cell? ⟨p, 0, none⟩ = some (.slice A len len) ∧ w2.cell? ⟨p, 1, none⟩ = some (.int .i64 len) := ⟨hS0.trans hk2, ((hS0.trans hk2).cell (p := ⟨p, 0, none⟩) hlt (by simp)).trans h0, ((hS0.trans hk2).cell (p := ⟨p, 1, none⟩) hlt (by simp)).trans h1⟩))
  obtain ⟨hk, hc0, hc1⟩ := hS
  have hf1 := (hk.frozen (p := ⟨p, 1, none⟩) hlt (by simp)).trans hf
  clear hk2 h0 h1 h2 hS0 hc0 hf hb2
  have HK := Lib.hid hk
  have HO := Lib.hid hown
  clear hk hown
  go_wp2
  go_ret
  refine ⟨_, rfl, ?_, ?_, ?_⟩
  · have h := HO.out
    exact ownsRow_setCell_below h (a := ⟨p, 1, none⟩) hlt _
  · have := (HB.out.kept HK.out (by simp)).set 1 (.int .i64 (len : Int))
    simpa using this
  · exact (HK.out.mono (by simp)).setCell (.inl (by simp)) _
theorem rtake_any (p : Nat) (R : Rd) (n : Int) (w : World) (h : RdAt 110 w p R) :
    Calls Tryz.prog 86 #[.pointer (some ⟨p, 0, none⟩), .int .i64 n] w fun x w' => ∃ v, x = .returned v ∧ w'.ownsRow w.heap.size 5 1 v (R.got n).length ((R.got n).map byteV) ∧
      RdAt 110 w' p (R.after n) ∧ Kept [p] w w' := by
  have h' := h
  obtain ⟨⟨A, cap, hb, hown⟩, hle, hbig⟩ := h
  have h2 := hb.cell 2
  simp only [List.getElem?_cons_zero, List.getElem?_cons_succ] at h2
  by_cases hc : R.can n
  · have hgl := Rd.got_length hc
    have hac := Rd.after_can hc
    obtain ⟨he, hn0, hn⟩ := hc
    have hgot : R.got n = (R.b.drop R.pos).take n.toNat := by unfold Rd.got; rw [if_pos ⟨he, hn0, hn⟩]
    obtain ⟨m, rfl⟩ := Int.eq_ofNat_of_zero_le hn0
    simp only [Int.toNat_natCast] at hgl hac hgot
    rw [he] at hb
    obtain ⟨A', cap', hv, hlc, hcm, hr, hf⟩ := own_form hown
    injection hv with hA hlen hcap
    subst hA hcap
    have core : Calls Tryz.prog 86 #[.pointer (some ⟨p, 0, none⟩), .int .i64 (m : Int)] w fun x w' => ∃ v, x = .returned v ∧ w'.ownsRow w.heap.size 5 1 v m (((R.b.drop R.pos).take m).map byteV) ∧
        Blk w' p 110 [.slice A R.b.length cap, .int .i64 ((R.pos + m : Nat) : Int), .int .i64 0, .int .i64 R.fat] ∧ Kept [p] w w' := by
      have zero : cap = R.pos → Calls Tryz.prog 86 #[.pointer (some ⟨p, 0, none⟩), .int .i64 (m : Int)] w fun x w' => ∃ v, x = .returned v ∧ w'.ownsRow w.heap.size 5 1 v m (((R.b.drop R.pos).take m).map byteV) ∧
          Blk w' p 110 [.slice A R.b.length cap, .int .i64 ((R.pos + m : Nat) : Int), .int .i64 0, .int .i64 R.fat] ∧ Kept [p] w w' := by
        intro hcp
        have e1 : R.b.length = R.pos := by omega
        have e2 : m = 0 := by omega
        subst e2
        refine (rtake_zero p A R.b.length R.fat w hbig (by rw [hcp, ← e1] at hb; exact hb)).mono ?_
        rintro x w' ⟨v, rfl, ho, hb', hk⟩
        refine ⟨v, rfl, by simpa using ho, ?_, hk⟩
        rw [hcp, ← e1]
        exact hb'
      rcases A with _ | ad
      · refine zero ?_
        rcases hown.2 with ⟨h, _⟩ | ⟨g, _, _, h, _⟩
        · injection h with _ h1 h2
          omega
        · simp at h
      · obtain ⟨g, rfl, _, hglt⟩ := hf ad rfl
        by_cases hcp : cap = R.pos
        · exact zero hcp
        · exact rtake_ok p g R.b cap R.pos m R.fat w (by omega) hlc hcp hbig hb hr
    refine core.mono ?_
    rintro x w' ⟨v, rfl, ho, hb', hk⟩
    refine ⟨v, rfl, by rw [hgl, hgot]; exact ho, ?_, hk⟩
    rw [hac]
    exact ⟨⟨A, cap, by rw [he]; exact hb', own_turned hown hb (by decide) hk⟩, by simp only; omega, hbig⟩
  · have hg : R.got n = [] := by unfold Rd.got; rw [if_neg hc]
    rw [hg]
    have onil : ∀ w' : World, w'.ownsRow w.heap.size 5 1 (.slice none 0 0) ([] : List UInt8).length (([] : List UInt8).map byteV) := fun w' => World.ownsRow_nil _ _ _ _
    by_cases he : R.e = 0
    · rw [he] at hb
      by_cases hn : n < 0
      · refine (rtake_neg p R.pos R.fat n _ w hn hb).mono ?_
        rintro x w' ⟨rfl, hb', hk⟩
        refine ⟨_, rfl, onil _, ?_, hk⟩
        have ha : R.after n = { R with e := 3, fat := R.pos } := by simp [Rd.after, he, hn]
        rw [ha]
        exact ⟨⟨A, cap, hb', own_turned hown hb (by decide) hk⟩, hle, hbig⟩
      · have hs : (R.b.length : Int) - R.pos < n := by
          rcases Int.lt_or_le ((R.b.length : Int) - R.pos) n with h' | h'
          · exact h'
          · exact absurd ⟨he, by omega, h'⟩ hc
        refine (rtake_short p A R.b.length cap R.pos R.fat n w (by omega) hs hle (by omega) hb).mono ?_
        rintro x w' ⟨rfl, hb', hk⟩
        refine ⟨_, rfl, onil _, ?_, hk⟩
        have ha : R.after n = { R with e := 2, fat := R.b.length } := by simp [Rd.after, he, hn, hs]
        rw [ha]
        exact ⟨⟨A, cap, hb', own_turned hown hb (by decide) hk⟩, hle, hbig⟩
    · refine (rtake_dead p R.e n w he h2).mono ?_
      rintro x w' ⟨rfl, rfl⟩
      have ha : R.after n = R := by unfold Rd.after; rw [if_pos he]
      rw [ha]
      exact ⟨_, rfl, onil _, h', Kept.refl _ _⟩
theorem rnumber_any (p : Nat) (R : Rd) (k : Nat) (w : World) (hk8 : k ≤ 8) (h : RdAt 110 w p R) :
    Calls Tryz.prog 87 #[.pointer (some ⟨p, 0, none⟩), .int .i64 k] w fun x w' => x = .returned (.int .u64 ((num (R.got k) : Nat) : Int)) ∧ RdAt 110 w' p (R.after k) ∧ Kept [p] w w' := by
  have hlen8 : (R.got k).length ≤ 8 := by
    by_cases hc : R.can k
    · rw [Rd.got_length hc]; simp; exact hk8
    · unfold Rd.got; rw [if_neg hc]; simp
  have H := Lib.hid h
  clear h
  go_enter Tryz.func87, Tryz.ntmps87
  go_wp2_with fail
  refine (rtake_any p R k _ H.out).mono ?_
  rintro x w1 ⟨v, rfl, ho, hrd, hk⟩
  obtain ⟨A, c, rfl, _, _, hr, _⟩ := own_form ho
  have HR := Lib.hid hr
  have HD := Lib.hid hrd
  have HK := Lib.hid hk
  clear hr hrd hk ho
  obtain ⟨l, hl⟩ : ∃ l, l = R.got k := ⟨_, rfl⟩
  rw [← hl] at HR hlen8 ⊢
  have HL := Lib.hid hl
  clear hl
  go_wp2_with fail
  go_loopw [6, 7] (fun s i wr => ∃ j : Nat, j ≤ l.length ∧ i = .int .i64 ((j : Int) - 1) ∧ s = .int .u64 ((num (l.drop j) : Nat) : Int) ∧ w1 = wr) (fun _ i _ => (intOf i + 1).toNat)
  case atStart => exact ⟨l.length, Nat.le_refl _, rfl, by simp [num], rfl⟩
  case round =>
    obtain ⟨j, hj, rfl, rfl, rfl⟩ := hrel
    rcases j with _ | j
    · go_wp2
      go_ret
      exact ⟨ret_int (by rw [List.drop_zero, HL.out]), HD.out, HK.out⟩
    · have hj1 : j < l.length := hj
      obtain ⟨b, off, rfl, hc⟩ := byteV_at HR.out hj1
      have hb := l[j].toNat_lt
      obtain ⟨y, hy⟩ : ∃ y, y = l[j].toNat := ⟨_, rfl⟩
      obtain ⟨q, hq⟩ : ∃ q, q = num (l.drop (j + 1)) := ⟨_, rfl⟩
      have hbound := num_drop_lt l j hlen8 hj1
      have hnext := num_cons l j hj1
      rw [← hy] at hc hb hbound hnext
      rw [← hq] at hbound hnext ⊢
      have e1 : ((j + 1 : Nat) : Int) - 1 = (j : Int) := by omega
      rw [e1]
      have HN := Lib.hid hnext
      have HBd := Lib.hid hbound
      clear hnext hbound hy hq e1
      go_wp2
      go_roundw
      case rel =>
        refine ⟨j, by omega, rfl, ?_, trivial⟩
        rw [HN.out]
        have h := HBd.out
        rw [IntKind.wrap_u64, IntKind.wrap_u64]
        congr 1
        omega
      case measure => simp [intOf]
theorem ru8_any (p : Nat) (R : Rd) (w : World) (h : RdAt 110 w p R) :
    Calls Tryz.prog 48 #[.pointer (some ⟨p, 0, none⟩)] w fun x w' => x = .returned (.int .u8 ((num (R.got 1) % 256 : Nat) : Int)) ∧ RdAt 110 w' p (R.after 1) ∧ Kept [p] w w' := by
  have H := Lib.hid h
  clear h
  go_enter Tryz.func48, Tryz.ntmps48
  go_wp2_with fail
  refine (rnumber_any p R 1 _ (by decide) H.out).mono ?_
  rintro x w1 ⟨rfl, hrd, hk⟩
  have HD := Lib.hid hrd
  have HK := Lib.hid hk
  clear hrd hk
  go_wp2
  go_ret
  exact ⟨ret_int (by simp), HD.out, HK.out⟩
theorem ru32_any (p : Nat) (R : Rd) (w : World) (h : RdAt 110 w p R) :
    Calls Tryz.prog 89 #[.pointer (some ⟨p, 0, none⟩)] w fun x w' => x = .returned (.int .u32 ((num (R.got 4) % 4294967296 : Nat) : Int)) ∧ RdAt 110 w' p (R.after 4) ∧ Kept [p] w w' := by
  have H := Lib.hid h
  clear h
  go_enter Tryz.func89, Tryz.ntmps89
  go_wp2_with fail
  refine (rnumber_any p R 4 _ (by decide) H.out).mono ?_
  rintro x w1 ⟨rfl, hrd, hk⟩
  have HD := Lib.hid hrd
  have HK := Lib.hid hk
  clear hrd hk
  go_wp2
  go_ret
  exact ⟨ret_int (by simp), HD.out, HK.out⟩
theorem ri64_any (p : Nat) (R : Rd) (w : World) (h : RdAt 110 w p R) :
    Calls Tryz.prog 66 #[.pointer (some ⟨p, 0, none⟩)] w fun x w' => x = .returned (.int .i64 (wrap64 ((num (R.got 8) : Nat) : Int))) ∧ RdAt 110 w' p (R.after 8) ∧ Kept [p] w w' := by
  have H := Lib.hid h
  clear h
  go_enter Tryz.func66, Tryz.ntmps66
  go_wp2_with fail
  refine (rnumber_any p R 8 _ (by decide) H.out).mono ?_
  rintro x w1 ⟨rfl, hrd, hk⟩
  have HD := Lib.hid hrd
  have HK := Lib.hid hk
  clear hrd hk
  go_wp2
  go_ret
  exact ⟨ret_int (by simp), HD.out, HK.out⟩
/-! Oct11 -/
open Go.RowKit
open Go.RowKit (wrap32 wrap64)
set_option maxHeartbeats 1000000
theorem rat_rd (p : Nat) (R : Rd) (w : World) (h : RdAt 110 w p R) : Calls Tryz.prog 47 #[.pointer (some ⟨p, 0, none⟩)] w fun x w' => x = .returned (.int .i64 R.pos) ∧ w = w' := by
  obtain ⟨⟨A, cap, hb, hown⟩, hle, hbig⟩ := h
  have h1 := hb.cell 1
  simp only [List.getElem?_cons_zero, List.getElem?_cons_succ] at h1
  exact rat_any p R.pos w h1
theorem rfault_rd (p : Nat) (R : Rd) (w : World) (h : RdAt 110 w p R) : Calls Tryz.prog 51 #[.pointer (some ⟨p, 0, none⟩)] w fun x w' => x = .returned (.agg #[.int .i64 R.e, .int .i64 R.fat]) ∧ Kept [] w w' := by
  obtain ⟨⟨A, cap, hb, hown⟩, hle, hbig⟩ := h
  have h2 := hb.cell 2
  have h3 := hb.cell 3
  simp only [List.getElem?_cons_zero, List.getElem?_cons_succ] at h2 h3
  exact rfault_any p w R.e R.fat h2 h3
theorem rend_rd (p : Nat) (R : Rd) (w : World) (h : RdAt 110 w p R) : Calls Tryz.prog 52 #[.pointer (some ⟨p, 0, none⟩)] w fun x w' => x = .returned (.bool R.atEnd) ∧ ∃ k, w' = w.drewN k := by
  obtain ⟨⟨A, cap, hb, hown⟩, hle, hbig⟩ := h
  have h0 := hb.cell 0
  have h1 := hb.cell 1
  have h2 := hb.cell 2
  simp only [List.getElem?_cons_zero, List.getElem?_cons_succ] at h0 h1 h2
  by_cases he : R.e = 0
  · rw [he] at h2
    refine (rend_ok p A R.b.length cap R.pos w h0 h1 h2).mono ?_
    rintro x w' ⟨rfl, hk⟩
    refine ⟨ret_bool ?_, hk⟩
    unfold Rd.atEnd
    rw [Bool.eq_iff_iff]
    simp [he]
    omega
  · refine (rend_dead p w R.e he h2).mono ?_
    rintro x w' ⟨rfl, hk⟩
    exact ⟨ret_bool (by simp [Rd.atEnd, he]), hk⟩
end Go.Proofs.YtfnhfmffkjljnaaGreat
