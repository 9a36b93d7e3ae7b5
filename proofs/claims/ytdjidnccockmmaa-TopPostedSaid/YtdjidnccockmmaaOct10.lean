/- The contracts of the reference's reads. -/
import Derived.Test.YtdjidnccockmmaaOct9
namespace Go.Proofs.Ytdjidnccockmmaa
open Go.RowKit
open Go.RowKit (wrap32 wrap64)
set_option maxHeartbeats 1000000

theorem rtake_ok (p g : Nat) (l : List UInt8) (cap pos n : Nat) (f : Int) (w : World) (hp : pos + n ≤ l.length) (hcap : l.length ≤ cap) (hne : cap ≠ pos) (hl : l.length ≤ 1073741824) (hb : Blk w p 92 [.slice (some ⟨g, 0, none⟩) l.length cap, .int .i64 pos, .int .i64 0, .int .i64 f]) (hr : Reads w (some ⟨g, 0, none⟩) (l.map byteV)) :
    Calls Try.prog 62 #[.pointer (some ⟨p, 0, none⟩), .int .i64 n] w fun x w' => ∃ v, x = .returned v ∧ w'.ownsRow w.heap.size 5 1 v n (((l.drop pos).take n).map byteV) ∧
      Blk w' p 92 [.slice (some ⟨g, 0, none⟩) l.length cap, .int .i64 ((pos + n : Nat) : Int), .int .i64 0, .int .i64 f] ∧ Kept [p] w w' := by
  have h0 := hb.cell 0
  have h1 := hb.cell 1
  have h2 := hb.cell 2
  simp only [List.getElem?_cons_zero, List.getElem?_cons_succ] at h0 h1 h2
  have hlt := hb.lt
  have hf := hb.frozen 1
  have HB := Lib.hid hb
  have HR := Lib.hid hr
  clear hb hr
  have hlen : (((l.drop pos).take n).map byteV).length = n * 1 := by simp; omega
  have Hlen := Lib.hid hlen
  clear hlen
  go_enter Try.func62, Try.ntmps62
  go_wp2_with fail
  refine (rdead_no p _ h2).mono ?_
  rintro x w' ⟨rfl, rfl⟩
  go_wp2_with fail
  go_quiet (fail)
  go_wp2_with fail
  have hS0 : Kept [] w (w.drewN nq).drew := ((Kept.refl _ _).drewN nq).drew
  have hsz : w.heap.size ≤ (w.drewN nq).drew.heap.size := Nat.le_refl _
  have i1 : (0 : Int) ≤ (pos : Int) := by omega
  have i2 : (pos : Int) ≤ (pos : Int) + (n : Int) := by omega
  have i3 : (pos : Int) + (n : Int) ≤ (cap : Int) := by omega
  have i6 : ¬ cap = pos := hne
  have i8 : (0 + n) * 1 ≤ 140737488355328 := by omega
  have i9 : 0 + n ≤ maxLen := by unfold maxLen; omega
  have i5 : ((pos : Int) + (n : Int)).toNat = pos + n := by omega
  have i4 : IntKind.i64.wrap ((pos : Int) + (n : Int)) = (pos : Int) + (n : Int) := IntWalk.i64_in _ (by omega)
  have I8 := Lib.hid i8
  have I9 := Lib.hid i9
  clear i8 i9
  go_region_held3 (fun w' => Kept [] w w' ∧ w'.cell? ⟨p, 0, none⟩ = some (.slice (some ⟨g, 0, none⟩) l.length cap) ∧ w'.cell? ⟨p, 1, none⟩ = some (.int .i64 pos)) (first | assumption | exact ⟨hS0, h0, h1⟩)
    (first | (refine step_app _ rfl (.tmp 35) (.tmp 50) _ rfl 5 (.int .u8 0) 1 1 Try.underlying25 infoU8 rfl (by decide) w.heap.size (.slice none 0 0) 0 [] rfl (World.ownsRow_nil _ _ _ _) (some ⟨g, pos, none⟩) n (cap - pos) (((l.drop pos).take n).map byteV) rfl Hlen.out (drop_reads (HR.out.kept0 hS0)) (by intro u hu; obtain ⟨_, _, rfl⟩ := List.mem_map.1 hu; rfl) I8.out I9.out hsz ?_; intro v2 w2 hown hk2 hb2; have hS : Kept [] w w2 ∧ w2.cell? ⟨p, 0, none⟩ = some (.slice (some ⟨g, 0, none⟩) l.length cap) ∧ w2.cell? ⟨p, 1, none⟩ = some (.int .i64 pos) := ⟨hS0.trans hk2, ((hS0.trans hk2).cell (p := ⟨p, 0, none⟩) hlt (by simp)).trans h0, ((hS0.trans hk2).cell (p := ⟨p, 1, none⟩) hlt (by simp)).trans h1⟩))
  obtain ⟨hk, hc0, hc1⟩ := hS
  have hf1 := (hk.frozen (p := ⟨p, 1, none⟩) hlt (by simp)).trans hf
  clear i5 hk2 h0 h1 h2 hS0 hc0 hf hb2
  have HK := Lib.hid hk
  have HO := Lib.hid hown
  clear hk hown
  go_wp2
  go_ret
  refine ⟨_, rfl, ?_, ?_, ?_⟩
  · have h := HO.out
    rw [Nat.zero_add, List.nil_append] at h
    exact ownsRow_setCell_below h (a := ⟨p, 1, none⟩) hlt _
  · have := (HB.out.kept HK.out (by simp)).set 1 (.int .i64 ((pos : Int) + (n : Int)))
    simpa using this
  · exact (HK.out.mono (by simp)).setCell (.inl (by simp)) _

theorem rtake_zero (p : Nat) (A : Option Addr) (len : Nat) (f : Int) (w : World) (hl : len ≤ 1073741824) (hb : Blk w p 92 [.slice A len len, .int .i64 len, .int .i64 0, .int .i64 f]) :
    Calls Try.prog 62 #[.pointer (some ⟨p, 0, none⟩), .int .i64 0] w fun x w' => ∃ v, x = .returned v ∧ w'.ownsRow w.heap.size 5 1 v 0 [] ∧
      Blk w' p 92 [.slice A len len, .int .i64 len, .int .i64 0, .int .i64 f] ∧ Kept [p] w w' := by
  have h0 := hb.cell 0
  have h1 := hb.cell 1
  have h2 := hb.cell 2
  simp only [List.getElem?_cons_zero, List.getElem?_cons_succ] at h0 h1 h2
  have hlt := hb.lt
  have hf := hb.frozen 1
  have HB := Lib.hid hb
  clear hb
  go_enter Try.func62, Try.ntmps62
  go_wp2_with fail
  refine (rdead_no p _ h2).mono ?_
  rintro x w' ⟨rfl, rfl⟩
  go_wp2_with fail
  go_quiet (fail)
  go_wp2_with fail
  have hS0 : Kept [] w (w.drewN nq).drew := ((Kept.refl _ _).drewN nq).drew
  have hsz : w.heap.size ≤ (w.drewN nq).drew.heap.size := Nat.le_refl _
  have i1 : (0 : Int) ≤ (len : Int) := by omega
  have i8 : (0 + 0) * 1 ≤ 140737488355328 := by omega
  have i9 : 0 + 0 ≤ maxLen := by unfold maxLen; omega
  have i7 : IntKind.i64.wrap (len : Int) = (len : Int) := IntWalk.i64_in _ (by omega)
  have I8 := Lib.hid i8
  have I9 := Lib.hid i9
  clear i8 i9
  go_region_held3 (fun w' => Kept [] w w' ∧ w'.cell? ⟨p, 0, none⟩ = some (.slice A len len) ∧ w'.cell? ⟨p, 1, none⟩ = some (.int .i64 len)) (first | assumption | exact ⟨hS0, h0, h1⟩)
    (first | (refine step_app _ rfl (.tmp 35) (.tmp 50) _ rfl 5 (.int .u8 0) 1 1 Try.underlying25 infoU8 rfl (by decide) w.heap.size (.slice none 0 0) 0 [] rfl (World.ownsRow_nil _ _ _ _) A 0 0 [] rfl rfl (Reads.nil _ _) (by intro u hu; cases hu) I8.out I9.out hsz ?_; intro v2 w2 hown hk2 hb2; have hS : Kept [] w w2 ∧ w2.cell? ⟨p, 0, none⟩ = some (.slice A len len) ∧ w2.cell? ⟨p, 1, none⟩ = some (.int .i64 len) := ⟨hS0.trans hk2, ((hS0.trans hk2).cell (p := ⟨p, 0, none⟩) hlt (by simp)).trans h0, ((hS0.trans hk2).cell (p := ⟨p, 1, none⟩) hlt (by simp)).trans h1⟩))
  obtain ⟨hk, hc0, hc1⟩ := hS
  have hf1 := (hk.frozen (p := ⟨p, 1, none⟩) hlt (by simp)).trans hf
  clear hk2 h0 h1 h2 hS0 hc0 hf hb2
  have HK := Lib.hid hk
  have HO := Lib.hid hown
  clear hk hown
  go_wp2
  go_ret
  refine ⟨_, rfl, ?_, ?_, ?_⟩
  · have h := HO.out
    exact ownsRow_setCell_below h (a := ⟨p, 1, none⟩) hlt _
  · have := (HB.out.kept HK.out (by simp)).set 1 (.int .i64 (len : Int))
    simpa using this
  · exact (HK.out.mono (by simp)).setCell (.inl (by simp)) _

theorem rtake_any (p : Nat) (R : Rd) (n : Int) (w : World) (h : RdAt 92 w p R) :
    Calls Try.prog 62 #[.pointer (some ⟨p, 0, none⟩), .int .i64 n] w fun x w' => ∃ v, x = .returned v ∧ w'.ownsRow w.heap.size 5 1 v (R.got n).length ((R.got n).map byteV) ∧
      RdAt 92 w' p (R.after n) ∧ Kept [p] w w' := by
  have h' := h
  obtain ⟨⟨A, cap, hb, hown⟩, hle, hbig⟩ := h
  have h2 := hb.cell 2
  simp only [List.getElem?_cons_zero, List.getElem?_cons_succ] at h2
  by_cases hc : R.can n
  · have hgl := Rd.got_length hc
    have hac := Rd.after_can hc
    obtain ⟨he, hn0, hn⟩ := hc
    have hgot : R.got n = (R.b.drop R.pos).take n.toNat := by unfold Rd.got; rw [if_pos ⟨he, hn0, hn⟩]
    obtain ⟨m, rfl⟩ := Int.eq_ofNat_of_zero_le hn0
    simp only [Int.toNat_natCast] at hgl hac hgot
    rw [he] at hb
    obtain ⟨A', cap', hv, hlc, hcm, hr, hf⟩ := own_form hown
    injection hv with hA hlen hcap
    subst hA hcap
    have core : Calls Try.prog 62 #[.pointer (some ⟨p, 0, none⟩), .int .i64 (m : Int)] w fun x w' => ∃ v, x = .returned v ∧ w'.ownsRow w.heap.size 5 1 v m (((R.b.drop R.pos).take m).map byteV) ∧
        Blk w' p 92 [.slice A R.b.length cap, .int .i64 ((R.pos + m : Nat) : Int), .int .i64 0, .int .i64 R.fat] ∧ Kept [p] w w' := by
      have zero : cap = R.pos → Calls Try.prog 62 #[.pointer (some ⟨p, 0, none⟩), .int .i64 (m : Int)] w fun x w' => ∃ v, x = .returned v ∧ w'.ownsRow w.heap.size 5 1 v m (((R.b.drop R.pos).take m).map byteV) ∧
          Blk w' p 92 [.slice A R.b.length cap, .int .i64 ((R.pos + m : Nat) : Int), .int .i64 0, .int .i64 R.fat] ∧ Kept [p] w w' := by
        intro hcp
        have e1 : R.b.length = R.pos := by omega
        have e2 : m = 0 := by omega
        subst e2
        refine (rtake_zero p A R.b.length R.fat w hbig (by rw [hcp, ← e1] at hb; exact hb)).mono ?_
        rintro x w' ⟨v, rfl, ho, hb', hk⟩
        refine ⟨v, rfl, by simpa using ho, ?_, hk⟩
        rw [hcp, ← e1]
        exact hb'
      rcases A with _ | ad
      · refine zero ?_
        rcases hown.2 with ⟨h, _⟩ | ⟨g, _, _, h, _⟩
        · injection h with _ h1 h2
          omega
        · simp at h
      · obtain ⟨g, rfl, _, hglt⟩ := hf ad rfl
        by_cases hcp : cap = R.pos
        · exact zero hcp
        · exact rtake_ok p g R.b cap R.pos m R.fat w (by omega) hlc hcp hbig hb hr
    refine core.mono ?_
    rintro x w' ⟨v, rfl, ho, hb', hk⟩
    refine ⟨v, rfl, by rw [hgl, hgot]; exact ho, ?_, hk⟩
    rw [hac]
    exact ⟨⟨A, cap, by rw [he]; exact hb', own_turned hown hb (by decide) hk⟩, by simp only; omega, hbig⟩
  · have hg : R.got n = [] := by unfold Rd.got; rw [if_neg hc]
    rw [hg]
    have onil : ∀ w' : World, w'.ownsRow w.heap.size 5 1 (.slice none 0 0) ([] : List UInt8).length (([] : List UInt8).map byteV) := fun w' => World.ownsRow_nil _ _ _ _
    by_cases he : R.e = 0
    · rw [he] at hb
      by_cases hn : n < 0
      · refine (rtake_neg p R.pos R.fat n _ w hn hb).mono ?_
        rintro x w' ⟨rfl, hb', hk⟩
        refine ⟨_, rfl, onil _, ?_, hk⟩
        have ha : R.after n = { R with e := 3, fat := R.pos } := by simp [Rd.after, he, hn]
        rw [ha]
        exact ⟨⟨A, cap, hb', own_turned hown hb (by decide) hk⟩, hle, hbig⟩
      · have hs : (R.b.length : Int) - R.pos < n := by
          rcases Int.lt_or_le ((R.b.length : Int) - R.pos) n with h' | h'
          · exact h'
          · exact absurd ⟨he, by omega, h'⟩ hc
        refine (rtake_short p A R.b.length cap R.pos R.fat n w (by omega) hs hle (by omega) hb).mono ?_
        rintro x w' ⟨rfl, hb', hk⟩
        refine ⟨_, rfl, onil _, ?_, hk⟩
        have ha : R.after n = { R with e := 2, fat := R.b.length } := by simp [Rd.after, he, hn, hs]
        rw [ha]
        exact ⟨⟨A, cap, hb', own_turned hown hb (by decide) hk⟩, hle, hbig⟩
    · refine (rtake_dead p R.e n w he h2).mono ?_
      rintro x w' ⟨rfl, rfl⟩
      have ha : R.after n = R := by unfold Rd.after; rw [if_pos he]
      rw [ha]
      exact ⟨_, rfl, onil _, h', Kept.refl _ _⟩

/-- The bytes behind the first k make so great a number. -/
theorem num_cons (l : List UInt8) (k : Nat) (h : k < l.length) : num (l.drop k) = num (l.drop (k + 1)) * 256 + l[k].toNat := by
  rw [List.drop_eq_getElem_cons h]
  simp only [num]
  omega
theorem num_drop_lt (l : List UInt8) (k : Nat) (h8 : l.length ≤ 8) (h : k < l.length) : num (l.drop (k + 1)) * 256 + l[k].toNat < 18446744073709551616 := by
  rw [← num_cons l k h]
  have h1 := num_lt (l.drop k)
  have h2 : 256 ^ (l.drop k).length ≤ 256 ^ 8 := Nat.pow_le_pow_right (by decide) (by simp; omega)
  have h3 : 256 ^ 8 = 18446744073709551616 := by decide
  omega

theorem rnumber_any (p : Nat) (R : Rd) (k : Nat) (w : World) (hk8 : k ≤ 8) (h : RdAt 92 w p R) :
    Calls Try.prog 99 #[.pointer (some ⟨p, 0, none⟩), .int .i64 k] w fun x w' => x = .returned (.int .u64 ((num (R.got k) : Nat) : Int)) ∧ RdAt 92 w' p (R.after k) ∧ Kept [p] w w' := by
  have hlen8 : (R.got k).length ≤ 8 := by
    by_cases hc : R.can k
    · rw [Rd.got_length hc]; simp; exact hk8
    · unfold Rd.got; rw [if_neg hc]; simp
  have H := Lib.hid h
  clear h
  go_enter Try.func99, Try.ntmps99
  go_wp2_with fail
  refine (rtake_any p R k _ H.out).mono ?_
  rintro x w1 ⟨v, rfl, ho, hrd, hk⟩
  obtain ⟨A, c, rfl, _, _, hr, _⟩ := own_form ho
  have HR := Lib.hid hr
  have HD := Lib.hid hrd
  have HK := Lib.hid hk
  clear hr hrd hk ho
  obtain ⟨l, hl⟩ : ∃ l, l = R.got k := ⟨_, rfl⟩
  rw [← hl] at HR hlen8 ⊢
  have HL := Lib.hid hl
  clear hl
  go_wp2_with fail
  go_loopw [6, 7] (fun s i wr => ∃ j : Nat, j ≤ l.length ∧ i = .int .i64 ((j : Int) - 1) ∧ s = .int .u64 ((num (l.drop j) : Nat) : Int) ∧ w1 = wr) (fun _ i _ => (intOf i + 1).toNat)
  case atStart => exact ⟨l.length, Nat.le_refl _, rfl, by simp [num], rfl⟩
  case round =>
    obtain ⟨j, hj, rfl, rfl, rfl⟩ := hrel
    rcases j with _ | j
    · go_wp2
      go_ret
      exact ⟨ret_int (by rw [List.drop_zero, HL.out]), HD.out, HK.out⟩
    · have hj1 : j < l.length := hj
      obtain ⟨b, off, rfl, hc⟩ := byteV_at HR.out hj1
      have hb := l[j].toNat_lt
      obtain ⟨y, hy⟩ : ∃ y, y = l[j].toNat := ⟨_, rfl⟩
      obtain ⟨q, hq⟩ : ∃ q, q = num (l.drop (j + 1)) := ⟨_, rfl⟩
      have hbound := num_drop_lt l j hlen8 hj1
      have hnext := num_cons l j hj1
      rw [← hy] at hc hb hbound hnext
      rw [← hq] at hbound hnext ⊢
      have e1 : ((j + 1 : Nat) : Int) - 1 = (j : Int) := by omega
      rw [e1]
      have HN := Lib.hid hnext
      have HBd := Lib.hid hbound
      clear hnext hbound hy hq e1
      go_wp2
      go_roundw
      case rel =>
        refine ⟨j, by omega, rfl, ?_, trivial⟩
        rw [HN.out]
        have h := HBd.out
        rw [IntKind.wrap_u64, IntKind.wrap_u64]
        congr 1
        omega
      case measure => simp [intOf]

theorem ru8_any (p : Nat) (R : Rd) (w : World) (h : RdAt 92 w p R) :
    Calls Try.prog 59 #[.pointer (some ⟨p, 0, none⟩)] w fun x w' => x = .returned (.int .u8 ((num (R.got 1) % 256 : Nat) : Int)) ∧ RdAt 92 w' p (R.after 1) ∧ Kept [p] w w' := by
  have H := Lib.hid h
  clear h
  go_enter Try.func59, Try.ntmps59
  go_wp2_with fail
  refine (rnumber_any p R 1 _ (by decide) H.out).mono ?_
  rintro x w1 ⟨rfl, hrd, hk⟩
  have HD := Lib.hid hrd
  have HK := Lib.hid hk
  clear hrd hk
  go_wp2
  go_ret
  exact ⟨ret_int (by simp), HD.out, HK.out⟩

theorem ru32_any (p : Nat) (R : Rd) (w : World) (h : RdAt 92 w p R) :
    Calls Try.prog 60 #[.pointer (some ⟨p, 0, none⟩)] w fun x w' => x = .returned (.int .u32 ((num (R.got 4) % 4294967296 : Nat) : Int)) ∧ RdAt 92 w' p (R.after 4) ∧ Kept [p] w w' := by
  have H := Lib.hid h
  clear h
  go_enter Try.func60, Try.ntmps60
  go_wp2_with fail
  refine (rnumber_any p R 4 _ (by decide) H.out).mono ?_
  rintro x w1 ⟨rfl, hrd, hk⟩
  have HD := Lib.hid hrd
  have HK := Lib.hid hk
  clear hrd hk
  go_wp2
  go_ret
  exact ⟨ret_int (by simp), HD.out, HK.out⟩

theorem ri64_any (p : Nat) (R : Rd) (w : World) (h : RdAt 92 w p R) :
    Calls Try.prog 61 #[.pointer (some ⟨p, 0, none⟩)] w fun x w' => x = .returned (.int .i64 (wrap64 ((num (R.got 8) : Nat) : Int))) ∧ RdAt 92 w' p (R.after 8) ∧ Kept [p] w w' := by
  have H := Lib.hid h
  clear h
  go_enter Try.func61, Try.ntmps61
  go_wp2_with fail
  refine (rnumber_any p R 8 _ (by decide) H.out).mono ?_
  rintro x w1 ⟨rfl, hrd, hk⟩
  have HD := Lib.hid hrd
  have HK := Lib.hid hk
  clear hrd hk
  go_wp2
  go_ret
  exact ⟨ret_int (by simp), HD.out, HK.out⟩
end Go.Proofs.Ytdjidnccockmmaa
