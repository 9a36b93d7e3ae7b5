/- The law's own step of reading, the other kinds: Take, Fail, End. -/
import Derived.Test.YtdjidnccockmmaaOct13
namespace Go.Proofs.Ytdjidnccockmmaa
open Go.RowKit
open Go.RowKit (wrap32 wrap64)
set_option maxHeartbeats 2000000

theorem same_is' (x : List UInt8) (n m : Nat) (A B : Option Addr) (c d : Nat) (w : World) (hn : x.length = n) (hm : x.length = m) (hx : Reads w A (x.map byteV)) (hy : Reads w B (x.map byteV)) (hlx : n ≤ maxLen) :
    Calls Try.prog 13 #[.slice A n c, .slice B m d] w fun e w' => e = .returned (.bool true) ∧ ∃ n, w' = w.drewN n := by
  have h := sameBytes_n x x n m A B c d w hn hm hx hy hlx (by omega)
  simpa using h
theorem got_small {t : TypeId} {w : World} {p : Nat} {R : Rd} {n : Int} (h : RdAt t w p R) : (R.got n).length ≤ maxLen := by
  have hb := h.big
  have : (R.got n).length ≤ R.b.length := by
    unfold Rd.got
    split
    · simp; omega
    · simp
  unfold maxLen
  omega

theorem read_take (p s : Nat) (R : Rd) (n : Int) (w : World) (hp : RdAt 87 w p R) (hs : RdAt 92 w s R) :
    Calls Try.prog 28 #[.agg #[.pointer (some ⟨p, 0, none⟩), .pointer (some ⟨s, 0, none⟩)], .agg #[.int .i64 3, .int .i64 n]] w fun e w' => e = .returned (.bool true) ∧ RdAt 87 w' p (R.after n) ∧ RdAt 92 w' s (R.after n) ∧ Kept [p, s] w w' := by
  have HP := Lib.hid hp
  have HS := Lib.hid hs
  have hpl := hp.lt
  have hsl := hs.lt
  have K00 : Kept [p, s] w ((w.alloc (.cells #[.pointer (some ⟨p, 0, none⟩), .pointer (some ⟨s, 0, none⟩)] 47)).alloc (.cells #[.int .i64 3, .int .i64 n] 50)) := ((Kept.refl _ _).alloc _).alloc _
  have hb0 : ((w.alloc (.cells #[.pointer (some ⟨p, 0, none⟩), .pointer (some ⟨s, 0, none⟩)] 47)).alloc (.cells #[.int .i64 3, .int .i64 n] 50)).cell? ⟨w.heap.size, 0, none⟩ = some (.pointer (some ⟨p, 0, none⟩)) ∧ ((w.alloc (.cells #[.pointer (some ⟨p, 0, none⟩), .pointer (some ⟨s, 0, none⟩)] 47)).alloc (.cells #[.int .i64 3, .int .i64 n] 50)).cell? ⟨w.heap.size, 1, none⟩ = some (.pointer (some ⟨s, 0, none⟩)) := by
    have hB := (Blk.new w 47 [.pointer (some ⟨p, 0, none⟩), .pointer (some ⟨s, 0, none⟩)]).alloc (.cells #[.int .i64 3, .int .i64 n] 50)
    exact ⟨hB.cell 0, hB.cell 1⟩
  have H0 := Lib.hid K00
  have HB0 := Lib.hid hb0
  have hpw : p ≠ w.heap.size := by omega
  have hsw : s ≠ w.heap.size := by omega
  clear hp hs K00 hb0
  have hn0 : ((w.alloc (.cells #[.pointer (some ⟨p, 0, none⟩), .pointer (some ⟨s, 0, none⟩)] 47)).alloc (.cells #[.int .i64 3, .int .i64 n] 50)).cell? ⟨w.heap.size + 1, 1, none⟩ = some (.int .i64 n) := by simp
  have HN0 := Lib.hid hn0
  have hpw1 : p ≠ w.heap.size + 1 := by omega
  have hsw1 : s ≠ w.heap.size + 1 := by omega
  clear hn0
  go_enter Try.func28, Try.ntmps28
  go_wp2_with fail
  have HPd := Lib.hid (((HP.out.kept0 ((Kept.refl _ _).alloc _)).kept0 ((Kept.refl _ _).alloc _)).kept0 ((Kept.refl [] ((w.alloc (.cells #[.pointer (some ⟨p, 0, none⟩), .pointer (some ⟨s, 0, none⟩)] 47)).alloc (.cells #[.int .i64 3, .int .i64 n] 50))).drew))
  have HSd := Lib.hid (((HS.out.kept0 ((Kept.refl _ _).alloc _)).kept0 ((Kept.refl _ _).alloc _)).kept0 ((Kept.refl [] ((w.alloc (.cells #[.pointer (some ⟨p, 0, none⟩), .pointer (some ⟨s, 0, none⟩)] 47)).alloc (.cells #[.int .i64 3, .int .i64 n] 50))).drew))
  go_region_held3 (fun w' => w'.cell? ⟨w.heap.size, 0, none⟩ = some (.pointer (some ⟨p, 0, none⟩)) ∧ w'.cell? ⟨w.heap.size, 1, none⟩ = some (.pointer (some ⟨s, 0, none⟩)) ∧ w'.cell? ⟨w.heap.size + 1, 1, none⟩ = some (.int .i64 n)) (first | assumption | exact ⟨HB0.out.1, HB0.out.2, HN0.out⟩)
    (first | (go_at_call 21; refine (take_any p R n _ HPd.out).mono ?_; rintro e w1 ⟨v1, rfl, ho1, hr1, hk1⟩; obtain ⟨A1, c1, rfl, _, _, hx1, hf1⟩ := own_form ho1; have hb1 := box_kept hk1 (by simp; omega) (by simp; omega) HB0.out; have hn1 := (hk1.cell (p := ⟨w.heap.size + 1, 1, none⟩) (by simp) (by simp; omega)).trans HN0.out; have hS1 := And.intro hb1.1 (And.intro hb1.2 hn1); have hs1 := RdAt.other HSd.out HPd.out (by decide) (by decide) hk1) | (go_at_call 62; refine (rtake_any s R n _ hs1).mono ?_; rintro e w2 ⟨v2, rfl, ho2, hr2, hk2⟩; obtain ⟨A2, c2, rfl, _, _, hx2, hf2⟩ := own_form ho2; have hb2 := box_kept hk2 (by have := hk1.size; simp at this; omega) (by simp; omega) hb1; have hn2 := (hk2.cell (p := ⟨w.heap.size + 1, 1, none⟩) (by have := hk1.size; simp at this ⊢; omega) (by simp; omega)).trans hn1; have hS2 := And.intro hb2.1 (And.intro hb2.2 hn2); have hx1' := hx1.kept hk2 (by intro ad had hm; obtain ⟨g, rfl, hg, _⟩ := hf1 ad had; simp at hm hg; omega)) | (go_at_call 13; refine (same_is' (R.got n) _ _ _ _ _ _ _ rfl rfl hx1' hx2 (got_small HP.out)).mono ?_; rintro e w3 ⟨rfl, k3, rfl⟩; have hS3 := hS2))
  go_wp2_with fail
  have hbox := hb2
  have HBx : w.heap.size < (w2.drewN k3).heap.size := by have := hk1.size; have := hk2.size; simp at *; omega
  have K0 := Lib.hid (((H0.out.drew.then hk1 (by simp)).then hk2 (by simp)).drewN k3)
  have RP := Lib.hid ((hr1.other hs1 (by decide) (by decide) hk2).kept0 ((Kept.refl [] w2).drewN k3))
  have RS := Lib.hid (hr2.kept0 ((Kept.refl [] w2).drewN k3))
  clear hk1 hk2 hr1 hr2 hs1 HPd HSd HB0 H0 HP HS hS2 hS3 HN0 hn1 hn2 hx1 hx2 hx1' hf1 hf2 ho1 ho2 hS1 hb1 hb2
  go_wp2_with fail
  have F3 := guardFault
  have F4 := eqFault
  go_region_held3 (fun w' => Kept [] (w2.drewN k3) w' ∧ w'.cell? ⟨w.heap.size, 0, none⟩ = some (.pointer (some ⟨p, 0, none⟩)) ∧ w'.cell? ⟨w.heap.size, 1, none⟩ = some (.pointer (some ⟨s, 0, none⟩))) (first | assumption | exact ⟨(Kept.refl _ _).drew, hbox⟩) (first | (go_at_call 30; refine (at_k p (R.after n) _ (RP.out.kept0 (And.left (by assumption)))).mono ?_; rintro e y ⟨rfl, hky⟩; have hS := keep_step (by assumption) hky HBx; clear hky) | (go_at_call 65; refine (rat_k s (R.after n) _ (RS.out.kept0 (And.left (by assumption)))).mono ?_; rintro e y ⟨rfl, hky⟩; have hS := keep_step (by assumption) hky HBx; clear hky) | (go_at_call 25; refine (left_k p (R.after n) _ (RP.out.kept0 (And.left (by assumption)))).mono ?_; rintro e y ⟨rfl, hky⟩; have hS := keep_step (by assumption) hky HBx; clear hky) | (go_at_call 66; refine (rleft_k s (R.after n) _ (RS.out.kept0 (And.left (by assumption)))).mono ?_; rintro e y ⟨rfl, hky⟩; have hS := keep_step (by assumption) hky HBx; clear hky) | (go_at_call 26; refine (fault_rd p (R.after n) _ (RP.out.kept0 (And.left (by assumption)))).mono ?_; rintro e y ⟨rfl, hky⟩; have hS := keep_step (by assumption) hky HBx; clear hky) | (go_at_call 67; refine (rfault_rd s (R.after n) _ (RS.out.kept0 (And.left (by assumption)))).mono ?_; rintro e y ⟨rfl, hky⟩; have hS := keep_step (by assumption) hky HBx; clear hky))
  go_wp2
  go_ret
  exact ⟨rfl, RP.out.kept0 hS.1, RS.out.kept0 hS.1, K0.out.then hS.1 (by simp)⟩

theorem read_fail (p s : Nat) (R : Rd) (n : Int) (w : World) (hp : RdAt 87 w p R) (hs : RdAt 92 w s R) :
    Calls Try.prog 28 #[.agg #[.pointer (some ⟨p, 0, none⟩), .pointer (some ⟨s, 0, none⟩)], .agg #[.int .i64 4, .int .i64 n]] w fun e w' => e = .returned (.bool true) ∧ RdAt 87 w' p (R.fail n n) ∧ RdAt 92 w' s (R.fail n n) ∧ Kept [p, s] w w' := by
  have HP := Lib.hid hp
  have HS := Lib.hid hs
  have hpl := hp.lt
  have hsl := hs.lt
  have K00 : Kept [p, s] w ((w.alloc (.cells #[.pointer (some ⟨p, 0, none⟩), .pointer (some ⟨s, 0, none⟩)] 47)).alloc (.cells #[.int .i64 4, .int .i64 n] 50)) := ((Kept.refl _ _).alloc _).alloc _
  have hb0 : ((w.alloc (.cells #[.pointer (some ⟨p, 0, none⟩), .pointer (some ⟨s, 0, none⟩)] 47)).alloc (.cells #[.int .i64 4, .int .i64 n] 50)).cell? ⟨w.heap.size, 0, none⟩ = some (.pointer (some ⟨p, 0, none⟩)) ∧ ((w.alloc (.cells #[.pointer (some ⟨p, 0, none⟩), .pointer (some ⟨s, 0, none⟩)] 47)).alloc (.cells #[.int .i64 4, .int .i64 n] 50)).cell? ⟨w.heap.size, 1, none⟩ = some (.pointer (some ⟨s, 0, none⟩)) := by
    have hB := (Blk.new w 47 [.pointer (some ⟨p, 0, none⟩), .pointer (some ⟨s, 0, none⟩)]).alloc (.cells #[.int .i64 4, .int .i64 n] 50)
    exact ⟨hB.cell 0, hB.cell 1⟩
  have H0 := Lib.hid K00
  have HB0 := Lib.hid hb0
  have hpw : p ≠ w.heap.size := by omega
  have hsw : s ≠ w.heap.size := by omega
  clear hp hs K00 hb0
  have hn0 : ((w.alloc (.cells #[.pointer (some ⟨p, 0, none⟩), .pointer (some ⟨s, 0, none⟩)] 47)).alloc (.cells #[.int .i64 4, .int .i64 n] 50)).cell? ⟨w.heap.size + 1, 1, none⟩ = some (.int .i64 n) := by simp
  have HN0 := Lib.hid hn0
  clear hn0
  go_enter Try.func28, Try.ntmps28
  go_wp2_with fail
  have HPd := Lib.hid ((HP.out.kept0 ((Kept.refl _ _).alloc _)).kept0 ((Kept.refl _ (w.alloc (.cells #[.pointer (some ⟨p, 0, none⟩), .pointer (some ⟨s, 0, none⟩)] 47))).alloc (.cells #[.int .i64 4, .int .i64 n] 50)))
  have HSd := Lib.hid ((HS.out.kept0 ((Kept.refl _ _).alloc _)).kept0 ((Kept.refl _ (w.alloc (.cells #[.pointer (some ⟨p, 0, none⟩), .pointer (some ⟨s, 0, none⟩)] 47))).alloc (.cells #[.int .i64 4, .int .i64 n] 50)))
  refine (ofail_any p R n n _ HPd.out).mono ?_
  rintro e w1 ⟨rfl, hr1, hk1⟩
  have hb1 := box_kept hk1 (by simp; omega) (by simp; omega) HB0.out
  have hn1 := (hk1.cell (p := ⟨w.heap.size + 1, 1, none⟩) (by simp) (by simp; omega)).trans HN0.out
  have hs1 := RdAt.other HSd.out HPd.out (by decide) (by decide) hk1
  obtain ⟨hb11, hb12⟩ := hb1
  have HK1 := Lib.hid hk1
  have HR1 := Lib.hid hr1
  have HS1 := Lib.hid hs1
  have hsz1 : w.heap.size + 2 ≤ w1.heap.size := by have := hk1.size; simp at this; omega
  clear hk1 hr1 hs1
  go_wp2_with fail
  refine (rfail_any s R n n _ HS1.out).mono ?_
  rintro e w2 ⟨rfl, hr2, hk2⟩
  have hbox := box_kept hk2 (by omega) (by simp; omega) ⟨hb11, hb12⟩
  have HBx : w.heap.size < w2.heap.size := by have := hk2.size; omega
  have K0 := Lib.hid ((H0.out.then HK1.out (by simp)).then hk2 (by simp))
  have RP := Lib.hid (HR1.out.other HS1.out (by decide) (by decide) hk2)
  have RS := Lib.hid hr2
  clear hk2 hr2 HR1 HS1 HK1 hb11 hb12 hn1 HPd HSd HB0 H0 HP HS HN0
  go_wp2_with fail
  have F3 := guardFault
  have F4 := eqFault
  go_region_held3 (fun w' => Kept [] w2 w' ∧ w'.cell? ⟨w.heap.size, 0, none⟩ = some (.pointer (some ⟨p, 0, none⟩)) ∧ w'.cell? ⟨w.heap.size, 1, none⟩ = some (.pointer (some ⟨s, 0, none⟩))) (first | assumption | exact ⟨(Kept.refl _ _).drew, hbox⟩) (first | (go_at_call 30; refine (at_k p (R.fail n n) _ (RP.out.kept0 (And.left (by assumption)))).mono ?_; rintro e y ⟨rfl, hky⟩; have hS := keep_step (by assumption) hky HBx; clear hky) | (go_at_call 65; refine (rat_k s (R.fail n n) _ (RS.out.kept0 (And.left (by assumption)))).mono ?_; rintro e y ⟨rfl, hky⟩; have hS := keep_step (by assumption) hky HBx; clear hky) | (go_at_call 25; refine (left_k p (R.fail n n) _ (RP.out.kept0 (And.left (by assumption)))).mono ?_; rintro e y ⟨rfl, hky⟩; have hS := keep_step (by assumption) hky HBx; clear hky) | (go_at_call 66; refine (rleft_k s (R.fail n n) _ (RS.out.kept0 (And.left (by assumption)))).mono ?_; rintro e y ⟨rfl, hky⟩; have hS := keep_step (by assumption) hky HBx; clear hky) | (go_at_call 26; refine (fault_rd p (R.fail n n) _ (RP.out.kept0 (And.left (by assumption)))).mono ?_; rintro e y ⟨rfl, hky⟩; have hS := keep_step (by assumption) hky HBx; clear hky) | (go_at_call 67; refine (rfault_rd s (R.fail n n) _ (RS.out.kept0 (And.left (by assumption)))).mono ?_; rintro e y ⟨rfl, hky⟩; have hS := keep_step (by assumption) hky HBx; clear hky))
  go_wp2
  go_ret
  exact ⟨rfl, RP.out.kept0 hS.1, RS.out.kept0 hS.1, K0.out.then hS.1 (by simp)⟩

theorem read_end (p s : Nat) (R : Rd) (k n : Int) (w : World) (h0 : k ≠ 0) (h1 : k ≠ 1) (h2 : k ≠ 2) (h3 : k ≠ 3) (h4 : k ≠ 4) (hp : RdAt 87 w p R) (hs : RdAt 92 w s R) :
    Calls Try.prog 28 #[.agg #[.pointer (some ⟨p, 0, none⟩), .pointer (some ⟨s, 0, none⟩)], .agg #[.int .i64 k, .int .i64 n]] w fun e w' => e = .returned (.bool true) ∧ RdAt 87 w' p R ∧ RdAt 92 w' s R ∧ Kept [p, s] w w' := by
  have HP := Lib.hid hp
  have HS := Lib.hid hs
  have hpl := hp.lt
  have hsl := hs.lt
  have K00 : Kept [p, s] w ((w.alloc (.cells #[.pointer (some ⟨p, 0, none⟩), .pointer (some ⟨s, 0, none⟩)] 47)).alloc (.cells #[.int .i64 k, .int .i64 n] 50)) := ((Kept.refl _ _).alloc _).alloc _
  have hb0 : ((w.alloc (.cells #[.pointer (some ⟨p, 0, none⟩), .pointer (some ⟨s, 0, none⟩)] 47)).alloc (.cells #[.int .i64 k, .int .i64 n] 50)).cell? ⟨w.heap.size, 0, none⟩ = some (.pointer (some ⟨p, 0, none⟩)) ∧ ((w.alloc (.cells #[.pointer (some ⟨p, 0, none⟩), .pointer (some ⟨s, 0, none⟩)] 47)).alloc (.cells #[.int .i64 k, .int .i64 n] 50)).cell? ⟨w.heap.size, 1, none⟩ = some (.pointer (some ⟨s, 0, none⟩)) := by
    have hB := (Blk.new w 47 [.pointer (some ⟨p, 0, none⟩), .pointer (some ⟨s, 0, none⟩)]).alloc (.cells #[.int .i64 k, .int .i64 n] 50)
    exact ⟨hB.cell 0, hB.cell 1⟩
  have H0 := Lib.hid K00
  have HB0 := Lib.hid hb0
  have hpw : p ≠ w.heap.size := by omega
  have hsw : s ≠ w.heap.size := by omega
  clear hp hs K00 hb0
  have q0 : (k == 0) = false := by rw [beq_eq_false_iff_ne]; exact h0
  have q1 : (k == 1) = false := by rw [beq_eq_false_iff_ne]; exact h1
  have q2 : (k == 2) = false := by rw [beq_eq_false_iff_ne]; exact h2
  have q3 : (k == 3) = false := by rw [beq_eq_false_iff_ne]; exact h3
  have q4 : (k == 4) = false := by rw [beq_eq_false_iff_ne]; exact h4
  clear h0 h1 h2 h3 h4
  go_enter Try.func28, Try.ntmps28
  go_wp2_with fail
  have RP := Lib.hid ((HP.out.kept0 ((Kept.refl _ _).alloc _)).kept0 ((Kept.refl _ (w.alloc (.cells #[.pointer (some ⟨p, 0, none⟩), .pointer (some ⟨s, 0, none⟩)] 47))).alloc (.cells #[.int .i64 k, .int .i64 n] 50)))
  have RS := Lib.hid ((HS.out.kept0 ((Kept.refl _ _).alloc _)).kept0 ((Kept.refl _ (w.alloc (.cells #[.pointer (some ⟨p, 0, none⟩), .pointer (some ⟨s, 0, none⟩)] 47))).alloc (.cells #[.int .i64 k, .int .i64 n] 50)))
  have HBx : w.heap.size < ((w.alloc (.cells #[.pointer (some ⟨p, 0, none⟩), .pointer (some ⟨s, 0, none⟩)] 47)).alloc (.cells #[.int .i64 k, .int .i64 n] 50)).heap.size := by simp; omega
  go_region_held3 (fun w' => Kept [] ((w.alloc (.cells #[.pointer (some ⟨p, 0, none⟩), .pointer (some ⟨s, 0, none⟩)] 47)).alloc (.cells #[.int .i64 k, .int .i64 n] 50)) w' ∧ w'.cell? ⟨w.heap.size, 0, none⟩ = some (.pointer (some ⟨p, 0, none⟩)) ∧ w'.cell? ⟨w.heap.size, 1, none⟩ = some (.pointer (some ⟨s, 0, none⟩))) (first | assumption | exact ⟨(Kept.refl _ _).drew, HB0.out⟩)
    (first | (go_at_call 31; refine (end_k p R _ (RP.out.kept0 (And.left (by assumption)))).mono ?_; rintro e y ⟨rfl, hky⟩; have hS := keep_step (by assumption) hky HBx; clear hky) | (go_at_call 64; refine (rend_k s R _ (RS.out.kept0 (And.left (by assumption)))).mono ?_; rintro e z ⟨rfl, hky⟩; have hS := keep_step (by assumption) hky HBx; clear hky))
  go_wp2_with fail
  have hbox := hS.2
  have K0 := Lib.hid (H0.out.then hS.1 (by simp))
  have RP := Lib.hid (RP.out.kept0 hS.1)
  have RS := Lib.hid (RS.out.kept0 hS.1)
  have HBx := Nat.lt_of_lt_of_le HBx hS.1.size
  clear hS HB0 H0 HP HS
  go_wp2_with fail
  have F3 := guardFault
  have F4 := eqFault
  go_region_held3 (fun w' => Kept [] z w' ∧ w'.cell? ⟨w.heap.size, 0, none⟩ = some (.pointer (some ⟨p, 0, none⟩)) ∧ w'.cell? ⟨w.heap.size, 1, none⟩ = some (.pointer (some ⟨s, 0, none⟩))) (first | assumption | exact ⟨(Kept.refl _ _).drew, hbox⟩) (first | (go_at_call 30; refine (at_k p R _ (RP.out.kept0 (And.left (by assumption)))).mono ?_; rintro e y ⟨rfl, hky⟩; have hS := keep_step (by assumption) hky HBx; clear hky) | (go_at_call 65; refine (rat_k s R _ (RS.out.kept0 (And.left (by assumption)))).mono ?_; rintro e y ⟨rfl, hky⟩; have hS := keep_step (by assumption) hky HBx; clear hky) | (go_at_call 25; refine (left_k p R _ (RP.out.kept0 (And.left (by assumption)))).mono ?_; rintro e y ⟨rfl, hky⟩; have hS := keep_step (by assumption) hky HBx; clear hky) | (go_at_call 66; refine (rleft_k s R _ (RS.out.kept0 (And.left (by assumption)))).mono ?_; rintro e y ⟨rfl, hky⟩; have hS := keep_step (by assumption) hky HBx; clear hky) | (go_at_call 26; refine (fault_rd p R _ (RP.out.kept0 (And.left (by assumption)))).mono ?_; rintro e y ⟨rfl, hky⟩; have hS := keep_step (by assumption) hky HBx; clear hky) | (go_at_call 67; refine (rfault_rd s R _ (RS.out.kept0 (And.left (by assumption)))).mono ?_; rintro e y ⟨rfl, hky⟩; have hS := keep_step (by assumption) hky HBx; clear hky))
  go_wp2
  go_ret
  exact ⟨rfl, RP.out.kept0 hS.1, RS.out.kept0 hS.1, K0.out.then hS.1 (by simp)⟩
end Go.Proofs.Ytdjidnccockmmaa
