/- The law's own step of reading: both readers do the same, whatever is read. -/
import Derived.Test.YtdjidnccockmmaaOct12
namespace Go.Proofs.Ytdjidnccockmmaa
open Go.RowKit
open Go.RowKit (wrap32 wrap64)
set_option maxHeartbeats 2000000

theorem RdAt.other {t t' : TypeId} {w w' : World} {p s : Nat} {R R' : Rd} (h : RdAt t w p R) (h' : RdAt t' w s R') (ht : t ≠ t') (ht' : 5 ≠ t') (hk : Kept [s] w w') : RdAt t w' p R := by
  obtain ⟨⟨A, cap, hb, hown⟩, _, _⟩ := h'
  exact h.kept1 hb ht ht' hk
theorem RdAt.lt {t : TypeId} {w : World} {p : Nat} {R : Rd} (h : RdAt t w p R) : p < w.heap.size := by
  obtain ⟨⟨A, cap, hb, hown⟩, _, _⟩ := h
  exact hb.lt
theorem RdAt.ne {t t' : TypeId} {w : World} {p s : Nat} {R R' : Rd} (h : RdAt t w p R) (h' : RdAt t' w s R') (ht : t ≠ t') : p ≠ s := by
  obtain ⟨⟨A, cap, hb, hown⟩, _, _⟩ := h
  obtain ⟨⟨A', cap', hb', hown'⟩, _, _⟩ := h'
  exact hb.ne hb' ht
/-- What is read of both: 0 U8, 1 U32, 2 I64, 3 Take, 4 Fail; any other: End. -/
def Rd.step (R : Rd) (kind n : Int) : Rd :=
  if kind = 0 then R.after 1 else if kind = 1 then R.after 4 else if kind = 2 then R.after 8 else if kind = 3 then R.after n else if kind = 4 then R.fail n n else R

/-- In the world v the two cells of a box still hold the readers. -/
theorem box_kept {w v : World} {L : List Nat} {B : Nat} {x0 x1 : Value} (hk : Kept L w v) (hB : B < w.heap.size) (hL : B ∉ L) (h : w.cell? ⟨B, 0, none⟩ = some x0 ∧ w.cell? ⟨B, 1, none⟩ = some x1) : v.cell? ⟨B, 0, none⟩ = some x0 ∧ v.cell? ⟨B, 1, none⟩ = some x1 :=
  ⟨(hk.cell (p := ⟨B, 0, none⟩) hB hL).trans h.1, (hk.cell (p := ⟨B, 1, none⟩) hB hL).trans h.2⟩
theorem keep_step {a b c : World} {B : Nat} {x0 x1 : Value} (h : Kept [] a b ∧ b.cell? ⟨B, 0, none⟩ = some x0 ∧ b.cell? ⟨B, 1, none⟩ = some x1) (hk : Kept [] b c) (hB : B < a.heap.size) : Kept [] a c ∧ c.cell? ⟨B, 0, none⟩ = some x0 ∧ c.cell? ⟨B, 1, none⟩ = some x1 :=
  ⟨h.1.trans hk, box_kept hk (Nat.lt_of_lt_of_le hB h.1.size) (by simp) h.2⟩
theorem at_k (p : Nat) (R : Rd) (w : World) (h : RdAt 87 w p R) : Calls Try.prog 30 #[.pointer (some ⟨p, 0, none⟩)] w fun x w' => x = .returned (.int .i64 R.pos) ∧ Kept [] w w' :=
  (at_rd p R w h).mono fun _ _ ⟨h1, h2⟩ => ⟨h1, by subst h2; exact Kept.refl _ _⟩
theorem left_k (p : Nat) (R : Rd) (w : World) (h : RdAt 87 w p R) : Calls Try.prog 25 #[.pointer (some ⟨p, 0, none⟩)] w fun x w' => x = .returned (.int .i64 R.left) ∧ Kept [] w w' :=
  (left_rd p R w h).mono fun _ _ ⟨h1, k, h2⟩ => ⟨h1, by subst h2; exact (Kept.refl _ _).drewN k⟩
theorem end_k (p : Nat) (R : Rd) (w : World) (h : RdAt 87 w p R) : Calls Try.prog 31 #[.pointer (some ⟨p, 0, none⟩)] w fun x w' => x = .returned (.bool R.atEnd) ∧ Kept [] w w' :=
  (end_rd p R w h).mono fun _ _ ⟨h1, k, h2⟩ => ⟨h1, by subst h2; exact (Kept.refl _ _).drewN k⟩
theorem rat_k (p : Nat) (R : Rd) (w : World) (h : RdAt 92 w p R) : Calls Try.prog 65 #[.pointer (some ⟨p, 0, none⟩)] w fun x w' => x = .returned (.int .i64 R.pos) ∧ Kept [] w w' :=
  (rat_rd p R w h).mono fun _ _ ⟨h1, h2⟩ => ⟨h1, by subst h2; exact Kept.refl _ _⟩
theorem rleft_k (p : Nat) (R : Rd) (w : World) (h : RdAt 92 w p R) : Calls Try.prog 66 #[.pointer (some ⟨p, 0, none⟩)] w fun x w' => x = .returned (.int .i64 R.left) ∧ Kept [] w w' :=
  (rleft_rd p R w h).mono fun _ _ ⟨h1, k, h2⟩ => ⟨h1, by subst h2; exact (Kept.refl _ _).drewN k⟩
theorem rend_k (p : Nat) (R : Rd) (w : World) (h : RdAt 92 w p R) : Calls Try.prog 64 #[.pointer (some ⟨p, 0, none⟩)] w fun x w' => x = .returned (.bool R.atEnd) ∧ Kept [] w w' :=
  (rend_rd p R w h).mono fun _ _ ⟨h1, k, h2⟩ => ⟨h1, by subst h2; exact (Kept.refl _ _).drewN k⟩

theorem read_u8 (p s : Nat) (R : Rd) (n : Int) (w : World) (hp : RdAt 87 w p R) (hs : RdAt 92 w s R) :
    Calls Try.prog 28 #[.agg #[.pointer (some ⟨p, 0, none⟩), .pointer (some ⟨s, 0, none⟩)], .agg #[.int .i64 0, .int .i64 n]] w fun e w' => e = .returned (.bool true) ∧ RdAt 87 w' p (R.after 1) ∧ RdAt 92 w' s (R.after 1) ∧ Kept [p, s] w w' := by
  have HP := Lib.hid hp
  have HS := Lib.hid hs
  have hpl := hp.lt
  have hsl := hs.lt
  have K00 : Kept [p, s] w ((w.alloc (.cells #[.pointer (some ⟨p, 0, none⟩), .pointer (some ⟨s, 0, none⟩)] 47)).alloc (.cells #[.int .i64 0, .int .i64 n] 50)) := ((Kept.refl _ _).alloc _).alloc _
  have hb0 : ((w.alloc (.cells #[.pointer (some ⟨p, 0, none⟩), .pointer (some ⟨s, 0, none⟩)] 47)).alloc (.cells #[.int .i64 0, .int .i64 n] 50)).cell? ⟨w.heap.size, 0, none⟩ = some (.pointer (some ⟨p, 0, none⟩)) ∧ ((w.alloc (.cells #[.pointer (some ⟨p, 0, none⟩), .pointer (some ⟨s, 0, none⟩)] 47)).alloc (.cells #[.int .i64 0, .int .i64 n] 50)).cell? ⟨w.heap.size, 1, none⟩ = some (.pointer (some ⟨s, 0, none⟩)) := by
    have hB := (Blk.new w 47 [.pointer (some ⟨p, 0, none⟩), .pointer (some ⟨s, 0, none⟩)]).alloc (.cells #[.int .i64 0, .int .i64 n] 50)
    exact ⟨hB.cell 0, hB.cell 1⟩
  have H0 := Lib.hid K00
  have HB0 := Lib.hid hb0
  have hpw : p ≠ w.heap.size := by omega
  have hsw : s ≠ w.heap.size := by omega
  clear hp hs K00 hb0
  go_enter Try.func28, Try.ntmps28
  go_wp2_with fail
  have HPd := Lib.hid (((HP.out.kept0 ((Kept.refl _ _).alloc _)).kept0 ((Kept.refl _ _).alloc _)).kept0 ((Kept.refl [] ((w.alloc (.cells #[.pointer (some ⟨p, 0, none⟩), .pointer (some ⟨s, 0, none⟩)] 47)).alloc (.cells #[.int .i64 0, .int .i64 n] 50))).drew))
  have HSd := Lib.hid (((HS.out.kept0 ((Kept.refl _ _).alloc _)).kept0 ((Kept.refl _ _).alloc _)).kept0 ((Kept.refl [] ((w.alloc (.cells #[.pointer (some ⟨p, 0, none⟩), .pointer (some ⟨s, 0, none⟩)] 47)).alloc (.cells #[.int .i64 0, .int .i64 n] 50))).drew))
  go_region_held3 (fun w' => w'.cell? ⟨w.heap.size, 0, none⟩ = some (.pointer (some ⟨p, 0, none⟩)) ∧ w'.cell? ⟨w.heap.size, 1, none⟩ = some (.pointer (some ⟨s, 0, none⟩))) (first | assumption | exact HB0.out)
    (first | (go_at_call 24; refine (u8_any p R _ HPd.out).mono ?_; rintro e w1 ⟨rfl, hr1, hk1⟩; have hS1 := box_kept hk1 (by simp; omega) (by simp; omega) HB0.out; have hs1 := RdAt.other HSd.out HPd.out (by decide) (by decide) hk1) | (go_at_call 59; refine (ru8_any s R _ hs1).mono ?_; rintro e w2 ⟨rfl, hr2, hk2⟩; have hS2 := box_kept hk2 (by have := hk1.size; simp at this; omega) (by simp; omega) hS1))
  go_wp2_with fail
  clear hS1
  have hbox := hS2
  have HBx : w.heap.size < w2.heap.size := by have := hk1.size; have := hk2.size; simp at *; omega
  have K0 := Lib.hid ((H0.out.drew.then hk1 (by simp)).then hk2 (by simp))
  have RP := Lib.hid (hr1.other hs1 (by decide) (by decide) hk2)
  have RS := Lib.hid hr2
  clear hk1 hk2 hr1 hr2 hs1 HPd HSd HB0 H0 HP HS hS2
  go_wp2_with fail
  have F3 := guardFault
  have F4 := eqFault
  go_region_held3 (fun w' => Kept [] w2 w' ∧ w'.cell? ⟨w.heap.size, 0, none⟩ = some (.pointer (some ⟨p, 0, none⟩)) ∧ w'.cell? ⟨w.heap.size, 1, none⟩ = some (.pointer (some ⟨s, 0, none⟩))) (first | assumption | exact ⟨(Kept.refl _ _).drew, hbox⟩) (first | (go_at_call 30; refine (at_k p (R.after 1) _ (RP.out.kept0 (And.left (by assumption)))).mono ?_; rintro e y ⟨rfl, hky⟩; have hS := keep_step (by assumption) hky HBx; clear hky) | (go_at_call 65; refine (rat_k s (R.after 1) _ (RS.out.kept0 (And.left (by assumption)))).mono ?_; rintro e y ⟨rfl, hky⟩; have hS := keep_step (by assumption) hky HBx; clear hky) | (go_at_call 25; refine (left_k p (R.after 1) _ (RP.out.kept0 (And.left (by assumption)))).mono ?_; rintro e y ⟨rfl, hky⟩; have hS := keep_step (by assumption) hky HBx; clear hky) | (go_at_call 66; refine (rleft_k s (R.after 1) _ (RS.out.kept0 (And.left (by assumption)))).mono ?_; rintro e y ⟨rfl, hky⟩; have hS := keep_step (by assumption) hky HBx; clear hky) | (go_at_call 26; refine (fault_rd p (R.after 1) _ (RP.out.kept0 (And.left (by assumption)))).mono ?_; rintro e y ⟨rfl, hky⟩; have hS := keep_step (by assumption) hky HBx; clear hky) | (go_at_call 67; refine (rfault_rd s (R.after 1) _ (RS.out.kept0 (And.left (by assumption)))).mono ?_; rintro e y ⟨rfl, hky⟩; have hS := keep_step (by assumption) hky HBx; clear hky))
  go_wp2
  go_ret
  exact ⟨rfl, RP.out.kept0 hS.1, RS.out.kept0 hS.1, K0.out.then hS.1 (by simp)⟩

theorem read_u32 (p s : Nat) (R : Rd) (n : Int) (w : World) (hp : RdAt 87 w p R) (hs : RdAt 92 w s R) :
    Calls Try.prog 28 #[.agg #[.pointer (some ⟨p, 0, none⟩), .pointer (some ⟨s, 0, none⟩)], .agg #[.int .i64 1, .int .i64 n]] w fun e w' => e = .returned (.bool true) ∧ RdAt 87 w' p (R.after 4) ∧ RdAt 92 w' s (R.after 4) ∧ Kept [p, s] w w' := by
  have HP := Lib.hid hp
  have HS := Lib.hid hs
  have hpl := hp.lt
  have hsl := hs.lt
  have K00 : Kept [p, s] w ((w.alloc (.cells #[.pointer (some ⟨p, 0, none⟩), .pointer (some ⟨s, 0, none⟩)] 47)).alloc (.cells #[.int .i64 1, .int .i64 n] 50)) := ((Kept.refl _ _).alloc _).alloc _
  have hb0 : ((w.alloc (.cells #[.pointer (some ⟨p, 0, none⟩), .pointer (some ⟨s, 0, none⟩)] 47)).alloc (.cells #[.int .i64 1, .int .i64 n] 50)).cell? ⟨w.heap.size, 0, none⟩ = some (.pointer (some ⟨p, 0, none⟩)) ∧ ((w.alloc (.cells #[.pointer (some ⟨p, 0, none⟩), .pointer (some ⟨s, 0, none⟩)] 47)).alloc (.cells #[.int .i64 1, .int .i64 n] 50)).cell? ⟨w.heap.size, 1, none⟩ = some (.pointer (some ⟨s, 0, none⟩)) := by
    have hB := (Blk.new w 47 [.pointer (some ⟨p, 0, none⟩), .pointer (some ⟨s, 0, none⟩)]).alloc (.cells #[.int .i64 1, .int .i64 n] 50)
    exact ⟨hB.cell 0, hB.cell 1⟩
  have H0 := Lib.hid K00
  have HB0 := Lib.hid hb0
  have hpw : p ≠ w.heap.size := by omega
  have hsw : s ≠ w.heap.size := by omega
  clear hp hs K00 hb0
  go_enter Try.func28, Try.ntmps28
  go_wp2_with fail
  have HPd := Lib.hid (((HP.out.kept0 ((Kept.refl _ _).alloc _)).kept0 ((Kept.refl _ _).alloc _)).kept0 ((Kept.refl [] ((w.alloc (.cells #[.pointer (some ⟨p, 0, none⟩), .pointer (some ⟨s, 0, none⟩)] 47)).alloc (.cells #[.int .i64 1, .int .i64 n] 50))).drew))
  have HSd := Lib.hid (((HS.out.kept0 ((Kept.refl _ _).alloc _)).kept0 ((Kept.refl _ _).alloc _)).kept0 ((Kept.refl [] ((w.alloc (.cells #[.pointer (some ⟨p, 0, none⟩), .pointer (some ⟨s, 0, none⟩)] 47)).alloc (.cells #[.int .i64 1, .int .i64 n] 50))).drew))
  go_region_held3 (fun w' => w'.cell? ⟨w.heap.size, 0, none⟩ = some (.pointer (some ⟨p, 0, none⟩)) ∧ w'.cell? ⟨w.heap.size, 1, none⟩ = some (.pointer (some ⟨s, 0, none⟩))) (first | assumption | exact HB0.out)
    (first | (go_at_call 22; refine (u32_any p R _ HPd.out).mono ?_; rintro e w1 ⟨rfl, hr1, hk1⟩; have hS1 := box_kept hk1 (by simp; omega) (by simp; omega) HB0.out; have hs1 := RdAt.other HSd.out HPd.out (by decide) (by decide) hk1) | (go_at_call 60; refine (ru32_any s R _ hs1).mono ?_; rintro e w2 ⟨rfl, hr2, hk2⟩; have hS2 := box_kept hk2 (by have := hk1.size; simp at this; omega) (by simp; omega) hS1))
  go_wp2_with fail
  clear hS1
  have hbox := hS2
  have HBx : w.heap.size < w2.heap.size := by have := hk1.size; have := hk2.size; simp at *; omega
  have K0 := Lib.hid ((H0.out.drew.then hk1 (by simp)).then hk2 (by simp))
  have RP := Lib.hid (hr1.other hs1 (by decide) (by decide) hk2)
  have RS := Lib.hid hr2
  clear hk1 hk2 hr1 hr2 hs1 HPd HSd HB0 H0 HP HS hS2
  go_wp2_with fail
  have F3 := guardFault
  have F4 := eqFault
  go_region_held3 (fun w' => Kept [] w2 w' ∧ w'.cell? ⟨w.heap.size, 0, none⟩ = some (.pointer (some ⟨p, 0, none⟩)) ∧ w'.cell? ⟨w.heap.size, 1, none⟩ = some (.pointer (some ⟨s, 0, none⟩))) (first | assumption | exact ⟨(Kept.refl _ _).drew, hbox⟩) (first | (go_at_call 30; refine (at_k p (R.after 4) _ (RP.out.kept0 (And.left (by assumption)))).mono ?_; rintro e y ⟨rfl, hky⟩; have hS := keep_step (by assumption) hky HBx; clear hky) | (go_at_call 65; refine (rat_k s (R.after 4) _ (RS.out.kept0 (And.left (by assumption)))).mono ?_; rintro e y ⟨rfl, hky⟩; have hS := keep_step (by assumption) hky HBx; clear hky) | (go_at_call 25; refine (left_k p (R.after 4) _ (RP.out.kept0 (And.left (by assumption)))).mono ?_; rintro e y ⟨rfl, hky⟩; have hS := keep_step (by assumption) hky HBx; clear hky) | (go_at_call 66; refine (rleft_k s (R.after 4) _ (RS.out.kept0 (And.left (by assumption)))).mono ?_; rintro e y ⟨rfl, hky⟩; have hS := keep_step (by assumption) hky HBx; clear hky) | (go_at_call 26; refine (fault_rd p (R.after 4) _ (RP.out.kept0 (And.left (by assumption)))).mono ?_; rintro e y ⟨rfl, hky⟩; have hS := keep_step (by assumption) hky HBx; clear hky) | (go_at_call 67; refine (rfault_rd s (R.after 4) _ (RS.out.kept0 (And.left (by assumption)))).mono ?_; rintro e y ⟨rfl, hky⟩; have hS := keep_step (by assumption) hky HBx; clear hky))
  go_wp2
  go_ret
  exact ⟨rfl, RP.out.kept0 hS.1, RS.out.kept0 hS.1, K0.out.then hS.1 (by simp)⟩

theorem read_i64 (p s : Nat) (R : Rd) (n : Int) (w : World) (hp : RdAt 87 w p R) (hs : RdAt 92 w s R) :
    Calls Try.prog 28 #[.agg #[.pointer (some ⟨p, 0, none⟩), .pointer (some ⟨s, 0, none⟩)], .agg #[.int .i64 2, .int .i64 n]] w fun e w' => e = .returned (.bool true) ∧ RdAt 87 w' p (R.after 8) ∧ RdAt 92 w' s (R.after 8) ∧ Kept [p, s] w w' := by
  have HP := Lib.hid hp
  have HS := Lib.hid hs
  have hpl := hp.lt
  have hsl := hs.lt
  have K00 : Kept [p, s] w ((w.alloc (.cells #[.pointer (some ⟨p, 0, none⟩), .pointer (some ⟨s, 0, none⟩)] 47)).alloc (.cells #[.int .i64 2, .int .i64 n] 50)) := ((Kept.refl _ _).alloc _).alloc _
  have hb0 : ((w.alloc (.cells #[.pointer (some ⟨p, 0, none⟩), .pointer (some ⟨s, 0, none⟩)] 47)).alloc (.cells #[.int .i64 2, .int .i64 n] 50)).cell? ⟨w.heap.size, 0, none⟩ = some (.pointer (some ⟨p, 0, none⟩)) ∧ ((w.alloc (.cells #[.pointer (some ⟨p, 0, none⟩), .pointer (some ⟨s, 0, none⟩)] 47)).alloc (.cells #[.int .i64 2, .int .i64 n] 50)).cell? ⟨w.heap.size, 1, none⟩ = some (.pointer (some ⟨s, 0, none⟩)) := by
    have hB := (Blk.new w 47 [.pointer (some ⟨p, 0, none⟩), .pointer (some ⟨s, 0, none⟩)]).alloc (.cells #[.int .i64 2, .int .i64 n] 50)
    exact ⟨hB.cell 0, hB.cell 1⟩
  have H0 := Lib.hid K00
  have HB0 := Lib.hid hb0
  have hpw : p ≠ w.heap.size := by omega
  have hsw : s ≠ w.heap.size := by omega
  clear hp hs K00 hb0
  go_enter Try.func28, Try.ntmps28
  go_wp2_with fail
  have HPd := Lib.hid (((HP.out.kept0 ((Kept.refl _ _).alloc _)).kept0 ((Kept.refl _ _).alloc _)).kept0 ((Kept.refl [] ((w.alloc (.cells #[.pointer (some ⟨p, 0, none⟩), .pointer (some ⟨s, 0, none⟩)] 47)).alloc (.cells #[.int .i64 2, .int .i64 n] 50))).drew))
  have HSd := Lib.hid (((HS.out.kept0 ((Kept.refl _ _).alloc _)).kept0 ((Kept.refl _ _).alloc _)).kept0 ((Kept.refl [] ((w.alloc (.cells #[.pointer (some ⟨p, 0, none⟩), .pointer (some ⟨s, 0, none⟩)] 47)).alloc (.cells #[.int .i64 2, .int .i64 n] 50))).drew))
  go_region_held3 (fun w' => w'.cell? ⟨w.heap.size, 0, none⟩ = some (.pointer (some ⟨p, 0, none⟩)) ∧ w'.cell? ⟨w.heap.size, 1, none⟩ = some (.pointer (some ⟨s, 0, none⟩))) (first | assumption | exact HB0.out)
    (first | (go_at_call 23; refine (i64_any p R _ HPd.out).mono ?_; rintro e w1 ⟨rfl, hr1, hk1⟩; have hS1 := box_kept hk1 (by simp; omega) (by simp; omega) HB0.out; have hs1 := RdAt.other HSd.out HPd.out (by decide) (by decide) hk1) | (go_at_call 61; refine (ri64_any s R _ hs1).mono ?_; rintro e w2 ⟨rfl, hr2, hk2⟩; have hS2 := box_kept hk2 (by have := hk1.size; simp at this; omega) (by simp; omega) hS1))
  go_wp2_with fail
  clear hS1
  have hbox := hS2
  have HBx : w.heap.size < w2.heap.size := by have := hk1.size; have := hk2.size; simp at *; omega
  have K0 := Lib.hid ((H0.out.drew.then hk1 (by simp)).then hk2 (by simp))
  have RP := Lib.hid (hr1.other hs1 (by decide) (by decide) hk2)
  have RS := Lib.hid hr2
  clear hk1 hk2 hr1 hr2 hs1 HPd HSd HB0 H0 HP HS hS2
  go_wp2_with fail
  have F3 := guardFault
  have F4 := eqFault
  go_region_held3 (fun w' => Kept [] w2 w' ∧ w'.cell? ⟨w.heap.size, 0, none⟩ = some (.pointer (some ⟨p, 0, none⟩)) ∧ w'.cell? ⟨w.heap.size, 1, none⟩ = some (.pointer (some ⟨s, 0, none⟩))) (first | assumption | exact ⟨(Kept.refl _ _).drew, hbox⟩) (first | (go_at_call 30; refine (at_k p (R.after 8) _ (RP.out.kept0 (And.left (by assumption)))).mono ?_; rintro e y ⟨rfl, hky⟩; have hS := keep_step (by assumption) hky HBx; clear hky) | (go_at_call 65; refine (rat_k s (R.after 8) _ (RS.out.kept0 (And.left (by assumption)))).mono ?_; rintro e y ⟨rfl, hky⟩; have hS := keep_step (by assumption) hky HBx; clear hky) | (go_at_call 25; refine (left_k p (R.after 8) _ (RP.out.kept0 (And.left (by assumption)))).mono ?_; rintro e y ⟨rfl, hky⟩; have hS := keep_step (by assumption) hky HBx; clear hky) | (go_at_call 66; refine (rleft_k s (R.after 8) _ (RS.out.kept0 (And.left (by assumption)))).mono ?_; rintro e y ⟨rfl, hky⟩; have hS := keep_step (by assumption) hky HBx; clear hky) | (go_at_call 26; refine (fault_rd p (R.after 8) _ (RP.out.kept0 (And.left (by assumption)))).mono ?_; rintro e y ⟨rfl, hky⟩; have hS := keep_step (by assumption) hky HBx; clear hky) | (go_at_call 67; refine (rfault_rd s (R.after 8) _ (RS.out.kept0 (And.left (by assumption)))).mono ?_; rintro e y ⟨rfl, hky⟩; have hS := keep_step (by assumption) hky HBx; clear hky))
  go_wp2
  go_ret
  exact ⟨rfl, RP.out.kept0 hS.1, RS.out.kept0 hS.1, K0.out.then hS.1 (by simp)⟩
end Go.Proofs.Ytdjidnccockmmaa
