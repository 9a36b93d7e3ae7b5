/- Frames: what must be whatever is asked: 'live' returns true. -/
import Derived.Test.YtdjidnccockmmaaFr9
import Derived.Test.YtdjidnccockmmaaFr12
import Derived.Test.YtdjidnccockmmaaFr21
import Derived.Test.YtdjidnccockmmaaFr22
namespace Go.Proofs.Ytdjidnccockmmaa
set_option linter.unusedSimpArgs false
set_option linter.unusedVariables false
open Go.ChangeShapes Go.WideShapes Go.ChangeAt Go.RowKit
open Go.RowKit (wrap32 wrap64)
set_option maxHeartbeats 8000000

def liveF : Fr := ⟨3, 1, 2, 3, 4, 2, [(1, -5)], [(7, -1, 9)], [(1, 2, 3)], -8, true⟩
def zeroF : Fr := ⟨0, 0, 0, 0, 0, 0, [], [], [], 0, false⟩
theorem live_wrong : liveF.wrong = 0 := by decide +kernel
theorem zero_wrong : zeroF.wrong = 8 := by decide +kernel
theorem live_len : liveF.bytes.length = 84 := by rw [bytes_length]; rfl
theorem live_dec : decodeP liveF.bytes = .ok liveF := by kernel_rfl
theorem nil_dec : decodeP [] = .error (2, 0) := by kernel_rfl
theorem live_zero : liveF ≠ zeroF := by intro h; have := congrArg Fr.kind h; exact absurd this (by decide)
theorem decode_n (b : List UInt8) (n : Nat) (A : Option Addr) (c : Nat) (w : World) (hn : b.length = n) (hr : Reads w A (b.map byteV)) (hl : n ≤ 1073741824) :
    Calls Try.prog 40 #[.slice A n c] w (DecPost w (decodeP b)) := by subst hn; exact decode_any b A c w hr hl
theorem rdecode_n (b : List UInt8) (n : Nat) (A : Option Addr) (c : Nat) (w : World) (hn : b.length = n) (hr : Reads w A (b.map byteV)) (hl : n ≤ 1073741824) :
    Calls Try.prog 41 #[.slice A n c] w (DecPost w (decodeP b)) := by subst hn; exact rdecode_any b A c w hr hl
/-- What is read lies in memory as a frame. -/
theorem DecPost.good {w w' : World} {F : Fr} {x : Ending} (h : DecPost w (.ok F) x w') : (∃ A1 A2 A3 c1 c2 c3, x = .returned (.tuple #[.agg (frC F A1 A2 A3 c1 c2 c3).toArray, .agg #[.int .i64 0, .int .i64 0]]) ∧ FrIn w' F A1 A2 A3 ∧ F.items.length ≤ c1 ∧ F.sums.length ≤ c2 ∧ F.trips.length ≤ c3) ∧ Kept [] w w' := by
  obtain ⟨⟨v1, v2, v3, hx, o1, o2, o3⟩, hk⟩ := h
  obtain ⟨A1, c1, rfl, h1, m1, r1, _⟩ := own_form o1
  obtain ⟨A2, c2, rfl, h2, m2, r2, _⟩ := own_form o2
  obtain ⟨A3, c3, rfl, h3, m3, r3, _⟩ := own_form o3
  exact ⟨⟨A1, A2, A3, c1, c2, c3, hx, ⟨r1, r2, r3, Nat.le_trans h1 m1, Nat.le_trans h2 m2, Nat.le_trans h3 m3⟩, h1, h2, h3⟩, hk⟩
theorem FrIn.zero (w : World) : FrIn w zeroF none none none := ⟨Reads.nil _ _, Reads.nil _ _, Reads.nil _ _, Nat.zero_le _, Nat.zero_le _, Nat.zero_le _⟩
theorem Blk.new3 (w : World) (o o' o'' : Obj) (t : TypeId) (cs : List Value) : Blk ((((w.alloc o).alloc o').alloc o'').alloc (.cells cs.toArray t)) (w.heap.size + 3) t cs := by
  have := Blk.new2 (w.alloc o) o' o'' t cs
  rwa [show (w.alloc o).heap.size + 2 = w.heap.size + 3 by simp] at this

set_option maxRecDepth 100000 in
theorem live19_any (w : World) : Calls Try.prog 35 #[] w fun e w' => e = .returned (.bool true) ∧ Kept [] w w' := by
  have heq := fun (a b c d : Int) (wx : World) => eqFault a b c d wx
  go_enter Try.func35, Try.ntmps35
  go_upto_region 2 with (fail)
  have B1 := Blk.new w 99 (liveF.items.flatMap readV)
  have B2 := Blk.new1F w (.cells (liveF.items.flatMap readV).toArray 99) 103 (liveF.sums.flatMap sumV)
  have B3 := Blk.new2 w (.cells (liveF.items.flatMap readV).toArray 99) (.cells (liveF.sums.flatMap sumV).toArray 103) 105 (liveF.trips.flatMap tripV)
  have HX := Lib.hid (Blk.new3 w (.cells (liveF.items.flatMap readV).toArray 99) (.cells (liveF.sums.flatMap sumV).toArray 103) (.cells (liveF.trips.flatMap tripV).toArray 105) 60
    (frC liveF (some ⟨w.heap.size, 0, none⟩) (some ⟨w.heap.size + 1, 0, none⟩) (some ⟨w.heap.size + 2, 0, none⟩) 1 1 1))
  have HF := Lib.hid (show FrIn ((((w.alloc (.cells (liveF.items.flatMap readV).toArray 99)).alloc (.cells (liveF.sums.flatMap sumV).toArray 103)).alloc (.cells (liveF.trips.flatMap tripV).toArray 105)).alloc (.cells (frC liveF (some ⟨w.heap.size, 0, none⟩) (some ⟨w.heap.size + 1, 0, none⟩) (some ⟨w.heap.size + 2, 0, none⟩) 1 1 1).toArray 60)) liveF (some ⟨w.heap.size, 0, none⟩) (some ⟨w.heap.size + 1, 0, none⟩) (some ⟨w.heap.size + 2, 0, none⟩) from
    ⟨Reads.of_blk (((B1.alloc _).alloc _).alloc _) (fun _ _ h => h), Reads.of_blk ((B2.alloc _).alloc _) (fun _ _ h => h), Reads.of_blk (B3.alloc _) (fun _ _ h => h), by decide, by decide, by decide⟩)
  have K0 := Lib.hid (((((Kept.refl [] w).alloc (.cells (liveF.items.flatMap readV).toArray 99)).alloc (.cells (liveF.sums.flatMap sumV).toArray 103)).alloc (.cells (liveF.trips.flatMap tripV).toArray 105)).alloc (.cells (frC liveF (some ⟨w.heap.size, 0, none⟩) (some ⟨w.heap.size + 1, 0, none⟩) (some ⟨w.heap.size + 2, 0, none⟩) 1 1 1).toArray 60))
  clear B1 B2 B3
  obtain ⟨w4, hw4⟩ : ∃ w4, w4 = ((((w.alloc (.cells (liveF.items.flatMap readV).toArray 99)).alloc (.cells (liveF.sums.flatMap sumV).toArray 103)).alloc (.cells (liveF.trips.flatMap tripV).toArray 105)).alloc (.cells (frC liveF (some ⟨w.heap.size, 0, none⟩) (some ⟨w.heap.size + 1, 0, none⟩) (some ⟨w.heap.size + 2, 0, none⟩) 1 1 1).toArray 60)) := ⟨_, rfl⟩
  rw [← hw4] at HX HF K0
  show Code.wp _ _ _ _ ((((w.alloc (.cells (liveF.items.flatMap readV).toArray 99)).alloc (.cells (liveF.sums.flatMap sumV).toArray 103)).alloc (.cells (liveF.trips.flatMap tripV).toArray 105)).alloc (.cells (frC liveF (some ⟨w.heap.size, 0, none⟩) (some ⟨w.heap.size + 1, 0, none⟩) (some ⟨w.heap.size + 2, 0, none⟩) 1 1 1).toArray 60))
  rw [← hw4]
  clear hw4
  generalize w.heap.size + 3 = g at HX ⊢
  go_wp2_with (first | (refine wpList_loadBlk rfl 60 (.tmp 1) rfl g (frC liveF (some ⟨w.heap.size, 0, none⟩) (some ⟨w.heap.size + 1, 0, none⟩) (some ⟨w.heap.size + 2, 0, none⟩) 1 1 1) _ HX.out rfl Try.underlying60 rfl infoFrame ?_))
  refine (frameEncode_ok liveF _ _ _ 1 1 1 _ HF.out live_wrong ⟨by decide, by decide, by decide⟩).mono ?_
  rintro e w5 ⟨v, rfl, hown, hk⟩
  obtain ⟨A, c, rfl, hc, _, hr, _⟩ := own_form hown
  rw [live_len] at hc ⊢
  have HR := Lib.hid hr
  have HF := Lib.hid (HF.out.kept0 hk)
  have HX := Lib.hid (HX.out.kept hk (by simp))
  have K0 := Lib.hid (K0.out.trans hk)
  clear hown hr hk hc
  go_wp2_with fail
  refine (decode_n liveF.bytes 84 A c _ live_len HR.out (by decide)).mono ?_
  intro x w6 hx
  rw [live_dec] at hx
  obtain ⟨⟨B1, B2, B3, d1, d2, d3, rfl, hf, _, _, _⟩, hk⟩ := hx.good
  have HF := Lib.hid (HF.out.kept0 hk)
  have HX := Lib.hid (HX.out.kept hk (by simp))
  have K0 := Lib.hid (K0.out.trans hk)
  have HF2 := Lib.hid hf
  clear hx hf hk HR
  go_upto_region 4 with (fail)
  have HY := Lib.hid ((Blk.new w6 60 (frC liveF B1 B2 B3 d1 d2 d3)).alloc (.cells #[.int .i64 0, .int .i64 0] 40))
  have HZ := Lib.hid (Blk.new1F w6 (.cells (frC liveF B1 B2 B3 d1 d2 d3).toArray 60) 40 [.int .i64 0, .int .i64 0])
  have hk : Kept [] w6 ((w6.alloc (.cells (frC liveF B1 B2 B3 d1 d2 d3).toArray 60)).alloc (.cells #[.int .i64 0, .int .i64 0] 40)) := ((Kept.refl [] w6).alloc _).alloc _
  have HF := Lib.hid (HF.out.kept0 hk)
  have HF2 := Lib.hid (HF2.out.kept0 hk)
  have HX := Lib.hid (HX.out.kept hk (by simp))
  have K0 := Lib.hid (K0.out.trans hk)
  clear hk
  obtain ⟨w7, hw7⟩ : ∃ w7, w7 = ((w6.alloc (.cells (frC liveF B1 B2 B3 d1 d2 d3).toArray 60)).alloc (.cells #[.int .i64 0, .int .i64 0] 40)) := ⟨_, rfl⟩
  rw [← hw7] at HY HZ HF HF2 HX K0
  show Code.wp _ _ _ _ ((w6.alloc (.cells (frC liveF B1 B2 B3 d1 d2 d3).toArray 60)).alloc (.cells #[.int .i64 0, .int .i64 0] 40))
  rw [← hw7]
  clear hw7
  generalize w6.heap.size + 1 = h2 at HZ ⊢
  generalize w6.heap.size = g2 at HY ⊢
  go_wp2_with fail
  refine (decode_n [] 0 none 0 _ rfl (Reads.nil _ _) (by decide)).mono ?_
  intro x w8 hx
  rw [nil_dec] at hx
  obtain ⟨rfl, hk⟩ := hx
  have HF := Lib.hid (HF.out.kept0 hk)
  have HF2 := Lib.hid (HF2.out.kept0 hk)
  have HX := Lib.hid (HX.out.kept hk (by simp))
  have HY := Lib.hid (HY.out.kept hk (by simp))
  have HZ := Lib.hid (HZ.out.kept hk (by simp))
  have K0 := Lib.hid (K0.out.trans hk)
  clear hk
  go_upto_region 5 with (fail)
  have HW := Lib.hid (Blk.new1F w8 (.cells zeroC.toArray 60) 40 [.int .i64 2, .int .i64 0])
  have hk : Kept [] w8 ((w8.alloc (.cells zeroC.toArray 60)).alloc (.cells #[.int .i64 2, .int .i64 0] 40)) := ((Kept.refl [] w8).alloc _).alloc _
  have HF := Lib.hid (HF.out.kept0 hk)
  have HF2 := Lib.hid (HF2.out.kept0 hk)
  have HX := Lib.hid (HX.out.kept hk (by simp))
  have HY := Lib.hid (HY.out.kept hk (by simp))
  have HZ := Lib.hid (HZ.out.kept hk (by simp))
  have K0 := Lib.hid (K0.out.trans hk)
  clear hk
  obtain ⟨w9, hw9⟩ : ∃ w9, w9 = ((w8.alloc (.cells zeroC.toArray 60)).alloc (.cells #[.int .i64 2, .int .i64 0] 40)) := ⟨_, rfl⟩
  rw [← hw9] at HW HZ HY HF HF2 HX K0
  show Code.wp _ _ _ _ ((w8.alloc (.cells zeroC.toArray 60)).alloc (.cells #[.int .i64 2, .int .i64 0] 40))
  rw [← hw9]
  clear hw9
  generalize w8.heap.size + 1 = h3 at HW ⊢
  generalize w8.heap.size = g3
  have x0 := HX.out.cell 0
  have x1 := HX.out.cell 1
  have x2 := HX.out.cell 2
  have x3 := HX.out.cell 3
  have x4 := HX.out.cell 4
  have x5 := HX.out.cell 5
  have x6 := HX.out.cell 6
  have x7 := HX.out.cell 7
  have x8 := HX.out.cell 8
  have x9 := HX.out.cell 9
  have x10 := HX.out.cell 10
  have y0 := HY.out.cell 0
  have y1 := HY.out.cell 1
  have y2 := HY.out.cell 2
  have y3 := HY.out.cell 3
  have y4 := HY.out.cell 4
  have y5 := HY.out.cell 5
  have y6 := HY.out.cell 6
  have y7 := HY.out.cell 7
  have y8 := HY.out.cell 8
  have y9 := HY.out.cell 9
  have y10 := HY.out.cell 10
  have z0 := HZ.out.cell 0
  have z1 := HZ.out.cell 1
  simp only [List.getElem?_cons_zero, List.getElem?_cons_succ] at x0 x1 x2 x3 x4 x5 x6 x7 x8 x9 x10 y0 y1 y2 y3 y4 y5 y6 y7 y8 y9 y10 z0 z1
  go_wp2_with fail
  refine (refSame_any liveF liveF (some ⟨w.heap.size, 0, none⟩) (some ⟨w.heap.size + 1, 0, none⟩) (some ⟨w.heap.size + 2, 0, none⟩) B1 B2 B3 1 1 1 d1 d2 d3 _ HF.out HF2.out).mono ?_
  rintro x wa ⟨rfl, hk⟩
  rw [show decide (liveF = liveF) = true from decide_eq_true rfl]
  have HF := Lib.hid (HF.out.kept0 hk)
  have HF2 := Lib.hid (HF2.out.kept0 hk)
  have HX := Lib.hid (HX.out.kept hk (by simp))
  have HY := Lib.hid (HY.out.kept hk (by simp))
  have HW := Lib.hid (HW.out.kept hk (by simp))
  have K0 := Lib.hid (K0.out.trans hk)
  clear hk x0 x1 x2 x3 x4 x5 x6 x7 x8 x9 x10 y0 y1 y2 y3 y4 y5 y6 y7 y8 y9 y10 z0 z1
  have x0 := HX.out.cell 0
  have x1 := HX.out.cell 1
  have x2 := HX.out.cell 2
  have x3 := HX.out.cell 3
  have x4 := HX.out.cell 4
  have x5 := HX.out.cell 5
  have x6 := HX.out.cell 6
  have x7 := HX.out.cell 7
  have x8 := HX.out.cell 8
  have x9 := HX.out.cell 9
  have x10 := HX.out.cell 10
  have y0 := HY.out.cell 0
  have y1 := HY.out.cell 1
  have y2 := HY.out.cell 2
  have y3 := HY.out.cell 3
  have y4 := HY.out.cell 4
  have y5 := HY.out.cell 5
  have y6 := HY.out.cell 6
  have y7 := HY.out.cell 7
  have y8 := HY.out.cell 8
  have y9 := HY.out.cell 9
  have y10 := HY.out.cell 10
  simp only [List.getElem?_cons_zero, List.getElem?_cons_succ] at x0 x1 x2 x3 x4 x5 x6 x7 x8 x9 x10 y0 y1 y2 y3 y4 y5 y6 y7 y8 y9 y10
  go_wp2_with fail
  refine (frameSame_any liveF liveF (some ⟨w.heap.size, 0, none⟩) (some ⟨w.heap.size + 1, 0, none⟩) (some ⟨w.heap.size + 2, 0, none⟩) B1 B2 B3 1 1 1 d1 d2 d3 _ HF.out HF2.out).mono ?_
  rintro x wb ⟨rfl, hk⟩
  rw [show decide (liveF = liveF) = true from decide_eq_true rfl]
  have HF := Lib.hid (HF.out.kept0 hk)
  have HF2 := Lib.hid (HF2.out.kept0 hk)
  have HX := Lib.hid (HX.out.kept hk (by simp))
  have HY := Lib.hid (HY.out.kept hk (by simp))
  have HW := Lib.hid (HW.out.kept hk (by simp))
  have K0 := Lib.hid (K0.out.trans hk)
  clear hk x0 x1 x2 x3 x4 x5 x6 x7 x8 x9 x10 y0 y1 y2 y3 y4 y5 y6 y7 y8 y9 y10
  have x0 := HX.out.cell 0
  have x1 := HX.out.cell 1
  have x2 := HX.out.cell 2
  have x3 := HX.out.cell 3
  have x4 := HX.out.cell 4
  have x5 := HX.out.cell 5
  have x6 := HX.out.cell 6
  have x7 := HX.out.cell 7
  have x8 := HX.out.cell 8
  have x9 := HX.out.cell 9
  have x10 := HX.out.cell 10
  simp only [List.getElem?_cons_zero, List.getElem?_cons_succ] at x0 x1 x2 x3 x4 x5 x6 x7 x8 x9 x10
  go_wp2_with fail
  refine (frameSame_any liveF zeroF (some ⟨w.heap.size, 0, none⟩) (some ⟨w.heap.size + 1, 0, none⟩) (some ⟨w.heap.size + 2, 0, none⟩) none none none 1 1 1 0 0 0 _ HF.out (FrIn.zero _)).mono ?_
  rintro x wd ⟨rfl, hk⟩
  rw [show decide (liveF = zeroF) = false from decide_eq_false live_zero]
  have HF := Lib.hid (HF.out.kept0 hk)
  have HF2 := Lib.hid (HF2.out.kept0 hk)
  have HX := Lib.hid (HX.out.kept hk (by simp))
  have HY := Lib.hid (HY.out.kept hk (by simp))
  have HW := Lib.hid (HW.out.kept hk (by simp))
  have K0 := Lib.hid (K0.out.trans hk)
  clear hk x0 x1 x2 x3 x4 x5 x6 x7 x8 x9 x10
  have x0 := HX.out.cell 0
  have x1 := HX.out.cell 1
  have x2 := HX.out.cell 2
  have x3 := HX.out.cell 3
  have x4 := HX.out.cell 4
  have x5 := HX.out.cell 5
  have x6 := HX.out.cell 6
  have x7 := HX.out.cell 7
  have x8 := HX.out.cell 8
  have x9 := HX.out.cell 9
  have x10 := HX.out.cell 10
  have v0 := HW.out.cell 0
  have v1 := HW.out.cell 1
  simp only [List.getElem?_cons_zero, List.getElem?_cons_succ] at x0 x1 x2 x3 x4 x5 x6 x7 x8 x9 x10 v0 v1
  go_wp2_with fail
  refine (size_any liveF (some ⟨w.heap.size, 0, none⟩) (some ⟨w.heap.size + 1, 0, none⟩) (some ⟨w.heap.size + 2, 0, none⟩) 1 1 1 _ (by decide) (by decide) (by decide)).mono ?_
  rintro x we ⟨rfl, hk⟩
  rw [show ((liveF.items.length + liveF.sums.length + liveF.trips.length : Nat) : Int) = 3 from rfl]
  have HF := Lib.hid (HF.out.kept0 hk)
  have HF2 := Lib.hid (HF2.out.kept0 hk)
  have HX := Lib.hid (HX.out.kept hk (by simp))
  have HY := Lib.hid (HY.out.kept hk (by simp))
  have HW := Lib.hid (HW.out.kept hk (by simp))
  have K0 := Lib.hid (K0.out.trans hk)
  clear hk x0 x1 x2 x3 x4 x5 x6 x7 x8 x9 x10 v0 v1
  have x0 := HX.out.cell 0
  have x1 := HX.out.cell 1
  have x2 := HX.out.cell 2
  have x3 := HX.out.cell 3
  have x4 := HX.out.cell 4
  have x5 := HX.out.cell 5
  have x6 := HX.out.cell 6
  have x7 := HX.out.cell 7
  have x8 := HX.out.cell 8
  have x9 := HX.out.cell 9
  have x10 := HX.out.cell 10
  simp only [List.getElem?_cons_zero, List.getElem?_cons_succ] at x0 x1 x2 x3 x4 x5 x6 x7 x8 x9 x10
  go_wp2_with fail
  refine (frameRight_any liveF (some ⟨w.heap.size, 0, none⟩) (some ⟨w.heap.size + 1, 0, none⟩) (some ⟨w.heap.size + 2, 0, none⟩) 1 1 1 _ HF.out).mono ?_
  rintro x wf ⟨rfl, hk⟩
  rw [live_wrong]
  have HF := Lib.hid (HF.out.kept0 hk)
  have HF2 := Lib.hid (HF2.out.kept0 hk)
  have HX := Lib.hid (HX.out.kept hk (by simp))
  have HY := Lib.hid (HY.out.kept hk (by simp))
  have HW := Lib.hid (HW.out.kept hk (by simp))
  have K0 := Lib.hid (K0.out.trans hk)
  clear hk x0 x1 x2 x3 x4 x5 x6 x7 x8 x9 x10
  go_wp2_with fail
  refine (frameRight_any zeroF none none none 0 0 0 _ (FrIn.zero _)).mono ?_
  rintro x wg ⟨rfl, hk⟩
  rw [zero_wrong]
  have HF := Lib.hid (HF.out.kept0 hk)
  have HF2 := Lib.hid (HF2.out.kept0 hk)
  have HX := Lib.hid (HX.out.kept hk (by simp))
  have HY := Lib.hid (HY.out.kept hk (by simp))
  have HW := Lib.hid (HW.out.kept hk (by simp))
  have K0 := Lib.hid (K0.out.trans hk)
  clear hk 
  go_wp2_with fail
  go_ret
  exact ⟨rfl, K0.out⟩
end Go.Proofs.Ytdjidnccockmmaa
