/- 'FrameReads' returns true for every b. Conditions: none. -/
import Derived.Test.YtdjidnccockmmaaFr23
import Derived.Test.YtdjidnccockmmaaLaw2
namespace Go.Proofs.Ytdjidnccockmmaa
set_option linter.unusedSimpArgs false
set_option linter.unusedVariables false
open Go.ChangeShapes Go.WideShapes Go.ChangeAt Go.RowKit
open Go.RowKit (wrap32 wrap64)
set_option maxHeartbeats 8000000

/-- What bytes are as a frame, and what is wrong first, and where. -/
def decR (b : List UInt8) : Fr × Int × Int := match decodeP b with
  | .ok F => (F, 0, 0)
  | .error (e, a) => (zeroF, e, a)
theorem DecPost.any {w w' : World} {b : List UInt8} {x : Ending} (h : DecPost w (decodeP b) x w') :
    (∃ A1 A2 A3 c1 c2 c3, x = .returned (.tuple #[.agg (frC (decR b).1 A1 A2 A3 c1 c2 c3).toArray, .agg #[.int .i64 (decR b).2.1, .int .i64 (decR b).2.2]]) ∧ FrIn w' (decR b).1 A1 A2 A3 ∧ (decR b).1.items.length ≤ c1 ∧ (decR b).1.sums.length ≤ c2 ∧ (decR b).1.trips.length ≤ c3) ∧ Kept [] w w' := by
  unfold decR
  rcases hd : decodeP b with ⟨e, a⟩ | F
  · rw [hd] at h
    obtain ⟨hx, hk⟩ := h
    exact ⟨⟨none, none, none, 0, 0, 0, hx, FrIn.zero _, Nat.zero_le _, Nat.zero_le _, Nat.zero_le _⟩, hk⟩
  · rw [hd] at h
    exact h.good

set_option maxRecDepth 100000 in
theorem frameReads_walk (b : List UInt8) (A : Option Addr) (c : Nat) (w : World) (hl : b.length ≤ maxLen) (hr : Reads w A (b.map byteV)) :
    Calls Try.prog 8 #[.slice A b.length c] w fun e w' => e = .returned (.bool true) ∧ Kept [] w w' := by
  unfold maxLen at hl
  have HR := Lib.hid hr
  have heq := fun (a b c d : Int) (wx : World) => eqFault a b c d wx
  clear hr
  by_cases h : 4000 < b.length
  · go_enter Try.func8, Try.ntmps8
    go_wp2_with fail
    refine (live19_any _).mono ?_
    rintro e w1 ⟨rfl, hk⟩
    have K := Lib.hid hk
    clear hk
    go_wp2_with fail
    go_ret
    exact ⟨rfl, K.out⟩
  have HL := Lib.hid (show b.length ≤ 1073741824 by omega)
  go_enter Try.func8, Try.ntmps8
  go_wp2_with fail
  refine (decode_any b A c _ HR.out HL.out).mono ?_
  intro x w1 hx
  obtain ⟨⟨A1, A2, A3, c1, c2, c3, rfl, hf, _, _, _⟩, hk⟩ := hx.any
  generalize hq : decR b = q at hf
  have HQ := Lib.hid hq
  obtain ⟨F, ee, aa⟩ := q
  simp only [] at hf
  have HR := Lib.hid (HR.out.kept0 hk)
  have K0 := Lib.hid hk
  have HF := Lib.hid hf
  clear hx hf hk h
  go_upto_region 4 with (fail)
  have HX := Lib.hid ((Blk.new w1 60 (frC F A1 A2 A3 c1 c2 c3)).alloc (.cells #[.int .i64 ee, .int .i64 aa] 40))
  have HZ := Lib.hid (Blk.new1F w1 (.cells (frC F A1 A2 A3 c1 c2 c3).toArray 60) 40 [.int .i64 ee, .int .i64 aa])
  have hk : Kept [] w1 ((w1.alloc (.cells (frC F A1 A2 A3 c1 c2 c3).toArray 60)).alloc (.cells #[.int .i64 ee, .int .i64 aa] 40)) := ((Kept.refl [] w1).alloc _).alloc _
  have HR := Lib.hid (HR.out.kept0 hk)
  have K0 := Lib.hid (K0.out.trans hk)
  have HF := Lib.hid (HF.out.kept0 hk)
  clear hk
  obtain ⟨w2, hv⟩ : ∃ w2, w2 = ((w1.alloc (.cells (frC F A1 A2 A3 c1 c2 c3).toArray 60)).alloc (.cells #[.int .i64 ee, .int .i64 aa] 40)) := ⟨_, rfl⟩
  rw [← hv] at HX HZ HR K0 HF
  show Code.wp _ _ _ _ ((w1.alloc (.cells (frC F A1 A2 A3 c1 c2 c3).toArray 60)).alloc (.cells #[.int .i64 ee, .int .i64 aa] 40))
  rw [← hv]
  clear hv
  generalize w1.heap.size + 1 = h1 at HZ ⊢
  generalize w1.heap.size = g1 at HX ⊢
  go_wp2_with fail
  refine (rdecode_any b A c _ HR.out HL.out).mono ?_
  intro x w3 hx
  obtain ⟨⟨B1, B2, B3, d1, d2, d3, rfl, hf, _, _, _⟩, hk⟩ := hx.any
  rw [HQ.out] at hf ⊢
  simp only [] at hf
  have K0 := Lib.hid (K0.out.trans hk)
  have HF := Lib.hid (HF.out.kept0 hk)
  have HX := Lib.hid (HX.out.kept hk (by simp))
  have HZ := Lib.hid (HZ.out.kept hk (by simp))
  have HG := Lib.hid hf
  clear hx hf hk HR
  go_upto_region 5 with (fail)
  have HY := Lib.hid ((Blk.new w3 60 (frC F B1 B2 B3 d1 d2 d3)).alloc (.cells #[.int .i64 ee, .int .i64 aa] 40))
  have HW := Lib.hid (Blk.new1F w3 (.cells (frC F B1 B2 B3 d1 d2 d3).toArray 60) 40 [.int .i64 ee, .int .i64 aa])
  have hk : Kept [] w3 ((w3.alloc (.cells (frC F B1 B2 B3 d1 d2 d3).toArray 60)).alloc (.cells #[.int .i64 ee, .int .i64 aa] 40)) := ((Kept.refl [] w3).alloc _).alloc _
  have K0 := Lib.hid (K0.out.trans hk)
  have HF := Lib.hid (HF.out.kept0 hk)
  have HG := Lib.hid (HG.out.kept0 hk)
  have HX := Lib.hid (HX.out.kept hk (by simp))
  have HZ := Lib.hid (HZ.out.kept hk (by simp))
  clear hk
  obtain ⟨w4, hv⟩ : ∃ w4, w4 = ((w3.alloc (.cells (frC F B1 B2 B3 d1 d2 d3).toArray 60)).alloc (.cells #[.int .i64 ee, .int .i64 aa] 40)) := ⟨_, rfl⟩
  rw [← hv] at HX HZ HY HW K0 HF HG
  show Code.wp _ _ _ _ ((w3.alloc (.cells (frC F B1 B2 B3 d1 d2 d3).toArray 60)).alloc (.cells #[.int .i64 ee, .int .i64 aa] 40))
  rw [← hv]
  clear hv
  generalize w3.heap.size + 1 = h2 at HW ⊢
  generalize w3.heap.size = g2 at HY ⊢
  go_wp2_with fail
  refine (live19_any _).mono ?_
  rintro e w5 ⟨rfl, hk⟩
  have K0 := Lib.hid (K0.out.trans hk)
  have HF := Lib.hid (HF.out.kept0 hk)
  have HG := Lib.hid (HG.out.kept0 hk)
  have HX := Lib.hid (HX.out.kept hk (by simp))
  have HY := Lib.hid (HY.out.kept hk (by simp))
  have HZ := Lib.hid (HZ.out.kept hk (by simp))
  have HW := Lib.hid (HW.out.kept hk (by simp))
  clear hk
  have x0 := HX.out.cell 0
  have x1 := HX.out.cell 1
  have x2 := HX.out.cell 2
  have x3 := HX.out.cell 3
  have x4 := HX.out.cell 4
  have x5 := HX.out.cell 5
  have x6 := HX.out.cell 6
  have x7 := HX.out.cell 7
  have x8 := HX.out.cell 8
  have x9 := HX.out.cell 9
  have x10 := HX.out.cell 10
  have y0 := HY.out.cell 0
  have y1 := HY.out.cell 1
  have y2 := HY.out.cell 2
  have y3 := HY.out.cell 3
  have y4 := HY.out.cell 4
  have y5 := HY.out.cell 5
  have y6 := HY.out.cell 6
  have y7 := HY.out.cell 7
  have y8 := HY.out.cell 8
  have y9 := HY.out.cell 9
  have y10 := HY.out.cell 10
  simp only [List.getElem?_cons_zero, List.getElem?_cons_succ] at x0 x1 x2 x3 x4 x5 x6 x7 x8 x9 x10 y0 y1 y2 y3 y4 y5 y6 y7 y8 y9 y10
  go_wp2_with fail
  refine (refSame_any F F A1 A2 A3 B1 B2 B3 c1 c2 c3 d1 d2 d3 _ HF.out HG.out).mono ?_
  rintro x w6 ⟨rfl, hk⟩
  rw [show decide (F = F) = true from decide_eq_true rfl]
  have K0 := Lib.hid (K0.out.trans hk)
  have HZ := Lib.hid (HZ.out.kept hk (by simp))
  have HW := Lib.hid (HW.out.kept hk (by simp))
  clear hk x0 x1 x2 x3 x4 x5 x6 x7 x8 x9 x10 y0 y1 y2 y3 y4 y5 y6 y7 y8 y9 y10
  have z0 := HZ.out.cell 0
  have z1 := HZ.out.cell 1
  have v0 := HW.out.cell 0
  have v1 := HW.out.cell 1
  simp only [List.getElem?_cons_zero, List.getElem?_cons_succ] at z0 z1 v0 v1
  go_wp2_with fail
  go_ret
  exact ⟨ret_bool (by simp), K0.out⟩

set_option maxRecDepth 100000 in
theorem frameReads_lifted (os : Os) (started : os.Started) (H : Type) (enc : TypeId × Value → H) :
    ReturnsInHanded {} Try.checked os 8 .any (Rows.frameReadsSpec.pre6 enc Try.prog Try.f8 Rows.frameReadsRow.domain false) (Rows.frameReadsSpec.post enc Try.prog Try.f8 false true false false) := by
  refine returnsInHanded_of_change (C := Try.checked) own started (by kernel_rfl) Try.func8
    (ChangeSpec.witness6 (enc := enc) (C := Try.checked) false ⟨#[], #[.slice none 0 0], []⟩ 8 (by kernel_rfl) (by kernel_rfl) (by kernel_rfl) (by kernel_rfl)) ?_
  intro W base args ds gs before hval0 hW hcnd _
  have hval : ∀ (j : Nat) t v, Try.f8.params[j]? = some t → args[j]? = some v → Value.okWide Try.prog W .any base t v := hval0
  have hW' := hW
  obtain ⟨p, q, hA0, hV, rfl, hfz, hnd⟩ := hW
  have hA : DataW.TrodAll enc Try.prog W 0 (fun _ => true) true Try.f8.params.toList args.toList ds p := hA0
  rw [Try.params8] at hA hval
  obtain ⟨v0, vs0, d0, ds0, p0, q0, hargs, rfl, rfl, h0, r0⟩ := trodAll_cons hA
  obtain ⟨rfl, rfl, rfl⟩ := trodAll_nil r0
  obtain rfl : args = #[v0] := by cases args; simp_all
  obtain ⟨rfl, rfl⟩ := trodVars_none hV
  obtain ⟨A, c, l, rfl, hl, hm, hr, _⟩ := open_bytes Try.underlying25 Try.underlying5 cellsU8 (hval 0 25 v0 rfl rfl) h0
  refine (frameReads_walk l A c W (by omega) hr).mono fun e W' ⟨he, hk⟩ => ?_
  exact ⟨_, he, post_true rfl Try.underlying4 rfl rfl rfl rfl laidOut (by decide +kernel) hW' hk⟩

theorem frameReads_holds : Rows.FrameReadsSaid :=
  OpenClaim.holds_of_wide 8 Try.f8 rfl rfl rfl rfl rfl rfl rfl ⟨rfl, rfl, rfl, rfl, rfl⟩ rfl rfl rfl rfl rfl (by kernel_rfl) Try.func8 (by kernel_rfl)
    (of_decide_eq_true (by kernel_rfl)) (by unfold Func.isWrapper; first | (rw [if_pos (by decide +kernel)]; kernel_rfl) | (rw [if_neg (by decide +kernel)]; exact ⟨rfl, rfl⟩))
    (fun os started H enc _ => frameReads_lifted os started H enc)
end Go.Proofs.Ytdjidnccockmmaa
