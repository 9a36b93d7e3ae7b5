/- Frames: are two the same? The document's. -/
import Derived.Test.YtdjidnccockmmaaFr8
import Derived.Deep.DeepCutAuto
namespace Go.Proofs.Ytdjidnccockmmaa
set_option linter.unusedSimpArgs false
set_option linter.unusedVariables false
open Go.ChangeShapes Go.WideShapes Go.ChangeAt Go.RowKit
open Go.RowKit (wrap32 wrap64)
set_option maxHeartbeats 4000000

set_option maxRecDepth 100000 in
theorem refSame_any (F G : Fr) (A1 A2 A3 B1 B2 B3 : Option Addr) (c1 c2 c3 d1 d2 d3 : Nat) (w : World) (hF : FrIn w F A1 A2 A3) (hG : FrIn w G B1 B2 B3) :
    Calls Try.prog 42 #[.agg #[.int .i64 F.kind, .int .i64 F.src, .int .i64 F.dst, .int .i64 F.seq, .int .i64 F.round, .int .i64 F.vn, .slice A1 F.items.length c1, .slice A2 F.sums.length c2, .slice A3 F.trips.length c3, .int .i64 F.n, .bool F.over], .agg #[.int .i64 G.kind, .int .i64 G.src, .int .i64 G.dst, .int .i64 G.seq, .int .i64 G.round, .int .i64 G.vn, .slice B1 G.items.length d1, .slice B2 G.sums.length d2, .slice B3 G.trips.length d3, .int .i64 G.n, .bool G.over]] w fun e w' => e = .returned (.bool (decide (F = G))) ∧ Kept [] w w' := by
  have HX := Lib.hid ((Blk.new w 60 (frC F A1 A2 A3 c1 c2 c3)).alloc (.cells (frC G B1 B2 B3 d1 d2 d3).toArray 60))
  have HY := Blk.new (w.alloc (.cells (frC F A1 A2 A3 c1 c2 c3).toArray 60)) 60 (frC G B1 B2 B3 d1 d2 d3)
  rw [show (w.alloc (.cells (frC F A1 A2 A3 c1 c2 c3).toArray 60)).heap.size = w.heap.size + 1 by simp] at HY
  have HY := Lib.hid HY
  have K0 := Lib.hid (((Kept.refl [] w).alloc (.cells (frC F A1 A2 A3 c1 c2 c3).toArray 60)).alloc (.cells (frC G B1 B2 B3 d1 d2 d3).toArray 60))
  go_enter Try.func42, Try.ntmps42
  refine wp_seq_k fun K hK => ?_
  go_cut [2, 3] (fun p q wx => p = .pointer (some ⟨w.heap.size, 0, none⟩) ∧ q = .pointer (some ⟨w.heap.size + 1, 0, none⟩) ∧ Hid (Blk wx w.heap.size 60 (frC F A1 A2 A3 c1 c2 c3)) ∧ Hid (Blk wx (w.heap.size + 1) 60 (frC G B1 B2 B3 d1 d2 d3)) ∧ Hid (Kept [] w wx))
  case first =>
    go_wp2_with fail
    all_goals go_meet
    exact ⟨rfl, by simp, HX, HY, K0⟩
  case rest =>
  obtain ⟨rfl, rfl, HX, HY, K0⟩ := hcut
  have HF := Lib.hid (hF.kept0 K0.out)
  have HG := Lib.hid (hG.kept0 K0.out)
  clear hF hG
  have hx0 := (HX.out.kept (Kept.refl [] wc) (by simp)).cell 0
  have hy0 := (HY.out.kept (Kept.refl [] wc) (by simp)).cell 0
  have hx1 := (HX.out.kept (Kept.refl [] wc) (by simp)).cell 1
  have hy1 := (HY.out.kept (Kept.refl [] wc) (by simp)).cell 1
  have hx2 := (HX.out.kept (Kept.refl [] wc) (by simp)).cell 2
  have hy2 := (HY.out.kept (Kept.refl [] wc) (by simp)).cell 2
  have hx3 := (HX.out.kept (Kept.refl [] wc) (by simp)).cell 3
  have hy3 := (HY.out.kept (Kept.refl [] wc) (by simp)).cell 3
  have hx4 := (HX.out.kept (Kept.refl [] wc) (by simp)).cell 4
  have hy4 := (HY.out.kept (Kept.refl [] wc) (by simp)).cell 4
  have hx5 := (HX.out.kept (Kept.refl [] wc) (by simp)).cell 5
  have hy5 := (HY.out.kept (Kept.refl [] wc) (by simp)).cell 5
  have hx6 := (HX.out.kept (Kept.refl [] wc) (by simp)).cell 6
  have hy6 := (HY.out.kept (Kept.refl [] wc) (by simp)).cell 6
  simp only [List.getElem?_cons_zero, List.getElem?_cons_succ] at hx0 hy0 hx1 hy1 hx2 hy2 hx3 hy3 hx4 hy4 hx5 hy5 hx6 hy6
  by_cases g0 : F.kind = G.kind
  case neg =>
    have E := Lib.hid g0
    go_wp2_with fail
    go_ret
    exact ⟨ret_bool (decide_eq_false (fun h => E.out (by rw [h]))).symm, K0.out⟩
  have E4 := Lib.hid g0
  by_cases g1 : F.src = G.src
  case neg =>
    have E := Lib.hid g1
    go_wp2_with fail
    go_ret
    exact ⟨ret_bool (decide_eq_false (fun h => E.out (by rw [h]))).symm, K0.out⟩
  have E5 := Lib.hid g1
  by_cases g2 : F.dst = G.dst
  case neg =>
    have E := Lib.hid g2
    go_wp2_with fail
    go_ret
    exact ⟨ret_bool (decide_eq_false (fun h => E.out (by rw [h]))).symm, K0.out⟩
  have E6 := Lib.hid g2
  by_cases g3 : F.seq = G.seq
  case neg =>
    have E := Lib.hid g3
    go_wp2_with fail
    go_ret
    exact ⟨ret_bool (decide_eq_false (fun h => E.out (by rw [h]))).symm, K0.out⟩
  have E7 := Lib.hid g3
  by_cases g4 : F.round = G.round
  case neg =>
    have E := Lib.hid g4
    go_wp2_with fail
    go_ret
    exact ⟨ret_bool (decide_eq_false (fun h => E.out (by rw [h]))).symm, K0.out⟩
  have E8 := Lib.hid g4
  go_wp2_with fail
  refine (refVecSame_any F.vn G.vn F.items G.items A1 B1 c1 d1 _ HF.out.li HG.out.li HF.out.items HG.out.items).mono ?_
  rintro e w1 ⟨rfl, hk⟩
  have K1 := Lib.hid hk
  clear hk hx0 hx1 hx2 hx3 hx4 hx5 hx6 hy0 hy1 hy2 hy3 hy4 hy5 hy6 g0 g1 g2 g3 g4
  by_cases e1 : F.vn = G.vn ∧ F.items = G.items
  case neg =>
    rw [show (decide (F.vn = G.vn) && decide (F.items = G.items)) = false by simpa using e1]
    have E := Lib.hid e1
    clear e1
    go_wp2_with fail
    go_ret
    exact ⟨ret_bool (decide_eq_false (fun h => E.out (by rw [h]; exact ⟨rfl, rfl⟩))).symm, K0.out.trans K1.out⟩
  rw [show (decide (F.vn = G.vn) && decide (F.items = G.items)) = true by simpa using e1]
  have E0 := Lib.hid e1.1
  have E1 := Lib.hid e1.2
  clear e1
  have hx7 := (HX.out.kept K1.out (by simp)).cell 7
  have hy7 := (HY.out.kept K1.out (by simp)).cell 7
  simp only [List.getElem?_cons_zero, List.getElem?_cons_succ] at hx7 hy7
  go_wp2_with fail
  refine (sameSums_any F.sums G.sums A2 B2 c2 d2 _ HF.out.ls HG.out.ls (HF.out.sums.kept0 K1.out) (HG.out.sums.kept0 K1.out)).mono ?_
  rintro e w2 ⟨rfl, hk⟩
  have K2 := Lib.hid (K1.out.trans hk)
  clear hk hx7 hy7
  by_cases e2 : F.sums = G.sums
  case neg =>
    rw [decide_eq_false e2]
    have E := Lib.hid e2
    clear e2
    go_wp2_with fail
    go_ret
    exact ⟨ret_bool (decide_eq_false (fun h => E.out (by rw [h]))).symm, K0.out.trans K2.out⟩
  rw [decide_eq_true e2]
  have E2 := Lib.hid e2
  clear e2
  have hx8 := (HX.out.kept K2.out (by simp)).cell 8
  have hy8 := (HY.out.kept K2.out (by simp)).cell 8
  simp only [List.getElem?_cons_zero, List.getElem?_cons_succ] at hx8 hy8
  go_wp2_with fail
  refine (sameTriples_any F.trips G.trips A3 B3 c3 d3 _ HF.out.lt HG.out.lt (HF.out.trips.kept0 K2.out) (HG.out.trips.kept0 K2.out)).mono ?_
  rintro e w3 ⟨rfl, hk⟩
  have K3 := Lib.hid (K2.out.trans hk)
  clear hk hx8 hy8
  by_cases e3 : F.trips = G.trips
  case neg =>
    rw [decide_eq_false e3]
    have E := Lib.hid e3
    clear e3
    go_wp2_with fail
    go_ret
    exact ⟨ret_bool (decide_eq_false (fun h => E.out (by rw [h]))).symm, K0.out.trans K3.out⟩
  rw [decide_eq_true e3]
  have E3 := Lib.hid e3
  clear e3
  have hx9 := (HX.out.kept K3.out (by simp)).cell 9
  have hy9 := (HY.out.kept K3.out (by simp)).cell 9
  have hx10 := (HX.out.kept K3.out (by simp)).cell 10
  have hy10 := (HY.out.kept K3.out (by simp)).cell 10
  simp only [List.getElem?_cons_zero, List.getElem?_cons_succ] at hx9 hy9 hx10 hy10
  by_cases g5 : F.n = G.n
  case neg =>
    have E := Lib.hid g5
    go_wp2_with fail
    go_ret
    exact ⟨ret_bool (decide_eq_false (fun h => E.out (by rw [h]))).symm, K0.out.trans K3.out⟩
  have E9 := Lib.hid g5
  go_wp2_with fail
  go_ret
  refine ⟨ret_bool ?_, K0.out.trans K3.out⟩
  by_cases g6 : F.over = G.over
  · have : F = G := by
      have x0 := E0.out; have x1 := E1.out; have x2 := E2.out; have x3 := E3.out; have x4 := E4.out; have x5 := E5.out; have x6 := E6.out; have x7 := E7.out; have x8 := E8.out; have x9 := E9.out
      cases F; cases G; simp_all
    rw [decide_eq_true this, g6]; simp
  · rw [decide_eq_false (fun h => g6 (by rw [h]))]; simpa using g6
end Go.Proofs.Ytdjidnccockmmaa
