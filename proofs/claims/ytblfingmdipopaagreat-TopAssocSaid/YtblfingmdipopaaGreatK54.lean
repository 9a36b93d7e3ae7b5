/- 'TopAssoc' returns true for every task and items. Conditions: none. -/
import Derived.Test.YtblfingmdipopaaGreatK48
import Derived.Test.YtblfingmdipopaaGreatK52
import Derived.Test.YtblfingmdipopaaGreatK53
import Derived.Test.YtblfingmdipopaaGreatK28
namespace Go.Proofs.YtblfingmdipopaaGreat
set_option linter.unusedSimpArgs false
set_option linter.unusedVariables false
open Go.ChangeShapes Go.WideShapes Go.ChangeAt Go.RowKit
open Go.RowKit (wrap32 wrap64)
set_option maxHeartbeats 8000000
theorem own : ownKnob Tryz.prog.godebug = none := by kernel_rfl
theorem laidOut : laidOutB Tryz.prog = true := by kernel_rfl
theorem ones_okM {n m : Nat} (hn : n ≤ 64) (hm : m ≤ 64) : MtOkM n m (onesL n m) := ⟨onesL_rises n m, onesL_in n m, by
  rw [onesL_len]
  have := Nat.mul_le_mul hn hm
  omega, by omega, by omega⟩
theorem infoR3 : (Tryz.prog.info? 32).map (·.size) = some 15 := by kernel_rfl
theorem infoTA : (Tryz.prog.info? 26).map (·.size) = some 7 := by kernel_rfl
theorem wrap_u8 {j : Nat} (h : j < 256) : IntKind.u8.wrap (j : Int) = (j : Int) := by
  have h1 : IntKind.u8.wrap (j : Int) = (j : Int) % 256 := by kernel_rfl
  rw [h1]
  omega
/-- The items of a vector, of values of the ring. -/
theorem vals_okV {q : Int} {n : Nat} {X : List Ed} (h : VcOk n X) : VcOk n (X.map (valE q)) := ⟨risesL_val q h.rises, fun e he => by
  obtain ⟨x, hx, rfl⟩ := List.mem_map.1 he
  exact h.inn x hx, by rw [List.length_map]; exact h.len, h.num⟩
theorem vals_ok (q : Int) (X : List Ed) : ∀ e ∈ X.map (valE q), OkV q e.2.2 := fun e he => by
  obtain ⟨x, hx, rfl⟩ := List.mem_map.1 he
  exact valP_ok q _
set_option maxRecDepth 100000 in
theorem topAssoc_walk (r : Int) (s0 s1 s2 : Nat) (h0 : s0 < 256) (h1 : s1 < 256) (h2 : s2 < 256) (L1 L2 L3 l : List Ed) (T1 T2 T3 A : Option Addr) (d1 d2 d3 c : Nat) (w : World) (H1 : SlT w T1 L1 d1) (H2 : SlT w T2 L2 d2) (H3 : SlT w T3 L3 d3) (hl : l.length ≤ maxLen) (hA : Reads w A (l.flatMap itV)) (hw : ∀ e ∈ l, In64 e.2.2) :
    Calls Tryz.prog 3 #[.agg #[.int .i64 r, .int .u8 (s0 : Int), .int .u8 (s1 : Int), .int .u8 (s2 : Int), .slice T1 L1.length d1, .slice T2 L2.length d2, .slice T3 L3.length d3], .slice A l.length c] w (fun e w' => e = .returned (.bool true) ∧ Kept [] w w') := by
  have HS1 := Lib.hid H1
  have HS2 := Lib.hid H2
  have HS3 := Lib.hid H3
  have HA := Lib.hid hA
  have HW := Lib.hid hw
  have HL := Lib.hid hl
  obtain ⟨q, hq⟩ : ∃ q : Int, q = if r = 2 then 2 else 1 := ⟨_, rfl⟩
  have HRQ := Lib.hid (show q = 1 ∨ q = 2 by rw [hq]; split <;> simp)
  have HRV := Lib.hid (show RingV q by rcases HRQ.out with h | h <;> simp [RingV, h])
  clear H1 H2 H3 hA hw hl
  obtain ⟨post, hpost⟩ : ∃ post : Ending → World → Prop, post = (fun e w' => e = .returned (.bool true) ∧ Kept [] w w') := ⟨_, rfl⟩
  rw [← hpost]
  have HPOST := Lib.hid hpost
  clear hpost
  have HT := Lib.hid (Blk.new w 26 [.int .i64 r, .int .u8 (s0 : Int), .int .u8 (s1 : Int), .int .u8 (s2 : Int), .slice T1 L1.length d1, .slice T2 L2.length d2, .slice T3 L3.length d3])
  have K0 := Lib.hid ((Kept.refl [] w).alloc (.cells #[.int .i64 r, .int .u8 (s0 : Int), .int .u8 (s1 : Int), .int .u8 (s2 : Int), .slice T1 L1.length d1, .slice T2 L2.length d2, .slice T3 L3.length d3] 26))
  go_enter Tryz.func3, Tryz.ntmps3
  go_upto_region 1 with (fail)
  generalize w.alloc (.cells #[.int .i64 r, .int .u8 (s0 : Int), .int .u8 (s1 : Int), .int .u8 (s2 : Int), .slice T1 L1.length d1, .slice T2 L2.length d2, .slice T3 L3.length d3] 26) = w1 at *
  generalize hg : w.heap.size = g2 at HT ⊢
  have HG2 := Lib.hid (show w.heap.size ≤ g2 by omega)
  clear hg
  have z0 := HT.out.cell 0
  simp only [List.getElem?_cons_zero] at z0
  go_cut [21] (fun u wx => u = .bool (r != 2) ∧ wx = w1)
  case first =>
    go_wp2_with fail
    go_meet
    exact ⟨rfl, rfl⟩
  case rest =>
  obtain ⟨hc1, hc2⟩ := hcut
  subst hc1 hc2
  refine ‹∀ (a : Act) (w : World), Code.wp Tryz.prog (Code.cond (.tmp 21) _ _) _ a w → _› _ _ ?_
  go_cut [21] (fun u wx => u = u ∧ Hid (Blk wx g2 26 [.int .i64 q, .int .u8 (s0 : Int), .int .u8 (s1 : Int), .int .u8 (s2 : Int), .slice T1 L1.length d1, .slice T2 L2.length d2, .slice T3 L3.length d3]) ∧ Hid (Kept [] w wx))
  case first =>
    by_cases hr : r = 2
    · have hb : (r != 2) = false := by simp [hr]
      rw [if_pos hr] at hq
      have HQ2 := Lib.hid (hr.trans hq.symm)
      clear hr hq
      go_wp2_with fail
      go_meet
      exact ⟨trivial, by rw [← HQ2.out]; exact HT, K0⟩
    · have hb : (r != 2) = true := by simp [hr]
      rw [if_neg hr] at hq
      have HQ2 := Lib.hid hq
      clear hr hq
      have f0 := HT.out.frozen 0
      have l0 := HT.out.lt
      go_wp2_with fail
      go_meet
      refine ⟨trivial, Lib.hid ?_, Lib.hid (K0.out.setCell (.inr HG2.out) _)⟩
      rw [HQ2.out]
      exact HT.out.set 0 (.int .i64 1)
  case rest =>
  clear HT K0 z0
  obtain ⟨_, HT, K0⟩ := hcut
  clear hq
  go_wp2_with (first | (refine wpList_loadBlk rfl 26 (.tmp 2) rfl g2 [.int .i64 q, .int .u8 (s0 : Int), .int .u8 (s1 : Int), .int .u8 (s2 : Int), .slice T1 L1.length d1, .slice T2 L2.length d2, .slice T3 L3.length d3] _ HT.out rfl Tryz.underlying26 rfl infoTA ?_))
  refine (three_any q HRQ.out s0 s1 s2 h0 h1 h2 L1 L2 L3 T1 T2 T3 d1 d2 d3 _ (HS1.out.kept0 K0.out) (HS2.out.kept0 K0.out) (HS3.out.kept0 K0.out)).mono ?_
  have HOA := Lib.hid (matL_ok q (s0 % 14) (s1 % 14) (by omega) (by omega) HS1.out.vals)
  have HOB := Lib.hid (matL_ok q (s1 % 14) (s2 % 14) (by omega) (by omega) HS2.out.vals)
  have HVA := Lib.hid (matL_val q (s0 % 14) (s1 % 14) L1)
  have HVB := Lib.hid (matL_val q (s1 % 14) (s2 % 14) L2)
  obtain ⟨n, hn⟩ : ∃ n, n = s0 % 14 := ⟨_, rfl⟩
  obtain ⟨k, hk⟩ : ∃ k, k = s1 % 14 := ⟨_, rfl⟩
  obtain ⟨j, hj⟩ : ∃ j, j = s2 % 14 := ⟨_, rfl⟩
  rw [← hn, ← hk, ← hj]
  rw [← hn, ← hk] at HOA HVA
  rw [← hk, ← hj] at HOB HVB
  replace hn : n < 14 := by omega
  replace hk : k < 14 := by omega
  replace hj : j < 14 := by omega
  clear h0 h1 h2
  obtain ⟨LA, hLA⟩ : ∃ LA, LA = matL q n k L1 := ⟨_, rfl⟩
  obtain ⟨LB, hLB⟩ : ∃ LB, LB = matL q k j L2 := ⟨_, rfl⟩
  obtain ⟨LM, hLM⟩ : ∃ LM, LM = matL q n j L3 := ⟨_, rfl⟩
  rw [← hLA] at HOA HVA ⊢
  rw [← hLB] at HOB HVB ⊢
  rw [← hLM]
  clear hLA hLB hLM
  rintro _ w3 ⟨x1, x2, x3, y1, y2, y3, z1, z2, z3, rfl, hma, hmb, hmm, hk3⟩
  have HMA := Lib.hid (hma.le K0.out.size)
  have HMB := Lib.hid (hmb.le K0.out.size)
  have HMM := Lib.hid (hmm.le K0.out.size)
  obtain ⟨a1, a2, A3, a4, A5, a6, rfl, rfl, rfl, _, _⟩ := HMA.out.form
  obtain ⟨b1, b2, B3, b4, B5, b6, rfl, rfl, rfl, _, _⟩ := HMB.out.form
  obtain ⟨m1, m2, M3, m4, M5, m6, rfl, rfl, rfl, _, _⟩ := HMM.out.form
  replace HT := Lib.hid (HT.out.kept hk3 (by simp))
  replace K0 := Lib.hid (K0.out.trans hk3)
  clear hma hmb hmm hk3 HMM
  go_upto_region 4 with (first | (refine wpList_storeBlk rfl 32 (.tmp 5) (.tmp 24) rfl w3.heap.size [.int .i64 0, .int .i64 0, .slice none 0 0, .slice none 0 0, .slice none 0 0, .int .i64 0, .int .i64 0, .slice none 0 0, .slice none 0 0, .slice none 0 0, .int .i64 0, .int .i64 0, .slice none 0 0, .slice none 0 0, .slice none 0 0] [.int .i64 n, .int .i64 k, .slice (some ⟨a1, 0, none⟩) (n + 1) a2, .slice A3 LA.length a4, .slice A5 LA.length a6, .int .i64 k, .int .i64 j, .slice (some ⟨b1, 0, none⟩) (k + 1) b2, .slice B3 LB.length b4, .slice B5 LB.length b6, .int .i64 n, .int .i64 j, .slice (some ⟨m1, 0, none⟩) (n + 1) m2, .slice M3 LM.length m4, .slice M5 LM.length m6] (Blk.new _ _ _) rfl rfl rfl infoR3 (by simp [Value.oneCell']) ?_; intro w4 hb4 hk4))
  have k4 : Kept [] w3 w4 := ((Kept.refl [] w3).alloc (.cells #[.int .i64 0, .int .i64 0, .slice none 0 0, .slice none 0 0, .slice none 0 0, .int .i64 0, .int .i64 0, .slice none 0 0, .slice none 0 0, .slice none 0 0, .int .i64 0, .int .i64 0, .slice none 0 0, .slice none 0 0, .slice none 0 0] 32)).then hk4 (fun q hq => by simp at hq; subst hq; exact .inr (Nat.le_refl _))
  have H5 := Lib.hid hb4
  replace HT := Lib.hid (HT.out.kept k4 (by simp))
  replace HMA := Lib.hid (HMA.out.kept0 k4)
  replace HMB := Lib.hid (HMB.out.kept0 k4)
  replace K0 := Lib.hid (K0.out.trans k4)
  clear k4 hk4 hb4
  generalize w3.heap.size = g5 at H5 ⊢
  have z6 := H5.out.cell 6
  simp only [List.getElem?_cons_zero, List.getElem?_cons_succ] at z6
  have hwu := wrap_u8 (show j < 256 by omega)
  go_wp2_with fail
  have H9C := Lib.hid (some9_any j (by omega) l A c w4 HL.out (HA.out.kept0 K0.out) HW.out)
  rw [Nat.mod_eq_of_lt (show j < 60 by omega)] at H9C
  refine H9C.out.mono ?_
  rintro _ w5 ⟨v, rfl, ho, hk5⟩
  clear H9C hwu z6
  have HCV := Lib.hid (canonV_ok (n := j) (by omega) (Nat.le_trans (someV_len j l) (by decide)) (someV_64 j HW.out) (someV_in j l))
  obtain ⟨X0, hX0⟩ : ∃ X0, X0 = canonP (someV j l) := ⟨_, rfl⟩
  rw [← hX0] at ho HCV
  obtain ⟨X, hX⟩ : ∃ X, X = X0.map (valE q) := ⟨_, rfl⟩
  have HXE := Lib.hid hX
  have hxl : X0.length = X.length := by rw [hX, List.length_map]
  have HXK := Lib.hid (vals_okV (q := q) HCV.out)
  have HXV := Lib.hid (vals_ok q X0)
  rw [← hX] at HXK HXV
  have hxm : X.length ≤ 65536 := HXK.out.len
  have HO0 := Lib.hid (own_base ho K0.out.size)
  rw [hxl] at HO0
  clear hX hX0 ho HCV
  have HX0L := Lib.hid hxl
  clear hxl
  replace HT := Lib.hid (HT.out.kept hk5 (by simp))
  replace H5 := Lib.hid (H5.out.kept hk5 (by simp))
  replace HMA := Lib.hid (HMA.out.kept0 hk5)
  replace HMB := Lib.hid (HMB.out.kept0 hk5)
  replace K0 := Lib.hid (K0.out.trans hk5)
  clear hk5
  obtain ⟨Ax, cx, rfl⟩ := own_n HO0.out
  go_upto_region 5 with (first | (refine wpList_storeBlk rfl 35 (.tmp 6) (.tmp 30) rfl w5.heap.size [.int .i64 0, .slice none 0 0] [.int .i64 j, .slice Ax X.length cx] (Blk.new _ _ _) rfl rfl rfl infoVec (by simp [Value.oneCell']) ?_; intro w6 hb6 hk6))
  have k6 : Kept [] w5 w6 := ((Kept.refl [] w5).alloc (.cells #[.int .i64 0, .slice none 0 0] 35)).then hk6 (fun q hq => by simp at hq; subst hq; exact .inr (Nat.le_refl _))
  have H6 := Lib.hid hb6
  have HG6 := Lib.hid K0.out.size
  replace HT := Lib.hid (HT.out.kept k6 (by simp))
  replace H5 := Lib.hid (H5.out.kept k6 (by simp))
  replace HMA := Lib.hid (HMA.out.kept0 k6)
  replace HMB := Lib.hid (HMB.out.kept0 k6)
  replace HO0 := Lib.hid (own_kept0 HO0.out k6)
  replace K0 := Lib.hid (K0.out.trans k6)
  clear k6 hk6 hb6
  generalize w5.heap.size = g6 at H6 HG6 ⊢
  go_wp2_with fail
  obtain ⟨w7, hw7⟩ : ∃ w7, w7 = w6 := ⟨_, rfl⟩
  rw [← hw7] at HT H5 H6 HMA HMB HO0 K0
  have K7 := Lib.hid (show Kept [] w7 w6 by rw [hw7]; exact Kept.refl _ _)
  clear hw7
  go_loopw [7, 8] (fun v x wx => ∃ i : Nat, i ≤ X.length ∧ x = .int .i64 i ∧ Hid (wx.ownsRow w7.heap.size 38 2 v i ((X.take i).flatMap itV)) ∧ Hid (Kept [] w7 wx)) (fun _ x _ => X.length - (intOf x).toNat)
  case atStart => exact ⟨0, Nat.zero_le _, rfl, Lib.hid (World.ownsRow_nil _ _ _ _), K7⟩
  case round =>
    clear K7
    obtain ⟨i, hi, rfl, HO, K7⟩ := hrel
    obtain ⟨v, hv⟩ : ∃ v, v = u7 := ⟨_, rfl⟩
    subst hv
    obtain ⟨A7, c7, rfl⟩ := own_n HO.out
    have H6l := Lib.hid (H6.out.kept K7.out (by simp))
    have zc := H6l.out.cell 1
    simp only [List.getElem?_cons_zero, List.getElem?_cons_succ] at zc
    by_cases hlt : i < X.length
    · have HTK := Lib.hid (List.take_succ_eq_append_getElem hlt)
      obtain ⟨bx, ox, hAx, hbx, e0, e1⟩ := it_at (Reads.of_own HO0.out) (show i < X0.length by rw [HX0L.out]; exact hlt)
      subst hAx
      have HXI : Hid (X[i] = valE q (X0[i]'(by rw [HX0L.out]; exact hlt))) := Lib.hid (by have := HXE.out; subst this; simp)
      obtain ⟨x, hx⟩ : ∃ x, x = X0[i]'(by rw [HX0L.out]; exact hlt) := ⟨_, rfl⟩
      rw [← hx] at e0 e1 HXI
      rw [HXI.out] at HTK
      clear hx HXI
      obtain ⟨x1, x2, x3⟩ := x
      dsimp only at e0 e1
      go_upto_region 9 with (fail)
      clear zc
      have z0 := H6.out.cell 1
      have z1 := HT.out.cell 0
      simp only [List.getElem?_cons_zero, List.getElem?_cons_succ] at z0 z1
      have z2 := e0
      have z3 := e1
      have HD := Lib.hid HO.out
      clear e0 e1 HO H6l
      refine wp_region_held_drew (S := (fun w' => Kept [] w7 w' ∧ w'.cell? ⟨g6, 1, none⟩ = some (.slice (some ⟨bx, ox, none⟩) X.length cx) ∧ w'.cell? ⟨g2, 0, none⟩ = some (.int .i64 q) ∧ w'.cell? ⟨bx, ox + i * 2, none⟩ = some (.int .i64 x2) ∧ w'.cell? ⟨bx, ox + i * 2 + 1, none⟩ = some (.int .i64 x3))) (by kernel_rfl) ?_ (fun hHeld => ?_)
      · exact ⟨(K7.out.drew), ((K7.out.drew)).cell_lt z0, ((K7.out.drew)).cell_lt z1, ((K7.out.drew)).cell_lt z2, ((K7.out.drew)).cell_lt z3⟩
      replace HD := Lib.hid (own_kept0 HD.out (Kept.refl [] wr).drew)
      replace K7 := Lib.hid K7.out.drew
      generalize wr.drew = y0 at *
      refine tkYes (i := 0) (v := ?_) rfl rfl (by kernel_rfl) (by kernel_rfl) (by kernel_rfl) (fun _ _ _ h => h) (by rfl) ?_ (by assumption) ?_
      rotate_left
      · (intro w' hSw; (try dsimp only at hSw); go_simp; try with_reducible rfl)
      try simp only [Act.put, List.setIfInBounds_toArray, List.set_cons_zero, List.set_cons_succ]
      refine tkYes (i := 1) (v := ?_) rfl rfl (by kernel_rfl) (by kernel_rfl) (by kernel_rfl) (fun _ _ _ h => h) (by rfl) ?_ (by assumption) ?_
      rotate_left
      · (intro w' hSw; (try dsimp only at hSw); go_simp; try with_reducible rfl)
      try simp only [Act.put, List.setIfInBounds_toArray, List.set_cons_zero, List.set_cons_succ]
      refine tkYes (i := 2) (v := ?_) rfl rfl (by kernel_rfl) (by kernel_rfl) (by kernel_rfl) (fun _ _ _ h => h) (by rfl) ?_ (by assumption) ?_
      rotate_left
      · (intro w' hSw; (try dsimp only at hSw); go_simp; try with_reducible rfl)
      try simp only [Act.put, List.setIfInBounds_toArray, List.set_cons_zero, List.set_cons_succ]
      refine tkYes (i := 3) (v := ?_) rfl rfl (by kernel_rfl) (by kernel_rfl) (by kernel_rfl) (fun _ _ _ h => h) (by rfl) ?_ (by assumption) ?_
      rotate_left
      · (intro w' hSw; (try dsimp only at hSw); go_simp; try with_reducible rfl)
      try simp only [Act.put, List.setIfInBounds_toArray, List.set_cons_zero, List.set_cons_succ]
      refine tkYes (i := 4) (v := .pointer (some ⟨bx, ox + i * 2, none⟩)) rfl rfl (by kernel_rfl) (by kernel_rfl) (by kernel_rfl) (fun _ _ _ h => h) (by rfl) ?_ (by assumption) ?_
      skip
      · (intro w' hSw; (try dsimp only at hSw); go_simp; first | done | (simp; done) | (intro hbad; omega) | (rw [if_pos (by omega)]; simp; done) | rfl)
      try simp only [Act.put, List.setIfInBounds_toArray, List.set_cons_zero, List.set_cons_succ]
      refine tkYes (i := 5) (v := ?_) rfl rfl (by kernel_rfl) (by kernel_rfl) (by kernel_rfl) (fun _ _ _ h => h) (by rfl) ?_ (by assumption) ?_
      rotate_left
      · (intro w' hSw; (try dsimp only at hSw); go_simp; try with_reducible rfl)
      try simp only [Act.put, List.setIfInBounds_toArray, List.set_cons_zero, List.set_cons_succ]
      refine tkYes (i := 6) (v := ?_) rfl rfl (by kernel_rfl) (by kernel_rfl) (by kernel_rfl) (fun _ _ _ h => h) (by rfl) ?_ (by assumption) ?_
      rotate_left
      · (intro w' hSw; (try dsimp only at hSw); go_simp; try with_reducible rfl)
      try simp only [Act.put, List.setIfInBounds_toArray, List.set_cons_zero, List.set_cons_succ]
      refine tkYes (i := 7) (v := ?_) rfl rfl (by kernel_rfl) (by kernel_rfl) (by kernel_rfl) (fun _ _ _ h => h) (by rfl) ?_ (by assumption) ?_
      rotate_left
      · (intro w' hSw; (try dsimp only at hSw); go_simp; try with_reducible rfl)
      try simp only [Act.put, List.setIfInBounds_toArray, List.set_cons_zero, List.set_cons_succ]
      refine tkYes (i := 8) (v := ?_) rfl rfl (by kernel_rfl) (by kernel_rfl) (by kernel_rfl) (fun _ _ _ h => h) (by rfl) ?_ (by assumption) ?_
      rotate_left
      · (intro w' hSw; (try dsimp only at hSw); go_simp; try with_reducible rfl)
      try simp only [Act.put, List.setIfInBounds_toArray, List.set_cons_zero, List.set_cons_succ]
      refine tkYes (i := 9) (v := ?_) rfl rfl (by kernel_rfl) (by kernel_rfl) (by kernel_rfl) (fun _ _ _ h => h) (by rfl) ?_ (by assumption) ?_
      rotate_left
      · (intro w' hSw; (try dsimp only at hSw); go_simp; try with_reducible rfl)
      try simp only [Act.put, List.setIfInBounds_toArray, List.set_cons_zero, List.set_cons_succ]
      refine tkYes (i := 10) (v := ?_) rfl rfl (by kernel_rfl) (by kernel_rfl) (by kernel_rfl) (fun _ _ _ h => h) (by rfl) ?_ (by assumption) ?_
      rotate_left
      · (intro w' hSw; (try dsimp only at hSw); go_simp; try with_reducible rfl)
      try simp only [Act.put, List.setIfInBounds_toArray, List.set_cons_zero, List.set_cons_succ]
      refine tkYes (i := 11) (v := ?_) rfl rfl (by kernel_rfl) (by kernel_rfl) (by kernel_rfl) (fun _ _ _ h => h) (by rfl) ?_ (by assumption) ?_
      rotate_left
      · (intro w' hSw; (try dsimp only at hSw); go_simp; try with_reducible rfl)
      try simp only [Act.put, List.setIfInBounds_toArray, List.set_cons_zero, List.set_cons_succ]
      refine tkYes (i := 12) (v := .pointer (some ⟨bx, ox + i * 2, none⟩)) rfl rfl (by kernel_rfl) (by kernel_rfl) (by kernel_rfl) (fun _ _ _ h => h) (by rfl) ?_ (by assumption) ?_
      skip
      · (intro w' hSw; (try dsimp only at hSw); go_simp; first | done | (simp; done) | (intro hbad; omega) | (rw [if_pos (by omega)]; simp; done) | rfl)
      try simp only [Act.put, List.setIfInBounds_toArray, List.set_cons_zero, List.set_cons_succ]
      refine tkYes (i := 13) (v := ?_) rfl rfl (by kernel_rfl) (by kernel_rfl) (by kernel_rfl) (fun _ _ _ h => h) (by rfl) ?_ (by assumption) ?_
      rotate_left
      · (intro w' hSw; (try dsimp only at hSw); go_simp; try with_reducible rfl)
      try simp only [Act.put, List.setIfInBounds_toArray, List.set_cons_zero, List.set_cons_succ]
      refine tkYes (i := 14) (v := ?_) rfl rfl (by kernel_rfl) (by kernel_rfl) (by kernel_rfl) (fun _ _ _ h => h) (by rfl) ?_ (by assumption) ?_
      rotate_left
      · (intro w' hSw; (try dsimp only at hSw); go_simp; try with_reducible rfl)
      try simp only [Act.put, List.setIfInBounds_toArray, List.set_cons_zero, List.set_cons_succ]
      refine wpAnyH_ready (rs := [15]) (by kernel_rfl) (by simp) ?_
      refine AllReadyH.cons rfl (fun K hK => ?_) AllReadyH.nil
      go_simp
      refine (value_any q x3 HRQ.out _).mono ?_
      rintro _ y1 ⟨rfl, hy1⟩
      subst hy1
      go_wp2_with fail
      refine hK.out _ _ ?_ (fun hHeld => ?_)
      · exact ⟨K7.out, (K7.out).cell_lt z0, (K7.out).cell_lt z1, (K7.out).cell_lt z2, (K7.out).cell_lt z3⟩
      clear hK K
      try simp only [Act.put, List.setIfInBounds_toArray, List.set_cons_zero, List.set_cons_succ]
      refine tkYes (i := 16) (v := ?_) rfl rfl (by kernel_rfl) (by kernel_rfl) (by kernel_rfl) (fun _ _ _ h => h) (by rfl) ?_ (by assumption) ?_
      rotate_left
      · (intro w' hSw; (try dsimp only at hSw); go_simp; try with_reducible rfl)
      try simp only [Act.put, List.setIfInBounds_toArray, List.set_cons_zero, List.set_cons_succ]
      refine wpAnyH_ready (rs := [17]) (by kernel_rfl) (by simp) ?_
      refine AllReadyH.cons rfl (fun K hK => ?_) AllReadyH.nil
      go_simp
      have HN := Lib.hid (Blk.new y1 38 (itV (0, x2, valP q x3)))
      replace HD := Lib.hid (HD.out.alloc (.cells (itV (0, x2, valP q x3)).toArray 38))
      replace K7 := Lib.hid (K7.out.alloc (.cells (itV (0, x2, valP q x3)).toArray 38))
      generalize y1.alloc (.cells (itV (0, x2, valP q x3)).toArray 38) = y2 at *
      generalize y1.heap.size = gn at HN ⊢
      refine hK.out _ _ ?_ (fun hHeld => ?_)
      · exact ⟨K7.out, (K7.out).cell_lt z0, (K7.out).cell_lt z1, (K7.out).cell_lt z2, (K7.out).cell_lt z3⟩
      clear hK K
      try simp only [Act.put, List.setIfInBounds_toArray, List.set_cons_zero, List.set_cons_succ]
      refine wpAnyH_ready (rs := [18]) (by kernel_rfl) (by simp) ?_
      refine AllReadyH.cons rfl (fun K hK => ?_) AllReadyH.nil
      refine step_app _ rfl (.tmp 38) (.tmp 55) _ rfl 38 (.agg #[.int .i64 0, .int .i64 0]) 2 16 Tryz.underlying27 infoItem rfl (by decide) w7.heap.size (.slice A7 i c7) i _ rfl HD.out (some ⟨_, 0, none⟩) 1 1 (itV (0, x2, valP q x3)) rfl rfl (Reads.of_blk HN.out (fun _ _ h => h)) (by simp [Value.oneCell']) (by omega) (by unfold maxLen; omega) K7.out.size ?_
      intro va wa howna hka hba
      have HOa := Lib.hid howna
      replace K7 := Lib.hid (K7.out.app hka HD.out)
      clear hka hba howna HN
      obtain ⟨A8, c8, rfl⟩ := own_n HOa.out
      go_simp
      refine hK.out _ _ ?_ (fun hHeld => ?_)
      · exact ⟨K7.out, (K7.out).cell_lt z0, (K7.out).cell_lt z1, (K7.out).cell_lt z2, (K7.out).cell_lt z3⟩
      clear hK K
      try simp only [Act.put, List.setIfInBounds_toArray, List.set_cons_zero, List.set_cons_succ]
      refine tkYes (i := 19) (v := ?_) rfl rfl (by kernel_rfl) (by kernel_rfl) (by kernel_rfl) (fun _ _ _ h => h) (by rfl) ?_ (by assumption) ?_
      rotate_left
      · (intro w' hSw; (try dsimp only at hSw); go_simp; try with_reducible rfl)
      try simp only [Act.put, List.setIfInBounds_toArray, List.set_cons_zero, List.set_cons_succ]
      refine wpAnyH_done (by kernel_rfl) ?_ _
      clear z0 z1 z2 z3
      go_wp2_with fail
      go_roundw
      case rel =>
        refine ⟨i + 1, by omega, by go_num, Lib.hid ?_, K7⟩
        have := HOa.out
        rw [HTK.out, List.flatMap_append]
        simpa [valE] using this
      case measure => simp [intOf]; omega
    · obtain rfl : i = X.length := by omega
      rw [List.take_length] at HO
      have f6 := H6l.out.frozen 1
      have l6 := H6l.out.lt
      have HXO0 := HO0
      have HD := HO0
      go_upto_region 11 with (fail)
      clear zc f6 l6
      have ko := (Kept.refl [g6] wr).setCell (p := ⟨g6, 1, none⟩) (.inl (by simp)) (.slice A7 X.length c7)
      have HXO := Lib.hid (own_kept (own_base HO.out K0.out.size) (ko) (fun u hu => by simp; rintro rfl; exact own_ne_blk HO.out H6l.out (by decide) hu))
      have H6 := Lib.hid (H6l.out.set 1 (.slice A7 X.length c7))
      simp only [List.set_cons_zero, List.set_cons_succ] at H6
      have fo : KeptB w.heap.size [35] wr (wr.setCell ⟨g6, 1, none⟩ (.slice A7 X.length c7)) := (KeptB.refl _ _ wr).step ko (fun u hu => by simp at hu; subst hu; exact ⟨HG6.out, _, _, _, H6l.out, by simp⟩)
      replace HT := Lib.hid ((HT.out.kept K7.out (by simp)).keptB fo (by decide))
      replace H5 := Lib.hid ((H5.out.kept K7.out (by simp)).keptB fo (by decide))
      replace HMA := Lib.hid ((HMA.out.kept0 K7.out).keptB fo (by decide) (by decide))
      replace HMB := Lib.hid ((HMB.out.kept0 K7.out).keptB fo (by decide) (by decide))
      replace K0 := Lib.hid ((K0.out.trans K7.out).thenB fo (Nat.le_refl _))
      clear ko fo K7 HO H6l HXO0 HD
      generalize wr.setCell ⟨g6, 1, none⟩ (.slice A7 X.length c7) = ws at *
      have HDK := Lib.hid (dn_ok HXK.out)
      have HDV := Lib.hid (dn_vec HDK.out HXV.out)
      have HYK := Lib.hid (items_ok q (bitsP (atsP X)) (valsP j X) LB (n := k) (by omega))
      have HDK2 := Lib.hid (dn_ok HYK.out)
      have HYV := Lib.hid (items_val (n := k) HDK.out.lt HDK.out.len HDV.out HVB.out)
      have HDV2 := Lib.hid (dn_vec HDK2.out HYV.out)
      have HOO := Lib.hid (ones_okM (n := n) (m := j) (by omega) (by omega))
      have HOAB := Lib.hid (show MtOkM n j (multR q LA LB (onesL n j)) from nzL_ok (cells_okM (k := k) HOO.out))
      have HVAB := Lib.hid (mult_ok (LM := onesL n j) HVA.out HVB.out)
      have HX2 := Lib.hid (assoc_plain HRQ.out (n := n) (by omega) HOA.out HOB.out HVA.out HVB.out HDK.out HXV.out HDK2.out)
      obtain ⟨AB, hAB⟩ : ∃ AB, AB = multR q LA LB (onesL n j) := ⟨_, rfl⟩
      rw [← hAB] at HOAB HVAB HX2
      have HABE := Lib.hid hAB
      clear hAB
      obtain ⟨Y, hY⟩ : ∃ Y, Y = itemsR q (sumsR q (bitsP (atsP X)) (valsP j X) LB (askN k (fun _ => false) true)) := ⟨_, rfl⟩
      rw [← hY] at HYK HDK2 HYV HDV2 HX2
      have HY1 := Lib.hid hY
      clear hY
      have HXAK := Lib.hid (items_ok q (bitsP (atsP X)) (valsP j X) AB (n := n) (by omega))
      obtain ⟨XA, hXA⟩ : ∃ XA, XA = itemsR q (sumsR q (bitsP (atsP X)) (valsP j X) AB (askN n (fun _ => false) true)) := ⟨_, rfl⟩
      rw [← hXA] at HX2 HXAK
      have HX1 := Lib.hid hXA
      clear hXA
      obtain ⟨Ax, hAx⟩ : ∃ Ax, Ax = A7 := ⟨_, rfl⟩
      obtain ⟨cx, hcx⟩ : ∃ u, u = c7 := ⟨_, rfl⟩
      subst hAx hcx
      go_upto_region 11 with (fail)
      have z0 := HT.out.cell 0
      have z1 := H5.out.cell 0
      have z2 := H5.out.cell 6
      simp only [List.getElem?_cons_zero, List.getElem?_cons_succ] at z0 z1 z2
      have R0 := Lib.hid (show ws.rangeAt g5 0 [.int .i64 n, .int .i64 k, .slice (some ⟨a1, 0, none⟩) (n + 1) a2, .slice A3 LA.length a4, .slice A5 LA.length a6] from fun u hu => by
        intro h
        rw [Nat.zero_add, H5.out.cell]
        match u, h with
        | 0, h => exact h
        | 1, h => exact h
        | 2, h => exact h
        | 3, h => exact h
        | 4, h => exact h)
      have R5 := Lib.hid (show ws.rangeAt g5 5 [.int .i64 k, .int .i64 j, .slice (some ⟨b1, 0, none⟩) (k + 1) b2, .slice B3 LB.length b4, .slice B5 LB.length b6] from fun u hu => by
        intro h
        rw [H5.out.cell]
        match u, h with
        | 0, h => exact h
        | 1, h => exact h
        | 2, h => exact h
        | 3, h => exact h
        | 4, h => exact h)
      have K1 := Lib.hid (Kept.refl [] ws)
      go_cut [9, 10] (fun v e wx => ∃ gq p1 p2 P3 p4 P5 p6, v = .pointer (some ⟨gq, 0, none⟩) ∧ e = .int .i64 0 ∧ Hid (Blk wx gq 31 [.int .i64 n, .int .i64 j, .slice (some ⟨p1, 0, none⟩) (n + 1) p2, .slice P3 AB.length p4, .slice P5 AB.length p6]) ∧ Hid (ws.heap.size ≤ gq) ∧ Hid (MtAt wx w.heap.size (.slice (some ⟨p1, 0, none⟩) (n + 1) p2) (.slice P3 AB.length p4) (.slice P5 AB.length p6) n AB) ∧ Hid (Kept [] ws wx))
      case first =>
        refine wp_region_held_drew (S := (fun w' => Kept [] ws w' ∧ w'.cell? ⟨g2, 0, none⟩ = some (.int .i64 q) ∧ w'.cell? ⟨g5, 0, none⟩ = some (.int .i64 n) ∧ w'.cell? ⟨g5, 6, none⟩ = some (.int .i64 j))) (by kernel_rfl) ?_ (fun hHeld => ?_)
        · exact ⟨(K1.out.drew), ((K1.out.drew)).cell_lt z0, ((K1.out.drew)).cell_lt z1, ((K1.out.drew)).cell_lt z2⟩
        replace K1 := Lib.hid K1.out.drew
        generalize ws.drew = wd0 at *
        refine tkYes (i := 0) (v := ?_) rfl rfl (by kernel_rfl) (by kernel_rfl) (by kernel_rfl) (fun _ _ _ h => h) (by rfl) ?_ (by assumption) ?_
        rotate_left
        · (intro w' hSw; (try dsimp only at hSw); go_simp; try with_reducible rfl)
        try simp only [Act.put, List.setIfInBounds_toArray, List.set_cons_zero, List.set_cons_succ]
        refine tkYes (i := 1) (v := ?_) rfl rfl (by kernel_rfl) (by kernel_rfl) (by kernel_rfl) (fun _ _ _ h => h) (by rfl) ?_ (by assumption) ?_
        rotate_left
        · (intro w' hSw; (try dsimp only at hSw); go_simp; try with_reducible rfl)
        try simp only [Act.put, List.setIfInBounds_toArray, List.set_cons_zero, List.set_cons_succ]
        refine tkYes (i := 2) (v := ?_) rfl rfl (by kernel_rfl) (by kernel_rfl) (by kernel_rfl) (fun _ _ _ h => h) (by rfl) ?_ (by assumption) ?_
        rotate_left
        · (intro w' hSw; (try dsimp only at hSw); go_simp; try with_reducible rfl)
        try simp only [Act.put, List.setIfInBounds_toArray, List.set_cons_zero, List.set_cons_succ]
        refine tkLoad (i := 3) 31 (.tmp 62) g5 (0) [.int .i64 n, .int .i64 k, .slice (some ⟨a1, 0, none⟩) (n + 1) a2, .slice A3 LA.length a4, .slice A5 LA.length a6] _ rfl rfl (by kernel_rfl) (by kernel_rfl) (by kernel_rfl) (fun _ _ _ h => h) (by rfl) rfl rfl (fun w hw => fun j u hu => Kept.cell_lt hw.1 (R0.out j u hu)) Tryz.underlying31 rfl infoRows (by assumption) ?_
        try simp only [Act.put, List.setIfInBounds_toArray, List.set_cons_zero, List.set_cons_succ]
        refine tkYes (i := 4) (v := .pointer (some ⟨g5, 5, none⟩)) rfl rfl (by kernel_rfl) (by kernel_rfl) (by kernel_rfl) (fun _ _ _ h => h) (by rfl) ?_ (by assumption) ?_
        skip
        · (intro w' hSw; (try dsimp only at hSw); go_simp; first | done | (simp; done) | (intro hbad; omega) | (rw [if_pos (by omega)]; simp; done) | rfl)
        try simp only [Act.put, List.setIfInBounds_toArray, List.set_cons_zero, List.set_cons_succ]
        refine tkLoad (i := 5) 31 (.tmp 64) g5 (5) [.int .i64 k, .int .i64 j, .slice (some ⟨b1, 0, none⟩) (k + 1) b2, .slice B3 LB.length b4, .slice B5 LB.length b6] _ rfl rfl (by kernel_rfl) (by kernel_rfl) (by kernel_rfl) (fun _ _ _ h => h) (by rfl) rfl rfl (fun w hw => fun j u hu => Kept.cell_lt hw.1 (R5.out j u hu)) Tryz.underlying31 rfl infoRows (by assumption) ?_
        try simp only [Act.put, List.setIfInBounds_toArray, List.set_cons_zero, List.set_cons_succ]
        refine tkYes (i := 6) (v := ?_) rfl rfl (by kernel_rfl) (by kernel_rfl) (by kernel_rfl) (fun _ _ _ h => h) (by rfl) ?_ (by assumption) ?_
        rotate_left
        · (intro w' hSw; (try dsimp only at hSw); go_simp; try with_reducible rfl)
        try simp only [Act.put, List.setIfInBounds_toArray, List.set_cons_zero, List.set_cons_succ]
        refine tkYes (i := 7) (v := ?_) rfl rfl (by kernel_rfl) (by kernel_rfl) (by kernel_rfl) (fun _ _ _ h => h) (by rfl) ?_ (by assumption) ?_
        rotate_left
        · (intro w' hSw; (try dsimp only at hSw); go_simp; try with_reducible rfl)
        try simp only [Act.put, List.setIfInBounds_toArray, List.set_cons_zero, List.set_cons_succ]
        refine tkYes (i := 8) (v := ?_) rfl rfl (by kernel_rfl) (by kernel_rfl) (by kernel_rfl) (fun _ _ _ h => h) (by rfl) ?_ (by assumption) ?_
        rotate_left
        · (intro w' hSw; (try dsimp only at hSw); go_simp; try with_reducible rfl)
        try simp only [Act.put, List.setIfInBounds_toArray, List.set_cons_zero, List.set_cons_succ]
        refine tkYes (i := 9) (v := .pointer (some ⟨g5, 5, none⟩)) rfl rfl (by kernel_rfl) (by kernel_rfl) (by kernel_rfl) (fun _ _ _ h => h) (by rfl) ?_ (by assumption) ?_
        skip
        · (intro w' hSw; (try dsimp only at hSw); go_simp; first | done | (simp; done) | (intro hbad; omega) | (rw [if_pos (by omega)]; simp; done) | rfl)
        try simp only [Act.put, List.setIfInBounds_toArray, List.set_cons_zero, List.set_cons_succ]
        refine tkYes (i := 10) (v := ?_) rfl rfl (by kernel_rfl) (by kernel_rfl) (by kernel_rfl) (fun _ _ _ h => h) (by rfl) ?_ (by assumption) ?_
        rotate_left
        · (intro w' hSw; (try dsimp only at hSw); go_simp; try with_reducible rfl)
        try simp only [Act.put, List.setIfInBounds_toArray, List.set_cons_zero, List.set_cons_succ]
        refine tkYes (i := 11) (v := ?_) rfl rfl (by kernel_rfl) (by kernel_rfl) (by kernel_rfl) (fun _ _ _ h => h) (by rfl) ?_ (by assumption) ?_
        rotate_left
        · (intro w' hSw; (try dsimp only at hSw); go_simp; try with_reducible rfl)
        try simp only [Act.put, List.setIfInBounds_toArray, List.set_cons_zero, List.set_cons_succ]
        refine wpAnyH_ready (rs := [12, 17]) (by kernel_rfl) (by simp) ?_
        refine AllReadyH.cons rfl (fun K hK => ?_) (AllReadyH.cons rfl (fun K hK => ?_) AllReadyH.nil)
        · go_simp
          refine (ones_any n j (by omega) (by omega) _).mono ?_
          rintro _ wd1 ⟨o1, o2, o3, rfl, hmt, hk⟩
          have HMO := Lib.hid hmt
          clear hmt
          replace K1 := Lib.hid (K1.out.trans hk)
          clear hk
          go_wp2_with fail
          refine hK.out _ _ ?_ (fun hHeld => ?_)
          · exact ⟨K1.out, (K1.out).cell_lt z0, (K1.out).cell_lt z1, (K1.out).cell_lt z2⟩
          clear hK K
          try simp only [Act.put, List.setIfInBounds_toArray, List.set_cons_zero, List.set_cons_succ]
          refine wpAnyH_ready (rs := [13, 17]) (by kernel_rfl) (by simp) ?_
          refine AllReadyH.cons rfl (fun K hK => ?_) (AllReadyH.cons rfl (fun K hK => ?_) AllReadyH.nil)
          · go_simp
            refine (gTimes_any q HRV.out n k j w.heap.size w.heap.size _ LA LB (onesL n j) _ _ _ _ _ _ o1 o2 o3 _ HOA.out (HMA.out.kept0 K1.out) HOB.out (HMB.out.kept0 K1.out) HOO.out HMO.out HVA.out HVB.out).mono ?_
            rintro _ wd2 ⟨v, rfl, v1, v2, v3, hqq, hmt, hk⟩
            injection hqq with hqq
            subst hqq
            have HMT := Lib.hid (hmt.le (Nat.le_trans K0.out.size K1.out.size))
            rw [← HABE.out] at HMT
            clear hmt
            replace K1 := Lib.hid (K1.out.trans hk)
            replace HMO := Lib.hid (HMO.out.kept0 hk)
            clear hk
            obtain ⟨p1, p2, P3, p4, P5, p6, rfl, rfl, rfl, _, _⟩ := HMT.out.form
            go_wp2_with fail
            refine hK.out _ _ ?_ (fun hHeld => ?_)
            · exact ⟨K1.out, (K1.out).cell_lt z0, (K1.out).cell_lt z1, (K1.out).cell_lt z2⟩
            clear hK K
            try simp only [Act.put, List.setIfInBounds_toArray, List.set_cons_zero, List.set_cons_succ]
            refine tkYes (i := 14) (v := ?_) rfl rfl (by kernel_rfl) (by kernel_rfl) (by kernel_rfl) (fun _ _ _ h => h) (by rfl) ?_ (by assumption) ?_
            rotate_left
            · (intro w' hSw; (try dsimp only at hSw); go_simp; try with_reducible rfl)
            try simp only [Act.put, List.setIfInBounds_toArray, List.set_cons_zero, List.set_cons_succ]
            refine tkYes (i := 15) (v := ?_) rfl rfl (by kernel_rfl) (by kernel_rfl) (by kernel_rfl) (fun _ _ _ h => h) (by rfl) ?_ (by assumption) ?_
            rotate_left
            · (intro w' hSw; (try dsimp only at hSw); go_simp; try with_reducible rfl)
            try simp only [Act.put, List.setIfInBounds_toArray, List.set_cons_zero, List.set_cons_succ]
            refine tkYes (i := 16) (v := ?_) rfl rfl (by kernel_rfl) (by kernel_rfl) (by kernel_rfl) (fun _ _ _ h => h) (by rfl) ?_ (by assumption) ?_
            rotate_left
            · (intro w' hSw; (try dsimp only at hSw); go_simp; try with_reducible rfl)
            try simp only [Act.put, List.setIfInBounds_toArray, List.set_cons_zero, List.set_cons_succ]
            refine wpAnyH_ready (rs := [17]) (by kernel_rfl) (by simp) ?_
            refine AllReadyH.cons rfl (fun K hK => ?_) AllReadyH.nil
            go_simp
            have HZ := Lib.hid (Blk.new wd2 31 [.int .i64 0, .int .i64 0, .slice none 0 0, .slice none 0 0, .slice none 0 0])
            have HGZ := Lib.hid K1.out.size
            replace K1 := Lib.hid (K1.out.trans ((Kept.refl [] wd2).alloc (.cells #[.int .i64 0, .int .i64 0, .slice none 0 0, .slice none 0 0, .slice none 0 0] 31)))
            replace HMO := Lib.hid (HMO.out.kept0 ((Kept.refl [] wd2).alloc (.cells #[.int .i64 0, .int .i64 0, .slice none 0 0, .slice none 0 0, .slice none 0 0] 31)))
            replace HMT := Lib.hid (HMT.out.kept0 ((Kept.refl [] wd2).alloc (.cells #[.int .i64 0, .int .i64 0, .slice none 0 0, .slice none 0 0, .slice none 0 0] 31)))
            generalize wd2.alloc (.cells #[.int .i64 0, .int .i64 0, .slice none 0 0, .slice none 0 0, .slice none 0 0] 31) = wd3 at *
            generalize wd2.heap.size = gq at HZ HGZ ⊢
            refine hK.out _ _ ?_ (fun hHeld => ?_)
            · exact ⟨K1.out, (K1.out).cell_lt z0, (K1.out).cell_lt z1, (K1.out).cell_lt z2⟩
            clear hK K
            try simp only [Act.put, List.setIfInBounds_toArray, List.set_cons_zero, List.set_cons_succ]
            refine wpAnyH_ready (rs := [18]) (by kernel_rfl) (by simp) ?_
            refine AllReadyH.cons rfl (fun K hK => ?_) AllReadyH.nil
            refine stpBlk rfl 31 (.tmp 9) (.tmp 74) rfl gq _ [.int .i64 n, .int .i64 j, .slice (some ⟨p1, 0, none⟩) (n + 1) p2, .slice P3 AB.length p4, .slice P5 AB.length p6] HZ.out rfl rfl rfl infoRows (by simp [Value.oneCell']) ?_
            intro w8 hb8 hk8
            have f8 : KeptB ws.heap.size [31] wd3 w8 := (KeptB.refl _ _ wd3).step (L := [gq]) hk8 (fun u hu => by simp at hu; subst hu; exact ⟨HGZ.out, _, _, _, HZ.out, by simp⟩)
            replace HMT := Lib.hid (HMT.out.keptB f8 (by decide) (by decide))
            replace HZ := Lib.hid hb8
            replace K1 := Lib.hid (K1.out.thenB f8 (Nat.le_refl _))
            clear f8 hk8 hb8
            go_simp
            refine hK.out _ _ ?_ (fun hHeld => ?_)
            · exact ⟨K1.out, (K1.out).cell_lt z0, (K1.out).cell_lt z1, (K1.out).cell_lt z2⟩
            clear hK K
            try simp only [Act.put, List.setIfInBounds_toArray, List.set_cons_zero, List.set_cons_succ]
            refine tkYes (i := 19) (v := ?_) rfl rfl (by kernel_rfl) (by kernel_rfl) (by kernel_rfl) (fun _ _ _ h => h) (by rfl) ?_ (by assumption) ?_
            rotate_left
            · (intro w' hSw; (try dsimp only at hSw); go_simp; try with_reducible rfl)
            try simp only [Act.put, List.setIfInBounds_toArray, List.set_cons_zero, List.set_cons_succ]
            refine wpAnyH_done (by kernel_rfl) ?_ _
            go_wp2_with fail
            go_meet
            exact ⟨gq, p1, p2, P3, p4, P5, p6, rfl, rfl, HZ, HGZ, HMT, K1⟩
          · go_simp
            have HZ := Lib.hid (Blk.new wd1 31 [.int .i64 0, .int .i64 0, .slice none 0 0, .slice none 0 0, .slice none 0 0])
            have HGZ := Lib.hid K1.out.size
            replace K1 := Lib.hid (K1.out.trans ((Kept.refl [] wd1).alloc (.cells #[.int .i64 0, .int .i64 0, .slice none 0 0, .slice none 0 0, .slice none 0 0] 31)))
            replace HMO := Lib.hid (HMO.out.kept0 ((Kept.refl [] wd1).alloc (.cells #[.int .i64 0, .int .i64 0, .slice none 0 0, .slice none 0 0, .slice none 0 0] 31)))
            generalize wd1.alloc (.cells #[.int .i64 0, .int .i64 0, .slice none 0 0, .slice none 0 0, .slice none 0 0] 31) = wd4 at *
            generalize wd1.heap.size = gq at HZ HGZ ⊢
            refine hK.out _ _ ?_ (fun hHeld => ?_)
            · exact ⟨K1.out, (K1.out).cell_lt z0, (K1.out).cell_lt z1, (K1.out).cell_lt z2⟩
            clear hK K
            try simp only [Act.put, List.setIfInBounds_toArray, List.set_cons_zero, List.set_cons_succ]
            refine wpAnyH_ready (rs := [13]) (by kernel_rfl) (by simp) ?_
            refine AllReadyH.cons rfl (fun K hK => ?_) AllReadyH.nil
            go_simp
            refine (gTimes_any q HRV.out n k j w.heap.size w.heap.size _ LA LB (onesL n j) _ _ _ _ _ _ o1 o2 o3 _ HOA.out (HMA.out.kept0 K1.out) HOB.out (HMB.out.kept0 K1.out) HOO.out HMO.out HVA.out HVB.out).mono ?_
            rintro _ wd5 ⟨v, rfl, v1, v2, v3, hqq, hmt, hk⟩
            injection hqq with hqq
            subst hqq
            have HMT := Lib.hid (hmt.le (Nat.le_trans K0.out.size K1.out.size))
            rw [← HABE.out] at HMT
            clear hmt
            replace K1 := Lib.hid (K1.out.trans hk)
            replace HMO := Lib.hid (HMO.out.kept0 hk)
            replace HZ := Lib.hid (HZ.out.kept hk (by simp))
            clear hk
            obtain ⟨p1, p2, P3, p4, P5, p6, rfl, rfl, rfl, _, _⟩ := HMT.out.form
            go_wp2_with fail
            refine hK.out _ _ ?_ (fun hHeld => ?_)
            · exact ⟨K1.out, (K1.out).cell_lt z0, (K1.out).cell_lt z1, (K1.out).cell_lt z2⟩
            clear hK K
            try simp only [Act.put, List.setIfInBounds_toArray, List.set_cons_zero, List.set_cons_succ]
            refine tkYes (i := 14) (v := ?_) rfl rfl (by kernel_rfl) (by kernel_rfl) (by kernel_rfl) (fun _ _ _ h => h) (by rfl) ?_ (by assumption) ?_
            rotate_left
            · (intro w' hSw; (try dsimp only at hSw); go_simp; try with_reducible rfl)
            try simp only [Act.put, List.setIfInBounds_toArray, List.set_cons_zero, List.set_cons_succ]
            refine tkYes (i := 15) (v := ?_) rfl rfl (by kernel_rfl) (by kernel_rfl) (by kernel_rfl) (fun _ _ _ h => h) (by rfl) ?_ (by assumption) ?_
            rotate_left
            · (intro w' hSw; (try dsimp only at hSw); go_simp; try with_reducible rfl)
            try simp only [Act.put, List.setIfInBounds_toArray, List.set_cons_zero, List.set_cons_succ]
            refine tkYes (i := 16) (v := ?_) rfl rfl (by kernel_rfl) (by kernel_rfl) (by kernel_rfl) (fun _ _ _ h => h) (by rfl) ?_ (by assumption) ?_
            rotate_left
            · (intro w' hSw; (try dsimp only at hSw); go_simp; try with_reducible rfl)
            try simp only [Act.put, List.setIfInBounds_toArray, List.set_cons_zero, List.set_cons_succ]
            refine wpAnyH_ready (rs := [18]) (by kernel_rfl) (by simp) ?_
            refine AllReadyH.cons rfl (fun K hK => ?_) AllReadyH.nil
            refine stpBlk rfl 31 (.tmp 9) (.tmp 74) rfl gq _ [.int .i64 n, .int .i64 j, .slice (some ⟨p1, 0, none⟩) (n + 1) p2, .slice P3 AB.length p4, .slice P5 AB.length p6] HZ.out rfl rfl rfl infoRows (by simp [Value.oneCell']) ?_
            intro w8 hb8 hk8
            have f8 : KeptB ws.heap.size [31] wd5 w8 := (KeptB.refl _ _ wd5).step (L := [gq]) hk8 (fun u hu => by simp at hu; subst hu; exact ⟨HGZ.out, _, _, _, HZ.out, by simp⟩)
            replace HMT := Lib.hid (HMT.out.keptB f8 (by decide) (by decide))
            replace HZ := Lib.hid hb8
            replace K1 := Lib.hid (K1.out.thenB f8 (Nat.le_refl _))
            clear f8 hk8 hb8
            go_simp
            refine hK.out _ _ ?_ (fun hHeld => ?_)
            · exact ⟨K1.out, (K1.out).cell_lt z0, (K1.out).cell_lt z1, (K1.out).cell_lt z2⟩
            clear hK K
            try simp only [Act.put, List.setIfInBounds_toArray, List.set_cons_zero, List.set_cons_succ]
            refine tkYes (i := 19) (v := ?_) rfl rfl (by kernel_rfl) (by kernel_rfl) (by kernel_rfl) (fun _ _ _ h => h) (by rfl) ?_ (by assumption) ?_
            rotate_left
            · (intro w' hSw; (try dsimp only at hSw); go_simp; try with_reducible rfl)
            try simp only [Act.put, List.setIfInBounds_toArray, List.set_cons_zero, List.set_cons_succ]
            refine wpAnyH_done (by kernel_rfl) ?_ _
            go_wp2_with fail
            go_meet
            exact ⟨gq, p1, p2, P3, p4, P5, p6, rfl, rfl, HZ, HGZ, HMT, K1⟩
        · go_simp
          have HZ := Lib.hid (Blk.new wd0 31 [.int .i64 0, .int .i64 0, .slice none 0 0, .slice none 0 0, .slice none 0 0])
          have HGZ := Lib.hid K1.out.size
          replace K1 := Lib.hid (K1.out.trans ((Kept.refl [] wd0).alloc (.cells #[.int .i64 0, .int .i64 0, .slice none 0 0, .slice none 0 0, .slice none 0 0] 31)))
          generalize wd0.alloc (.cells #[.int .i64 0, .int .i64 0, .slice none 0 0, .slice none 0 0, .slice none 0 0] 31) = wd6 at *
          generalize wd0.heap.size = gq at HZ HGZ ⊢
          refine hK.out _ _ ?_ (fun hHeld => ?_)
          · exact ⟨K1.out, (K1.out).cell_lt z0, (K1.out).cell_lt z1, (K1.out).cell_lt z2⟩
          clear hK K
          try simp only [Act.put, List.setIfInBounds_toArray, List.set_cons_zero, List.set_cons_succ]
          refine wpAnyH_ready (rs := [12]) (by kernel_rfl) (by simp) ?_
          refine AllReadyH.cons rfl (fun K hK => ?_) AllReadyH.nil
          go_simp
          refine (ones_any n j (by omega) (by omega) _).mono ?_
          rintro _ wd7 ⟨o1, o2, o3, rfl, hmt, hk⟩
          have HMO := Lib.hid hmt
          clear hmt
          replace K1 := Lib.hid (K1.out.trans hk)
          replace HZ := Lib.hid (HZ.out.kept hk (by simp))
          clear hk
          go_wp2_with fail
          refine hK.out _ _ ?_ (fun hHeld => ?_)
          · exact ⟨K1.out, (K1.out).cell_lt z0, (K1.out).cell_lt z1, (K1.out).cell_lt z2⟩
          clear hK K
          try simp only [Act.put, List.setIfInBounds_toArray, List.set_cons_zero, List.set_cons_succ]
          refine wpAnyH_ready (rs := [13]) (by kernel_rfl) (by simp) ?_
          refine AllReadyH.cons rfl (fun K hK => ?_) AllReadyH.nil
          go_simp
          refine (gTimes_any q HRV.out n k j w.heap.size w.heap.size _ LA LB (onesL n j) _ _ _ _ _ _ o1 o2 o3 _ HOA.out (HMA.out.kept0 K1.out) HOB.out (HMB.out.kept0 K1.out) HOO.out HMO.out HVA.out HVB.out).mono ?_
          rintro _ wd8 ⟨v, rfl, v1, v2, v3, hqq, hmt, hk⟩
          injection hqq with hqq
          subst hqq
          have HMT := Lib.hid (hmt.le (Nat.le_trans K0.out.size K1.out.size))
          rw [← HABE.out] at HMT
          clear hmt
          replace K1 := Lib.hid (K1.out.trans hk)
          replace HMO := Lib.hid (HMO.out.kept0 hk)
          replace HZ := Lib.hid (HZ.out.kept hk (by simp))
          clear hk
          obtain ⟨p1, p2, P3, p4, P5, p6, rfl, rfl, rfl, _, _⟩ := HMT.out.form
          go_wp2_with fail
          refine hK.out _ _ ?_ (fun hHeld => ?_)
          · exact ⟨K1.out, (K1.out).cell_lt z0, (K1.out).cell_lt z1, (K1.out).cell_lt z2⟩
          clear hK K
          try simp only [Act.put, List.setIfInBounds_toArray, List.set_cons_zero, List.set_cons_succ]
          refine tkYes (i := 14) (v := ?_) rfl rfl (by kernel_rfl) (by kernel_rfl) (by kernel_rfl) (fun _ _ _ h => h) (by rfl) ?_ (by assumption) ?_
          rotate_left
          · (intro w' hSw; (try dsimp only at hSw); go_simp; try with_reducible rfl)
          try simp only [Act.put, List.setIfInBounds_toArray, List.set_cons_zero, List.set_cons_succ]
          refine tkYes (i := 15) (v := ?_) rfl rfl (by kernel_rfl) (by kernel_rfl) (by kernel_rfl) (fun _ _ _ h => h) (by rfl) ?_ (by assumption) ?_
          rotate_left
          · (intro w' hSw; (try dsimp only at hSw); go_simp; try with_reducible rfl)
          try simp only [Act.put, List.setIfInBounds_toArray, List.set_cons_zero, List.set_cons_succ]
          refine tkYes (i := 16) (v := ?_) rfl rfl (by kernel_rfl) (by kernel_rfl) (by kernel_rfl) (fun _ _ _ h => h) (by rfl) ?_ (by assumption) ?_
          rotate_left
          · (intro w' hSw; (try dsimp only at hSw); go_simp; try with_reducible rfl)
          try simp only [Act.put, List.setIfInBounds_toArray, List.set_cons_zero, List.set_cons_succ]
          refine wpAnyH_ready (rs := [18]) (by kernel_rfl) (by simp) ?_
          refine AllReadyH.cons rfl (fun K hK => ?_) AllReadyH.nil
          refine stpBlk rfl 31 (.tmp 9) (.tmp 74) rfl gq _ [.int .i64 n, .int .i64 j, .slice (some ⟨p1, 0, none⟩) (n + 1) p2, .slice P3 AB.length p4, .slice P5 AB.length p6] HZ.out rfl rfl rfl infoRows (by simp [Value.oneCell']) ?_
          intro w8 hb8 hk8
          have f8 : KeptB ws.heap.size [31] wd8 w8 := (KeptB.refl _ _ wd8).step (L := [gq]) hk8 (fun u hu => by simp at hu; subst hu; exact ⟨HGZ.out, _, _, _, HZ.out, by simp⟩)
          replace HMT := Lib.hid (HMT.out.keptB f8 (by decide) (by decide))
          replace HZ := Lib.hid hb8
          replace K1 := Lib.hid (K1.out.thenB f8 (Nat.le_refl _))
          clear f8 hk8 hb8
          go_simp
          refine hK.out _ _ ?_ (fun hHeld => ?_)
          · exact ⟨K1.out, (K1.out).cell_lt z0, (K1.out).cell_lt z1, (K1.out).cell_lt z2⟩
          clear hK K
          try simp only [Act.put, List.setIfInBounds_toArray, List.set_cons_zero, List.set_cons_succ]
          refine tkYes (i := 19) (v := ?_) rfl rfl (by kernel_rfl) (by kernel_rfl) (by kernel_rfl) (fun _ _ _ h => h) (by rfl) ?_ (by assumption) ?_
          rotate_left
          · (intro w' hSw; (try dsimp only at hSw); go_simp; try with_reducible rfl)
          try simp only [Act.put, List.setIfInBounds_toArray, List.set_cons_zero, List.set_cons_succ]
          refine wpAnyH_done (by kernel_rfl) ?_ _
          go_wp2_with fail
          go_meet
          exact ⟨gq, p1, p2, P3, p4, P5, p6, rfl, rfl, HZ, HGZ, HMT, K1⟩
      case rest =>
      clear K1 z0 z1 z2
      clear R0 R5
      obtain ⟨g9, p1, p2, P3, p4, P5, p6, hv, he, H9, HG9, HMAB, K1⟩ := hcut
      subst hv he
      replace HT := Lib.hid (HT.out.kept K1.out (by simp))
      replace H5 := Lib.hid (H5.out.kept K1.out (by simp))
      replace H6 := Lib.hid (H6.out.kept K1.out (by simp))
      replace HXO := Lib.hid (own_kept0 HXO.out K1.out)
      replace HMA := Lib.hid (HMA.out.kept0 K1.out)
      replace HMB := Lib.hid (HMB.out.kept0 K1.out)
      replace K0 := Lib.hid (K0.out.trans K1.out)
      clear K1
      go_upto_region 12 with (fail)
      have z0 := HT.out.cell 0
      simp only [List.getElem?_cons_zero, List.getElem?_cons_succ] at z0
      have K1 := Lib.hid (Kept.refl [] wc)
      go_cut [11, 12] (fun v e wx => ∃ gq Ai ci, v = .pointer (some ⟨gq, 0, none⟩) ∧ e = .int .i64 0 ∧ Hid (Blk wx gq 35 [.int .i64 n, .slice Ai XA.length ci]) ∧ Hid (wc.heap.size ≤ gq) ∧ Hid (wx.ownsRow w.heap.size 38 2 (.slice Ai XA.length ci) XA.length (XA.flatMap itV)) ∧ Hid (Kept [] wc wx))
      case first =>
        refine wp_region_held_drew (S := (fun w' => Kept [] wc w' ∧ w'.cell? ⟨g2, 0, none⟩ = some (.int .i64 q))) (by kernel_rfl) ?_ (fun hHeld => ?_)
        · exact ⟨(K1.out.drew), ((K1.out.drew)).cell_lt z0⟩
        replace K1 := Lib.hid K1.out.drew
        generalize wc.drew = wd0 at *
        refine tkYes (i := 0) (v := ?_) rfl rfl (by kernel_rfl) (by kernel_rfl) (by kernel_rfl) (fun _ _ _ h => h) (by rfl) ?_ (by assumption) ?_
        rotate_left
        · (intro w' hSw; (try dsimp only at hSw); go_simp; try with_reducible rfl)
        try simp only [Act.put, List.setIfInBounds_toArray, List.set_cons_zero, List.set_cons_succ]
        refine tkYes (i := 1) (v := ?_) rfl rfl (by kernel_rfl) (by kernel_rfl) (by kernel_rfl) (fun _ _ _ h => h) (by rfl) ?_ (by assumption) ?_
        rotate_left
        · (intro w' hSw; (try dsimp only at hSw); go_simp; try with_reducible rfl)
        try simp only [Act.put, List.setIfInBounds_toArray, List.set_cons_zero, List.set_cons_succ]
        refine tkLoad (i := 2) 31 (.tmp 9) g9 (0) [.int .i64 n, .int .i64 j, .slice (some ⟨p1, 0, none⟩) (n + 1) p2, .slice P3 AB.length p4, .slice P5 AB.length p6] _ rfl rfl (by kernel_rfl) (by kernel_rfl) (by kernel_rfl) (fun _ _ _ h => h) (by rfl) rfl rfl (fun w hw => (H9.out.kept hw.1 (by simp)).cell2) Tryz.underlying31 rfl infoRows (by assumption) ?_
        try simp only [Act.put, List.setIfInBounds_toArray, List.set_cons_zero, List.set_cons_succ]
        refine tkLoad (i := 3) 35 (.tmp 6) g6 (0) [.int .i64 j, .slice Ax X.length cx] _ rfl rfl (by kernel_rfl) (by kernel_rfl) (by kernel_rfl) (fun _ _ _ h => h) (by rfl) rfl rfl (fun w hw => (H6.out.kept hw.1 (by simp)).cell2) Tryz.underlying35 rfl infoVec (by assumption) ?_
        try simp only [Act.put, List.setIfInBounds_toArray, List.set_cons_zero, List.set_cons_succ]
        refine wpAnyH_ready (rs := [4, 9]) (by kernel_rfl) (by simp) ?_
        refine AllReadyH.cons rfl (fun K hK => ?_) (AllReadyH.cons rfl (fun K hK => ?_) AllReadyH.nil)
        · go_simp
          refine (refOf10_any j (by omega) X Ax cx _ HXK.out ((Reads.of_own HXO.out).kept0 K1.out)).mono ?_
          rintro _ wd1 ⟨vh, vv, rfl, hdn, hk⟩
          have HDN := Lib.hid hdn
          clear hdn
          replace K1 := Lib.hid (K1.out.trans hk)
          clear hk
          go_wp2_with fail
          refine hK.out _ _ ?_ (fun hHeld => ?_)
          · exact ⟨K1.out, (K1.out).cell_lt z0⟩
          clear hK K
          try simp only [Act.put, List.setIfInBounds_toArray, List.set_cons_zero, List.set_cons_succ]
          refine wpAnyH_ready (rs := [5, 9]) (by kernel_rfl) (by simp) ?_
          refine AllReadyH.cons rfl (fun K hK => ?_) (AllReadyH.cons rfl (fun K hK => ?_) AllReadyH.nil)
          · go_simp
            refine (pTimes_any q HRV.out n j j _ w.heap.size _ AB X (valsP j X) _ _ _ vh vv _ (by omega) rfl HOAB.out (HMAB.out.kept0 K1.out) HDK.out HDN.out HVAB.out HDV.out (by omega)).mono ?_
            rintro _ wd2 ⟨v, rfl, v2, hqq, ho, hk⟩
            injection hqq with hqq
            subst hqq
            have HIT := Lib.hid (own_base ho (Nat.le_trans K0.out.size K1.out.size))
            clear ho
            replace K1 := Lib.hid (K1.out.trans hk)
            replace HDN := Lib.hid (HDN.out.kept0 hk)
            clear hk
            rw [← HX1.out] at HIT
            obtain ⟨Ai, ci, rfl⟩ := own_n HIT.out
            go_wp2_with fail
            refine hK.out _ _ ?_ (fun hHeld => ?_)
            · exact ⟨K1.out, (K1.out).cell_lt z0⟩
            clear hK K
            try simp only [Act.put, List.setIfInBounds_toArray, List.set_cons_zero, List.set_cons_succ]
            refine tkYes (i := 6) (v := ?_) rfl rfl (by kernel_rfl) (by kernel_rfl) (by kernel_rfl) (fun _ _ _ h => h) (by rfl) ?_ (by assumption) ?_
            rotate_left
            · (intro w' hSw; (try dsimp only at hSw); go_simp; try with_reducible rfl)
            try simp only [Act.put, List.setIfInBounds_toArray, List.set_cons_zero, List.set_cons_succ]
            refine tkYes (i := 7) (v := ?_) rfl rfl (by kernel_rfl) (by kernel_rfl) (by kernel_rfl) (fun _ _ _ h => h) (by rfl) ?_ (by assumption) ?_
            rotate_left
            · (intro w' hSw; (try dsimp only at hSw); go_simp; try with_reducible rfl)
            try simp only [Act.put, List.setIfInBounds_toArray, List.set_cons_zero, List.set_cons_succ]
            refine tkYes (i := 8) (v := ?_) rfl rfl (by kernel_rfl) (by kernel_rfl) (by kernel_rfl) (fun _ _ _ h => h) (by rfl) ?_ (by assumption) ?_
            rotate_left
            · (intro w' hSw; (try dsimp only at hSw); go_simp; try with_reducible rfl)
            try simp only [Act.put, List.setIfInBounds_toArray, List.set_cons_zero, List.set_cons_succ]
            refine wpAnyH_ready (rs := [9]) (by kernel_rfl) (by simp) ?_
            refine AllReadyH.cons rfl (fun K hK => ?_) AllReadyH.nil
            go_simp
            have HZ := Lib.hid (Blk.new wd2 35 [.int .i64 0, .slice none 0 0])
            have HGZ := Lib.hid K1.out.size
            replace K1 := Lib.hid (K1.out.trans ((Kept.refl [] wd2).alloc (.cells #[.int .i64 0, .slice none 0 0] 35)))
            replace HDN := Lib.hid (HDN.out.kept0 ((Kept.refl [] wd2).alloc (.cells #[.int .i64 0, .slice none 0 0] 35)))
            replace HIT := Lib.hid (own_kept0 HIT.out ((Kept.refl [] wd2).alloc (.cells #[.int .i64 0, .slice none 0 0] 35)))
            generalize wd2.alloc (.cells #[.int .i64 0, .slice none 0 0] 35) = wd3 at *
            generalize wd2.heap.size = gq at HZ HGZ ⊢
            refine hK.out _ _ ?_ (fun hHeld => ?_)
            · exact ⟨K1.out, (K1.out).cell_lt z0⟩
            clear hK K
            try simp only [Act.put, List.setIfInBounds_toArray, List.set_cons_zero, List.set_cons_succ]
            refine wpAnyH_ready (rs := [10]) (by kernel_rfl) (by simp) ?_
            refine AllReadyH.cons rfl (fun K hK => ?_) AllReadyH.nil
            refine stpBlk rfl 35 (.tmp 11) (.tmp 83) rfl gq _ [.int .i64 n, .slice Ai XA.length ci] HZ.out rfl rfl rfl infoVec (by simp [Value.oneCell']) ?_
            intro w8 hb8 hk8
            have f8 : KeptB wc.heap.size [35] wd3 w8 := (KeptB.refl _ _ wd3).step (L := [gq]) hk8 (fun u hu => by simp at hu; subst hu; exact ⟨HGZ.out, _, _, _, HZ.out, by simp⟩)
            replace HIT := Lib.hid (own_keptB HIT.out f8 (by decide))
            replace HZ := Lib.hid hb8
            replace K1 := Lib.hid (K1.out.thenB f8 (Nat.le_refl _))
            clear f8 hk8 hb8
            go_simp
            refine hK.out _ _ ?_ (fun hHeld => ?_)
            · exact ⟨K1.out, (K1.out).cell_lt z0⟩
            clear hK K
            try simp only [Act.put, List.setIfInBounds_toArray, List.set_cons_zero, List.set_cons_succ]
            refine tkYes (i := 11) (v := ?_) rfl rfl (by kernel_rfl) (by kernel_rfl) (by kernel_rfl) (fun _ _ _ h => h) (by rfl) ?_ (by assumption) ?_
            rotate_left
            · (intro w' hSw; (try dsimp only at hSw); go_simp; try with_reducible rfl)
            try simp only [Act.put, List.setIfInBounds_toArray, List.set_cons_zero, List.set_cons_succ]
            refine wpAnyH_done (by kernel_rfl) ?_ _
            go_wp2_with fail
            go_meet
            exact ⟨gq, Ai, ci, rfl, rfl, HZ, HGZ, HIT, K1⟩
          · go_simp
            have HZ := Lib.hid (Blk.new wd1 35 [.int .i64 0, .slice none 0 0])
            have HGZ := Lib.hid K1.out.size
            replace K1 := Lib.hid (K1.out.trans ((Kept.refl [] wd1).alloc (.cells #[.int .i64 0, .slice none 0 0] 35)))
            replace HDN := Lib.hid (HDN.out.kept0 ((Kept.refl [] wd1).alloc (.cells #[.int .i64 0, .slice none 0 0] 35)))
            generalize wd1.alloc (.cells #[.int .i64 0, .slice none 0 0] 35) = wd4 at *
            generalize wd1.heap.size = gq at HZ HGZ ⊢
            refine hK.out _ _ ?_ (fun hHeld => ?_)
            · exact ⟨K1.out, (K1.out).cell_lt z0⟩
            clear hK K
            try simp only [Act.put, List.setIfInBounds_toArray, List.set_cons_zero, List.set_cons_succ]
            refine wpAnyH_ready (rs := [5]) (by kernel_rfl) (by simp) ?_
            refine AllReadyH.cons rfl (fun K hK => ?_) AllReadyH.nil
            go_simp
            refine (pTimes_any q HRV.out n j j _ w.heap.size _ AB X (valsP j X) _ _ _ vh vv _ (by omega) rfl HOAB.out (HMAB.out.kept0 K1.out) HDK.out HDN.out HVAB.out HDV.out (by omega)).mono ?_
            rintro _ wd5 ⟨v, rfl, v2, hqq, ho, hk⟩
            injection hqq with hqq
            subst hqq
            have HIT := Lib.hid (own_base ho (Nat.le_trans K0.out.size K1.out.size))
            clear ho
            replace K1 := Lib.hid (K1.out.trans hk)
            replace HDN := Lib.hid (HDN.out.kept0 hk)
            replace HZ := Lib.hid (HZ.out.kept hk (by simp))
            clear hk
            rw [← HX1.out] at HIT
            obtain ⟨Ai, ci, rfl⟩ := own_n HIT.out
            go_wp2_with fail
            refine hK.out _ _ ?_ (fun hHeld => ?_)
            · exact ⟨K1.out, (K1.out).cell_lt z0⟩
            clear hK K
            try simp only [Act.put, List.setIfInBounds_toArray, List.set_cons_zero, List.set_cons_succ]
            refine tkYes (i := 6) (v := ?_) rfl rfl (by kernel_rfl) (by kernel_rfl) (by kernel_rfl) (fun _ _ _ h => h) (by rfl) ?_ (by assumption) ?_
            rotate_left
            · (intro w' hSw; (try dsimp only at hSw); go_simp; try with_reducible rfl)
            try simp only [Act.put, List.setIfInBounds_toArray, List.set_cons_zero, List.set_cons_succ]
            refine tkYes (i := 7) (v := ?_) rfl rfl (by kernel_rfl) (by kernel_rfl) (by kernel_rfl) (fun _ _ _ h => h) (by rfl) ?_ (by assumption) ?_
            rotate_left
            · (intro w' hSw; (try dsimp only at hSw); go_simp; try with_reducible rfl)
            try simp only [Act.put, List.setIfInBounds_toArray, List.set_cons_zero, List.set_cons_succ]
            refine tkYes (i := 8) (v := ?_) rfl rfl (by kernel_rfl) (by kernel_rfl) (by kernel_rfl) (fun _ _ _ h => h) (by rfl) ?_ (by assumption) ?_
            rotate_left
            · (intro w' hSw; (try dsimp only at hSw); go_simp; try with_reducible rfl)
            try simp only [Act.put, List.setIfInBounds_toArray, List.set_cons_zero, List.set_cons_succ]
            refine wpAnyH_ready (rs := [10]) (by kernel_rfl) (by simp) ?_
            refine AllReadyH.cons rfl (fun K hK => ?_) AllReadyH.nil
            refine stpBlk rfl 35 (.tmp 11) (.tmp 83) rfl gq _ [.int .i64 n, .slice Ai XA.length ci] HZ.out rfl rfl rfl infoVec (by simp [Value.oneCell']) ?_
            intro w8 hb8 hk8
            have f8 : KeptB wc.heap.size [35] wd5 w8 := (KeptB.refl _ _ wd5).step (L := [gq]) hk8 (fun u hu => by simp at hu; subst hu; exact ⟨HGZ.out, _, _, _, HZ.out, by simp⟩)
            replace HIT := Lib.hid (own_keptB HIT.out f8 (by decide))
            replace HZ := Lib.hid hb8
            replace K1 := Lib.hid (K1.out.thenB f8 (Nat.le_refl _))
            clear f8 hk8 hb8
            go_simp
            refine hK.out _ _ ?_ (fun hHeld => ?_)
            · exact ⟨K1.out, (K1.out).cell_lt z0⟩
            clear hK K
            try simp only [Act.put, List.setIfInBounds_toArray, List.set_cons_zero, List.set_cons_succ]
            refine tkYes (i := 11) (v := ?_) rfl rfl (by kernel_rfl) (by kernel_rfl) (by kernel_rfl) (fun _ _ _ h => h) (by rfl) ?_ (by assumption) ?_
            rotate_left
            · (intro w' hSw; (try dsimp only at hSw); go_simp; try with_reducible rfl)
            try simp only [Act.put, List.setIfInBounds_toArray, List.set_cons_zero, List.set_cons_succ]
            refine wpAnyH_done (by kernel_rfl) ?_ _
            go_wp2_with fail
            go_meet
            exact ⟨gq, Ai, ci, rfl, rfl, HZ, HGZ, HIT, K1⟩
        · go_simp
          have HZ := Lib.hid (Blk.new wd0 35 [.int .i64 0, .slice none 0 0])
          have HGZ := Lib.hid K1.out.size
          replace K1 := Lib.hid (K1.out.trans ((Kept.refl [] wd0).alloc (.cells #[.int .i64 0, .slice none 0 0] 35)))
          generalize wd0.alloc (.cells #[.int .i64 0, .slice none 0 0] 35) = wd6 at *
          generalize wd0.heap.size = gq at HZ HGZ ⊢
          refine hK.out _ _ ?_ (fun hHeld => ?_)
          · exact ⟨K1.out, (K1.out).cell_lt z0⟩
          clear hK K
          try simp only [Act.put, List.setIfInBounds_toArray, List.set_cons_zero, List.set_cons_succ]
          refine wpAnyH_ready (rs := [4]) (by kernel_rfl) (by simp) ?_
          refine AllReadyH.cons rfl (fun K hK => ?_) AllReadyH.nil
          go_simp
          refine (refOf10_any j (by omega) X Ax cx _ HXK.out ((Reads.of_own HXO.out).kept0 K1.out)).mono ?_
          rintro _ wd7 ⟨vh, vv, rfl, hdn, hk⟩
          have HDN := Lib.hid hdn
          clear hdn
          replace K1 := Lib.hid (K1.out.trans hk)
          replace HZ := Lib.hid (HZ.out.kept hk (by simp))
          clear hk
          go_wp2_with fail
          refine hK.out _ _ ?_ (fun hHeld => ?_)
          · exact ⟨K1.out, (K1.out).cell_lt z0⟩
          clear hK K
          try simp only [Act.put, List.setIfInBounds_toArray, List.set_cons_zero, List.set_cons_succ]
          refine wpAnyH_ready (rs := [5]) (by kernel_rfl) (by simp) ?_
          refine AllReadyH.cons rfl (fun K hK => ?_) AllReadyH.nil
          go_simp
          refine (pTimes_any q HRV.out n j j _ w.heap.size _ AB X (valsP j X) _ _ _ vh vv _ (by omega) rfl HOAB.out (HMAB.out.kept0 K1.out) HDK.out HDN.out HVAB.out HDV.out (by omega)).mono ?_
          rintro _ wd8 ⟨v, rfl, v2, hqq, ho, hk⟩
          injection hqq with hqq
          subst hqq
          have HIT := Lib.hid (own_base ho (Nat.le_trans K0.out.size K1.out.size))
          clear ho
          replace K1 := Lib.hid (K1.out.trans hk)
          replace HDN := Lib.hid (HDN.out.kept0 hk)
          replace HZ := Lib.hid (HZ.out.kept hk (by simp))
          clear hk
          rw [← HX1.out] at HIT
          obtain ⟨Ai, ci, rfl⟩ := own_n HIT.out
          go_wp2_with fail
          refine hK.out _ _ ?_ (fun hHeld => ?_)
          · exact ⟨K1.out, (K1.out).cell_lt z0⟩
          clear hK K
          try simp only [Act.put, List.setIfInBounds_toArray, List.set_cons_zero, List.set_cons_succ]
          refine tkYes (i := 6) (v := ?_) rfl rfl (by kernel_rfl) (by kernel_rfl) (by kernel_rfl) (fun _ _ _ h => h) (by rfl) ?_ (by assumption) ?_
          rotate_left
          · (intro w' hSw; (try dsimp only at hSw); go_simp; try with_reducible rfl)
          try simp only [Act.put, List.setIfInBounds_toArray, List.set_cons_zero, List.set_cons_succ]
          refine tkYes (i := 7) (v := ?_) rfl rfl (by kernel_rfl) (by kernel_rfl) (by kernel_rfl) (fun _ _ _ h => h) (by rfl) ?_ (by assumption) ?_
          rotate_left
          · (intro w' hSw; (try dsimp only at hSw); go_simp; try with_reducible rfl)
          try simp only [Act.put, List.setIfInBounds_toArray, List.set_cons_zero, List.set_cons_succ]
          refine tkYes (i := 8) (v := ?_) rfl rfl (by kernel_rfl) (by kernel_rfl) (by kernel_rfl) (fun _ _ _ h => h) (by rfl) ?_ (by assumption) ?_
          rotate_left
          · (intro w' hSw; (try dsimp only at hSw); go_simp; try with_reducible rfl)
          try simp only [Act.put, List.setIfInBounds_toArray, List.set_cons_zero, List.set_cons_succ]
          refine wpAnyH_ready (rs := [10]) (by kernel_rfl) (by simp) ?_
          refine AllReadyH.cons rfl (fun K hK => ?_) AllReadyH.nil
          refine stpBlk rfl 35 (.tmp 11) (.tmp 83) rfl gq _ [.int .i64 n, .slice Ai XA.length ci] HZ.out rfl rfl rfl infoVec (by simp [Value.oneCell']) ?_
          intro w8 hb8 hk8
          have f8 : KeptB wc.heap.size [35] wd8 w8 := (KeptB.refl _ _ wd8).step (L := [gq]) hk8 (fun u hu => by simp at hu; subst hu; exact ⟨HGZ.out, _, _, _, HZ.out, by simp⟩)
          replace HIT := Lib.hid (own_keptB HIT.out f8 (by decide))
          replace HZ := Lib.hid hb8
          replace K1 := Lib.hid (K1.out.thenB f8 (Nat.le_refl _))
          clear f8 hk8 hb8
          go_simp
          refine hK.out _ _ ?_ (fun hHeld => ?_)
          · exact ⟨K1.out, (K1.out).cell_lt z0⟩
          clear hK K
          try simp only [Act.put, List.setIfInBounds_toArray, List.set_cons_zero, List.set_cons_succ]
          refine tkYes (i := 11) (v := ?_) rfl rfl (by kernel_rfl) (by kernel_rfl) (by kernel_rfl) (fun _ _ _ h => h) (by rfl) ?_ (by assumption) ?_
          rotate_left
          · (intro w' hSw; (try dsimp only at hSw); go_simp; try with_reducible rfl)
          try simp only [Act.put, List.setIfInBounds_toArray, List.set_cons_zero, List.set_cons_succ]
          refine wpAnyH_done (by kernel_rfl) ?_ _
          go_wp2_with fail
          go_meet
          exact ⟨gq, Ai, ci, rfl, rfl, HZ, HGZ, HIT, K1⟩
      case rest =>
      clear K1 z0
      obtain ⟨g11, Au, cu, hv, he, H11, HG11, HXA, K1⟩ := hcut
      subst hv he
      replace HT := Lib.hid (HT.out.kept K1.out (by simp))
      replace H5 := Lib.hid (H5.out.kept K1.out (by simp))
      replace H6 := Lib.hid (H6.out.kept K1.out (by simp))
      replace HXO := Lib.hid (own_kept0 HXO.out K1.out)
      replace HMA := Lib.hid (HMA.out.kept0 K1.out)
      replace HMB := Lib.hid (HMB.out.kept0 K1.out)
      replace K0 := Lib.hid (K0.out.trans K1.out)
      clear K1
      go_upto_region 13 with (fail)
      have z0 := HT.out.cell 0
      simp only [List.getElem?_cons_zero, List.getElem?_cons_succ] at z0
      have R0 := Lib.hid (show wc.rangeAt g5 0 [.int .i64 n, .int .i64 k, .slice (some ⟨a1, 0, none⟩) (n + 1) a2, .slice A3 LA.length a4, .slice A5 LA.length a6] from fun u hu => by
        intro h
        rw [Nat.zero_add, H5.out.cell]
        match u, h with
        | 0, h => exact h
        | 1, h => exact h
        | 2, h => exact h
        | 3, h => exact h
        | 4, h => exact h)
      have R5 := Lib.hid (show wc.rangeAt g5 5 [.int .i64 k, .int .i64 j, .slice (some ⟨b1, 0, none⟩) (k + 1) b2, .slice B3 LB.length b4, .slice B5 LB.length b6] from fun u hu => by
        intro h
        rw [H5.out.cell]
        match u, h with
        | 0, h => exact h
        | 1, h => exact h
        | 2, h => exact h
        | 3, h => exact h
        | 4, h => exact h)
      have K1 := Lib.hid (Kept.refl [] wc)
      go_cut [13, 14] (fun v e wx => ∃ gq Ai ci, v = .pointer (some ⟨gq, 0, none⟩) ∧ e = .int .i64 0 ∧ Hid (Blk wx gq 35 [.int .i64 k, .slice Ai Y.length ci]) ∧ Hid (wc.heap.size ≤ gq) ∧ Hid (wx.ownsRow w.heap.size 38 2 (.slice Ai Y.length ci) Y.length (Y.flatMap itV)) ∧ Hid (Kept [] wc wx))
      case first =>
        refine wp_region_held_drew (S := (fun w' => Kept [] wc w' ∧ w'.cell? ⟨g2, 0, none⟩ = some (.int .i64 q))) (by kernel_rfl) ?_ (fun hHeld => ?_)
        · exact ⟨(K1.out.drew), ((K1.out.drew)).cell_lt z0⟩
        replace K1 := Lib.hid K1.out.drew
        generalize wc.drew = wd0 at *
        refine tkYes (i := 0) (v := ?_) rfl rfl (by kernel_rfl) (by kernel_rfl) (by kernel_rfl) (fun _ _ _ h => h) (by rfl) ?_ (by assumption) ?_
        rotate_left
        · (intro w' hSw; (try dsimp only at hSw); go_simp; try with_reducible rfl)
        try simp only [Act.put, List.setIfInBounds_toArray, List.set_cons_zero, List.set_cons_succ]
        refine tkYes (i := 1) (v := ?_) rfl rfl (by kernel_rfl) (by kernel_rfl) (by kernel_rfl) (fun _ _ _ h => h) (by rfl) ?_ (by assumption) ?_
        rotate_left
        · (intro w' hSw; (try dsimp only at hSw); go_simp; try with_reducible rfl)
        try simp only [Act.put, List.setIfInBounds_toArray, List.set_cons_zero, List.set_cons_succ]
        refine tkYes (i := 2) (v := .pointer (some ⟨g5, 5, none⟩)) rfl rfl (by kernel_rfl) (by kernel_rfl) (by kernel_rfl) (fun _ _ _ h => h) (by rfl) ?_ (by assumption) ?_
        skip
        · (intro w' hSw; (try dsimp only at hSw); go_simp; first | done | (simp; done) | (intro hbad; omega) | (rw [if_pos (by omega)]; simp; done) | rfl)
        try simp only [Act.put, List.setIfInBounds_toArray, List.set_cons_zero, List.set_cons_succ]
        refine tkLoad (i := 3) 31 (.tmp 88) g5 (5) [.int .i64 k, .int .i64 j, .slice (some ⟨b1, 0, none⟩) (k + 1) b2, .slice B3 LB.length b4, .slice B5 LB.length b6] _ rfl rfl (by kernel_rfl) (by kernel_rfl) (by kernel_rfl) (fun _ _ _ h => h) (by rfl) rfl rfl (fun w hw => fun j u hu => Kept.cell_lt hw.1 (R5.out j u hu)) Tryz.underlying31 rfl infoRows (by assumption) ?_
        try simp only [Act.put, List.setIfInBounds_toArray, List.set_cons_zero, List.set_cons_succ]
        refine tkLoad (i := 4) 35 (.tmp 6) g6 (0) [.int .i64 j, .slice Ax X.length cx] _ rfl rfl (by kernel_rfl) (by kernel_rfl) (by kernel_rfl) (fun _ _ _ h => h) (by rfl) rfl rfl (fun w hw => (H6.out.kept hw.1 (by simp)).cell2) Tryz.underlying35 rfl infoVec (by assumption) ?_
        try simp only [Act.put, List.setIfInBounds_toArray, List.set_cons_zero, List.set_cons_succ]
        refine wpAnyH_ready (rs := [5, 10]) (by kernel_rfl) (by simp) ?_
        refine AllReadyH.cons rfl (fun K hK => ?_) (AllReadyH.cons rfl (fun K hK => ?_) AllReadyH.nil)
        · go_simp
          refine (refOf10_any j (by omega) X Ax cx _ HXK.out ((Reads.of_own HXO.out).kept0 K1.out)).mono ?_
          rintro _ wd1 ⟨vh, vv, rfl, hdn, hk⟩
          have HDN := Lib.hid hdn
          clear hdn
          replace K1 := Lib.hid (K1.out.trans hk)
          clear hk
          go_wp2_with fail
          refine hK.out _ _ ?_ (fun hHeld => ?_)
          · exact ⟨K1.out, (K1.out).cell_lt z0⟩
          clear hK K
          try simp only [Act.put, List.setIfInBounds_toArray, List.set_cons_zero, List.set_cons_succ]
          refine wpAnyH_ready (rs := [6, 10]) (by kernel_rfl) (by simp) ?_
          refine AllReadyH.cons rfl (fun K hK => ?_) (AllReadyH.cons rfl (fun K hK => ?_) AllReadyH.nil)
          · go_simp
            refine (pTimes_any q HRV.out k j j _ w.heap.size _ LB X (valsP j X) _ _ _ vh vv _ (by omega) rfl HOB.out (HMB.out.kept0 K1.out) HDK.out HDN.out HVB.out HDV.out (by omega)).mono ?_
            rintro _ wd2 ⟨v, rfl, v2, hqq, ho, hk⟩
            injection hqq with hqq
            subst hqq
            have HIT := Lib.hid (own_base ho (Nat.le_trans K0.out.size K1.out.size))
            clear ho
            replace K1 := Lib.hid (K1.out.trans hk)
            replace HDN := Lib.hid (HDN.out.kept0 hk)
            clear hk
            rw [← HY1.out] at HIT
            obtain ⟨Ai, ci, rfl⟩ := own_n HIT.out
            go_wp2_with fail
            refine hK.out _ _ ?_ (fun hHeld => ?_)
            · exact ⟨K1.out, (K1.out).cell_lt z0⟩
            clear hK K
            try simp only [Act.put, List.setIfInBounds_toArray, List.set_cons_zero, List.set_cons_succ]
            refine tkYes (i := 7) (v := ?_) rfl rfl (by kernel_rfl) (by kernel_rfl) (by kernel_rfl) (fun _ _ _ h => h) (by rfl) ?_ (by assumption) ?_
            rotate_left
            · (intro w' hSw; (try dsimp only at hSw); go_simp; try with_reducible rfl)
            try simp only [Act.put, List.setIfInBounds_toArray, List.set_cons_zero, List.set_cons_succ]
            refine tkYes (i := 8) (v := ?_) rfl rfl (by kernel_rfl) (by kernel_rfl) (by kernel_rfl) (fun _ _ _ h => h) (by rfl) ?_ (by assumption) ?_
            rotate_left
            · (intro w' hSw; (try dsimp only at hSw); go_simp; try with_reducible rfl)
            try simp only [Act.put, List.setIfInBounds_toArray, List.set_cons_zero, List.set_cons_succ]
            refine tkYes (i := 9) (v := ?_) rfl rfl (by kernel_rfl) (by kernel_rfl) (by kernel_rfl) (fun _ _ _ h => h) (by rfl) ?_ (by assumption) ?_
            rotate_left
            · (intro w' hSw; (try dsimp only at hSw); go_simp; try with_reducible rfl)
            try simp only [Act.put, List.setIfInBounds_toArray, List.set_cons_zero, List.set_cons_succ]
            refine wpAnyH_ready (rs := [10]) (by kernel_rfl) (by simp) ?_
            refine AllReadyH.cons rfl (fun K hK => ?_) AllReadyH.nil
            go_simp
            have HZ := Lib.hid (Blk.new wd2 35 [.int .i64 0, .slice none 0 0])
            have HGZ := Lib.hid K1.out.size
            replace K1 := Lib.hid (K1.out.trans ((Kept.refl [] wd2).alloc (.cells #[.int .i64 0, .slice none 0 0] 35)))
            replace HDN := Lib.hid (HDN.out.kept0 ((Kept.refl [] wd2).alloc (.cells #[.int .i64 0, .slice none 0 0] 35)))
            replace HIT := Lib.hid (own_kept0 HIT.out ((Kept.refl [] wd2).alloc (.cells #[.int .i64 0, .slice none 0 0] 35)))
            generalize wd2.alloc (.cells #[.int .i64 0, .slice none 0 0] 35) = wd3 at *
            generalize wd2.heap.size = gq at HZ HGZ ⊢
            refine hK.out _ _ ?_ (fun hHeld => ?_)
            · exact ⟨K1.out, (K1.out).cell_lt z0⟩
            clear hK K
            try simp only [Act.put, List.setIfInBounds_toArray, List.set_cons_zero, List.set_cons_succ]
            refine wpAnyH_ready (rs := [11]) (by kernel_rfl) (by simp) ?_
            refine AllReadyH.cons rfl (fun K hK => ?_) AllReadyH.nil
            refine stpBlk rfl 35 (.tmp 13) (.tmp 93) rfl gq _ [.int .i64 k, .slice Ai Y.length ci] HZ.out rfl rfl rfl infoVec (by simp [Value.oneCell']) ?_
            intro w8 hb8 hk8
            have f8 : KeptB wc.heap.size [35] wd3 w8 := (KeptB.refl _ _ wd3).step (L := [gq]) hk8 (fun u hu => by simp at hu; subst hu; exact ⟨HGZ.out, _, _, _, HZ.out, by simp⟩)
            replace HIT := Lib.hid (own_keptB HIT.out f8 (by decide))
            replace HZ := Lib.hid hb8
            replace K1 := Lib.hid (K1.out.thenB f8 (Nat.le_refl _))
            clear f8 hk8 hb8
            go_simp
            refine hK.out _ _ ?_ (fun hHeld => ?_)
            · exact ⟨K1.out, (K1.out).cell_lt z0⟩
            clear hK K
            try simp only [Act.put, List.setIfInBounds_toArray, List.set_cons_zero, List.set_cons_succ]
            refine tkYes (i := 12) (v := ?_) rfl rfl (by kernel_rfl) (by kernel_rfl) (by kernel_rfl) (fun _ _ _ h => h) (by rfl) ?_ (by assumption) ?_
            rotate_left
            · (intro w' hSw; (try dsimp only at hSw); go_simp; try with_reducible rfl)
            try simp only [Act.put, List.setIfInBounds_toArray, List.set_cons_zero, List.set_cons_succ]
            refine wpAnyH_done (by kernel_rfl) ?_ _
            go_wp2_with fail
            go_meet
            exact ⟨gq, Ai, ci, rfl, rfl, HZ, HGZ, HIT, K1⟩
          · go_simp
            have HZ := Lib.hid (Blk.new wd1 35 [.int .i64 0, .slice none 0 0])
            have HGZ := Lib.hid K1.out.size
            replace K1 := Lib.hid (K1.out.trans ((Kept.refl [] wd1).alloc (.cells #[.int .i64 0, .slice none 0 0] 35)))
            replace HDN := Lib.hid (HDN.out.kept0 ((Kept.refl [] wd1).alloc (.cells #[.int .i64 0, .slice none 0 0] 35)))
            generalize wd1.alloc (.cells #[.int .i64 0, .slice none 0 0] 35) = wd4 at *
            generalize wd1.heap.size = gq at HZ HGZ ⊢
            refine hK.out _ _ ?_ (fun hHeld => ?_)
            · exact ⟨K1.out, (K1.out).cell_lt z0⟩
            clear hK K
            try simp only [Act.put, List.setIfInBounds_toArray, List.set_cons_zero, List.set_cons_succ]
            refine wpAnyH_ready (rs := [6]) (by kernel_rfl) (by simp) ?_
            refine AllReadyH.cons rfl (fun K hK => ?_) AllReadyH.nil
            go_simp
            refine (pTimes_any q HRV.out k j j _ w.heap.size _ LB X (valsP j X) _ _ _ vh vv _ (by omega) rfl HOB.out (HMB.out.kept0 K1.out) HDK.out HDN.out HVB.out HDV.out (by omega)).mono ?_
            rintro _ wd5 ⟨v, rfl, v2, hqq, ho, hk⟩
            injection hqq with hqq
            subst hqq
            have HIT := Lib.hid (own_base ho (Nat.le_trans K0.out.size K1.out.size))
            clear ho
            replace K1 := Lib.hid (K1.out.trans hk)
            replace HDN := Lib.hid (HDN.out.kept0 hk)
            replace HZ := Lib.hid (HZ.out.kept hk (by simp))
            clear hk
            rw [← HY1.out] at HIT
            obtain ⟨Ai, ci, rfl⟩ := own_n HIT.out
            go_wp2_with fail
            refine hK.out _ _ ?_ (fun hHeld => ?_)
            · exact ⟨K1.out, (K1.out).cell_lt z0⟩
            clear hK K
            try simp only [Act.put, List.setIfInBounds_toArray, List.set_cons_zero, List.set_cons_succ]
            refine tkYes (i := 7) (v := ?_) rfl rfl (by kernel_rfl) (by kernel_rfl) (by kernel_rfl) (fun _ _ _ h => h) (by rfl) ?_ (by assumption) ?_
            rotate_left
            · (intro w' hSw; (try dsimp only at hSw); go_simp; try with_reducible rfl)
            try simp only [Act.put, List.setIfInBounds_toArray, List.set_cons_zero, List.set_cons_succ]
            refine tkYes (i := 8) (v := ?_) rfl rfl (by kernel_rfl) (by kernel_rfl) (by kernel_rfl) (fun _ _ _ h => h) (by rfl) ?_ (by assumption) ?_
            rotate_left
            · (intro w' hSw; (try dsimp only at hSw); go_simp; try with_reducible rfl)
            try simp only [Act.put, List.setIfInBounds_toArray, List.set_cons_zero, List.set_cons_succ]
            refine tkYes (i := 9) (v := ?_) rfl rfl (by kernel_rfl) (by kernel_rfl) (by kernel_rfl) (fun _ _ _ h => h) (by rfl) ?_ (by assumption) ?_
            rotate_left
            · (intro w' hSw; (try dsimp only at hSw); go_simp; try with_reducible rfl)
            try simp only [Act.put, List.setIfInBounds_toArray, List.set_cons_zero, List.set_cons_succ]
            refine wpAnyH_ready (rs := [11]) (by kernel_rfl) (by simp) ?_
            refine AllReadyH.cons rfl (fun K hK => ?_) AllReadyH.nil
            refine stpBlk rfl 35 (.tmp 13) (.tmp 93) rfl gq _ [.int .i64 k, .slice Ai Y.length ci] HZ.out rfl rfl rfl infoVec (by simp [Value.oneCell']) ?_
            intro w8 hb8 hk8
            have f8 : KeptB wc.heap.size [35] wd5 w8 := (KeptB.refl _ _ wd5).step (L := [gq]) hk8 (fun u hu => by simp at hu; subst hu; exact ⟨HGZ.out, _, _, _, HZ.out, by simp⟩)
            replace HIT := Lib.hid (own_keptB HIT.out f8 (by decide))
            replace HZ := Lib.hid hb8
            replace K1 := Lib.hid (K1.out.thenB f8 (Nat.le_refl _))
            clear f8 hk8 hb8
            go_simp
            refine hK.out _ _ ?_ (fun hHeld => ?_)
            · exact ⟨K1.out, (K1.out).cell_lt z0⟩
            clear hK K
            try simp only [Act.put, List.setIfInBounds_toArray, List.set_cons_zero, List.set_cons_succ]
            refine tkYes (i := 12) (v := ?_) rfl rfl (by kernel_rfl) (by kernel_rfl) (by kernel_rfl) (fun _ _ _ h => h) (by rfl) ?_ (by assumption) ?_
            rotate_left
            · (intro w' hSw; (try dsimp only at hSw); go_simp; try with_reducible rfl)
            try simp only [Act.put, List.setIfInBounds_toArray, List.set_cons_zero, List.set_cons_succ]
            refine wpAnyH_done (by kernel_rfl) ?_ _
            go_wp2_with fail
            go_meet
            exact ⟨gq, Ai, ci, rfl, rfl, HZ, HGZ, HIT, K1⟩
        · go_simp
          have HZ := Lib.hid (Blk.new wd0 35 [.int .i64 0, .slice none 0 0])
          have HGZ := Lib.hid K1.out.size
          replace K1 := Lib.hid (K1.out.trans ((Kept.refl [] wd0).alloc (.cells #[.int .i64 0, .slice none 0 0] 35)))
          generalize wd0.alloc (.cells #[.int .i64 0, .slice none 0 0] 35) = wd6 at *
          generalize wd0.heap.size = gq at HZ HGZ ⊢
          refine hK.out _ _ ?_ (fun hHeld => ?_)
          · exact ⟨K1.out, (K1.out).cell_lt z0⟩
          clear hK K
          try simp only [Act.put, List.setIfInBounds_toArray, List.set_cons_zero, List.set_cons_succ]
          refine wpAnyH_ready (rs := [5]) (by kernel_rfl) (by simp) ?_
          refine AllReadyH.cons rfl (fun K hK => ?_) AllReadyH.nil
          go_simp
          refine (refOf10_any j (by omega) X Ax cx _ HXK.out ((Reads.of_own HXO.out).kept0 K1.out)).mono ?_
          rintro _ wd7 ⟨vh, vv, rfl, hdn, hk⟩
          have HDN := Lib.hid hdn
          clear hdn
          replace K1 := Lib.hid (K1.out.trans hk)
          replace HZ := Lib.hid (HZ.out.kept hk (by simp))
          clear hk
          go_wp2_with fail
          refine hK.out _ _ ?_ (fun hHeld => ?_)
          · exact ⟨K1.out, (K1.out).cell_lt z0⟩
          clear hK K
          try simp only [Act.put, List.setIfInBounds_toArray, List.set_cons_zero, List.set_cons_succ]
          refine wpAnyH_ready (rs := [6]) (by kernel_rfl) (by simp) ?_
          refine AllReadyH.cons rfl (fun K hK => ?_) AllReadyH.nil
          go_simp
          refine (pTimes_any q HRV.out k j j _ w.heap.size _ LB X (valsP j X) _ _ _ vh vv _ (by omega) rfl HOB.out (HMB.out.kept0 K1.out) HDK.out HDN.out HVB.out HDV.out (by omega)).mono ?_
          rintro _ wd8 ⟨v, rfl, v2, hqq, ho, hk⟩
          injection hqq with hqq
          subst hqq
          have HIT := Lib.hid (own_base ho (Nat.le_trans K0.out.size K1.out.size))
          clear ho
          replace K1 := Lib.hid (K1.out.trans hk)
          replace HDN := Lib.hid (HDN.out.kept0 hk)
          replace HZ := Lib.hid (HZ.out.kept hk (by simp))
          clear hk
          rw [← HY1.out] at HIT
          obtain ⟨Ai, ci, rfl⟩ := own_n HIT.out
          go_wp2_with fail
          refine hK.out _ _ ?_ (fun hHeld => ?_)
          · exact ⟨K1.out, (K1.out).cell_lt z0⟩
          clear hK K
          try simp only [Act.put, List.setIfInBounds_toArray, List.set_cons_zero, List.set_cons_succ]
          refine tkYes (i := 7) (v := ?_) rfl rfl (by kernel_rfl) (by kernel_rfl) (by kernel_rfl) (fun _ _ _ h => h) (by rfl) ?_ (by assumption) ?_
          rotate_left
          · (intro w' hSw; (try dsimp only at hSw); go_simp; try with_reducible rfl)
          try simp only [Act.put, List.setIfInBounds_toArray, List.set_cons_zero, List.set_cons_succ]
          refine tkYes (i := 8) (v := ?_) rfl rfl (by kernel_rfl) (by kernel_rfl) (by kernel_rfl) (fun _ _ _ h => h) (by rfl) ?_ (by assumption) ?_
          rotate_left
          · (intro w' hSw; (try dsimp only at hSw); go_simp; try with_reducible rfl)
          try simp only [Act.put, List.setIfInBounds_toArray, List.set_cons_zero, List.set_cons_succ]
          refine tkYes (i := 9) (v := ?_) rfl rfl (by kernel_rfl) (by kernel_rfl) (by kernel_rfl) (fun _ _ _ h => h) (by rfl) ?_ (by assumption) ?_
          rotate_left
          · (intro w' hSw; (try dsimp only at hSw); go_simp; try with_reducible rfl)
          try simp only [Act.put, List.setIfInBounds_toArray, List.set_cons_zero, List.set_cons_succ]
          refine wpAnyH_ready (rs := [11]) (by kernel_rfl) (by simp) ?_
          refine AllReadyH.cons rfl (fun K hK => ?_) AllReadyH.nil
          refine stpBlk rfl 35 (.tmp 13) (.tmp 93) rfl gq _ [.int .i64 k, .slice Ai Y.length ci] HZ.out rfl rfl rfl infoVec (by simp [Value.oneCell']) ?_
          intro w8 hb8 hk8
          have f8 : KeptB wc.heap.size [35] wd8 w8 := (KeptB.refl _ _ wd8).step (L := [gq]) hk8 (fun u hu => by simp at hu; subst hu; exact ⟨HGZ.out, _, _, _, HZ.out, by simp⟩)
          replace HIT := Lib.hid (own_keptB HIT.out f8 (by decide))
          replace HZ := Lib.hid hb8
          replace K1 := Lib.hid (K1.out.thenB f8 (Nat.le_refl _))
          clear f8 hk8 hb8
          go_simp
          refine hK.out _ _ ?_ (fun hHeld => ?_)
          · exact ⟨K1.out, (K1.out).cell_lt z0⟩
          clear hK K
          try simp only [Act.put, List.setIfInBounds_toArray, List.set_cons_zero, List.set_cons_succ]
          refine tkYes (i := 12) (v := ?_) rfl rfl (by kernel_rfl) (by kernel_rfl) (by kernel_rfl) (fun _ _ _ h => h) (by rfl) ?_ (by assumption) ?_
          rotate_left
          · (intro w' hSw; (try dsimp only at hSw); go_simp; try with_reducible rfl)
          try simp only [Act.put, List.setIfInBounds_toArray, List.set_cons_zero, List.set_cons_succ]
          refine wpAnyH_done (by kernel_rfl) ?_ _
          go_wp2_with fail
          go_meet
          exact ⟨gq, Ai, ci, rfl, rfl, HZ, HGZ, HIT, K1⟩
      case rest =>
      clear K1 z0
      clear R5
      try clear R0
      obtain ⟨g13, Ay, cy, hv, he, H13, HG13, HYO, K1⟩ := hcut
      subst hv he
      replace HT := Lib.hid (HT.out.kept K1.out (by simp))
      replace H5 := Lib.hid (H5.out.kept K1.out (by simp))
      replace H11 := Lib.hid (H11.out.kept K1.out (by simp))
      replace HXA := Lib.hid (own_kept0 HXA.out K1.out)
      replace HMA := Lib.hid (HMA.out.kept0 K1.out)
      replace K0 := Lib.hid (K0.out.trans K1.out)
      clear K1
      go_upto_region 14 with (fail)
      have z0 := HT.out.cell 0
      simp only [List.getElem?_cons_zero, List.getElem?_cons_succ] at z0
      have R0 := Lib.hid (show wc.rangeAt g5 0 [.int .i64 n, .int .i64 k, .slice (some ⟨a1, 0, none⟩) (n + 1) a2, .slice A3 LA.length a4, .slice A5 LA.length a6] from fun u hu => by
        intro h
        rw [Nat.zero_add, H5.out.cell]
        match u, h with
        | 0, h => exact h
        | 1, h => exact h
        | 2, h => exact h
        | 3, h => exact h
        | 4, h => exact h)
      have R5 := Lib.hid (show wc.rangeAt g5 5 [.int .i64 k, .int .i64 j, .slice (some ⟨b1, 0, none⟩) (k + 1) b2, .slice B3 LB.length b4, .slice B5 LB.length b6] from fun u hu => by
        intro h
        rw [H5.out.cell]
        match u, h with
        | 0, h => exact h
        | 1, h => exact h
        | 2, h => exact h
        | 3, h => exact h
        | 4, h => exact h)
      have K1 := Lib.hid (Kept.refl [] wc)
      go_cut [15, 16] (fun v e wx => ∃ gq Ai ci, v = .pointer (some ⟨gq, 0, none⟩) ∧ e = .int .i64 0 ∧ Hid (Blk wx gq 35 [.int .i64 n, .slice Ai XA.length ci]) ∧ Hid (wc.heap.size ≤ gq) ∧ Hid (wx.ownsRow w.heap.size 38 2 (.slice Ai XA.length ci) XA.length (XA.flatMap itV)) ∧ Hid (Kept [] wc wx))
      case first =>
        refine wp_region_held_drew (S := (fun w' => Kept [] wc w' ∧ w'.cell? ⟨g2, 0, none⟩ = some (.int .i64 q))) (by kernel_rfl) ?_ (fun hHeld => ?_)
        · exact ⟨(K1.out.drew), ((K1.out.drew)).cell_lt z0⟩
        replace K1 := Lib.hid K1.out.drew
        generalize wc.drew = wd0 at *
        refine tkYes (i := 0) (v := ?_) rfl rfl (by kernel_rfl) (by kernel_rfl) (by kernel_rfl) (fun _ _ _ h => h) (by rfl) ?_ (by assumption) ?_
        rotate_left
        · (intro w' hSw; (try dsimp only at hSw); go_simp; try with_reducible rfl)
        try simp only [Act.put, List.setIfInBounds_toArray, List.set_cons_zero, List.set_cons_succ]
        refine tkYes (i := 1) (v := ?_) rfl rfl (by kernel_rfl) (by kernel_rfl) (by kernel_rfl) (fun _ _ _ h => h) (by rfl) ?_ (by assumption) ?_
        rotate_left
        · (intro w' hSw; (try dsimp only at hSw); go_simp; try with_reducible rfl)
        try simp only [Act.put, List.setIfInBounds_toArray, List.set_cons_zero, List.set_cons_succ]
        refine tkYes (i := 2) (v := ?_) rfl rfl (by kernel_rfl) (by kernel_rfl) (by kernel_rfl) (fun _ _ _ h => h) (by rfl) ?_ (by assumption) ?_
        rotate_left
        · (intro w' hSw; (try dsimp only at hSw); go_simp; try with_reducible rfl)
        try simp only [Act.put, List.setIfInBounds_toArray, List.set_cons_zero, List.set_cons_succ]
        refine tkLoad (i := 3) 31 (.tmp 98) g5 (0) [.int .i64 n, .int .i64 k, .slice (some ⟨a1, 0, none⟩) (n + 1) a2, .slice A3 LA.length a4, .slice A5 LA.length a6] _ rfl rfl (by kernel_rfl) (by kernel_rfl) (by kernel_rfl) (fun _ _ _ h => h) (by rfl) rfl rfl (fun w hw => fun j u hu => Kept.cell_lt hw.1 (R0.out j u hu)) Tryz.underlying31 rfl infoRows (by assumption) ?_
        try simp only [Act.put, List.setIfInBounds_toArray, List.set_cons_zero, List.set_cons_succ]
        refine tkLoad (i := 4) 35 (.tmp 13) g13 (0) [.int .i64 k, .slice Ay Y.length cy] _ rfl rfl (by kernel_rfl) (by kernel_rfl) (by kernel_rfl) (fun _ _ _ h => h) (by rfl) rfl rfl (fun w hw => (H13.out.kept hw.1 (by simp)).cell2) Tryz.underlying35 rfl infoVec (by assumption) ?_
        try simp only [Act.put, List.setIfInBounds_toArray, List.set_cons_zero, List.set_cons_succ]
        refine wpAnyH_ready (rs := [5, 10]) (by kernel_rfl) (by simp) ?_
        refine AllReadyH.cons rfl (fun K hK => ?_) (AllReadyH.cons rfl (fun K hK => ?_) AllReadyH.nil)
        · go_simp
          refine (refOf10_any k (by omega) Y Ay cy _ HYK.out ((Reads.of_own HYO.out).kept0 K1.out)).mono ?_
          rintro _ wd1 ⟨vh, vv, rfl, hdn, hk⟩
          have HDN := Lib.hid hdn
          clear hdn
          replace K1 := Lib.hid (K1.out.trans hk)
          clear hk
          go_wp2_with fail
          refine hK.out _ _ ?_ (fun hHeld => ?_)
          · exact ⟨K1.out, (K1.out).cell_lt z0⟩
          clear hK K
          try simp only [Act.put, List.setIfInBounds_toArray, List.set_cons_zero, List.set_cons_succ]
          refine wpAnyH_ready (rs := [6, 10]) (by kernel_rfl) (by simp) ?_
          refine AllReadyH.cons rfl (fun K hK => ?_) (AllReadyH.cons rfl (fun K hK => ?_) AllReadyH.nil)
          · go_simp
            refine (pTimes_any q HRV.out n k k _ w.heap.size _ LA Y (valsP k Y) _ _ _ vh vv _ (by omega) rfl HOA.out (HMA.out.kept0 K1.out) HDK2.out HDN.out HVA.out HDV2.out (by omega)).mono ?_
            rintro _ wd2 ⟨v, rfl, v2, hqq, ho, hk⟩
            injection hqq with hqq
            subst hqq
            have HIT := Lib.hid (own_base ho (Nat.le_trans K0.out.size K1.out.size))
            clear ho
            replace K1 := Lib.hid (K1.out.trans hk)
            replace HDN := Lib.hid (HDN.out.kept0 hk)
            clear hk
            rw [← HX2.out] at HIT
            obtain ⟨Ai, ci, rfl⟩ := own_n HIT.out
            go_wp2_with fail
            refine hK.out _ _ ?_ (fun hHeld => ?_)
            · exact ⟨K1.out, (K1.out).cell_lt z0⟩
            clear hK K
            try simp only [Act.put, List.setIfInBounds_toArray, List.set_cons_zero, List.set_cons_succ]
            refine tkYes (i := 7) (v := ?_) rfl rfl (by kernel_rfl) (by kernel_rfl) (by kernel_rfl) (fun _ _ _ h => h) (by rfl) ?_ (by assumption) ?_
            rotate_left
            · (intro w' hSw; (try dsimp only at hSw); go_simp; try with_reducible rfl)
            try simp only [Act.put, List.setIfInBounds_toArray, List.set_cons_zero, List.set_cons_succ]
            refine tkYes (i := 8) (v := ?_) rfl rfl (by kernel_rfl) (by kernel_rfl) (by kernel_rfl) (fun _ _ _ h => h) (by rfl) ?_ (by assumption) ?_
            rotate_left
            · (intro w' hSw; (try dsimp only at hSw); go_simp; try with_reducible rfl)
            try simp only [Act.put, List.setIfInBounds_toArray, List.set_cons_zero, List.set_cons_succ]
            refine tkYes (i := 9) (v := ?_) rfl rfl (by kernel_rfl) (by kernel_rfl) (by kernel_rfl) (fun _ _ _ h => h) (by rfl) ?_ (by assumption) ?_
            rotate_left
            · (intro w' hSw; (try dsimp only at hSw); go_simp; try with_reducible rfl)
            try simp only [Act.put, List.setIfInBounds_toArray, List.set_cons_zero, List.set_cons_succ]
            refine wpAnyH_ready (rs := [10]) (by kernel_rfl) (by simp) ?_
            refine AllReadyH.cons rfl (fun K hK => ?_) AllReadyH.nil
            go_simp
            have HZ := Lib.hid (Blk.new wd2 35 [.int .i64 0, .slice none 0 0])
            have HGZ := Lib.hid K1.out.size
            replace K1 := Lib.hid (K1.out.trans ((Kept.refl [] wd2).alloc (.cells #[.int .i64 0, .slice none 0 0] 35)))
            replace HDN := Lib.hid (HDN.out.kept0 ((Kept.refl [] wd2).alloc (.cells #[.int .i64 0, .slice none 0 0] 35)))
            replace HIT := Lib.hid (own_kept0 HIT.out ((Kept.refl [] wd2).alloc (.cells #[.int .i64 0, .slice none 0 0] 35)))
            generalize wd2.alloc (.cells #[.int .i64 0, .slice none 0 0] 35) = wd3 at *
            generalize wd2.heap.size = gq at HZ HGZ ⊢
            refine hK.out _ _ ?_ (fun hHeld => ?_)
            · exact ⟨K1.out, (K1.out).cell_lt z0⟩
            clear hK K
            try simp only [Act.put, List.setIfInBounds_toArray, List.set_cons_zero, List.set_cons_succ]
            refine wpAnyH_ready (rs := [11]) (by kernel_rfl) (by simp) ?_
            refine AllReadyH.cons rfl (fun K hK => ?_) AllReadyH.nil
            refine stpBlk rfl 35 (.tmp 15) (.tmp 103) rfl gq _ [.int .i64 n, .slice Ai XA.length ci] HZ.out rfl rfl rfl infoVec (by simp [Value.oneCell']) ?_
            intro w8 hb8 hk8
            have f8 : KeptB wc.heap.size [35] wd3 w8 := (KeptB.refl _ _ wd3).step (L := [gq]) hk8 (fun u hu => by simp at hu; subst hu; exact ⟨HGZ.out, _, _, _, HZ.out, by simp⟩)
            replace HIT := Lib.hid (own_keptB HIT.out f8 (by decide))
            replace HZ := Lib.hid hb8
            replace K1 := Lib.hid (K1.out.thenB f8 (Nat.le_refl _))
            clear f8 hk8 hb8
            go_simp
            refine hK.out _ _ ?_ (fun hHeld => ?_)
            · exact ⟨K1.out, (K1.out).cell_lt z0⟩
            clear hK K
            try simp only [Act.put, List.setIfInBounds_toArray, List.set_cons_zero, List.set_cons_succ]
            refine tkYes (i := 12) (v := ?_) rfl rfl (by kernel_rfl) (by kernel_rfl) (by kernel_rfl) (fun _ _ _ h => h) (by rfl) ?_ (by assumption) ?_
            rotate_left
            · (intro w' hSw; (try dsimp only at hSw); go_simp; try with_reducible rfl)
            try simp only [Act.put, List.setIfInBounds_toArray, List.set_cons_zero, List.set_cons_succ]
            refine wpAnyH_done (by kernel_rfl) ?_ _
            go_wp2_with fail
            go_meet
            exact ⟨gq, Ai, ci, rfl, rfl, HZ, HGZ, HIT, K1⟩
          · go_simp
            have HZ := Lib.hid (Blk.new wd1 35 [.int .i64 0, .slice none 0 0])
            have HGZ := Lib.hid K1.out.size
            replace K1 := Lib.hid (K1.out.trans ((Kept.refl [] wd1).alloc (.cells #[.int .i64 0, .slice none 0 0] 35)))
            replace HDN := Lib.hid (HDN.out.kept0 ((Kept.refl [] wd1).alloc (.cells #[.int .i64 0, .slice none 0 0] 35)))
            generalize wd1.alloc (.cells #[.int .i64 0, .slice none 0 0] 35) = wd4 at *
            generalize wd1.heap.size = gq at HZ HGZ ⊢
            refine hK.out _ _ ?_ (fun hHeld => ?_)
            · exact ⟨K1.out, (K1.out).cell_lt z0⟩
            clear hK K
            try simp only [Act.put, List.setIfInBounds_toArray, List.set_cons_zero, List.set_cons_succ]
            refine wpAnyH_ready (rs := [6]) (by kernel_rfl) (by simp) ?_
            refine AllReadyH.cons rfl (fun K hK => ?_) AllReadyH.nil
            go_simp
            refine (pTimes_any q HRV.out n k k _ w.heap.size _ LA Y (valsP k Y) _ _ _ vh vv _ (by omega) rfl HOA.out (HMA.out.kept0 K1.out) HDK2.out HDN.out HVA.out HDV2.out (by omega)).mono ?_
            rintro _ wd5 ⟨v, rfl, v2, hqq, ho, hk⟩
            injection hqq with hqq
            subst hqq
            have HIT := Lib.hid (own_base ho (Nat.le_trans K0.out.size K1.out.size))
            clear ho
            replace K1 := Lib.hid (K1.out.trans hk)
            replace HDN := Lib.hid (HDN.out.kept0 hk)
            replace HZ := Lib.hid (HZ.out.kept hk (by simp))
            clear hk
            rw [← HX2.out] at HIT
            obtain ⟨Ai, ci, rfl⟩ := own_n HIT.out
            go_wp2_with fail
            refine hK.out _ _ ?_ (fun hHeld => ?_)
            · exact ⟨K1.out, (K1.out).cell_lt z0⟩
            clear hK K
            try simp only [Act.put, List.setIfInBounds_toArray, List.set_cons_zero, List.set_cons_succ]
            refine tkYes (i := 7) (v := ?_) rfl rfl (by kernel_rfl) (by kernel_rfl) (by kernel_rfl) (fun _ _ _ h => h) (by rfl) ?_ (by assumption) ?_
            rotate_left
            · (intro w' hSw; (try dsimp only at hSw); go_simp; try with_reducible rfl)
            try simp only [Act.put, List.setIfInBounds_toArray, List.set_cons_zero, List.set_cons_succ]
            refine tkYes (i := 8) (v := ?_) rfl rfl (by kernel_rfl) (by kernel_rfl) (by kernel_rfl) (fun _ _ _ h => h) (by rfl) ?_ (by assumption) ?_
            rotate_left
            · (intro w' hSw; (try dsimp only at hSw); go_simp; try with_reducible rfl)
            try simp only [Act.put, List.setIfInBounds_toArray, List.set_cons_zero, List.set_cons_succ]
            refine tkYes (i := 9) (v := ?_) rfl rfl (by kernel_rfl) (by kernel_rfl) (by kernel_rfl) (fun _ _ _ h => h) (by rfl) ?_ (by assumption) ?_
            rotate_left
            · (intro w' hSw; (try dsimp only at hSw); go_simp; try with_reducible rfl)
            try simp only [Act.put, List.setIfInBounds_toArray, List.set_cons_zero, List.set_cons_succ]
            refine wpAnyH_ready (rs := [11]) (by kernel_rfl) (by simp) ?_
            refine AllReadyH.cons rfl (fun K hK => ?_) AllReadyH.nil
            refine stpBlk rfl 35 (.tmp 15) (.tmp 103) rfl gq _ [.int .i64 n, .slice Ai XA.length ci] HZ.out rfl rfl rfl infoVec (by simp [Value.oneCell']) ?_
            intro w8 hb8 hk8
            have f8 : KeptB wc.heap.size [35] wd5 w8 := (KeptB.refl _ _ wd5).step (L := [gq]) hk8 (fun u hu => by simp at hu; subst hu; exact ⟨HGZ.out, _, _, _, HZ.out, by simp⟩)
            replace HIT := Lib.hid (own_keptB HIT.out f8 (by decide))
            replace HZ := Lib.hid hb8
            replace K1 := Lib.hid (K1.out.thenB f8 (Nat.le_refl _))
            clear f8 hk8 hb8
            go_simp
            refine hK.out _ _ ?_ (fun hHeld => ?_)
            · exact ⟨K1.out, (K1.out).cell_lt z0⟩
            clear hK K
            try simp only [Act.put, List.setIfInBounds_toArray, List.set_cons_zero, List.set_cons_succ]
            refine tkYes (i := 12) (v := ?_) rfl rfl (by kernel_rfl) (by kernel_rfl) (by kernel_rfl) (fun _ _ _ h => h) (by rfl) ?_ (by assumption) ?_
            rotate_left
            · (intro w' hSw; (try dsimp only at hSw); go_simp; try with_reducible rfl)
            try simp only [Act.put, List.setIfInBounds_toArray, List.set_cons_zero, List.set_cons_succ]
            refine wpAnyH_done (by kernel_rfl) ?_ _
            go_wp2_with fail
            go_meet
            exact ⟨gq, Ai, ci, rfl, rfl, HZ, HGZ, HIT, K1⟩
        · go_simp
          have HZ := Lib.hid (Blk.new wd0 35 [.int .i64 0, .slice none 0 0])
          have HGZ := Lib.hid K1.out.size
          replace K1 := Lib.hid (K1.out.trans ((Kept.refl [] wd0).alloc (.cells #[.int .i64 0, .slice none 0 0] 35)))
          generalize wd0.alloc (.cells #[.int .i64 0, .slice none 0 0] 35) = wd6 at *
          generalize wd0.heap.size = gq at HZ HGZ ⊢
          refine hK.out _ _ ?_ (fun hHeld => ?_)
          · exact ⟨K1.out, (K1.out).cell_lt z0⟩
          clear hK K
          try simp only [Act.put, List.setIfInBounds_toArray, List.set_cons_zero, List.set_cons_succ]
          refine wpAnyH_ready (rs := [5]) (by kernel_rfl) (by simp) ?_
          refine AllReadyH.cons rfl (fun K hK => ?_) AllReadyH.nil
          go_simp
          refine (refOf10_any k (by omega) Y Ay cy _ HYK.out ((Reads.of_own HYO.out).kept0 K1.out)).mono ?_
          rintro _ wd7 ⟨vh, vv, rfl, hdn, hk⟩
          have HDN := Lib.hid hdn
          clear hdn
          replace K1 := Lib.hid (K1.out.trans hk)
          replace HZ := Lib.hid (HZ.out.kept hk (by simp))
          clear hk
          go_wp2_with fail
          refine hK.out _ _ ?_ (fun hHeld => ?_)
          · exact ⟨K1.out, (K1.out).cell_lt z0⟩
          clear hK K
          try simp only [Act.put, List.setIfInBounds_toArray, List.set_cons_zero, List.set_cons_succ]
          refine wpAnyH_ready (rs := [6]) (by kernel_rfl) (by simp) ?_
          refine AllReadyH.cons rfl (fun K hK => ?_) AllReadyH.nil
          go_simp
          refine (pTimes_any q HRV.out n k k _ w.heap.size _ LA Y (valsP k Y) _ _ _ vh vv _ (by omega) rfl HOA.out (HMA.out.kept0 K1.out) HDK2.out HDN.out HVA.out HDV2.out (by omega)).mono ?_
          rintro _ wd8 ⟨v, rfl, v2, hqq, ho, hk⟩
          injection hqq with hqq
          subst hqq
          have HIT := Lib.hid (own_base ho (Nat.le_trans K0.out.size K1.out.size))
          clear ho
          replace K1 := Lib.hid (K1.out.trans hk)
          replace HDN := Lib.hid (HDN.out.kept0 hk)
          replace HZ := Lib.hid (HZ.out.kept hk (by simp))
          clear hk
          rw [← HX2.out] at HIT
          obtain ⟨Ai, ci, rfl⟩ := own_n HIT.out
          go_wp2_with fail
          refine hK.out _ _ ?_ (fun hHeld => ?_)
          · exact ⟨K1.out, (K1.out).cell_lt z0⟩
          clear hK K
          try simp only [Act.put, List.setIfInBounds_toArray, List.set_cons_zero, List.set_cons_succ]
          refine tkYes (i := 7) (v := ?_) rfl rfl (by kernel_rfl) (by kernel_rfl) (by kernel_rfl) (fun _ _ _ h => h) (by rfl) ?_ (by assumption) ?_
          rotate_left
          · (intro w' hSw; (try dsimp only at hSw); go_simp; try with_reducible rfl)
          try simp only [Act.put, List.setIfInBounds_toArray, List.set_cons_zero, List.set_cons_succ]
          refine tkYes (i := 8) (v := ?_) rfl rfl (by kernel_rfl) (by kernel_rfl) (by kernel_rfl) (fun _ _ _ h => h) (by rfl) ?_ (by assumption) ?_
          rotate_left
          · (intro w' hSw; (try dsimp only at hSw); go_simp; try with_reducible rfl)
          try simp only [Act.put, List.setIfInBounds_toArray, List.set_cons_zero, List.set_cons_succ]
          refine tkYes (i := 9) (v := ?_) rfl rfl (by kernel_rfl) (by kernel_rfl) (by kernel_rfl) (fun _ _ _ h => h) (by rfl) ?_ (by assumption) ?_
          rotate_left
          · (intro w' hSw; (try dsimp only at hSw); go_simp; try with_reducible rfl)
          try simp only [Act.put, List.setIfInBounds_toArray, List.set_cons_zero, List.set_cons_succ]
          refine wpAnyH_ready (rs := [11]) (by kernel_rfl) (by simp) ?_
          refine AllReadyH.cons rfl (fun K hK => ?_) AllReadyH.nil
          refine stpBlk rfl 35 (.tmp 15) (.tmp 103) rfl gq _ [.int .i64 n, .slice Ai XA.length ci] HZ.out rfl rfl rfl infoVec (by simp [Value.oneCell']) ?_
          intro w8 hb8 hk8
          have f8 : KeptB wc.heap.size [35] wd8 w8 := (KeptB.refl _ _ wd8).step (L := [gq]) hk8 (fun u hu => by simp at hu; subst hu; exact ⟨HGZ.out, _, _, _, HZ.out, by simp⟩)
          replace HIT := Lib.hid (own_keptB HIT.out f8 (by decide))
          replace HZ := Lib.hid hb8
          replace K1 := Lib.hid (K1.out.thenB f8 (Nat.le_refl _))
          clear f8 hk8 hb8
          go_simp
          refine hK.out _ _ ?_ (fun hHeld => ?_)
          · exact ⟨K1.out, (K1.out).cell_lt z0⟩
          clear hK K
          try simp only [Act.put, List.setIfInBounds_toArray, List.set_cons_zero, List.set_cons_succ]
          refine tkYes (i := 12) (v := ?_) rfl rfl (by kernel_rfl) (by kernel_rfl) (by kernel_rfl) (fun _ _ _ h => h) (by rfl) ?_ (by assumption) ?_
          rotate_left
          · (intro w' hSw; (try dsimp only at hSw); go_simp; try with_reducible rfl)
          try simp only [Act.put, List.setIfInBounds_toArray, List.set_cons_zero, List.set_cons_succ]
          refine wpAnyH_done (by kernel_rfl) ?_ _
          go_wp2_with fail
          go_meet
          exact ⟨gq, Ai, ci, rfl, rfl, HZ, HGZ, HIT, K1⟩
      case rest =>
      clear K1 z0
      clear R5
      try clear R0
      obtain ⟨g15, Av, cv, hv, he, H15, HG15, HXB, K1⟩ := hcut
      subst hv he
      replace H11 := Lib.hid (H11.out.kept K1.out (by simp))
      replace HXA := Lib.hid (own_kept0 HXA.out K1.out)
      replace K0 := Lib.hid (K0.out.trans K1.out)
      clear K1
      go_wp2_with fail
      refine (show Calls Tryz.prog 9 #[.int .i64 2, .int .i64 3] _ _ from ones_any 2 3 (by omega) (by omega) _).mono ?_
      rintro _ wt ⟨o1, o2, o3, rfl, hmt, hk⟩
      have HMT := Lib.hid hmt
      replace H11 := Lib.hid (H11.out.kept hk (by simp))
      replace H15 := Lib.hid (H15.out.kept hk (by simp))
      replace HXA := Lib.hid (own_kept0 HXA.out hk)
      replace HXB := Lib.hid (own_kept0 HXB.out hk)
      replace K0 := Lib.hid (K0.out.trans hk)
      clear hk hmt
      go_wp2_with fail
      have HTO := Lib.hid (total_any 2 3 _ (onesL 2 3) o1 o2 o3 wt (ones_okM (by omega) (by omega)) HMT.out (fun e he => by obtain ⟨i, k, _, _, rfl⟩ := mem_onesL.1 he; rfl) (by rw [onesL_len]; omega))
      rw [onesL_len] at HTO
      refine HTO.out.mono ?_
      rintro _ wu ⟨rfl, hk⟩
      replace H11 := Lib.hid (H11.out.kept hk (by simp))
      replace H15 := Lib.hid (H15.out.kept hk (by simp))
      replace HXA := Lib.hid (own_kept0 HXA.out hk)
      replace HXB := Lib.hid (own_kept0 HXB.out hk)
      replace K0 := Lib.hid (K0.out.trans hk)
      clear hk HTO HMT
      have a0 := H11.out.cell 0
      have a1 := H11.out.cell 1
      simp only [List.getElem?_cons_zero, List.getElem?_cons_succ] at a0 a1
      have b0 := H15.out.cell 0
      have b1 := H15.out.cell 1
      simp only [List.getElem?_cons_zero, List.getElem?_cons_succ] at b0 b1
      have h6 : ((2 * 3 : Nat) : Int) = 6 := rfl
      have hxl := HXAK.out.len
      go_wp2_with fail
      refine (refSame9_any n XA Au Av cu cv _ (by omega) (Reads.of_own HXA.out) (Reads.of_own HXB.out)).mono ?_
      rintro _ wv ⟨rfl, hk⟩
      have HK := Lib.hid (K0.out.trans hk)
      clear hk a0 a1 b0 b1 h6 hxl
      go_wp2_with fail
      show post (.returned (.bool true)) _
      rw [HPOST.out]
      exact ⟨rfl, HK.out⟩

set_option maxRecDepth 100000 in
theorem topAssoc_lifted (os : Os) (started : os.Started) (H : Type) (enc : TypeId × Value → H) :
    ReturnsInHanded {} Tryz.checked os 3 .any (Rows.topAssocSpec.pre6 enc Tryz.prog Tryz.f3 Rows.topAssocRow.domain false) (Rows.topAssocSpec.post enc Tryz.prog Tryz.f3 false true false false) := by
  refine returnsInHanded_of_change (C := Tryz.checked) own started (by kernel_rfl) Tryz.func3
    (ChangeSpec.witness6 (enc := enc) (C := Tryz.checked) false ⟨#[], #[.agg #[.int .i64 0, .int .u8 0, .int .u8 0, .int .u8 0, .slice none 0 0, .slice none 0 0, .slice none 0 0], .slice none 0 0], []⟩ 8 (by kernel_rfl) (by kernel_rfl) (by kernel_rfl) (by kernel_rfl)) ?_
  intro W base args ds gs before hval0 hW hcnd _
  have hval : ∀ (j : Nat) t v, Tryz.f3.params[j]? = some t → args[j]? = some v → Value.okWide Tryz.prog W .any base t v := hval0
  have hW' := hW
  obtain ⟨p, q, hA0, hV, rfl, hfz, hnd⟩ := hW
  have hA : DataW.TrodAll enc Tryz.prog W 0 (fun _ => true) true Tryz.f3.params.toList args.toList ds p := hA0
  rw [Tryz.params3] at hA hval
  obtain ⟨v0, vs0, d0, ds0, p0, q0, hargs, rfl, rfl, h0, r0⟩ := trodAll_cons hA
  obtain ⟨v1, vs1, d1, ds1, p1, q1, rfl, rfl, rfl, h1, r1⟩ := trodAll_cons r0
  obtain ⟨rfl, rfl, rfl⟩ := trodAll_nil r1
  obtain rfl : args = #[v0, v1] := by cases args; simp_all
  obtain ⟨rfl, rfl⟩ := trodVars_none hV
  obtain ⟨r, s0, s1, s2, T1, d1, T2, d2, T3, d3, L1, L2, L3, rfl, w0, w1, w2, k1, k2, k3⟩ := open_task (hval 0 26 v0 rfl rfl) h0
  obtain ⟨A, c, l, rfl, l1, l2, hAr, hvl⟩ := open_items (hval 1 27 v1 rfl rfl) h1
  refine (topAssoc_walk r s0 s1 s2 w0 w1 w2 L1 L2 L3 l T1 T2 T3 A d1 d2 d3 c W k1 k2 k3 (Nat.le_trans l1 l2) hAr hvl).mono fun e W' ⟨he, hk⟩ => ?_
  exact ⟨_, he, post_true rfl Tryz.underlying4 rfl rfl rfl rfl laidOut (by decide +kernel) hW' hk⟩

theorem topAssoc_holds : Rows.TopAssocSaid :=
  OpenClaim.holds_of_wide 3 Tryz.f3 rfl rfl rfl rfl rfl rfl rfl ⟨rfl, rfl, rfl, rfl, rfl⟩ rfl rfl rfl rfl rfl (by kernel_rfl) Tryz.func3 (by kernel_rfl)
    (of_decide_eq_true (by kernel_rfl)) (by unfold Func.isWrapper; first | (rw [if_pos (by decide +kernel)]; kernel_rfl) | (rw [if_neg (by decide +kernel)]; exact ⟨rfl, rfl⟩))
    (fun os started H enc _ => topAssoc_lifted os started H enc)
end Go.Proofs.YtblfingmdipopaaGreat
