/- (fretworklaw15.Task).Three: three matrices that fit one another. Conditions: the ring is one of two; sizes are bytes. -/
import Derived.Test.YtblfingmdipopaaGreatK50
namespace Go.Proofs.YtblfingmdipopaaGreat
set_option linter.unusedSimpArgs false
set_option linter.unusedVariables false
open Go.ChangeShapes Go.WideShapes Go.ChangeAt Go.RowKit
open Go.RowKit (wrap32 wrap64)
set_option maxHeartbeats 8000000

theorem infoTask15 : (Tryz.prog.info? 26).map (·.size) = some 7 := by kernel_rfl
theorem infoRows3 : (Tryz.prog.info? 32).map (·.size) = some 15 := by kernel_rfl
/-- A slice of triples that came in. -/
structure SlT (w : World) (A : Option Addr) (l : List Ed) (c : Nat) : Prop where
  len : l.length ≤ maxLen
  cap : l.length ≤ c
  max : c ≤ maxLen
  reads : Reads w A (l.flatMap edV)
  vals : ∀ e ∈ l, In64 e.2.2
theorem SlT.kept0 {w w' : World} {A : Option Addr} {l : List Ed} {c : Nat} (h : SlT w A l c) (k : Kept [] w w') : SlT w' A l c := ⟨h.len, h.cap, h.max, h.reads.kept0 k, h.vals⟩
/-- Three matrices that a call hands back. -/
def ThPost (w : World) (n k j : Nat) (LA LB LM : List Ed) (e : Ending) (w' : World) : Prop := ∃ a1 a2 a3 b1 b2 b3 m1 m2 m3, e = .returned (.agg #[.int .i64 (n : Int), .int .i64 (k : Int), a1, a2, a3, .int .i64 (k : Int), .int .i64 (j : Int), b1, b2, b3, .int .i64 (n : Int), .int .i64 (j : Int), m1, m2, m3]) ∧ MtAt w' w.heap.size a1 a2 a3 n LA ∧ MtAt w' w.heap.size b1 b2 b3 k LB ∧ MtAt w' w.heap.size m1 m2 m3 n LM ∧ Kept [] w w'

set_option maxRecDepth 100000 in
theorem three_any (r : Int) (hr : r = 1 ∨ r = 2) (s0 s1 s2 : Nat) (h0 : s0 < 256) (h1 : s1 < 256) (h2 : s2 < 256) (L1 L2 L3 : List Ed) (A1 A2 A3 : Option Addr) (c1 c2 c3 : Nat) (w : World) (H1 : SlT w A1 L1 c1) (H2 : SlT w A2 L2 c2) (H3 : SlT w A3 L3 c3) :
    Calls Tryz.prog 5 #[.agg #[.int .i64 r, .int .u8 (s0 : Int), .int .u8 (s1 : Int), .int .u8 (s2 : Int), .slice A1 L1.length c1, .slice A2 L2.length c2, .slice A3 L3.length c3]] w (ThPost w (s0 % 14) (s1 % 14) (s2 % 14) (matL r (s0 % 14) (s1 % 14) L1) (matL r (s1 % 14) (s2 % 14) L2) (matL r (s0 % 14) (s2 % 14) L3)) := by
  have HMX := Lib.hid (fun a b l A c w ha hb h => by
    have := matrix_any r hr a b (by omega) (by omega) l A c w (SlT.len h) (SlT.cap h) (SlT.max h) (SlT.reads h) (SlT.vals h)
    rwa [Nat.mod_eq_of_lt (show a < 40 by omega), Nat.mod_eq_of_lt (show b < 40 by omega)] at this : ∀ (a b : Nat) (l : List Ed) (A : Option Addr) (c : Nat) (w : World), a < 14 → b < 14 → SlT w A l c → Calls Tryz.prog 20 #[.agg #[.int .i64 r, .int .u8 (a : Int), .int .u8 (b : Int), .slice A l.length c, .slice none 0 0, .slice none 0 0, .slice none 0 0, .bool false]] w (MtPost w a b (matL r a b l)))
  obtain ⟨n, hn⟩ : ∃ n, n = s0 % 14 := ⟨_, rfl⟩
  obtain ⟨k, hk⟩ : ∃ k, k = s1 % 14 := ⟨_, rfl⟩
  obtain ⟨j, hj⟩ : ∃ j, j = s2 % 14 := ⟨_, rfl⟩
  have HS0 := Lib.hid (fun w => by rw [hn]; exact small_any s0 h0 w : ∀ w, Calls Tryz.prog 19 #[.int .u8 (s0 : Int)] w fun e w' => e = .returned (.int .u8 (n : Int)) ∧ w' = w)
  have HS1 := Lib.hid (fun w => by rw [hk]; exact small_any s1 h1 w : ∀ w, Calls Tryz.prog 19 #[.int .u8 (s1 : Int)] w fun e w' => e = .returned (.int .u8 (k : Int)) ∧ w' = w)
  have HS2 := Lib.hid (fun w => by rw [hj]; exact small_any s2 h2 w : ∀ w, Calls Tryz.prog 19 #[.int .u8 (s2 : Int)] w fun e w' => e = .returned (.int .u8 (j : Int)) ∧ w' = w)
  have HN := Lib.hid (show n < 14 ∧ k < 14 ∧ j < 14 by omega)
  rw [← hn, ← hk, ← hj]
  clear hn hk hj h0 h1 h2 hr
  have G1 := Lib.hid H1
  have G2 := Lib.hid H2
  have G3 := Lib.hid H3
  clear H1 H2 H3
  obtain ⟨LA, hLA⟩ : ∃ LA, LA = matL r n k L1 := ⟨_, rfl⟩
  obtain ⟨LB, hLB⟩ : ∃ LB, LB = matL r k j L2 := ⟨_, rfl⟩
  obtain ⟨LM, hLM⟩ : ∃ LM, LM = matL r n j L3 := ⟨_, rfl⟩
  rw [← hLA, ← hLB, ← hLM]
  have HLA := Lib.hid hLA
  have HLB := Lib.hid hLB
  have HLM := Lib.hid hLM
  clear hLA hLB hLM
  obtain ⟨post, hpost⟩ : ∃ post : Ending → World → Prop, post = ThPost w n k j LA LB LM := ⟨_, rfl⟩
  rw [← hpost]
  have HPOST := Lib.hid hpost
  clear hpost
  have HB := Lib.hid ((Blk.new w 26 [.int .i64 r, .int .u8 (s0 : Int), .int .u8 (s1 : Int), .int .u8 (s2 : Int), .slice A1 L1.length c1, .slice A2 L2.length c2, .slice A3 L3.length c3]).alloc (.cells #[.int .i64 0, .int .i64 0, .slice none 0 0, .slice none 0 0, .slice none 0 0, .int .i64 0, .int .i64 0, .slice none 0 0, .slice none 0 0, .slice none 0 0, .int .i64 0, .int .i64 0, .slice none 0 0, .slice none 0 0, .slice none 0 0] 32))
  have HZ := Lib.hid (Blk.new1F w (.cells #[.int .i64 r, .int .u8 (s0 : Int), .int .u8 (s1 : Int), .int .u8 (s2 : Int), .slice A1 L1.length c1, .slice A2 L2.length c2, .slice A3 L3.length c3] 26) 32 [.int .i64 0, .int .i64 0, .slice none 0 0, .slice none 0 0, .slice none 0 0, .int .i64 0, .int .i64 0, .slice none 0 0, .slice none 0 0, .slice none 0 0, .int .i64 0, .int .i64 0, .slice none 0 0, .slice none 0 0, .slice none 0 0])
  have K0 := Lib.hid (((Kept.refl [] w).alloc (.cells #[.int .i64 r, .int .u8 (s0 : Int), .int .u8 (s1 : Int), .int .u8 (s2 : Int), .slice A1 L1.length c1, .slice A2 L2.length c2, .slice A3 L3.length c3] 26)).alloc (.cells #[.int .i64 0, .int .i64 0, .slice none 0 0, .slice none 0 0, .slice none 0 0, .int .i64 0, .int .i64 0, .slice none 0 0, .slice none 0 0, .slice none 0 0, .int .i64 0, .int .i64 0, .slice none 0 0, .slice none 0 0, .slice none 0 0] 32))
  have HGE := Lib.hid (show w.heap.size ≤ w.heap.size + 1 by omega)
  go_enter Tryz.func5, Tryz.ntmps5
  go_upto_region 1 with (fail)
  generalize ((w.alloc (.cells #[.int .i64 r, .int .u8 (s0 : Int), .int .u8 (s1 : Int), .int .u8 (s2 : Int), .slice A1 L1.length c1, .slice A2 L2.length c2, .slice A3 L3.length c3] 26)).alloc (.cells #[.int .i64 0, .int .i64 0, .slice none 0 0, .slice none 0 0, .slice none 0 0, .int .i64 0, .int .i64 0, .slice none 0 0, .slice none 0 0, .slice none 0 0, .int .i64 0, .int .i64 0, .slice none 0 0, .slice none 0 0, .slice none 0 0] 32)) = w1 at *
  generalize w.heap.size + 1 = gz at HZ HGE ⊢
  generalize hgb : w.heap.size = gb at HB ⊢
  clear hgb
  have y1 := HB.out.cell 1
  have y2 := HB.out.cell 2
  have y3 := HB.out.cell 3
  simp only [List.getElem?_cons_zero, List.getElem?_cons_succ] at y1 y2 y3
  go_quiet ((go_at_call 19; first | exact quietS (HS0.out _) | exact quietS (HS1.out _) | exact quietS (HS2.out _)))
  clear y1 y2 y3 HS0 HS1 HS2
  replace HZ := Lib.hid (HZ.out.kept ((Kept.refl [] w1).drewN nq) (by simp))
  replace HB := Lib.hid (HB.out.kept ((Kept.refl [] w1).drewN nq) (by simp))
  replace K0 := Lib.hid (K0.out.trans ((Kept.refl [] w1).drewN nq))
  generalize w1.drewN nq = w2 at *
  have kd := (Kept.refl [] w2).alloc (.cells #[.int .i64 0, .int .u8 0, .int .u8 0, .slice none 0 0, .slice none 0 0, .slice none 0 0, .slice none 0 0, .bool false] 74)
  have y0 := HB.out.cell 0
  have y4 := HB.out.cell 4
  simp only [List.getElem?_cons_zero, List.getElem?_cons_succ] at y0 y4
  go_upto_region 3 with (first | (refine wpList_storeBlk rfl 74 (.tmp 6) (.tmp 28) rfl w2.heap.size [.int .i64 0, .int .u8 0, .int .u8 0, .slice none 0 0, .slice none 0 0, .slice none 0 0, .slice none 0 0, .bool false] [.int .i64 r, .int .u8 (n : Int), .int .u8 (k : Int), .slice A1 L1.length c1, .slice none 0 0, .slice none 0 0, .slice none 0 0, .bool false] (Blk.new _ _ _) rfl rfl rfl infoTask13 (by simp [Value.oneCell']) ?_; intro w3 hb4 hk4))
  have k4 : Kept [] w2 w3 := kd.then hk4 (fun q hq => by simp at hq; subst hq; exact .inr (Nat.le_refl _))
  have HT1 := Lib.hid hb4
  replace HZ := Lib.hid (HZ.out.kept k4 (by simp))
  replace HB := Lib.hid (HB.out.kept k4 (by simp))
  replace K0 := Lib.hid (K0.out.trans k4)
  clear k4 hk4 hb4 kd y0 y4
  generalize w2.heap.size = g1 at HT1 ⊢
  have kd := (Kept.refl [] w3).alloc (.cells #[.int .i64 0, .int .u8 0, .int .u8 0, .slice none 0 0, .slice none 0 0, .slice none 0 0, .slice none 0 0, .bool false] 74)
  have y0 := HB.out.cell 0
  have y5 := HB.out.cell 5
  simp only [List.getElem?_cons_zero, List.getElem?_cons_succ] at y0 y5
  go_upto_region 4 with (first | (refine wpList_storeBlk rfl 74 (.tmp 7) (.tmp 36) rfl w3.heap.size [.int .i64 0, .int .u8 0, .int .u8 0, .slice none 0 0, .slice none 0 0, .slice none 0 0, .slice none 0 0, .bool false] [.int .i64 r, .int .u8 (k : Int), .int .u8 (j : Int), .slice A2 L2.length c2, .slice none 0 0, .slice none 0 0, .slice none 0 0, .bool false] (Blk.new _ _ _) rfl rfl rfl infoTask13 (by simp [Value.oneCell']) ?_; intro w4 hb4 hk4))
  have k4 : Kept [] w3 w4 := kd.then hk4 (fun q hq => by simp at hq; subst hq; exact .inr (Nat.le_refl _))
  have HT2 := Lib.hid hb4
  replace HZ := Lib.hid (HZ.out.kept k4 (by simp))
  replace HB := Lib.hid (HB.out.kept k4 (by simp))
  replace HT1 := Lib.hid (HT1.out.kept k4 (by simp))
  replace K0 := Lib.hid (K0.out.trans k4)
  clear k4 hk4 hb4 kd y0 y5
  generalize w3.heap.size = g2 at HT2 ⊢
  have kd := (Kept.refl [] w4).alloc (.cells #[.int .i64 0, .int .u8 0, .int .u8 0, .slice none 0 0, .slice none 0 0, .slice none 0 0, .slice none 0 0, .bool false] 74)
  have y0 := HB.out.cell 0
  have y6 := HB.out.cell 6
  simp only [List.getElem?_cons_zero, List.getElem?_cons_succ] at y0 y6
  go_upto_region 5 with (first | (refine wpList_storeBlk rfl 74 (.tmp 8) (.tmp 44) rfl w4.heap.size [.int .i64 0, .int .u8 0, .int .u8 0, .slice none 0 0, .slice none 0 0, .slice none 0 0, .slice none 0 0, .bool false] [.int .i64 r, .int .u8 (n : Int), .int .u8 (j : Int), .slice A3 L3.length c3, .slice none 0 0, .slice none 0 0, .slice none 0 0, .bool false] (Blk.new _ _ _) rfl rfl rfl infoTask13 (by simp [Value.oneCell']) ?_; intro w5 hb4 hk4))
  have k4 : Kept [] w4 w5 := kd.then hk4 (fun q hq => by simp at hq; subst hq; exact .inr (Nat.le_refl _))
  have HT3 := Lib.hid hb4
  replace HZ := Lib.hid (HZ.out.kept k4 (by simp))
  replace HB := Lib.hid (HB.out.kept k4 (by simp))
  replace HT1 := Lib.hid (HT1.out.kept k4 (by simp))
  replace HT2 := Lib.hid (HT2.out.kept k4 (by simp))
  replace K0 := Lib.hid (K0.out.trans k4)
  clear k4 hk4 hb4 kd y0 y6
  generalize w4.heap.size = g3 at HT3 ⊢
  refine wp_region_held_drew (S := (fun w' => w'.rangeAt g1 0 [.int .i64 r, .int .u8 (n : Int), .int .u8 (k : Int), .slice A1 L1.length c1, .slice none 0 0, .slice none 0 0, .slice none 0 0, .bool false] ∧ w'.rangeAt g2 0 [.int .i64 r, .int .u8 (k : Int), .int .u8 (j : Int), .slice A2 L2.length c2, .slice none 0 0, .slice none 0 0, .slice none 0 0, .bool false] ∧ w'.rangeAt g3 0 [.int .i64 r, .int .u8 (n : Int), .int .u8 (j : Int), .slice A3 L3.length c3, .slice none 0 0, .slice none 0 0, .slice none 0 0, .bool false])) (by kernel_rfl) ?_ (fun hHeld => ?_)
  · exact ⟨HT1.out.cell2, HT2.out.cell2, HT3.out.cell2⟩
  replace HZ := Lib.hid (HZ.out.kept (Kept.refl [] w5).drew (by simp))
  replace HT1 := Lib.hid (HT1.out.kept (Kept.refl [] w5).drew (by simp))
  replace HT2 := Lib.hid (HT2.out.kept (Kept.refl [] w5).drew (by simp))
  replace HT3 := Lib.hid (HT3.out.kept (Kept.refl [] w5).drew (by simp))
  replace K0 := Lib.hid (K0.out.trans (Kept.refl [] w5).drew)
  generalize w5.drew = w6 at *
  refine tkLoad (i := 0) 74 (.tmp 6) g1 (0) [.int .i64 r, .int .u8 (n : Int), .int .u8 (k : Int), .slice A1 L1.length c1, .slice none 0 0, .slice none 0 0, .slice none 0 0, .bool false] _ rfl rfl (by kernel_rfl) (by kernel_rfl) (by kernel_rfl) (fun _ _ _ h => h) (by rfl) rfl rfl (fun w hw => hw.1) Tryz.underlying74 rfl infoTask13 (by assumption) ?_
  try simp only [Act.put, List.setIfInBounds_toArray, List.set_cons_zero, List.set_cons_succ]
  refine tkLoad (i := 2) 74 (.tmp 7) g2 (0) [.int .i64 r, .int .u8 (k : Int), .int .u8 (j : Int), .slice A2 L2.length c2, .slice none 0 0, .slice none 0 0, .slice none 0 0, .bool false] _ rfl rfl (by kernel_rfl) (by kernel_rfl) (by kernel_rfl) (fun _ _ _ h => h) (by rfl) rfl rfl (fun w hw => hw.2.1) Tryz.underlying74 rfl infoTask13 (by assumption) ?_
  try simp only [Act.put, List.setIfInBounds_toArray, List.set_cons_zero, List.set_cons_succ]
  refine tkLoad (i := 4) 74 (.tmp 8) g3 (0) [.int .i64 r, .int .u8 (n : Int), .int .u8 (j : Int), .slice A3 L3.length c3, .slice none 0 0, .slice none 0 0, .slice none 0 0, .bool false] _ rfl rfl (by kernel_rfl) (by kernel_rfl) (by kernel_rfl) (fun _ _ _ h => h) (by rfl) rfl rfl (fun w hw => hw.2.2) Tryz.underlying74 rfl infoTask13 (by assumption) ?_
  try simp only [Act.put, List.setIfInBounds_toArray, List.set_cons_zero, List.set_cons_succ]
  refine wpAnyH_ready (rs := [1]) (by kernel_rfl) (by simp) ?_
  refine AllReadyH.cons rfl (fun K hK => ?_) AllReadyH.nil
  go_simp
  refine (HMX.out n k L1 A1 c1 _ HN.out.1 HN.out.2.1 (G1.out.kept0 K0.out)).mono ?_
  rintro _ y1 ⟨v11, v12, v13, rfl, hm, hk⟩
  rw [← HLA.out] at hm
  have HM1 := Lib.hid (hm.le K0.out.size)
  replace HZ := Lib.hid (HZ.out.kept hk (by simp))
  replace HT1 := Lib.hid (HT1.out.kept hk (by simp))
  replace HT2 := Lib.hid (HT2.out.kept hk (by simp))
  replace HT3 := Lib.hid (HT3.out.kept hk (by simp))
  replace K0 := Lib.hid (K0.out.trans hk)
  clear hm hk
  go_wp2_with fail
  refine hK.out _ _ ?_ (fun hHeld => ?_)
  · exact ⟨HT1.out.cell2, HT2.out.cell2, HT3.out.cell2⟩
  clear hK K
  try simp only [Act.put, List.setIfInBounds_toArray, List.set_cons_zero, List.set_cons_succ]
  refine wpAnyH_ready (rs := [3]) (by kernel_rfl) (by simp) ?_
  refine AllReadyH.cons rfl (fun K hK => ?_) AllReadyH.nil
  go_simp
  refine (HMX.out k j L2 A2 c2 _ HN.out.2.1 HN.out.2.2 (G2.out.kept0 K0.out)).mono ?_
  rintro _ y2 ⟨v21, v22, v23, rfl, hm, hk⟩
  rw [← HLB.out] at hm
  have HM2 := Lib.hid (hm.le K0.out.size)
  replace HZ := Lib.hid (HZ.out.kept hk (by simp))
  replace HT1 := Lib.hid (HT1.out.kept hk (by simp))
  replace HT2 := Lib.hid (HT2.out.kept hk (by simp))
  replace HT3 := Lib.hid (HT3.out.kept hk (by simp))
  replace HM1 := Lib.hid (HM1.out.kept0 hk)
  replace K0 := Lib.hid (K0.out.trans hk)
  clear hm hk
  go_wp2_with fail
  refine hK.out _ _ ?_ (fun hHeld => ?_)
  · exact ⟨HT1.out.cell2, HT2.out.cell2, HT3.out.cell2⟩
  clear hK K
  try simp only [Act.put, List.setIfInBounds_toArray, List.set_cons_zero, List.set_cons_succ]
  refine wpAnyH_ready (rs := [5]) (by kernel_rfl) (by simp) ?_
  refine AllReadyH.cons rfl (fun K hK => ?_) AllReadyH.nil
  go_simp
  refine (HMX.out n j L3 A3 c3 _ HN.out.1 HN.out.2.2 (G3.out.kept0 K0.out)).mono ?_
  rintro _ y3 ⟨v31, v32, v33, rfl, hm, hk⟩
  rw [← HLM.out] at hm
  have HM3 := Lib.hid (hm.le K0.out.size)
  replace HZ := Lib.hid (HZ.out.kept hk (by simp))
  replace HT1 := Lib.hid (HT1.out.kept hk (by simp))
  replace HT2 := Lib.hid (HT2.out.kept hk (by simp))
  replace HT3 := Lib.hid (HT3.out.kept hk (by simp))
  replace HM1 := Lib.hid (HM1.out.kept0 hk)
  replace HM2 := Lib.hid (HM2.out.kept0 hk)
  replace K0 := Lib.hid (K0.out.trans hk)
  clear hm hk
  go_wp2_with fail
  refine hK.out _ _ ?_ (fun hHeld => ?_)
  · exact ⟨HT1.out.cell2, HT2.out.cell2, HT3.out.cell2⟩
  clear hK K
  try simp only [Act.put, List.setIfInBounds_toArray, List.set_cons_zero, List.set_cons_succ]
  obtain ⟨p1, q1, P2, Q2, P3, Q3, rfl, rfl, rfl, _, _⟩ := HM1.out.form
  obtain ⟨p4, q4, P5, Q5, P6, Q6, rfl, rfl, rfl, _, _⟩ := HM2.out.form
  obtain ⟨p7, q7, P8, Q8, P9, Q9, rfl, rfl, rfl, _, _⟩ := HM3.out.form
  refine tkYes (i := 6) (v := ?_) rfl rfl (by kernel_rfl) (by kernel_rfl) (by kernel_rfl) (fun _ _ _ h => h) (by rfl) ?_ (by assumption) ?_
  rotate_left
  · (intro w' hSw; (try dsimp only at hSw); go_simp; try with_reducible rfl)
  try simp only [Act.put, List.setIfInBounds_toArray, List.set_cons_zero, List.set_cons_succ]
  refine wpAnyH_ready (rs := [7]) (by kernel_rfl) (by simp) ?_
  refine AllReadyH.cons rfl (fun K hK => ?_) AllReadyH.nil
  refine stpBlk rfl 32 (.tmp 2) (.tmp 51) rfl gz _ [.int .i64 (n : Int), .int .i64 (k : Int), .slice (some ⟨p1, 0, none⟩) (n + 1) q1, .slice P2 LA.length Q2, .slice P3 LA.length Q3, .int .i64 (k : Int), .int .i64 (j : Int), .slice (some ⟨p4, 0, none⟩) (k + 1) q4, .slice P5 LB.length Q5, .slice P6 LB.length Q6, .int .i64 (n : Int), .int .i64 (j : Int), .slice (some ⟨p7, 0, none⟩) (n + 1) q7, .slice P8 LM.length Q8, .slice P9 LM.length Q9] HZ.out rfl rfl rfl infoRows3 (by simp [Value.oneCell']) ?_
  intro w8 hb8 hk8
  replace HT1 := Lib.hid (HT1.out.keptB ((KeptB.refl 0 [32] _).step (L := [gz]) hk8 (fun u hu => by simp at hu; subst hu; exact ⟨Nat.zero_le _, _, _, _, HZ.out, by simp⟩)) (by decide))
  replace HT2 := Lib.hid (HT2.out.keptB ((KeptB.refl 0 [32] _).step (L := [gz]) hk8 (fun u hu => by simp at hu; subst hu; exact ⟨Nat.zero_le _, _, _, _, HZ.out, by simp⟩)) (by decide))
  replace HT3 := Lib.hid (HT3.out.keptB ((KeptB.refl 0 [32] _).step (L := [gz]) hk8 (fun u hu => by simp at hu; subst hu; exact ⟨Nat.zero_le _, _, _, _, HZ.out, by simp⟩)) (by decide))
  go_simp
  refine hK.out _ _ ?_ (fun hHeld => ?_)
  · exact ⟨HT1.out.cell2, HT2.out.cell2, HT3.out.cell2⟩
  clear hK K
  try simp only [Act.put, List.setIfInBounds_toArray, List.set_cons_zero, List.set_cons_succ]
  refine wpAnyH_done (by kernel_rfl) ?_ _
  go_wp2_with fail
  have e0 := hb8.cell 0
  have e1 := hb8.cell 1
  have e2 := hb8.cell 2
  have e3 := hb8.cell 3
  have e4 := hb8.cell 4
  have e5 := hb8.cell 5
  have e6 := hb8.cell 6
  have e7 := hb8.cell 7
  have e8 := hb8.cell 8
  have e9 := hb8.cell 9
  have e10 := hb8.cell 10
  have e11 := hb8.cell 11
  have e12 := hb8.cell 12
  have e13 := hb8.cell 13
  have e14 := hb8.cell 14
  simp only [List.getElem?_cons_zero, List.getElem?_cons_succ] at e0 e1 e2 e3 e4 e5 e6 e7 e8 e9 e10 e11 e12 e13 e14
  refine bodyPost_ret (v := .agg #[.int .i64 (n : Int), .int .i64 (k : Int), .slice (some ⟨p1, 0, none⟩) (n + 1) q1, .slice P2 LA.length Q2, .slice P3 LA.length Q3, .int .i64 (k : Int), .int .i64 (j : Int), .slice (some ⟨p4, 0, none⟩) (k + 1) q4, .slice P5 LB.length Q5, .slice P6 LB.length Q6, .int .i64 (n : Int), .int .i64 (j : Int), .slice (some ⟨p7, 0, none⟩) (n + 1) q7, .slice P8 LM.length Q8, .slice P9 LM.length Q9]) (by simp [results, Tryz.results5, go_sem, e0, e1, e2, e3, e4, e5, e6, e7, e8, e9, e10, e11, e12, e13, e14]) rfl ?_
  rw [HPOST.out]
  have f8 : KeptB w.heap.size [32] y3 w8 := (KeptB.refl _ _ y3).step (L := [gz]) hk8 (fun u hu => by simp at hu; subst hu; exact ⟨HGE.out, _, _, _, HZ.out, by simp⟩)
  exact ⟨_, _, _, _, _, _, _, _, _, rfl, HM1.out.keptB f8 (by decide) (by decide), HM2.out.keptB f8 (by decide) (by decide), HM3.out.keptB f8 (by decide) (by decide), K0.out.thenB f8 (Nat.le_refl _)⟩
end Go.Proofs.YtblfingmdipopaaGreat
