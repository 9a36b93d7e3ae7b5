/- gemm.order, rises, Done: cells that rise are a matrix of those that are not zero. Conditions: values of the ring. -/
import Derived.Test.YtblfingmdipopaaGreatK40
namespace Go.Proofs.YtblfingmdipopaaGreat
set_option linter.unusedSimpArgs false
set_option linter.unusedVariables false
open Go.ChangeShapes Go.WideShapes Go.ChangeAt Go.RowKit
open Go.RowKit (wrap32 wrap64)
set_option maxHeartbeats 8000000

/-- A cell's cells. -/
abbrev ceV (x : Ed) : List Value := [.int .i64 x.1, .int .i64 x.2.1, .int .i64 (wOf x.2.2).1, .int .u64 ((wOf x.2.2).2 : Int)]
theorem infoCell : Info Tryz.prog 124 (.agg #[.int .i64 0, .int .i64 0, .int .i64 0, .int .u64 0]) 4 32 := by unfold Info; kernel_rfl
theorem infoCell4 : (Tryz.prog.info? 124).map (·.size) = some 4 := by kernel_rfl
theorem gwithin_c (a b : Int) (w : World) : Calls Tryz.prog 51 #[.int .i64 a, .int .i64 b] w fun e w' => e = .returned (.bool (decide (0 ≤ a) && decide (a ≤ b))) ∧ w' = w := by
  by_cases h1 : 0 ≤ a
  · have HD := Lib.hid (show (decide (0 ≤ a) && decide (a ≤ b)) = decide (a ≤ b) by simp [h1])
    go_enter Tryz.func51, Tryz.ntmps51
    go_wp2_with fail
    go_ret
    exact ⟨ret_bool (by rw [HD.out]), rfl⟩
  · have HD := Lib.hid (show (decide (0 ≤ a) && decide (a ≤ b)) = false by simp [h1])
    go_enter Tryz.func51, Tryz.ntmps51
    go_wp2_with fail
    go_ret
    exact ⟨ret_bool (by rw [HD.out]), rfl⟩
theorem gwithin_yes (a b : Int) (w : World) (h : 0 ≤ a ∧ a ≤ b) : Calls Tryz.prog 51 #[.int .i64 a, .int .i64 b] w fun e w' => e = .returned (.bool true) ∧ w' = w := by
  have h1 := gwithin_c a b w
  rwa [show (decide (0 ≤ a) && decide (a ≤ b)) = true by simp [h.1, h.2]] at h1
theorem cell_at {w : World} {A : Option Addr} {l : List Ed} (h : Reads w A (l.flatMap ceV)) {k : Nat} (hk : k < l.length) :
    ∃ b off, A = some ⟨b, off, none⟩ ∧ b < w.heap.size ∧ w.cell? ⟨b, off + k * 4, none⟩ = some (.int .i64 l[k].1) ∧ w.cell? ⟨b, off + k * 4 + 1, none⟩ = some (.int .i64 l[k].2.1) ∧ w.cell? ⟨b, off + k * 4 + 2, none⟩ = some (.int .i64 (wOf l[k].2.2).1) ∧ w.cell? ⟨b, off + k * 4 + 3, none⟩ = some (.int .u64 ((wOf l[k].2.2).2 : Int)) := by
  obtain ⟨b, off, e, hb, hc⟩ := rec_cell (m := 4) (fun _ _ => rfl) (by decide) h hk
  exact ⟨b, off, e, hb, hc 0 _ rfl, hc 1 _ rfl, hc 2 _ rfl, hc 3 _ rfl⟩
theorem cell_range {w : World} {A : Option Addr} {l : List Ed} (h : Reads w A (l.flatMap ceV)) {k : Nat} (hk : k < l.length) : ∃ b off, A = some ⟨b, off, none⟩ ∧ w.rangeAt b (off + k * 4) (ceV l[k]) := by
  obtain ⟨b, off, e, _, hc⟩ := rec_cell (m := 4) (f := ceV) (fun _ _ => rfl) (by decide) h hk
  exact ⟨b, off, e, fun j u hu => by rw [Nat.add_assoc]; exact hc j u hu⟩
set_option maxRecDepth 100000 in
theorem orderC_any (a b : Ed) (w : World) :
    Calls Tryz.prog 92 #[.agg (ceV a).toArray, .agg (ceV b).toArray] w fun e w' => e = .returned (.int .i64 (endsI a b)) ∧ Grown w w' := by
  obtain ⟨a1, a2, a3⟩ := a
  obtain ⟨b1, b2, b3⟩ := b
  have HX := Lib.hid ((Blk.new w 124 (ceV (a1, a2, a3))).alloc (.cells (ceV (b1, b2, b3)).toArray 124))
  have HY := Lib.hid (Blk.new1F w (.cells (ceV (a1, a2, a3)).toArray 124) 124 (ceV (b1, b2, b3)))
  have G := Lib.hid (((Grown.refl w).alloc (.cells (ceV (a1, a2, a3)).toArray 124)).alloc (.cells (ceV (b1, b2, b3)).toArray 124))
  go_enter Tryz.func92, Tryz.ntmps92
  go_upto_region 1 with (fail)
  refine wp_region_still_tail 10 (by kernel_rfl) (by kernel_rfl) ?_
  simp only [List.take_succ_cons, List.take_zero, List.drop_succ_cons, List.drop_zero]
  change wpStill _ _ (World.drew ((w.alloc (.cells (ceV (a1, a2, a3)).toArray 124)).alloc (.cells (ceV (b1, b2, b3)).toArray 124))) (fun a' => wpList _ _ _ _ a' (World.drew ((w.alloc (.cells (ceV (a1, a2, a3)).toArray 124)).alloc (.cells (ceV (b1, b2, b3)).toArray 124)))) _ _
  replace HX := Lib.hid HX.out.drew
  replace HY := Lib.hid HY.out.drew
  replace G := Lib.hid G.out.drew
  generalize World.drew ((w.alloc (.cells (ceV (a1, a2, a3)).toArray 124)).alloc (.cells (ceV (b1, b2, b3)).toArray 124)) = w2 at *
  generalize w.heap.size + 1 = g2 at HY ⊢
  generalize w.heap.size = g1 at HX ⊢
  have x0 := HX.out.cell 0
  have x1 := HX.out.cell 1
  have y0 := HY.out.cell 0
  have y1 := HY.out.cell 1
  simp only [ceV, List.getElem?_cons_zero, List.getElem?_cons_succ] at x0 x1 y0 y1
  repeat still_step
  still_call (compare_int a1 b1 _)
  repeat still_step
  still_call (compare_int a2 b2 _)
  refine wpStill_nil ?_
  clear x0 x1 y0 y1
  have HO := Lib.hid (Blk.new w2 3 [.int .i64 (cmpI a1 b1), .int .i64 (cmpI a2 b2)])
  go_wp2_with fail
  refine (or2_any (cmpI a1 b1) (cmpI a2 b2) _ _ _ HO.out).mono ?_
  rintro _ w3 ⟨rfl, rfl⟩
  go_wp2_with fail
  go_ret
  exact ⟨rfl, G.out.alloc _⟩
set_option maxRecDepth 100000 in
theorem gRises_any (l : List Ed) (A : Option Addr) (c : Nat) (w : World) (hl : l.length ≤ 65536) (hri : RisesL l) (hr : Reads w A (l.flatMap ceV)) :
    Calls Tryz.prog 54 #[.slice A l.length c] w fun e w' => e = .returned (.bool true) ∧ Kept [] w w' := by
  have HR := Lib.hid hr
  have HRI := Lib.hid hri
  clear hr hri
  go_enter Tryz.func54, Tryz.ntmps54
  go_wp2_with fail
  go_loopw [6] (fun i wr => ∃ k : Nat, k ≤ l.length ∧ i = .int .i64 k ∧ Hid (Kept [] w wr)) (fun i _ => l.length - (intOf i).toNat)
  case atStart => exact ⟨0, Nat.zero_le _, rfl, Lib.hid (Kept.refl _ _)⟩
  case round =>
    obtain ⟨k, hk, rfl, K0⟩ := hrel
    by_cases hlt : k < l.length
    · rcases k with _ | q
      · go_upto_region 4 with (fail)
        go_quiet (fail)
        replace K0 := Lib.hid (K0.out.drewN nq)
        generalize World.drewN wr nq = w2 at *
        go_wp2_with fail
        go_roundw
        case rel => exact ⟨1, by omega, by go_num, K0⟩
        case measure => simp [intOf]; omega
      · go_upto_region 4 with (fail)
        obtain ⟨b, off, rfl, hx⟩ := cell_range (HR.out.kept0 K0.out) (show q < l.length by omega)
        obtain ⟨b2, o2, eA, hy⟩ := cell_range (HR.out.kept0 K0.out) (show q + 1 < l.length by omega)
        cases eA
        obtain ⟨X, hX⟩ : ∃ X, X = l[q]'(by omega) := ⟨_, rfl⟩
        obtain ⟨Y, hY⟩ : ∃ Y, Y = l[q + 1]'(by omega) := ⟨_, rfl⟩
        have hb : keyLt (keyOf X) (keyOf Y) = true := by rw [hX, hY]; exact List.pairwise_iff_getElem.1 HRI.out q (q + 1) (by omega) hlt (by omega)
        rw [← hX] at hx
        rw [← hY] at hy
        have HX := Lib.hid hx
        have HY := Lib.hid hy
        have HE := Lib.hid (show ¬ 0 ≤ endsI X Y from fun h => by rw [(endsI_lt X Y).1 h] at hb; cases hb)
        clear hx hy hX hY hb
        have n1 : ¬ l.length ≤ q := by omega
        have n2 : ¬ ((q : Int) + 1 < 0) := by omega
        have n3 : ¬ (l.length : Int) ≤ (q : Int) + 1 := by omega
        have n4 : (q : Int) + 1 < (l.length : Int) := by omega
        have n5 : q < l.length := by omega
        have n6 : ¬ l.length ≤ q + 1 := by omega
        refine wp_region_held_drew (S := (fun w' => w'.rangeAt b (off + q * 4) (ceV X) ∧ w'.rangeAt b (off + (q + 1) * 4) (ceV Y))) (by kernel_rfl) ?_ (fun hHeld => ?_)
        · exact ⟨HX.out, HY.out⟩
        replace K0 := Lib.hid (K0.out.drew)
        replace HX := Lib.hid (show World.rangeAt (World.drew _) b (off + q * 4) (ceV X) from HX.out)
        replace HY := Lib.hid (show World.rangeAt (World.drew _) b (off + (q + 1) * 4) (ceV Y) from HY.out)
        refine tkYes (i := 0) (v := ?_) rfl rfl (by kernel_rfl) (by kernel_rfl) (by kernel_rfl) (fun _ _ _ h => h) (by rfl) ?_ (by assumption) ?_
        rotate_left
        · (intro w' hSw; (try dsimp only at hSw); go_simp; try with_reducible rfl)
        try simp only [Act.put, List.setIfInBounds_toArray, List.set_cons_zero, List.set_cons_succ]
        refine tkYes (i := 1) (v := ?_) rfl rfl (by kernel_rfl) (by kernel_rfl) (by kernel_rfl) (fun _ _ _ h => h) (by rfl) ?_ (by assumption) ?_
        rotate_left
        · (intro w' hSw; (try dsimp only at hSw); go_simp; try with_reducible rfl)
        try simp only [Act.put, List.setIfInBounds_toArray, List.set_cons_zero, List.set_cons_succ]
        refine tkYes (i := 2) (v := ?_) rfl rfl (by kernel_rfl) (by kernel_rfl) (by kernel_rfl) (fun _ _ _ h => h) (by rfl) ?_ (by assumption) ?_
        rotate_left
        · (intro w' hSw; (try dsimp only at hSw); go_simp; try with_reducible rfl)
        try simp only [Act.put, List.setIfInBounds_toArray, List.set_cons_zero, List.set_cons_succ]
        refine tkYes (i := 3) (v := ?_) rfl rfl (by kernel_rfl) (by kernel_rfl) (by kernel_rfl) (fun _ _ _ h => h) (by rfl) ?_ (by assumption) ?_
        rotate_left
        · (intro w' hSw; (try dsimp only at hSw); go_simp; try with_reducible rfl)
        try simp only [Act.put, List.setIfInBounds_toArray, List.set_cons_zero, List.set_cons_succ]
        refine tkYes (i := 4) (v := ?_) rfl rfl (by kernel_rfl) (by kernel_rfl) (by kernel_rfl) (fun _ _ _ h => h) (by rfl) ?_ (by assumption) ?_
        rotate_left
        · (intro w' hSw; (try dsimp only at hSw); go_simp; try with_reducible rfl)
        try simp only [Act.put, List.setIfInBounds_toArray, List.set_cons_zero, List.set_cons_succ]
        refine tkYes (i := 5) (v := .int .i64 (q : Int)) rfl rfl (by kernel_rfl) (by kernel_rfl) (by kernel_rfl) (fun _ _ _ h => h) (by rfl) ?_ (by assumption) ?_
        skip
        · (intro w' hSw; (try dsimp only at hSw); go_simp; try rw [IntWalk.i64_in _ (by omega)])
        try simp only [Act.put, List.setIfInBounds_toArray, List.set_cons_zero, List.set_cons_succ]
        refine tkYes (i := 6) (v := .pointer (some ⟨b, off + q * 4, none⟩)) rfl rfl (by kernel_rfl) (by kernel_rfl) (by kernel_rfl) (fun _ _ _ h => h) (by rfl) ?_ (by assumption) ?_
        skip
        · (intro w' hSw; (try dsimp only at hSw); go_simp; try (simp; done))
        try simp only [Act.put, List.setIfInBounds_toArray, List.set_cons_zero, List.set_cons_succ]
        refine tkLoad (i := 7) 124 (.tmp 15) b (off + q * 4) (ceV X) _ rfl rfl (by kernel_rfl) (by kernel_rfl) (by kernel_rfl) (fun _ _ _ h => h) (by rfl) rfl rfl (fun w hw => hw.1) Tryz.underlying124 rfl infoCell4 (by assumption) ?_
        try simp only [Act.put, List.setIfInBounds_toArray, List.set_cons_zero, List.set_cons_succ]
        refine tkYes (i := 8) (v := ?_) rfl rfl (by kernel_rfl) (by kernel_rfl) (by kernel_rfl) (fun _ _ _ h => h) (by rfl) ?_ (by assumption) ?_
        rotate_left
        · (intro w' hSw; (try dsimp only at hSw); go_simp; try with_reducible rfl)
        try simp only [Act.put, List.setIfInBounds_toArray, List.set_cons_zero, List.set_cons_succ]
        refine tkYes (i := 9) (v := ?_) rfl rfl (by kernel_rfl) (by kernel_rfl) (by kernel_rfl) (fun _ _ _ h => h) (by rfl) ?_ (by assumption) ?_
        rotate_left
        · (intro w' hSw; (try dsimp only at hSw); go_simp; try with_reducible rfl)
        try simp only [Act.put, List.setIfInBounds_toArray, List.set_cons_zero, List.set_cons_succ]
        refine tkYes (i := 10) (v := .pointer (some ⟨b, off + (q + 1) * 4, none⟩)) rfl rfl (by kernel_rfl) (by kernel_rfl) (by kernel_rfl) (fun _ _ _ h => h) (by rfl) ?_ (by assumption) ?_
        skip
        · (intro w' hSw; (try dsimp only at hSw); go_simp; try (simp; done))
        try simp only [Act.put, List.setIfInBounds_toArray, List.set_cons_zero, List.set_cons_succ]
        refine tkLoad (i := 11) 124 (.tmp 19) b (off + (q + 1) * 4) (ceV Y) _ rfl rfl (by kernel_rfl) (by kernel_rfl) (by kernel_rfl) (fun _ _ _ h => h) (by rfl) rfl rfl (fun w hw => hw.2) Tryz.underlying124 rfl infoCell4 (by assumption) ?_
        try simp only [Act.put, List.setIfInBounds_toArray, List.set_cons_zero, List.set_cons_succ]
        refine wpAnyH_ready (rs := [12]) (by kernel_rfl) (by simp) ?_
        refine AllReadyH.cons rfl (fun K hK => ?_) AllReadyH.nil
        go_simp
        refine (orderC_any X Y _).mono ?_
        rintro _ w5 ⟨rfl, hg5⟩
        have hk5 := hg5.kept
        clear hg5
        replace K0 := Lib.hid (K0.out.trans hk5)
        replace HX := Lib.hid (show w5.rangeAt b (off + q * 4) (ceV X) from fun j u hu => Kept.cell_lt hk5 (HX.out j u hu))
        replace HY := Lib.hid (show w5.rangeAt b (off + (q + 1) * 4) (ceV Y) from fun j u hu => Kept.cell_lt hk5 (HY.out j u hu))
        clear hk5
        go_wp2_with fail
        refine hK.out _ _ ?_ (fun hHeld => ?_)
        · exact ⟨HX.out, HY.out⟩
        clear hK K
        try simp only [Act.put, List.setIfInBounds_toArray, List.set_cons_zero, List.set_cons_succ]
        refine tkYes (i := 13) (v := .bool false) rfl rfl (by kernel_rfl) (by kernel_rfl) (by kernel_rfl) (fun _ _ _ h => h) (by rfl) ?_ (by assumption) ?_
        skip
        · (intro w' hSw; (try dsimp only at hSw); go_simp; have hh := HE.out; first | omega | (simp; omega))
        try simp only [Act.put, List.setIfInBounds_toArray, List.set_cons_zero, List.set_cons_succ]
        refine tkYes (i := 14) (v := ?_) rfl rfl (by kernel_rfl) (by kernel_rfl) (by kernel_rfl) (fun _ _ _ h => h) (by rfl) ?_ (by assumption) ?_
        rotate_left
        · (intro w' hSw; (try dsimp only at hSw); go_simp; try with_reducible rfl)
        try simp only [Act.put, List.setIfInBounds_toArray, List.set_cons_zero, List.set_cons_succ]
        refine wpAnyH_done (by kernel_rfl) ?_ _
        go_wp2_with fail
        go_roundw
        case rel => exact ⟨q + 1 + 1, by omega, by go_num, K0⟩
        case measure => simp [intOf]; omega
    · obtain rfl : k = l.length := by omega
      go_wp2_with fail
      go_ret
      exact ⟨rfl, K0.out⟩
theorem doneC_any (x : Ed) (n m g1 g2 : Nat) (w : World) (h1 : Blk w g1 3 [.int .i64 n]) (h2 : Blk w g2 3 [.int .i64 m]) (hx : (0 ≤ x.1 ∧ x.1 < n) ∧ 0 ≤ x.2.1 ∧ x.2.1 < m) (hn : n ≤ 4096) (hm : m ≤ 4096) :
    Calls Tryz.prog 53 #[.agg (ceV x).toArray, .pointer (some ⟨g1, 0, none⟩), .pointer (some ⟨g2, 0, none⟩)] w fun e w' => e = .returned (.bool false) ∧ Kept [] w w' := by
  obtain ⟨x1, x2, x3⟩ := x
  dsimp only at hx
  have k0 := (Kept.refl [] w).alloc (.cells (ceV (x1, x2, x3)).toArray 124)
  have HX := Lib.hid (Blk.new w 124 (ceV (x1, x2, x3)))
  have HD1 := Lib.hid (h1.kept k0 (by simp))
  have HD2 := Lib.hid (h2.kept k0 (by simp))
  have HK := Lib.hid k0
  have HX2 := Lib.hid hx
  clear k0 hx h1 h2
  have hwn : IntKind.i64.wrap ((n : Int) - 1) = (n : Int) - 1 := by rw [IntKind.wrap_i64]; omega
  have hwm : IntKind.i64.wrap ((m : Int) - 1) = (m : Int) - 1 := by rw [IntKind.wrap_i64]; omega
  go_enter Tryz.func53, Tryz.ntmps53
  go_upto_region 1 with (fail)
  generalize w.alloc (.cells (ceV (x1, x2, x3)).toArray 124) = w1 at *
  generalize w.heap.size = gx at HX ⊢
  have c0 := HX.out.cell 0
  have c1 := HX.out.cell 1
  have d1 := HD1.out.cell 0
  have d2 := HD2.out.cell 0
  simp only [ceV, List.getElem?_cons_zero, List.getElem?_cons_succ] at c0 c1 d1 d2
  go_wp2_with fail
  refine (gwithin_yes x1 ((n : Int) - 1) _ (by have := HX2.out; omega)).mono ?_
  rintro _ w1 ⟨rfl, rfl⟩
  go_wp2_with fail
  refine (gwithin_yes x2 ((m : Int) - 1) _ (by have := HX2.out; omega)).mono ?_
  rintro _ w2 ⟨rfl, rfl⟩
  go_wp2_with fail
  go_ret
  exact ⟨rfl, HK.out⟩
theorem indexC_any (S : List Ed) (n m g1 g2 : Nat) (A : Option Addr) (c : Nat) (w : World) (hl : S.length ≤ 65536) (hn : n ≤ 4096) (hm : m ≤ 4096) (hs : InM n m S) (h1 : Blk w g1 3 [.int .i64 n]) (h2 : Blk w g2 3 [.int .i64 m]) (hr : Reads w A (S.flatMap ceV)) :
    Calls Tryz.prog 91 #[.slice A S.length c, .func (.func 53) #[] #[.pointer (some ⟨g1, 0, none⟩), .pointer (some ⟨g2, 0, none⟩)]] w fun e w' => e = .returned (.int .i64 (-1)) ∧ Kept [] w w' := by
  have HR := Lib.hid hr
  have HG1 := Lib.hid h1
  have HG2 := Lib.hid h2
  have HS := Lib.hid hs
  have HN := Lib.hid hn
  have HM := Lib.hid hm
  clear hr h1 h2 hs hn hm
  go_enter Tryz.func91, Tryz.ntmps91
  go_wp2_with fail
  go_loopw [8] (fun i wr => ∃ k : Nat, k ≤ S.length ∧ i = .int .i64 k ∧ Hid (Kept [] w wr)) (fun i _ => S.length - (intOf i).toNat)
  case atStart => exact ⟨0, Nat.zero_le _, rfl, Lib.hid (Kept.refl _ _)⟩
  case round =>
    obtain ⟨k, hk, rfl, KW⟩ := hrel
    by_cases hlt : k < S.length
    · obtain ⟨b, off, rfl, hbl, h0, h1, h2, h3⟩ := cell_at (HR.out.kept0 KW.out) hlt
      go_wp2_with fail
      refine (doneC_any S[k] n m g1 g2 _ (HG1.out.kept KW.out (by simp)) (HG2.out.kept KW.out (by simp)) (HS.out _ (List.getElem_mem hlt)) HN.out HM.out).mono ?_
      rintro e w1 ⟨rfl, hk1⟩
      have KW := Lib.hid (KW.out.trans hk1)
      clear hk1 h0 h1 h2 h3
      go_wp2_with fail
      go_roundw
      case rel => exact ⟨k + 1, by omega, by go_num, KW⟩
      case measure => simp [intOf]; omega
    · go_wp2_with fail
      go_ret
      exact ⟨rfl, KW.out⟩
theorem containsC_any (S : List Ed) (n m g1 g2 : Nat) (A : Option Addr) (c : Nat) (w : World) (hl : S.length ≤ 65536) (hn : n ≤ 4096) (hm : m ≤ 4096) (hs : InM n m S) (h1 : Blk w g1 3 [.int .i64 n]) (h2 : Blk w g2 3 [.int .i64 m]) (hr : Reads w A (S.flatMap ceV)) :
    Calls Tryz.prog 52 #[.slice A S.length c, .func (.func 53) #[] #[.pointer (some ⟨g1, 0, none⟩), .pointer (some ⟨g2, 0, none⟩)]] w fun e w' => e = .returned (.bool false) ∧ Kept [] w w' := by
  have HI := Lib.hid (indexC_any S n m g1 g2 A c w hl hn hm hs h1 h2 hr)
  clear hl hn hm hs h1 h2 hr
  go_enter Tryz.func52, Tryz.ntmps52
  go_wp2_with fail
  refine HI.out.mono ?_
  rintro _ w1 ⟨rfl, hk⟩
  have HK := Lib.hid hk
  clear hk
  go_wp2_with fail
  go_ret
  exact ⟨rfl, HK.out⟩
/-- Those that are not zero. -/
def nzL (r : Int) (C : List Ed) : List Ed := C.filter (fun e => e.2.2 != zeroV r)
theorem nzL_len (r : Int) (C : List Ed) : (nzL r C).length ≤ C.length := List.length_filter_le _ _
theorem nzL_ok {r : Int} {n m : Nat} {C : List Ed} (h : MtOkM n m C) : MtOkM n m (nzL r C) := ⟨List.Pairwise.filter _ h.rises, fun e he => h.inn e (List.mem_filter.1 he).1, Nat.le_trans (nzL_len r C) h.len, h.num, h.mum⟩
theorem nzL_succ (r : Int) (S : List Ed) {k : Nat} (h : k < S.length) : nzL r (S.take (k + 1)) = if S[k].2.2 = zeroV r then nzL r (S.take k) else nzL r (S.take k) ++ [S[k]] := by
  rw [List.take_succ_eq_append_getElem h]
  unfold nzL
  rw [List.filter_append]
  by_cases hz : S[k].2.2 = zeroV r
  · rw [if_pos hz]
    simp [hz]
  · rw [if_neg hz]
    simp [hz]
set_option maxRecDepth 100000 in
theorem gDone_any (r : Int) (hr : RingV r) (n m : Nat) (C : List Ed) (A : Option Addr) (c : Nat) (w : World) (hok : MtOkM n m C) (ho : ∀ e ∈ C, OkV r e.2.2) (hA : Reads w A (C.flatMap ceV)) :
    Calls Tryz.prog 24 #[.int .i64 r, .int .i64 n, .int .i64 m, .slice A C.length c] w (fun e w' => ∃ v, e = .returned (.tuple #[v, .int .i64 0]) ∧ MtPost w n m (nzL r C) (.returned v) w') := by
  have HRV := Lib.hid hr
  have HOK := Lib.hid hok
  have HO := Lib.hid ho
  have HA := Lib.hid hA
  have HLN := Lib.hid hok.len
  have HNN := Lib.hid hok.num
  have HMM := Lib.hid hok.mum
  clear hr hok ho hA
  have ri : ringIs r = true := by rcases HRV.out with rfl | rfl | rfl <;> rfl
  obtain ⟨post, hpost⟩ : ∃ post : Ending → World → Prop, post = (fun e w' => ∃ v, e = .returned (.tuple #[v, .int .i64 0]) ∧ MtPost w n m (nzL r C) (.returned v) w') := ⟨_, rfl⟩
  rw [← hpost]
  have HPOST := Lib.hid hpost
  clear hpost
  go_enter Tryz.func24, Tryz.ntmps24
  go_wp2_with fail
  refine (ringIs_any r _).mono ?_
  rintro _ w1 ⟨rfl, hw1⟩
  rw [ri]
  have HB := Lib.hid (((Blk.new w 3 [.int .i64 n]).alloc (.cells #[.int .i64 m] 3)).alloc (.cells #[.int .i64 0, .int .i64 0, .slice none 0 0, .slice none 0 0, .slice none 0 0] 31))
  have HM := Lib.hid ((Blk.new1F w (.cells #[.int .i64 n] 3) 3 [.int .i64 m]).alloc (.cells #[.int .i64 0, .int .i64 0, .slice none 0 0, .slice none 0 0, .slice none 0 0] 31))
  have HZ0 := Blk.new ((w.alloc (.cells #[.int .i64 n] 3)).alloc (.cells #[.int .i64 m] 3)) 31 [.int .i64 0, .int .i64 0, .slice none 0 0, .slice none 0 0, .slice none 0 0]
  rw [show ((w.alloc (.cells #[.int .i64 n] 3)).alloc (.cells #[.int .i64 m] 3)).heap.size = w.heap.size + 1 + 1 by simp] at HZ0
  have HZ := Lib.hid HZ0
  have K0 := Lib.hid ((((Kept.refl [] w).alloc (.cells #[.int .i64 n] 3)).alloc (.cells #[.int .i64 m] 3)).alloc (.cells #[.int .i64 0, .int .i64 0, .slice none 0 0, .slice none 0 0, .slice none 0 0] 31))
  clear HZ0
  rw [← hw1] at HB HM HZ K0
  clear hw1
  have b0 := HB.out.cell 0
  have m0 := HM.out.cell 0
  simp only [List.getElem?_cons_zero] at b0 m0
  go_wp2_with fail
  refine (gwithin_yes n 4096 _ (by have := HNN.out; omega)).mono ?_
  rintro _ w2 ⟨rfl, rfl⟩
  go_wp2_with fail
  refine (gwithin_yes m 4096 _ (by have := HMM.out; omega)).mono ?_
  rintro _ w3 ⟨rfl, rfl⟩
  go_wp2_with fail
  refine (containsC_any C n m w.heap.size (w.heap.size + 1) A c _ HLN.out HNN.out HMM.out HOK.out.inn HB.out HM.out (HA.out.kept0 K0.out)).mono ?_
  rintro _ w4 ⟨rfl, hk⟩
  clear b0 m0
  replace HB := Lib.hid (HB.out.kept hk (by simp))
  replace HM := Lib.hid (HM.out.kept hk (by simp))
  replace HZ := Lib.hid (HZ.out.kept hk (by simp))
  replace K0 := Lib.hid (K0.out.trans hk)
  clear hk
  go_wp2_with fail
  refine (gRises_any C A c _ HLN.out HOK.out.rises (HA.out.kept0 K0.out)).mono ?_
  rintro _ w5 ⟨rfl, hk⟩
  replace HB := Lib.hid (HB.out.kept hk (by simp))
  replace HM := Lib.hid (HM.out.kept hk (by simp))
  replace HZ := Lib.hid (HZ.out.kept hk (by simp))
  replace K0 := Lib.hid (K0.out.trans hk)
  clear hk
  have h5 : ¬ (65536 : Int) < (C.length : Int) := by have := HLN.out; omega
  go_wp2_with fail
  clear h5
  have hln := HLN.out
  go_loopw [10, 47] (fun v i wr => ∃ k : Nat, k ≤ C.length ∧ i = .int .i64 k ∧ Hid (wr.ownsRow w.heap.size 84 3 v (nzL r (C.take k)).length ((nzL r (C.take k)).flatMap edV)) ∧ Hid (Blk wr w.heap.size 3 [.int .i64 n]) ∧ Hid (Blk wr (w.heap.size + 1) 3 [.int .i64 m]) ∧ Hid (Blk wr (w.heap.size + 1 + 1) 31 [.int .i64 0, .int .i64 0, .slice none 0 0, .slice none 0 0, .slice none 0 0]) ∧ Hid (Kept [] w wr)) (fun _ i _ => C.length - (intOf i).toNat)
  case atStart => exact ⟨0, Nat.zero_le _, rfl, Lib.hid (World.ownsRow_nil _ _ _ _), HB, HM, HZ, K0⟩
  case round =>
    clear HB HM HZ K0
    obtain ⟨k, hk, rfl, HI, HB, HM, HZ, K0⟩ := hrel
    obtain ⟨v, hv⟩ : ∃ v, v = u10 := ⟨_, rfl⟩
    subst hv
    by_cases hlt : k < C.length
    · obtain ⟨b, off, rfl, hb, h0, h1, h2, h3⟩ := cell_at (HA.out.kept0 K0.out) hlt
      have HTK := Lib.hid (nzL_succ r C hlt)
      have HOX := Lib.hid (HO.out C[k] (List.getElem_mem hlt))
      have hil : (nzL r (C.take k)).length ≤ 65536 := Nat.le_trans (nzL_len r _) (by rw [List.length_take]; omega)
      obtain ⟨x, hx⟩ : ∃ x, x = C[k] := ⟨_, rfl⟩
      rw [← hx] at h0 h1 h2 h3 HTK HOX
      clear hx
      obtain ⟨I, hI⟩ : ∃ I, I = nzL r (C.take k) := ⟨_, rfl⟩
      rw [← hI] at HTK HI hil
      clear hI
      obtain ⟨A7, c7, rfl⟩ := own_n HI.out
      obtain ⟨x1, x2, x3⟩ := x
      dsimp only at h0 h1 h2 h3 HTK HOX
      go_upto_region 15 with (fail)
      have HX := Lib.hid (Blk.new wr 124 (ceV (x1, x2, x3)))
      have hka := (Kept.refl [] wr).alloc (.cells (ceV (x1, x2, x3)).toArray 124)
      replace HI := Lib.hid (own_kept0 HI.out hka)
      replace HB := Lib.hid (HB.out.kept hka (by simp))
      replace HM := Lib.hid (HM.out.kept hka (by simp))
      replace HZ := Lib.hid (HZ.out.kept hka (by simp))
      replace K0 := Lib.hid (K0.out.trans hka)
      clear hka h0 h1 h2 h3 hb
      generalize wr.alloc (.cells (ceV (x1, x2, x3)).toArray 124) = w5 at *
      generalize wr.heap.size = g11 at HX ⊢
      go_wp2_with (first | (refine wpList_load_mid rfl 100 (.tmp 53) rfl g11 2 rfl (wdC (wOf x3)) _ (HX.out.range 2 _ (fun j v hv => by rw [Nat.add_comm]; simpa [List.getElem?_cons_succ] using hv)) Tryz.underlying100 rfl infoWide ?_))
      refine (ringNarrow_val r HOX.out _).mono ?_
      rintro _ w6 ⟨rfl, hk6⟩
      replace HI := Lib.hid (own_kept0 HI.out hk6)
      replace HB := Lib.hid (HB.out.kept hk6 (by simp))
      replace HM := Lib.hid (HM.out.kept hk6 (by simp))
      replace HZ := Lib.hid (HZ.out.kept hk6 (by simp))
      replace HX := Lib.hid (HX.out.kept hk6 (by simp))
      replace K0 := Lib.hid (K0.out.trans hk6)
      clear hk6
      go_wp2_with fail
      refine (zero_val HRV.out _).mono ?_
      rintro _ w7 ⟨rfl, rfl⟩
      by_cases hz : x3 = zeroV r
      · have hzb : (x3 != zeroV r) = false := by simp [hz]
        rw [if_pos hz] at HTK
        clear hz
        go_wp2_with fail
        go_roundw
        case rel => exact ⟨k + 1, by omega, by go_num, by rw [HTK.out]; exact HI, HB, HM, HZ, K0⟩
        case measure => simp [intOf]; omega
      · have hzb : (x3 != zeroV r) = true := by simp [hz]
        rw [if_neg hz] at HTK
        clear hz
        have x0 := HX.out.cell 0
        have x1c := HX.out.cell 1
        have hsz := K0.out.size
        simp only [ceV, List.getElem?_cons_zero, List.getElem?_cons_succ] at x0 x1c
        go_wp2_with (at_builtin; refine wpList_app _ rfl (.tmp 65) (.tmp 72) _ rfl 84 (.agg #[.int .i64 0, .int .i64 0, .int .i64 0]) 3 24 Tryz.underlying24 infoTrI rfl (by decide) w.heap.size (.slice A7 I.length c7) I.length _ rfl (HI.out.alloc _) (some ⟨_, 0, none⟩) 1 1 (edV (x1, x2, x3)) rfl rfl (Reads.of_blk (Blk.new _ _ _) (fun _ _ h => h)) (by simp [edV, Value.oneCell']) (by omega) (by unfold maxLen; omega) (by simp; omega) ?_; intro va wa howna hka hba; have HOa := Lib.hid howna; have Fa := Lib.hid (((KeptB.refl w.heap.size [84] w7).alloc _).app hka (HI.out.alloc _) (by decide)); clear howna hka hba)
        clear hsz x0 x1c HX hzb
        go_roundw
        case rel =>
          refine ⟨k + 1, by omega, by go_num, Lib.hid ?_, Lib.hid (HB.out.keptB Fa.out (by decide)), Lib.hid (HM.out.keptB Fa.out (by decide)), Lib.hid (HZ.out.keptB Fa.out (by decide)), Lib.hid (K0.out.thenB Fa.out (Nat.le_refl _))⟩
          have := HOa.out
          rw [HTK.out, List.flatMap_append]
          simpa using this
        case measure => simp [intOf]; omega
    · obtain rfl : k = C.length := by omega
      rw [List.take_length] at HI
      obtain ⟨A7, c7, rfl⟩ := own_n HI.out
      have b0 := HB.out.cell 0
      have m0 := HM.out.cell 0
      simp only [List.getElem?_cons_zero] at b0 m0
      have HNZ := Lib.hid (nzL_ok (r := r) HOK.out)
      have HNO := Lib.hid (fun e he => HO.out e (List.mem_filter.1 he).1 : ∀ e ∈ nzL r C, OkV r e.2.2)
      obtain ⟨M, hM⟩ : ∃ M, M = nzL r C := ⟨_, rfl⟩
      rw [← hM] at HI HNZ HNO HPOST ⊢
      clear hM
      go_wp2_with fail
      refine (csrOf_any r HRV.out n m M A7 c7 _ HNZ.out HNO.out (Reads.of_own HI.out)).mono ?_
      rintro _ w6 ⟨v, rfl, v1, v2, v3, hq, hmt, hk⟩
      injection hq with hq
      subst hq
      have HMT := Lib.hid (hmt.le K0.out.size)
      obtain ⟨b1, c1, A2, c2, A3, c3, rfl, rfl, rfl, _, _⟩ := HMT.out.form
      replace HB := Lib.hid (HB.out.kept hk (by simp))
      replace HM := Lib.hid (HM.out.kept hk (by simp))
      replace HZ := Lib.hid (HZ.out.kept hk (by simp))
      replace K0 := Lib.hid (K0.out.trans hk)
      clear hk hmt b0 m0
      go_wp2_with (first | (refine wpList_storeBlk rfl 31 (.tmp 8) (.tmp 80) rfl (w.heap.size + 1 + 1) _ [.int .i64 n, .int .i64 m, .slice (some ⟨b1, 0, none⟩) (n + 1) c1, .slice A2 M.length c2, .slice A3 M.length c3] HZ.out rfl rfl rfl infoRows (by simp [Value.oneCell']) ?_; intro w8 hb8 hk8))
      have e0 := hb8.cell 0
      have e1 := hb8.cell 1
      have e2 := hb8.cell 2
      have e3 := hb8.cell 3
      have e4 := hb8.cell 4
      simp only [List.getElem?_cons_zero, List.getElem?_cons_succ] at e0 e1 e2 e3 e4
      refine bodyPost_ret (v := .tuple #[.agg #[.int .i64 n, .int .i64 m, .slice (some ⟨b1, 0, none⟩) (n + 1) c1, .slice A2 M.length c2, .slice A3 M.length c3], .int .i64 0]) (by simp [results, Tryz.results24, go_sem, e0, e1, e2, e3, e4]) rfl ?_
      rw [HPOST.out]
      have f8 : KeptB w.heap.size [31] w6 w8 := (KeptB.refl _ _ w6).step (L := [w.heap.size + 1 + 1]) hk8 (fun u hu => by simp at hu; subst hu; exact ⟨by omega, _, _, _, HZ.out, by simp⟩)
      exact ⟨_, rfl, _, _, _, rfl, HMT.out.keptB f8 (by decide) (by decide), K0.out.thenB f8 (Nat.le_refl _)⟩
end Go.Proofs.YtblfingmdipopaaGreat
