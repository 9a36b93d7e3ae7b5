/- fretworklaw21.Within and fretworklaw21.Graph: a graph that can be, of any one. Conditions: none. -/
import Derived.Test.YtblfingmdipopaaGreatM14
namespace Go.Proofs.YtblfingmdipopaaGreat
set_option linter.unusedSimpArgs false
set_option linter.unusedVariables false
open Go.ChangeShapes Go.WideShapes Go.ChangeAt Go.RowKit
open Go.RowKit (wrap32 wrap64)
set_option maxHeartbeats 8000000
def withinP (k n : Int) : Int := if n < 1 ∨ k < 0 then 0 else k % n
theorem withinP_ge (k n : Int) : 0 ≤ withinP k n := by
  unfold withinP
  split
  · omega
  · exact Int.emod_nonneg _ (by omega)
theorem withinP_lt (k n : Int) (hn : 0 < n) : withinP k n < n := by
  unfold withinP
  split
  · omega
  · exact Int.emod_lt_of_pos _ hn
theorem within_any (k n : Int) (w : World) : Calls Tryz.prog 16 #[.int .i64 k, .int .i64 n] w fun e w' => e = .returned (.int .i64 (withinP k n)) ∧ w = w' := by
  by_cases h1 : n < 1
  · have HR := Lib.hid (show withinP k n = 0 by unfold withinP; rw [if_pos (.inl h1)])
    go_enter Tryz.func16, Tryz.ntmps16
    go_wp2_with fail
    go_ret
    exact ⟨ret_int HR.out.symm, rfl⟩
  · by_cases h2 : k < 0
    · have HR := Lib.hid (show withinP k n = 0 by unfold withinP; rw [if_pos (.inr h2)])
      go_enter Tryz.func16, Tryz.ntmps16
      go_wp2_with fail
      go_ret
      exact ⟨ret_int HR.out.symm, rfl⟩
    · have HR := Lib.hid (show withinP k n = k % n by unfold withinP; rw [if_neg (by omega)])
      have h3 : ¬ n = 0 := by omega
      go_enter Tryz.func16, Tryz.ntmps16
      go_wp2_with fail
      go_ret
      exact ⟨ret_int (by rw [HR.out]), rfl⟩
def andM (x : Int) : Int := bits .and .i64 x 2147483647
theorem andM_in (x : Int) : 0 ≤ andM x ∧ andM x ≤ 2147483647 := by
  unfold andM bits
  have h : (BitVec.ofInt 64 x &&& BitVec.ofInt 64 2147483647).toNat ≤ 2147483647 := by
    rw [BitVec.toNat_and]
    exact Nat.le_trans Nat.and_le_right (by decide)
  have hm : ∀ m : Nat, m ≤ 2147483647 → 0 ≤ IntKind.i64.wrap (m : Int) ∧ IntKind.i64.wrap (m : Int) ≤ 2147483647 := by
    intro m hm
    rw [IntKind.wrap_i64]
    omega
  exact hm _ h
def grE (N : Int) (e : Ed) : Ed := (withinP e.1 N, withinP e.2.1 N, andM e.2.2)
/-- What fretworklaw21.Graph makes of a graph. -/
def grN (n : Int) : Int := withinP n 24
def grL (n : Int) (l : List Ed) : List Ed := if 0 < grN n then (l.take 60).map (grE (grN n)) else []
theorem grN_in (n : Int) : 0 ≤ grN n ∧ grN n ≤ 23 := ⟨withinP_ge _ _, by have := withinP_lt n 24 (by omega); unfold grN; omega⟩
theorem grL_len (n : Int) (l : List Ed) : (grL n l).length ≤ 60 := by
  unfold grL
  split
  · simp
    omega
  · simp
theorem grL_in (n : Int) (l : List Ed) : ∀ e ∈ grL n l, (0 ≤ e.1 ∧ e.1 < grN n) ∧ (0 ≤ e.2.1 ∧ e.2.1 < grN n) ∧ 0 ≤ e.2.2 ∧ e.2.2 ≤ 2147483647 := by
  unfold grL
  split
  · rename_i h
    intro e he
    obtain ⟨x, _, rfl⟩ := List.mem_map.1 he
    exact ⟨⟨withinP_ge _ _, withinP_lt _ _ h⟩, ⟨withinP_ge _ _, withinP_lt _ _ h⟩, andM_in _⟩
  · intro e he
    cases he
theorem grL_i64 (n : Int) (l : List Ed) : ∀ e ∈ grL n l, In64 e.2.2 := fun e he => by
  have := (grL_in n l e he).2.2
  unfold In64
  omega
set_option maxRecDepth 100000 in
theorem graph21_any (n : Int) (l : List Ed) (A : Option Addr) (c : Nat) (w : World) (hl : l.length ≤ maxLen) (hA : Reads w A (l.flatMap edV)) :
    Calls Tryz.prog 15 #[.agg #[.int .i64 n, .slice A l.length c]] w (GrPost w (grN n) (grL n l)) := by
  have HA := Lib.hid hA
  obtain ⟨N, hN⟩ : ∃ N, N = grN n := ⟨_, rfl⟩
  obtain ⟨L, hL⟩ : ∃ L, L = grL n l := ⟨_, rfl⟩
  have hN0 : 0 ≤ N := by rw [hN]; exact (grN_in n).1
  have hN1 : N ≤ 23 := by rw [hN]; exact (grN_in n).2
  have HLL := Lib.hid (show L = if 0 < N then (l.take 60).map (grE N) else [] from by rw [hL, hN]; rfl)
  rw [← hN, ← hL]
  have HNN := Lib.hid (show withinP n 24 = N from hN.symm)
  have HB := Lib.hid (((Blk.new w 56 (grV n A l.length c)).alloc (.cells #[.int .i64 0, .slice none 0 0] 56)).alloc (.cells #[.int .i64 N, .slice none 0 0] 56))
  have HZ := Lib.hid ((Blk.new1F w (.cells #[.int .i64 n, .slice A l.length c] 56) 56 [.int .i64 0, .slice none 0 0]).alloc (.cells #[.int .i64 N, .slice none 0 0] 56))
  have HG0 := Blk.new ((w.alloc (.cells #[.int .i64 n, .slice A l.length c] 56)).alloc (.cells #[.int .i64 0, .slice none 0 0] 56)) 56 [.int .i64 N, .slice none 0 0]
  rw [show ((w.alloc (.cells #[.int .i64 n, .slice A l.length c] 56)).alloc (.cells #[.int .i64 0, .slice none 0 0] 56)).heap.size = w.heap.size + 1 + 1 by simp] at HG0
  have HG := Lib.hid HG0
  have K0 := Lib.hid ((((Kept.refl [] w).alloc (.cells #[.int .i64 n, .slice A l.length c] 56)).alloc (.cells #[.int .i64 0, .slice none 0 0] 56)).alloc (.cells #[.int .i64 N, .slice none 0 0] 56))
  have HGZ := Lib.hid (show w.heap.size ≤ w.heap.size + 1 by omega)
  have HG3 := Lib.hid (show w.heap.size ≤ w.heap.size + 1 + 1 ∧ w.heap.size ≠ w.heap.size + 1 + 1 ∧ w.heap.size + 1 ≠ w.heap.size + 1 + 1 by omega)
  clear hA HG0 hN hL
  obtain ⟨post, hpost⟩ : ∃ post : Ending → World → Prop, post = GrPost w N L := ⟨_, rfl⟩
  rw [← hpost]
  have HPOST := Lib.hid hpost
  clear hpost
  go_enter Tryz.func15, Tryz.ntmps15
  go_wp2_with fail
  refine (within_any n 24 _).mono ?_
  rintro _ w1 ⟨rfl, rfl⟩
  rw [HNN.out]
  go_upto_region 2 with (fail)
  generalize (((w.alloc (.cells #[.int .i64 n, .slice A l.length c] 56)).alloc (.cells #[.int .i64 0, .slice none 0 0] 56)).alloc (.cells #[.int .i64 N, .slice none 0 0] 56)) = w2 at *
  generalize w.heap.size + 1 + 1 = g3 at HG HG3 ⊢
  generalize w.heap.size + 1 = gz at HZ HGZ HG3 ⊢
  generalize hgq : w.heap.size = g at HB ⊢
  rw [hgq] at HG3
  have HGE := Lib.hid (show w.heap.size ≤ g from by rw [hgq]; exact Nat.le_refl _)
  clear hgq
  go_wp2_with fail
  go_loopw [4] (fun i wr => ∃ (k : Nat) (v : Value), k ≤ l.length ∧ k ≤ 60 ∧ i = .int .i64 k ∧ Hid (k = 0 ∨ 0 < N) ∧ Hid (wr.ownsRow w.heap.size 107 3 v k (((l.take k).map (grE N)).flatMap edV)) ∧ Hid (Blk wr g 56 (grV n A l.length c)) ∧ Hid (Blk wr gz 56 [.int .i64 0, .slice none 0 0]) ∧ Hid (Blk wr g3 56 [.int .i64 N, v]) ∧ Hid (Kept [] w wr)) (fun i _ => 60 - (intOf i).toNat)
  case atStart => exact ⟨0, _, Nat.zero_le _, Nat.zero_le _, rfl, Lib.hid (.inl rfl), Lib.hid (World.ownsRow_nil _ _ _ _), HB, HZ, HG, K0⟩
  case round =>
    clear HB HZ HG K0
    obtain ⟨k, v, hk, hk6, rfl, HKN, HO, HB, HZ, HG, K0⟩ := hrel
    have y1 := HB.out.cell 1
    have hgl := HB.out.lt
    have d0 := HG.out.cell 0
    have hg3l := HG.out.lt
    simp only [List.getElem?_cons_zero, List.getElem?_cons_succ] at y1 d0
    unfold maxLen at hl
    by_cases h1 : k < l.length
    · by_cases h2 : k < 60
      · by_cases h3 : 0 < N
        · have HTK := Lib.hid (List.take_succ_eq_append_getElem h1)
          obtain ⟨b, off, rfl, hbl, cw⟩ := edge_at HA.out h1
          obtain ⟨x, hx⟩ : ∃ x, x = l[k] := ⟨_, rfl⟩
          rw [← hx] at cw HTK
          clear hx
          obtain ⟨x1, x2, x3⟩ := x
          dsimp only at cw
          have c0 := K0.out.cell_lt cw.1
          have c1 := K0.out.cell_lt cw.2.1
          have c2 := K0.out.cell_lt cw.2.2
          have CW := Lib.hid cw
          clear cw
          obtain ⟨A5, c5, rfl⟩ := own_n HO.out
          have hsz := K0.out.size
          go_upto_region 6 with (fail)
          have HNE := Lib.hid (fun q hq => (HO.out.lt q hq).2 : ∀ q, (Value.slice A5 k c5).ownBlock = some q → q < wr.heap.size)
          have HGL3 := hg3l
          have kd := Lib.hid ((Kept.refl [] wr).alloc (.cells #[.int .i64 x1, .int .i64 x2, .int .i64 x3] 107))
          have HE := Lib.hid (Blk.new wr 107 [.int .i64 x1, .int .i64 x2, .int .i64 x3])
          replace HO := Lib.hid (own_kept0 HO.out kd.out)
          replace HB := Lib.hid (HB.out.kept kd.out (by simp))
          replace HZ := Lib.hid (HZ.out.kept kd.out (by simp))
          replace HG := Lib.hid (HG.out.kept kd.out (by simp))
          replace K0 := Lib.hid (K0.out.trans kd.out)
          have HGN := Lib.hid (show wr.heap.size ≠ g3 by omega)
          clear kd d0 y1 c0 c1 c2 hsz hg3l hgl HGL3
          generalize wr.alloc (.cells #[.int .i64 x1, .int .i64 x2, .int .i64 x3] 107) = w3 at *
          generalize wr.heap.size = ge at HE HNE HGN ⊢
          have d0 := HG.out.cell 0
          have d1 := HG.out.cell 1
          have e0 := HE.out.cell 0
          have e1 := HE.out.cell 1
          have e2 := HE.out.cell 2
          have hg3l := HG.out.lt
          have hgel := HE.out.lt
          have hsz := K0.out.size
          simp only [List.getElem?_cons_zero, List.getElem?_cons_succ] at d0 d1 e0 e1 e2
          have hb24 : k + 1 ≤ 60 := by omega
          refine wp_region_held_drew (S := (fun w' => w'.cell? ⟨ge, 0, none⟩ = some (.int .i64 x1) ∧ w'.cell? ⟨ge, 1, none⟩ = some (.int .i64 x2) ∧ w'.cell? ⟨ge, 2, none⟩ = some (.int .i64 x3) ∧ w'.cell? ⟨g3, 0, none⟩ = some (.int .i64 N))) (by kernel_rfl) ?_ (fun hHeld => ?_)
          · exact ⟨e0, e1, e2, d0⟩
          have kz := (Kept.refl [] w3).drew
          replace HO := Lib.hid (own_kept0 HO.out kz)
          replace HB := Lib.hid (HB.out.kept kz (by simp))
          replace HZ := Lib.hid (HZ.out.kept kz (by simp))
          replace HG := Lib.hid (HG.out.kept kz (by simp))
          replace HE := Lib.hid (HE.out.kept kz (by simp))
          replace K0 := Lib.hid (K0.out.trans kz)
          clear kz d0 d1 e0 e1 e2 hg3l hgel hsz
          generalize w3.drew = w3 at *
          have d1 := HG.out.cell 1
          simp only [List.getElem?_cons_zero, List.getElem?_cons_succ] at d1
          refine tkYes (i := 0) (v := ?_) rfl rfl (by kernel_rfl) (by kernel_rfl) (by kernel_rfl) (fun _ _ _ h => h) (by rfl) ?_ (by assumption) ?_
          rotate_left
          · (intro w' hSw; (try dsimp only at hSw); go_simp; try with_reducible rfl)
          try simp only [Act.put, List.setIfInBounds_toArray, List.set_cons_zero, List.set_cons_succ]
          refine tkYes (i := 2) (v := ?_) rfl rfl (by kernel_rfl) (by kernel_rfl) (by kernel_rfl) (fun _ _ _ h => h) (by rfl) ?_ (by assumption) ?_
          rotate_left
          · (intro w' hSw; (try dsimp only at hSw); go_simp; try with_reducible rfl)
          try simp only [Act.put, List.setIfInBounds_toArray, List.set_cons_zero, List.set_cons_succ]
          refine tkYes (i := 3) (v := ?_) rfl rfl (by kernel_rfl) (by kernel_rfl) (by kernel_rfl) (fun _ _ _ h => h) (by rfl) ?_ (by assumption) ?_
          rotate_left
          · (intro w' hSw; (try dsimp only at hSw); go_simp; try with_reducible rfl)
          try simp only [Act.put, List.setIfInBounds_toArray, List.set_cons_zero, List.set_cons_succ]
          refine tkYes (i := 4) (v := ?_) rfl rfl (by kernel_rfl) (by kernel_rfl) (by kernel_rfl) (fun _ _ _ h => h) (by rfl) ?_ (by assumption) ?_
          rotate_left
          · (intro w' hSw; (try dsimp only at hSw); go_simp; try with_reducible rfl)
          try simp only [Act.put, List.setIfInBounds_toArray, List.set_cons_zero, List.set_cons_succ]
          refine tkYes (i := 5) (v := ?_) rfl rfl (by kernel_rfl) (by kernel_rfl) (by kernel_rfl) (fun _ _ _ h => h) (by rfl) ?_ (by assumption) ?_
          rotate_left
          · (intro w' hSw; (try dsimp only at hSw); go_simp; try with_reducible rfl)
          try simp only [Act.put, List.setIfInBounds_toArray, List.set_cons_zero, List.set_cons_succ]
          refine tkYes (i := 7) (v := ?_) rfl rfl (by kernel_rfl) (by kernel_rfl) (by kernel_rfl) (fun _ _ _ h => h) (by rfl) ?_ (by assumption) ?_
          rotate_left
          · (intro w' hSw; (try dsimp only at hSw); go_simp; try with_reducible rfl)
          try simp only [Act.put, List.setIfInBounds_toArray, List.set_cons_zero, List.set_cons_succ]
          refine tkYes (i := 8) (v := ?_) rfl rfl (by kernel_rfl) (by kernel_rfl) (by kernel_rfl) (fun _ _ _ h => h) (by rfl) ?_ (by assumption) ?_
          rotate_left
          · (intro w' hSw; (try dsimp only at hSw); go_simp; try with_reducible rfl)
          try simp only [Act.put, List.setIfInBounds_toArray, List.set_cons_zero, List.set_cons_succ]
          refine tkYes (i := 9) (v := ?_) rfl rfl (by kernel_rfl) (by kernel_rfl) (by kernel_rfl) (fun _ _ _ h => h) (by rfl) ?_ (by assumption) ?_
          rotate_left
          · (intro w' hSw; (try dsimp only at hSw); go_simp; try with_reducible rfl)
          try simp only [Act.put, List.setIfInBounds_toArray, List.set_cons_zero, List.set_cons_succ]
          refine tkYes (i := 10) (v := ?_) rfl rfl (by kernel_rfl) (by kernel_rfl) (by kernel_rfl) (fun _ _ _ h => h) (by rfl) ?_ (by assumption) ?_
          rotate_left
          · (intro w' hSw; (try dsimp only at hSw); go_simp; try with_reducible rfl)
          try simp only [Act.put, List.setIfInBounds_toArray, List.set_cons_zero, List.set_cons_succ]
          refine tkYes (i := 12) (v := ?_) rfl rfl (by kernel_rfl) (by kernel_rfl) (by kernel_rfl) (fun _ _ _ h => h) (by rfl) ?_ (by assumption) ?_
          rotate_left
          · (intro w' hSw; (try dsimp only at hSw); go_simp; try with_reducible rfl)
          try simp only [Act.put, List.setIfInBounds_toArray, List.set_cons_zero, List.set_cons_succ]
          refine tkYes (i := 13) (v := ?_) rfl rfl (by kernel_rfl) (by kernel_rfl) (by kernel_rfl) (fun _ _ _ h => h) (by rfl) ?_ (by assumption) ?_
          rotate_left
          · (intro w' hSw; (try dsimp only at hSw); go_simp; try with_reducible rfl)
          try simp only [Act.put, List.setIfInBounds_toArray, List.set_cons_zero, List.set_cons_succ]
          refine tkYes (i := 14) (v := ?_) rfl rfl (by kernel_rfl) (by kernel_rfl) (by kernel_rfl) (fun _ _ _ h => h) (by rfl) ?_ (by assumption) ?_
          rotate_left
          · (intro w' hSw; (try dsimp only at hSw); go_simp; try with_reducible rfl)
          try simp only [Act.put, List.setIfInBounds_toArray, List.set_cons_zero, List.set_cons_succ]
          refine wpAnyH_ready (rs := [1, 6]) (by kernel_rfl) (by simp) ?_
          refine AllReadyH.cons rfl (fun K hK => ?_) (AllReadyH.cons rfl (fun K hK => ?_) AllReadyH.nil)
          · go_simp
            refine hK.out _ _ ?_ (fun hHeld => ?_)
            · exact ⟨HE.out.cell 0, HE.out.cell 1, HE.out.cell 2, HG.out.cell 0⟩
            clear hK K
            try simp only [Act.put, List.setIfInBounds_toArray, List.set_cons_zero, List.set_cons_succ]
            refine wpAnyH_ready (rs := [6]) (by kernel_rfl) (by simp) ?_
            refine AllReadyH.cons rfl (fun K hK => ?_) AllReadyH.nil
            go_simp
            go_at_call 16
            refine (within_any _ _ _).mono ?_
            rintro x wn ⟨rfl, rfl⟩
            go_wp2_with fail
            refine hK.out _ _ ?_ (fun hHeld => ?_)
            · exact ⟨HE.out.cell 0, HE.out.cell 1, HE.out.cell 2, HG.out.cell 0⟩
            clear hK K
            try simp only [Act.put, List.setIfInBounds_toArray, List.set_cons_zero, List.set_cons_succ]
            refine wpAnyH_ready (rs := [11]) (by kernel_rfl) (by simp) ?_
            refine AllReadyH.cons rfl (fun K hK => ?_) AllReadyH.nil
            go_simp
            go_at_call 16
            refine (within_any _ _ _).mono ?_
            rintro x wn ⟨rfl, rfl⟩
            go_wp2_with fail
            refine hK.out _ _ ?_ (fun hHeld => ?_)
            · exact ⟨HE.out.cell 0, HE.out.cell 1, HE.out.cell 2, HG.out.cell 0⟩
            clear hK K
            try simp only [Act.put, List.setIfInBounds_toArray, List.set_cons_zero, List.set_cons_succ]
            refine tkYes (i := 15) (v := ?_) rfl rfl (by kernel_rfl) (by kernel_rfl) (by kernel_rfl) (fun _ _ _ h => h) (by rfl) ?_ (by assumption) ?_
            rotate_left
            · (intro w' hSw; (try dsimp only at hSw); go_simp; try with_reducible rfl)
            try simp only [Act.put, List.setIfInBounds_toArray, List.set_cons_zero, List.set_cons_succ]
            refine wpAnyH_ready (rs := [16]) (by kernel_rfl) (by simp) ?_
            refine AllReadyH.cons rfl (fun K hK => ?_) AllReadyH.nil
            go_simp
            have kd := Lib.hid ((Kept.refl [] w3).alloc (.cells #[.int .i64 (withinP x1 N), .int .i64 (withinP x2 N), .int .i64 (bits BinOp.and IntKind.i64 x3 2147483647)] 107))
            have H5 := Lib.hid (Blk.new w3 107 (edV (grE N (x1, x2, x3))))
            replace HO := Lib.hid (own_kept0 HO.out kd.out)
            replace HB := Lib.hid (HB.out.kept kd.out (by simp))
            replace HZ := Lib.hid (HZ.out.kept kd.out (by simp))
            replace HG := Lib.hid (HG.out.kept kd.out (by simp))
            replace HE := Lib.hid (HE.out.kept kd.out (by simp))
            replace K0 := Lib.hid (K0.out.trans kd.out)
            clear kd d1
            have H5 : Hid (Blk (w3.alloc (.cells #[.int .i64 (withinP x1 N), .int .i64 (withinP x2 N), .int .i64 (bits BinOp.and IntKind.i64 x3 2147483647)] 107)) w3.heap.size 107 (edV (grE N (x1, x2, x3)))) := H5
            generalize w3.alloc (.cells #[.int .i64 (withinP x1 N), .int .i64 (withinP x2 N), .int .i64 (bits BinOp.and IntKind.i64 x3 2147483647)] 107) = w4 at *
            generalize w3.heap.size = g5 at H5 ⊢
            have d1 := HG.out.cell 1
            simp only [List.getElem?_cons_zero, List.getElem?_cons_succ] at d1
            refine hK.out _ _ ?_ (fun hHeld => ?_)
            · exact ⟨HE.out.cell 0, HE.out.cell 1, HE.out.cell 2, HG.out.cell 0⟩
            clear hK K
            try simp only [Act.put, List.setIfInBounds_toArray, List.set_cons_zero, List.set_cons_succ]
            refine wpAnyH_ready (rs := [17]) (by kernel_rfl) (by simp) ?_
            refine AllReadyH.cons rfl (fun K hK => ?_) AllReadyH.nil
            have hsz := K0.out.size
            refine step_app _ rfl (.tmp 32) (.tmp 47) _ rfl 107 (.agg #[.int .i64 0, .int .i64 0, .int .i64 0]) 3 24 Tryz.underlying54 infoEd rfl (by decide) w.heap.size (.slice A5 k c5) _ _ rfl HO.out (some ⟨_, 0, none⟩) 1 1 (edV (grE N (x1, x2, x3))) rfl rfl (Reads.of_blk H5.out (fun _ _ h => h)) (by simp [edV, Value.oneCell']) (by omega) (by unfold maxLen; omega) (by omega) ?_
            intro va wa howna hka hba
            obtain ⟨A6, c6, rfl⟩ := own_n howna
            have Fa := Lib.hid ((KeptB.refl w.heap.size [107] w4).app hka HO.out (by decide))
            have HOa := Lib.hid howna
            replace HG := Lib.hid (HG.out.keptB Fa.out (by decide))
            replace HE := Lib.hid (HE.out.kept hka (fun hm => Nat.lt_irrefl _ (HNE.out ge (by simpa using hm))))
            replace HB := Lib.hid (HB.out.keptB Fa.out (by decide))
            replace HZ := Lib.hid (HZ.out.keptB Fa.out (by decide))
            replace K0 := Lib.hid (K0.out.thenB Fa.out (Nat.le_refl _))
            have d1 := HG.out.cell 1
            have f1 := HG.out.frozen 1
            have ll := HG.out.lt
            simp only [List.getElem?_cons_zero, List.getElem?_cons_succ] at d1
            clear howna hka hba HO H5 hsz
            refine hK.out _ _ ?_ (fun hHeld => ?_)
            · exact ⟨HE.out.cell 0, HE.out.cell 1, HE.out.cell 2, HG.out.cell 0⟩
            clear hK K
            try simp only [Act.put, List.setIfInBounds_toArray, List.set_cons_zero, List.set_cons_succ]
            refine tkYes (i := 18) (v := ?_) rfl rfl (by kernel_rfl) (by kernel_rfl) (by kernel_rfl) (fun _ _ _ h => h) (by rfl) ?_ (by assumption) ?_
            rotate_left
            · (intro w' hSw; (try dsimp only at hSw); go_simp; try with_reducible rfl)
            try simp only [Act.put, List.setIfInBounds_toArray, List.set_cons_zero, List.set_cons_succ]
            refine wpAnyH_ready (rs := [19]) (by kernel_rfl) (by simp) ?_
            refine AllReadyH.cons rfl (fun K hK => ?_) AllReadyH.nil
            go_simp
            have ko := (Kept.refl [g3] wa).setCell (p := ⟨g3, 1, none⟩) (.inl (by simp)) (.slice A6 (k + 1) c6)
            have HOb := Lib.hid (own_kept HOa.out ko (fun q hq => by have := own_ne_blk HOa.out HG.out (by decide); simp; rintro rfl; exact this hq))
            replace HB := Lib.hid (HB.out.kept ko (by simp; exact HG3.out.2.1))
            replace HZ := Lib.hid (HZ.out.kept ko (by simp; exact HG3.out.2.2))
            replace HE := Lib.hid (HE.out.kept ko (by simp; exact HGN.out))
            have HGb := Lib.hid (HG.out.set 1 (.slice A6 (k + 1) c6))
            simp only [List.set_cons_zero, List.set_cons_succ] at HGb
            replace K0 := Lib.hid (K0.out.then ko (fun m hm => by simp at hm; subst hm; exact .inr (Nat.le_trans HGE.out HG3.out.1)))
            clear ko Fa HOa HG d1 f1 ll
            generalize wa.setCell ⟨g3, 1, none⟩ (.slice A6 (k + 1) c6) = wb at *
            refine hK.out _ _ ?_ (fun hHeld => ?_)
            · exact ⟨HE.out.cell 0, HE.out.cell 1, HE.out.cell 2, HGb.out.cell 0⟩
            clear hK K
            try simp only [Act.put, List.setIfInBounds_toArray, List.set_cons_zero, List.set_cons_succ]
            refine wpAnyH_done (by kernel_rfl) ?_ _
            go_wp2_with fail
            go_roundw
            case rel =>
              refine ⟨k + 1, .slice A6 (k + 1) c6, by omega, by omega, by go_num, Lib.hid (.inr h3), Lib.hid ?_, HB, HZ, HGb, K0⟩
              rw [HTK.out, List.map_append, List.flatMap_append]
              exact HOb.out
            case measure => simp [intOf]; omega
          · go_simp
            go_at_call 16
            refine (within_any _ _ _).mono ?_
            rintro x wn ⟨rfl, rfl⟩
            go_wp2_with fail
            refine hK.out _ _ ?_ (fun hHeld => ?_)
            · exact ⟨HE.out.cell 0, HE.out.cell 1, HE.out.cell 2, HG.out.cell 0⟩
            clear hK K
            try simp only [Act.put, List.setIfInBounds_toArray, List.set_cons_zero, List.set_cons_succ]
            refine wpAnyH_ready (rs := [1, 11]) (by kernel_rfl) (by simp) ?_
            refine AllReadyH.cons rfl (fun K hK => ?_) (AllReadyH.cons rfl (fun K hK => ?_) AllReadyH.nil)
            · go_simp
              refine hK.out _ _ ?_ (fun hHeld => ?_)
              · exact ⟨HE.out.cell 0, HE.out.cell 1, HE.out.cell 2, HG.out.cell 0⟩
              clear hK K
              try simp only [Act.put, List.setIfInBounds_toArray, List.set_cons_zero, List.set_cons_succ]
              refine wpAnyH_ready (rs := [11]) (by kernel_rfl) (by simp) ?_
              refine AllReadyH.cons rfl (fun K hK => ?_) AllReadyH.nil
              go_simp
              go_at_call 16
              refine (within_any _ _ _).mono ?_
              rintro x wn ⟨rfl, rfl⟩
              go_wp2_with fail
              refine hK.out _ _ ?_ (fun hHeld => ?_)
              · exact ⟨HE.out.cell 0, HE.out.cell 1, HE.out.cell 2, HG.out.cell 0⟩
              clear hK K
              try simp only [Act.put, List.setIfInBounds_toArray, List.set_cons_zero, List.set_cons_succ]
              refine tkYes (i := 15) (v := ?_) rfl rfl (by kernel_rfl) (by kernel_rfl) (by kernel_rfl) (fun _ _ _ h => h) (by rfl) ?_ (by assumption) ?_
              rotate_left
              · (intro w' hSw; (try dsimp only at hSw); go_simp; try with_reducible rfl)
              try simp only [Act.put, List.setIfInBounds_toArray, List.set_cons_zero, List.set_cons_succ]
              refine wpAnyH_ready (rs := [16]) (by kernel_rfl) (by simp) ?_
              refine AllReadyH.cons rfl (fun K hK => ?_) AllReadyH.nil
              go_simp
              have kd := Lib.hid ((Kept.refl [] w3).alloc (.cells #[.int .i64 (withinP x1 N), .int .i64 (withinP x2 N), .int .i64 (bits BinOp.and IntKind.i64 x3 2147483647)] 107))
              have H5 := Lib.hid (Blk.new w3 107 (edV (grE N (x1, x2, x3))))
              replace HO := Lib.hid (own_kept0 HO.out kd.out)
              replace HB := Lib.hid (HB.out.kept kd.out (by simp))
              replace HZ := Lib.hid (HZ.out.kept kd.out (by simp))
              replace HG := Lib.hid (HG.out.kept kd.out (by simp))
              replace HE := Lib.hid (HE.out.kept kd.out (by simp))
              replace K0 := Lib.hid (K0.out.trans kd.out)
              clear kd d1
              have H5 : Hid (Blk (w3.alloc (.cells #[.int .i64 (withinP x1 N), .int .i64 (withinP x2 N), .int .i64 (bits BinOp.and IntKind.i64 x3 2147483647)] 107)) w3.heap.size 107 (edV (grE N (x1, x2, x3)))) := H5
              generalize w3.alloc (.cells #[.int .i64 (withinP x1 N), .int .i64 (withinP x2 N), .int .i64 (bits BinOp.and IntKind.i64 x3 2147483647)] 107) = w4 at *
              generalize w3.heap.size = g5 at H5 ⊢
              have d1 := HG.out.cell 1
              simp only [List.getElem?_cons_zero, List.getElem?_cons_succ] at d1
              refine hK.out _ _ ?_ (fun hHeld => ?_)
              · exact ⟨HE.out.cell 0, HE.out.cell 1, HE.out.cell 2, HG.out.cell 0⟩
              clear hK K
              try simp only [Act.put, List.setIfInBounds_toArray, List.set_cons_zero, List.set_cons_succ]
              refine wpAnyH_ready (rs := [17]) (by kernel_rfl) (by simp) ?_
              refine AllReadyH.cons rfl (fun K hK => ?_) AllReadyH.nil
              have hsz := K0.out.size
              refine step_app _ rfl (.tmp 32) (.tmp 47) _ rfl 107 (.agg #[.int .i64 0, .int .i64 0, .int .i64 0]) 3 24 Tryz.underlying54 infoEd rfl (by decide) w.heap.size (.slice A5 k c5) _ _ rfl HO.out (some ⟨_, 0, none⟩) 1 1 (edV (grE N (x1, x2, x3))) rfl rfl (Reads.of_blk H5.out (fun _ _ h => h)) (by simp [edV, Value.oneCell']) (by omega) (by unfold maxLen; omega) (by omega) ?_
              intro va wa howna hka hba
              obtain ⟨A6, c6, rfl⟩ := own_n howna
              have Fa := Lib.hid ((KeptB.refl w.heap.size [107] w4).app hka HO.out (by decide))
              have HOa := Lib.hid howna
              replace HG := Lib.hid (HG.out.keptB Fa.out (by decide))
              replace HE := Lib.hid (HE.out.kept hka (fun hm => Nat.lt_irrefl _ (HNE.out ge (by simpa using hm))))
              replace HB := Lib.hid (HB.out.keptB Fa.out (by decide))
              replace HZ := Lib.hid (HZ.out.keptB Fa.out (by decide))
              replace K0 := Lib.hid (K0.out.thenB Fa.out (Nat.le_refl _))
              have d1 := HG.out.cell 1
              have f1 := HG.out.frozen 1
              have ll := HG.out.lt
              simp only [List.getElem?_cons_zero, List.getElem?_cons_succ] at d1
              clear howna hka hba HO H5 hsz
              refine hK.out _ _ ?_ (fun hHeld => ?_)
              · exact ⟨HE.out.cell 0, HE.out.cell 1, HE.out.cell 2, HG.out.cell 0⟩
              clear hK K
              try simp only [Act.put, List.setIfInBounds_toArray, List.set_cons_zero, List.set_cons_succ]
              refine tkYes (i := 18) (v := ?_) rfl rfl (by kernel_rfl) (by kernel_rfl) (by kernel_rfl) (fun _ _ _ h => h) (by rfl) ?_ (by assumption) ?_
              rotate_left
              · (intro w' hSw; (try dsimp only at hSw); go_simp; try with_reducible rfl)
              try simp only [Act.put, List.setIfInBounds_toArray, List.set_cons_zero, List.set_cons_succ]
              refine wpAnyH_ready (rs := [19]) (by kernel_rfl) (by simp) ?_
              refine AllReadyH.cons rfl (fun K hK => ?_) AllReadyH.nil
              go_simp
              have ko := (Kept.refl [g3] wa).setCell (p := ⟨g3, 1, none⟩) (.inl (by simp)) (.slice A6 (k + 1) c6)
              have HOb := Lib.hid (own_kept HOa.out ko (fun q hq => by have := own_ne_blk HOa.out HG.out (by decide); simp; rintro rfl; exact this hq))
              replace HB := Lib.hid (HB.out.kept ko (by simp; exact HG3.out.2.1))
              replace HZ := Lib.hid (HZ.out.kept ko (by simp; exact HG3.out.2.2))
              replace HE := Lib.hid (HE.out.kept ko (by simp; exact HGN.out))
              have HGb := Lib.hid (HG.out.set 1 (.slice A6 (k + 1) c6))
              simp only [List.set_cons_zero, List.set_cons_succ] at HGb
              replace K0 := Lib.hid (K0.out.then ko (fun m hm => by simp at hm; subst hm; exact .inr (Nat.le_trans HGE.out HG3.out.1)))
              clear ko Fa HOa HG d1 f1 ll
              generalize wa.setCell ⟨g3, 1, none⟩ (.slice A6 (k + 1) c6) = wb at *
              refine hK.out _ _ ?_ (fun hHeld => ?_)
              · exact ⟨HE.out.cell 0, HE.out.cell 1, HE.out.cell 2, HGb.out.cell 0⟩
              clear hK K
              try simp only [Act.put, List.setIfInBounds_toArray, List.set_cons_zero, List.set_cons_succ]
              refine wpAnyH_done (by kernel_rfl) ?_ _
              go_wp2_with fail
              go_roundw
              case rel =>
                refine ⟨k + 1, .slice A6 (k + 1) c6, by omega, by omega, by go_num, Lib.hid (.inr h3), Lib.hid ?_, HB, HZ, HGb, K0⟩
                rw [HTK.out, List.map_append, List.flatMap_append]
                exact HOb.out
              case measure => simp [intOf]; omega
            · go_simp
              go_at_call 16
              refine (within_any _ _ _).mono ?_
              rintro x wn ⟨rfl, rfl⟩
              go_wp2_with fail
              refine hK.out _ _ ?_ (fun hHeld => ?_)
              · exact ⟨HE.out.cell 0, HE.out.cell 1, HE.out.cell 2, HG.out.cell 0⟩
              clear hK K
              try simp only [Act.put, List.setIfInBounds_toArray, List.set_cons_zero, List.set_cons_succ]
              refine tkYes (i := 15) (v := ?_) rfl rfl (by kernel_rfl) (by kernel_rfl) (by kernel_rfl) (fun _ _ _ h => h) (by rfl) ?_ (by assumption) ?_
              rotate_left
              · (intro w' hSw; (try dsimp only at hSw); go_simp; try with_reducible rfl)
              try simp only [Act.put, List.setIfInBounds_toArray, List.set_cons_zero, List.set_cons_succ]
              refine wpAnyH_ready (rs := [1, 16]) (by kernel_rfl) (by simp) ?_
              refine AllReadyH.cons rfl (fun K hK => ?_) (AllReadyH.cons rfl (fun K hK => ?_) AllReadyH.nil)
              · go_simp
                refine hK.out _ _ ?_ (fun hHeld => ?_)
                · exact ⟨HE.out.cell 0, HE.out.cell 1, HE.out.cell 2, HG.out.cell 0⟩
                clear hK K
                try simp only [Act.put, List.setIfInBounds_toArray, List.set_cons_zero, List.set_cons_succ]
                refine wpAnyH_ready (rs := [16]) (by kernel_rfl) (by simp) ?_
                refine AllReadyH.cons rfl (fun K hK => ?_) AllReadyH.nil
                go_simp
                have kd := Lib.hid ((Kept.refl [] w3).alloc (.cells #[.int .i64 (withinP x1 N), .int .i64 (withinP x2 N), .int .i64 (bits BinOp.and IntKind.i64 x3 2147483647)] 107))
                have H5 := Lib.hid (Blk.new w3 107 (edV (grE N (x1, x2, x3))))
                replace HO := Lib.hid (own_kept0 HO.out kd.out)
                replace HB := Lib.hid (HB.out.kept kd.out (by simp))
                replace HZ := Lib.hid (HZ.out.kept kd.out (by simp))
                replace HG := Lib.hid (HG.out.kept kd.out (by simp))
                replace HE := Lib.hid (HE.out.kept kd.out (by simp))
                replace K0 := Lib.hid (K0.out.trans kd.out)
                clear kd d1
                have H5 : Hid (Blk (w3.alloc (.cells #[.int .i64 (withinP x1 N), .int .i64 (withinP x2 N), .int .i64 (bits BinOp.and IntKind.i64 x3 2147483647)] 107)) w3.heap.size 107 (edV (grE N (x1, x2, x3)))) := H5
                generalize w3.alloc (.cells #[.int .i64 (withinP x1 N), .int .i64 (withinP x2 N), .int .i64 (bits BinOp.and IntKind.i64 x3 2147483647)] 107) = w4 at *
                generalize w3.heap.size = g5 at H5 ⊢
                have d1 := HG.out.cell 1
                simp only [List.getElem?_cons_zero, List.getElem?_cons_succ] at d1
                refine hK.out _ _ ?_ (fun hHeld => ?_)
                · exact ⟨HE.out.cell 0, HE.out.cell 1, HE.out.cell 2, HG.out.cell 0⟩
                clear hK K
                try simp only [Act.put, List.setIfInBounds_toArray, List.set_cons_zero, List.set_cons_succ]
                refine wpAnyH_ready (rs := [17]) (by kernel_rfl) (by simp) ?_
                refine AllReadyH.cons rfl (fun K hK => ?_) AllReadyH.nil
                have hsz := K0.out.size
                refine step_app _ rfl (.tmp 32) (.tmp 47) _ rfl 107 (.agg #[.int .i64 0, .int .i64 0, .int .i64 0]) 3 24 Tryz.underlying54 infoEd rfl (by decide) w.heap.size (.slice A5 k c5) _ _ rfl HO.out (some ⟨_, 0, none⟩) 1 1 (edV (grE N (x1, x2, x3))) rfl rfl (Reads.of_blk H5.out (fun _ _ h => h)) (by simp [edV, Value.oneCell']) (by omega) (by unfold maxLen; omega) (by omega) ?_
                intro va wa howna hka hba
                obtain ⟨A6, c6, rfl⟩ := own_n howna
                have Fa := Lib.hid ((KeptB.refl w.heap.size [107] w4).app hka HO.out (by decide))
                have HOa := Lib.hid howna
                replace HG := Lib.hid (HG.out.keptB Fa.out (by decide))
                replace HE := Lib.hid (HE.out.kept hka (fun hm => Nat.lt_irrefl _ (HNE.out ge (by simpa using hm))))
                replace HB := Lib.hid (HB.out.keptB Fa.out (by decide))
                replace HZ := Lib.hid (HZ.out.keptB Fa.out (by decide))
                replace K0 := Lib.hid (K0.out.thenB Fa.out (Nat.le_refl _))
                have d1 := HG.out.cell 1
                have f1 := HG.out.frozen 1
                have ll := HG.out.lt
                simp only [List.getElem?_cons_zero, List.getElem?_cons_succ] at d1
                clear howna hka hba HO H5 hsz
                refine hK.out _ _ ?_ (fun hHeld => ?_)
                · exact ⟨HE.out.cell 0, HE.out.cell 1, HE.out.cell 2, HG.out.cell 0⟩
                clear hK K
                try simp only [Act.put, List.setIfInBounds_toArray, List.set_cons_zero, List.set_cons_succ]
                refine tkYes (i := 18) (v := ?_) rfl rfl (by kernel_rfl) (by kernel_rfl) (by kernel_rfl) (fun _ _ _ h => h) (by rfl) ?_ (by assumption) ?_
                rotate_left
                · (intro w' hSw; (try dsimp only at hSw); go_simp; try with_reducible rfl)
                try simp only [Act.put, List.setIfInBounds_toArray, List.set_cons_zero, List.set_cons_succ]
                refine wpAnyH_ready (rs := [19]) (by kernel_rfl) (by simp) ?_
                refine AllReadyH.cons rfl (fun K hK => ?_) AllReadyH.nil
                go_simp
                have ko := (Kept.refl [g3] wa).setCell (p := ⟨g3, 1, none⟩) (.inl (by simp)) (.slice A6 (k + 1) c6)
                have HOb := Lib.hid (own_kept HOa.out ko (fun q hq => by have := own_ne_blk HOa.out HG.out (by decide); simp; rintro rfl; exact this hq))
                replace HB := Lib.hid (HB.out.kept ko (by simp; exact HG3.out.2.1))
                replace HZ := Lib.hid (HZ.out.kept ko (by simp; exact HG3.out.2.2))
                replace HE := Lib.hid (HE.out.kept ko (by simp; exact HGN.out))
                have HGb := Lib.hid (HG.out.set 1 (.slice A6 (k + 1) c6))
                simp only [List.set_cons_zero, List.set_cons_succ] at HGb
                replace K0 := Lib.hid (K0.out.then ko (fun m hm => by simp at hm; subst hm; exact .inr (Nat.le_trans HGE.out HG3.out.1)))
                clear ko Fa HOa HG d1 f1 ll
                generalize wa.setCell ⟨g3, 1, none⟩ (.slice A6 (k + 1) c6) = wb at *
                refine hK.out _ _ ?_ (fun hHeld => ?_)
                · exact ⟨HE.out.cell 0, HE.out.cell 1, HE.out.cell 2, HGb.out.cell 0⟩
                clear hK K
                try simp only [Act.put, List.setIfInBounds_toArray, List.set_cons_zero, List.set_cons_succ]
                refine wpAnyH_done (by kernel_rfl) ?_ _
                go_wp2_with fail
                go_roundw
                case rel =>
                  refine ⟨k + 1, .slice A6 (k + 1) c6, by omega, by omega, by go_num, Lib.hid (.inr h3), Lib.hid ?_, HB, HZ, HGb, K0⟩
                  rw [HTK.out, List.map_append, List.flatMap_append]
                  exact HOb.out
                case measure => simp [intOf]; omega
              · go_simp
                have kd := Lib.hid ((Kept.refl [] w3).alloc (.cells #[.int .i64 (withinP x1 N), .int .i64 (withinP x2 N), .int .i64 (bits BinOp.and IntKind.i64 x3 2147483647)] 107))
                have H5 := Lib.hid (Blk.new w3 107 (edV (grE N (x1, x2, x3))))
                replace HO := Lib.hid (own_kept0 HO.out kd.out)
                replace HB := Lib.hid (HB.out.kept kd.out (by simp))
                replace HZ := Lib.hid (HZ.out.kept kd.out (by simp))
                replace HG := Lib.hid (HG.out.kept kd.out (by simp))
                replace HE := Lib.hid (HE.out.kept kd.out (by simp))
                replace K0 := Lib.hid (K0.out.trans kd.out)
                clear kd d1
                have H5 : Hid (Blk (w3.alloc (.cells #[.int .i64 (withinP x1 N), .int .i64 (withinP x2 N), .int .i64 (bits BinOp.and IntKind.i64 x3 2147483647)] 107)) w3.heap.size 107 (edV (grE N (x1, x2, x3)))) := H5
                generalize w3.alloc (.cells #[.int .i64 (withinP x1 N), .int .i64 (withinP x2 N), .int .i64 (bits BinOp.and IntKind.i64 x3 2147483647)] 107) = w4 at *
                generalize w3.heap.size = g5 at H5 ⊢
                have d1 := HG.out.cell 1
                simp only [List.getElem?_cons_zero, List.getElem?_cons_succ] at d1
                refine hK.out _ _ ?_ (fun hHeld => ?_)
                · exact ⟨HE.out.cell 0, HE.out.cell 1, HE.out.cell 2, HG.out.cell 0⟩
                clear hK K
                try simp only [Act.put, List.setIfInBounds_toArray, List.set_cons_zero, List.set_cons_succ]
                refine wpAnyH_ready (rs := [1]) (by kernel_rfl) (by simp) ?_
                refine AllReadyH.cons rfl (fun K hK => ?_) AllReadyH.nil
                go_simp
                refine hK.out _ _ ?_ (fun hHeld => ?_)
                · exact ⟨HE.out.cell 0, HE.out.cell 1, HE.out.cell 2, HG.out.cell 0⟩
                clear hK K
                try simp only [Act.put, List.setIfInBounds_toArray, List.set_cons_zero, List.set_cons_succ]
                refine wpAnyH_ready (rs := [17]) (by kernel_rfl) (by simp) ?_
                refine AllReadyH.cons rfl (fun K hK => ?_) AllReadyH.nil
                have hsz := K0.out.size
                refine step_app _ rfl (.tmp 32) (.tmp 47) _ rfl 107 (.agg #[.int .i64 0, .int .i64 0, .int .i64 0]) 3 24 Tryz.underlying54 infoEd rfl (by decide) w.heap.size (.slice A5 k c5) _ _ rfl HO.out (some ⟨_, 0, none⟩) 1 1 (edV (grE N (x1, x2, x3))) rfl rfl (Reads.of_blk H5.out (fun _ _ h => h)) (by simp [edV, Value.oneCell']) (by omega) (by unfold maxLen; omega) (by omega) ?_
                intro va wa howna hka hba
                obtain ⟨A6, c6, rfl⟩ := own_n howna
                have Fa := Lib.hid ((KeptB.refl w.heap.size [107] w4).app hka HO.out (by decide))
                have HOa := Lib.hid howna
                replace HG := Lib.hid (HG.out.keptB Fa.out (by decide))
                replace HE := Lib.hid (HE.out.kept hka (fun hm => Nat.lt_irrefl _ (HNE.out ge (by simpa using hm))))
                replace HB := Lib.hid (HB.out.keptB Fa.out (by decide))
                replace HZ := Lib.hid (HZ.out.keptB Fa.out (by decide))
                replace K0 := Lib.hid (K0.out.thenB Fa.out (Nat.le_refl _))
                have d1 := HG.out.cell 1
                have f1 := HG.out.frozen 1
                have ll := HG.out.lt
                simp only [List.getElem?_cons_zero, List.getElem?_cons_succ] at d1
                clear howna hka hba HO H5 hsz
                refine hK.out _ _ ?_ (fun hHeld => ?_)
                · exact ⟨HE.out.cell 0, HE.out.cell 1, HE.out.cell 2, HG.out.cell 0⟩
                clear hK K
                try simp only [Act.put, List.setIfInBounds_toArray, List.set_cons_zero, List.set_cons_succ]
                refine tkYes (i := 18) (v := ?_) rfl rfl (by kernel_rfl) (by kernel_rfl) (by kernel_rfl) (fun _ _ _ h => h) (by rfl) ?_ (by assumption) ?_
                rotate_left
                · (intro w' hSw; (try dsimp only at hSw); go_simp; try with_reducible rfl)
                try simp only [Act.put, List.setIfInBounds_toArray, List.set_cons_zero, List.set_cons_succ]
                refine wpAnyH_ready (rs := [19]) (by kernel_rfl) (by simp) ?_
                refine AllReadyH.cons rfl (fun K hK => ?_) AllReadyH.nil
                go_simp
                have ko := (Kept.refl [g3] wa).setCell (p := ⟨g3, 1, none⟩) (.inl (by simp)) (.slice A6 (k + 1) c6)
                have HOb := Lib.hid (own_kept HOa.out ko (fun q hq => by have := own_ne_blk HOa.out HG.out (by decide); simp; rintro rfl; exact this hq))
                replace HB := Lib.hid (HB.out.kept ko (by simp; exact HG3.out.2.1))
                replace HZ := Lib.hid (HZ.out.kept ko (by simp; exact HG3.out.2.2))
                replace HE := Lib.hid (HE.out.kept ko (by simp; exact HGN.out))
                have HGb := Lib.hid (HG.out.set 1 (.slice A6 (k + 1) c6))
                simp only [List.set_cons_zero, List.set_cons_succ] at HGb
                replace K0 := Lib.hid (K0.out.then ko (fun m hm => by simp at hm; subst hm; exact .inr (Nat.le_trans HGE.out HG3.out.1)))
                clear ko Fa HOa HG d1 f1 ll
                generalize wa.setCell ⟨g3, 1, none⟩ (.slice A6 (k + 1) c6) = wb at *
                refine hK.out _ _ ?_ (fun hHeld => ?_)
                · exact ⟨HE.out.cell 0, HE.out.cell 1, HE.out.cell 2, HGb.out.cell 0⟩
                clear hK K
                try simp only [Act.put, List.setIfInBounds_toArray, List.set_cons_zero, List.set_cons_succ]
                refine wpAnyH_done (by kernel_rfl) ?_ _
                go_wp2_with fail
                go_roundw
                case rel =>
                  refine ⟨k + 1, .slice A6 (k + 1) c6, by omega, by omega, by go_num, Lib.hid (.inr h3), Lib.hid ?_, HB, HZ, HGb, K0⟩
                  rw [HTK.out, List.map_append, List.flatMap_append]
                  exact HOb.out
                case measure => simp [intOf]; omega
        · obtain rfl : k = 0 := by have := HKN.out; omega
          have HM := Lib.hid (show (l.take 0).map (grE N) = L by rw [HLL.out, if_neg h3]; rfl)
          have HLN := Lib.hid (show (0 : Nat) = L.length by rw [← HM.out]; rfl)
          obtain ⟨A5, c5, rfl⟩ := own_n HO.out
          go_wp2_with (first | (refine wpList_loadBlk rfl 56 (.tmp 3) rfl g3 [.int .i64 N, .slice A5 0 c5] _ HG.out rfl Tryz.underlying56 rfl infoGraph ?_) | (refine wpList_storeBlk rfl 56 (.tmp 2) (.tmp 50) rfl gz _ [.int .i64 N, .slice A5 0 c5] HZ.out rfl rfl rfl infoGraph (by simp [Value.oneCell']) ?_; intro w8 hb8 hk8))
          have e0 := hb8.cell 0
          have e1 := hb8.cell 1
          simp only [List.getElem?_cons_zero, List.getElem?_cons_succ] at e0 e1
          refine bodyPost_ret (v := .agg #[.int .i64 N, .slice A5 0 c5]) (by simp [results, Tryz.results15, go_sem, e0, e1]) rfl ?_
          rw [HPOST.out]
          have f8 : KeptB w.heap.size [56] wr w8 := (KeptB.refl _ _ wr).step (L := [gz]) hk8 (fun m hm => by simp at hm; subst hm; exact ⟨HGZ.out, _, _, _, HZ.out, by simp⟩)
          have HO9 := own_keptB HO.out f8 (by decide)
          rw [HM.out] at HO9
          unfold GrPost
          exact ⟨_, by rw [HLN.out], by rw [HLN.out] at HO9; exact HO9, K0.out.thenB f8 (Nat.le_refl _)⟩
      · obtain rfl : k = 60 := by omega
        have HM := Lib.hid (show (l.take 60).map (grE N) = L by rw [HLL.out, if_pos (by have := HKN.out; omega)])
        have HLN := Lib.hid (show (60 : Nat) = L.length by rw [← HM.out]; simp; omega)
        obtain ⟨A5, c5, rfl⟩ := own_n HO.out
        go_wp2_with (first | (refine wpList_loadBlk rfl 56 (.tmp 3) rfl g3 [.int .i64 N, .slice A5 60 c5] _ HG.out rfl Tryz.underlying56 rfl infoGraph ?_) | (refine wpList_storeBlk rfl 56 (.tmp 2) (.tmp 50) rfl gz _ [.int .i64 N, .slice A5 60 c5] HZ.out rfl rfl rfl infoGraph (by simp [Value.oneCell']) ?_; intro w8 hb8 hk8))
        have e0 := hb8.cell 0
        have e1 := hb8.cell 1
        simp only [List.getElem?_cons_zero, List.getElem?_cons_succ] at e0 e1
        refine bodyPost_ret (v := .agg #[.int .i64 N, .slice A5 60 c5]) (by simp [results, Tryz.results15, go_sem, e0, e1]) rfl ?_
        rw [HPOST.out]
        have f8 : KeptB w.heap.size [56] wr w8 := (KeptB.refl _ _ wr).step (L := [gz]) hk8 (fun m hm => by simp at hm; subst hm; exact ⟨HGZ.out, _, _, _, HZ.out, by simp⟩)
        have HO9 := own_keptB HO.out f8 (by decide)
        rw [HM.out] at HO9
        unfold GrPost
        exact ⟨_, by rw [HLN.out], by rw [HLN.out] at HO9; exact HO9, K0.out.thenB f8 (Nat.le_refl _)⟩
    · obtain rfl : k = l.length := by omega
      have HM := Lib.hid (show (l.take l.length).map (grE N) = L by
        rw [HLL.out, List.take_length, List.take_of_length_le hk6]
        split
        · rfl
        · have : l.length = 0 := by have := HKN.out; omega
          rw [List.eq_nil_of_length_eq_zero this]; rfl)
      have HLN := Lib.hid (show l.length = L.length by rw [← HM.out]; simp)
      obtain ⟨A5, c5, rfl⟩ := own_n HO.out
      go_wp2_with (first | (refine wpList_loadBlk rfl 56 (.tmp 3) rfl g3 [.int .i64 N, .slice A5 l.length c5] _ HG.out rfl Tryz.underlying56 rfl infoGraph ?_) | (refine wpList_storeBlk rfl 56 (.tmp 2) (.tmp 50) rfl gz _ [.int .i64 N, .slice A5 l.length c5] HZ.out rfl rfl rfl infoGraph (by simp [Value.oneCell']) ?_; intro w8 hb8 hk8))
      have e0 := hb8.cell 0
      have e1 := hb8.cell 1
      simp only [List.getElem?_cons_zero, List.getElem?_cons_succ] at e0 e1
      refine bodyPost_ret (v := .agg #[.int .i64 N, .slice A5 l.length c5]) (by simp [results, Tryz.results15, go_sem, e0, e1]) rfl ?_
      rw [HPOST.out]
      have f8 : KeptB w.heap.size [56] wr w8 := (KeptB.refl _ _ wr).step (L := [gz]) hk8 (fun m hm => by simp at hm; subst hm; exact ⟨HGZ.out, _, _, _, HZ.out, by simp⟩)
      have HO9 := own_keptB HO.out f8 (by decide)
      rw [HM.out] at HO9
      unfold GrPost
      exact ⟨_, by rw [HLN.out], by rw [HLN.out] at HO9; exact HO9, K0.out.thenB f8 (Nat.le_refl _)⟩
end Go.Proofs.YtblfingmdipopaaGreat
