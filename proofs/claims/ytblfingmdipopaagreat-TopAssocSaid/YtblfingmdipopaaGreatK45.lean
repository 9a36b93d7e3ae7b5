/- gemm.row: what a row of a product comes to, at the columns that are asked. Conditions: values of the ring. -/
import Derived.Test.YtblfingmdipopaaGreatK43
import Derived.Test.YtblfingmdipopaaGreatK44
namespace Go.Proofs.YtblfingmdipopaaGreat
set_option linter.unusedSimpArgs false
set_option linter.unusedVariables false
open Go.ChangeShapes Go.WideShapes Go.ChangeAt Go.RowKit
open Go.RowKit (wrap32 wrap64)
set_option maxHeartbeats 8000000

/-- The sums at the columns that are asked. -/
def sumF (r : Int) (S : List Int) (T : List (Int × Int)) : Int → Option Int := fun c => if c ∈ S then cellR r T c else none
theorem sumF_nil (r : Int) (S : List Int) (c : Int) : (fun _ => none : Int → Option Int) c = sumF r S [] c := by simp [sumF, cellR]
theorem sumF_no {r : Int} {S : List Int} (T : List (Int × Int)) {x : Int × Int} (h : x.1 ∉ S) (c : Int) : sumF r S T c = sumF r S (T ++ [x]) c := by
  unfold sumF
  by_cases hc : c ∈ S
  · rw [if_pos hc, if_pos hc, cellR_snoc, if_neg (fun e => h (by rw [e]; exact hc))]
  · rw [if_neg hc, if_neg hc]
theorem sumF_yes {r : Int} {S : List Int} (T : List (Int × Int)) {k v s : Int} (h : k ∈ S) (hs : sumO r (sumF r S T k) v = some s) (c : Int) : (if c = k then some s else sumF r S T c) = sumF r S (T ++ [(k, v)]) c := by
  unfold sumF at hs ⊢
  rw [if_pos h] at hs
  by_cases hck : c = k
  · subst hck
    rw [if_pos rfl, if_pos h, cellR_snoc, if_pos rfl, hs]
  · rw [if_neg hck]
    by_cases hc : c ∈ S
    · rw [if_pos hc, if_pos hc, cellR_snoc, if_neg (fun e => hck e.symm)]
    · rw [if_neg hc, if_neg hc]
theorem sumF_ok {r : Int} {S : List Int} {T : List (Int × Int)} (h : ∀ x ∈ T, OkV r x.2) (c : Int) : OkO r (sumF r S T c) := by
  unfold sumF
  split
  · exact cellR_ok h
  · exact trivial
/-- One product. -/
abbrev prR (r a3 : Int) (b : Ed) : Int × Int := (b.2.1, mulV r a3 b.2.2)
theorem pairs_succ (r : Int) (LB A : List Ed) {q : Nat} (h : q < A.length) : pairsR r LB (A.take (q + 1)) = pairsR r LB (A.take q) ++ (rowL LB A[q].2.1.toNat).map (prR r A[q].2.2) := by
  unfold pairsR
  rw [List.take_succ_eq_append_getElem h, List.flatMap_append]
  simp [prR]

set_option maxRecDepth 100000 in
theorem gRow_any (r : Int) (hr : RingV r) (n k j base base' i bA : Nat) (LA LB : List Ed) (S : List Int) (v1 v2 v3 u1 u2 u3 : Value) (w : World) (hi : i < n) (hoA : MtOkM n k LA) (hmA : MtAt w base v1 v2 v3 n LA) (hoB : MtOkM k j LB) (hmB : MtAt w base' u1 u2 u3 k LB) (hvA : ∀ e ∈ LA, OkV r e.2.2) (hvB : ∀ e ∈ LB, OkV r e.2.2) (ha : AskM w bA S) :
    Calls Tryz.prog 48 #[.int .i64 r, .agg #[.int .i64 n, .int .i64 k, v1, v2, v3], .agg #[.int .i64 k, .int .i64 j, u1, u2, u3], .int .i64 i, .map (some bA)] w (fun e w' => ∃ b, e = .returned (.map (some b)) ∧ SumM w' b (sumF r S (pairsR r LB (rowL LA i))) ∧ Kept [] w w') := by
  obtain ⟨b1, c1, A2, c2, A3, c3, rfl, rfl, rfl, _, _⟩ := hmA.form
  obtain ⟨e1, f1, E2, f2, E3, f3, rfl, rfl, rfl, _, _⟩ := hmB.form
  have hmm : ∀ (t : TypeId) (wx : World), (Instr.makeMap t none).run Tryz.prog wx = .ok (.map (some wx.heap.size)) (wx.alloc (.map #[] 0)) := fun _ _ => rfl
  have HRV := Lib.hid hr
  have HOA := Lib.hid hoA
  have HMA := Lib.hid hmA
  have HOB := Lib.hid hoB
  have HMB := Lib.hid hmB
  have HVA := Lib.hid hvA
  have HVB := Lib.hid hvB
  have HASK := Lib.hid ha
  have HII := Lib.hid hi
  clear hr hoA hmA hoB hmB hvA hvB ha hi
  obtain ⟨post, hpost⟩ : ∃ post : Ending → World → Prop, post = (fun e w' => ∃ b, e = .returned (.map (some b)) ∧ SumM w' b (sumF r S (pairsR r LB (rowL LA i))) ∧ Kept [] w w') := ⟨_, rfl⟩
  rw [← hpost]
  have HPOST := Lib.hid hpost
  clear hpost
  have HXA := Lib.hid (((Blk.new w 31 [.int .i64 n, .int .i64 k, .slice (some ⟨b1, 0, none⟩) (n + 1) c1, .slice A2 LA.length c2, .slice A3 LA.length c3]).alloc (.cells #[.int .i64 k, .int .i64 j, .slice (some ⟨e1, 0, none⟩) (k + 1) f1, .slice E2 LB.length f2, .slice E3 LB.length f3] 31)).alloc (.map #[] 0))
  have HXB := Lib.hid ((Blk.new1F w (.cells #[.int .i64 n, .int .i64 k, .slice (some ⟨b1, 0, none⟩) (n + 1) c1, .slice A2 LA.length c2, .slice A3 LA.length c3] 31) 31 [.int .i64 k, .int .i64 j, .slice (some ⟨e1, 0, none⟩) (k + 1) f1, .slice E2 LB.length f2, .slice E3 LB.length f3]).alloc (.map #[] 0))
  have HM0 := SumM.new ((w.alloc (.cells #[.int .i64 n, .int .i64 k, .slice (some ⟨b1, 0, none⟩) (n + 1) c1, .slice A2 LA.length c2, .slice A3 LA.length c3] 31)).alloc (.cells #[.int .i64 k, .int .i64 j, .slice (some ⟨e1, 0, none⟩) (k + 1) f1, .slice E2 LB.length f2, .slice E3 LB.length f3] 31))
  rw [show ((w.alloc (.cells #[.int .i64 n, .int .i64 k, .slice (some ⟨b1, 0, none⟩) (n + 1) c1, .slice A2 LA.length c2, .slice A3 LA.length c3] 31)).alloc (.cells #[.int .i64 k, .int .i64 j, .slice (some ⟨e1, 0, none⟩) (k + 1) f1, .slice E2 LB.length f2, .slice E3 LB.length f3] 31)).heap.size = w.heap.size + 1 + 1 by simp] at HM0
  have HM := Lib.hid (HM0.ext (sumF_nil r S))
  have K0 := Lib.hid ((((Kept.refl [] w).alloc (.cells #[.int .i64 n, .int .i64 k, .slice (some ⟨b1, 0, none⟩) (n + 1) c1, .slice A2 LA.length c2, .slice A3 LA.length c3] 31)).alloc (.cells #[.int .i64 k, .int .i64 j, .slice (some ⟨e1, 0, none⟩) (k + 1) f1, .slice E2 LB.length f2, .slice E3 LB.length f3] 31)).alloc (.map #[] 0))
  have HGM := Lib.hid (show w.heap.size ≤ w.heap.size + 1 + 1 by omega)
  clear HM0
  go_enter Tryz.func48, Tryz.ntmps48
  go_upto_region 2 with (fail)
  generalize ((w.alloc (.cells #[.int .i64 n, .int .i64 k, .slice (some ⟨b1, 0, none⟩) (n + 1) c1, .slice A2 LA.length c2, .slice A3 LA.length c3] 31)).alloc (.cells #[.int .i64 k, .int .i64 j, .slice (some ⟨e1, 0, none⟩) (k + 1) f1, .slice E2 LB.length f2, .slice E3 LB.length f3] 31)).alloc (.map #[] 0) = w1 at *
  generalize w.heap.size + 1 + 1 = gm at HM HGM ⊢
  generalize w.heap.size + 1 = gb at HXB ⊢
  generalize hgq : w.heap.size = ga at HXA ⊢
  clear hgq hmm
  go_wp2_with (first | (refine wpList_loadBlk rfl 31 (.tmp 6) rfl ga [.int .i64 n, .int .i64 k, .slice (some ⟨b1, 0, none⟩) (n + 1) c1, .slice A2 LA.length c2, .slice A3 LA.length c3] _ HXA.out rfl Tryz.underlying31 rfl infoRows ?_))
  refine (gpart_anyM n k base i LA _ _ _ _ HII.out HOA.out (HMA.out.kept0 K0.out)).mono ?_
  rintro _ w3 ⟨B, D, rfl, hp, hk⟩
  have HPA := Lib.hid (hp w HMA.out)
  replace HM := Lib.hid (HM.out.kept hk (by simp))
  replace HXB := Lib.hid (HXB.out.kept hk (by simp))
  replace K0 := Lib.hid (K0.out.trans hk)
  clear hk hp HXA
  have HINA := Lib.hid (fun e he => ⟨(HOA.out.inn e (mem_rowL.1 he).1).2, HVA.out e (mem_rowL.1 he).1⟩ : ∀ e ∈ rowL LA i, (0 ≤ e.2.1 ∧ e.2.1 < (k : Int)) ∧ OkV r e.2.2)
  have hra : (rowL LA i).length ≤ 65536 := Nat.le_trans (List.length_filter_le _ _) HOA.out.len
  have HPK := Lib.hid (fun q => pairs_ok (LB := LB) (A := (rowL LA i).take q) (fun e he => HVA.out e (mem_rowL.1 (List.mem_of_mem_take he)).1) HVB.out : ∀ q, ∀ x ∈ pairsR r LB ((rowL LA i).take q), OkV r x.2)
  obtain ⟨RA, hRA⟩ : ∃ RA, RA = rowL LA i := ⟨_, rfl⟩
  rw [← hRA] at HPA HPOST HINA hra HPK ⊢
  clear hRA
  go_wp2_with fail
  go_loopw [32] (fun x wq => ∃ q : Nat, q ≤ RA.length ∧ x = .int .i64 q ∧ Hid (SumM wq gm (sumF r S (pairsR r LB (RA.take q)))) ∧ Hid (Blk wq gb 31 [.int .i64 k, .int .i64 j, .slice (some ⟨e1, 0, none⟩) (k + 1) f1, .slice E2 LB.length f2, .slice E3 LB.length f3]) ∧ Hid (Kept [] w wq)) (fun x _ => RA.length - (intOf x).toNat)
  case atStart => exact ⟨0, Nat.zero_le _, rfl, HM, HXB, K0⟩
  case round =>
    clear HM HXB K0
    obtain ⟨q, hq, rfl, HM, HXB, K0⟩ := hrel
    by_cases hlt : q < RA.length
    · have HPS := Lib.hid (pairs_succ r LB RA hlt)
      have HP1 := Lib.hid (HPK.out q)
      have hin := HINA.out RA[q] (List.getElem_mem hlt)
      obtain ⟨bC, oC, rfl, hbC, cC⟩ := cols_at HPA.out.1 hlt
      obtain ⟨bD, oD, rfl, hbD, cD⟩ := vals_at HPA.out.2 hlt
      obtain ⟨x, hx⟩ : ∃ x, x = RA[q] := ⟨_, rfl⟩
      rw [← hx] at cC cD HPS hin
      clear hx
      obtain ⟨x1, x2, x3⟩ := x
      dsimp only at cC cD HPS hin
      have HVX := Lib.hid hin.2
      have cC' := K0.out.cell_lt cC
      obtain ⟨kk, rfl⟩ := Int.eq_ofNat_of_zero_le hin.1.1
      have HKK := Lib.hid (show kk < k by have := hin.1.2; omega)
      rw [Int.toNat_natCast] at HPS
      clear hin cC hbC hbD
      go_upto_region 6 with (fail)
      clear cC'
      go_wp2_with (first | (refine wpList_loadBlk rfl 31 (.tmp 7) rfl gb [.int .i64 k, .int .i64 j, .slice (some ⟨e1, 0, none⟩) (k + 1) f1, .slice E2 LB.length f2, .slice E3 LB.length f3] _ HXB.out rfl Tryz.underlying31 rfl infoRows ?_))
      refine (gpart_anyM k j base' kk LB _ _ _ _ HKK.out HOB.out (HMB.out.kept0 K0.out)).mono ?_
      rintro _ w4 ⟨B', D', rfl, hp, hk⟩
      have HPB := Lib.hid (hp w HMB.out)
      replace HM := Lib.hid (HM.out.kept hk (by simp))
      replace HXB := Lib.hid (HXB.out.kept hk (by simp))
      replace K0 := Lib.hid (K0.out.trans hk)
      clear hk hp
      have HINB := Lib.hid (fun e he => HVB.out e (mem_rowL.1 he).1 : ∀ e ∈ rowL LB kk, OkV r e.2.2)
      have hrb : (rowL LB kk).length ≤ 65536 := Nat.le_trans (List.length_filter_le _ _) HOB.out.len
      obtain ⟨RB, hRB⟩ : ∃ RB, RB = rowL LB kk := ⟨_, rfl⟩
      rw [← hRB] at HPB HPS HINB hrb ⊢
      obtain ⟨T, hT⟩ : ∃ T, T = pairsR r LB (RA.take q) := ⟨_, rfl⟩
      rw [← hT] at HM HPS HP1
      clear hRB hT
      go_wp2_with fail
      go_loopw [45] (fun x wr => ∃ p : Nat, p ≤ RB.length ∧ x = .int .i64 p ∧ Hid (SumM wr gm (sumF r S (T ++ (RB.take p).map (prR r x3)))) ∧ Hid (Blk wr gb 31 [.int .i64 k, .int .i64 j, .slice (some ⟨e1, 0, none⟩) (k + 1) f1, .slice E2 LB.length f2, .slice E3 LB.length f3]) ∧ Hid (Kept [] w wr)) (fun x _ => RB.length - (intOf x).toNat)
      case atStart => exact ⟨0, Nat.zero_le _, rfl, by simpa using HM, HXB, K0⟩
      case round =>
        clear HM HXB K0
        obtain ⟨p, hp, rfl, HM, HXB, K0⟩ := hrel
        by_cases hlp : p < RB.length
        · have HTK := Lib.hid (List.take_succ_eq_append_getElem hlp)
          have HVY := Lib.hid (HINB.out RB[p] (List.getElem_mem hlp))
          have HP2 := Lib.hid (fun x hx => by
            rcases List.mem_append.1 hx with hx | hx
            · exact HP1.out x hx
            · obtain ⟨b, hb, rfl⟩ := List.mem_map.1 hx
              exact mulV_ok HVX.out (HINB.out b (List.mem_of_mem_take hb)) : ∀ x ∈ T ++ (RB.take p).map (prR r x3), OkV r x.2)
          obtain ⟨bG, oG, rfl, hbG, cG⟩ := cols_at HPB.out.1 hlp
          obtain ⟨bE, oE, rfl, hbE, cE⟩ := vals_at HPB.out.2 hlp
          obtain ⟨y, hy⟩ : ∃ y, y = RB[p] := ⟨_, rfl⟩
          rw [← hy] at cG cE HTK HVY
          clear hy
          obtain ⟨y1, y2, y3⟩ := y
          dsimp only at cG cE HTK HVY
          obtain ⟨T2, hT2⟩ : ∃ T2, T2 = T ++ (RB.take p).map (prR r x3) := ⟨_, rfl⟩
          have HT3 := Lib.hid (show T ++ (RB.take (p + 1)).map (prR r x3) = T2 ++ [(y2, mulV r x3 y3)] by rw [HTK.out, List.map_append, ← List.append_assoc, ← hT2]; rfl)
          rw [← hT2] at HM HP2
          clear hT2 HTK
          have cG' := K0.out.cell_lt cG
          have HAS := Lib.hid (HASK.out.kept K0.out (by simp))
          clear hbG hbE cG
          by_cases hS : y2 ∈ S
          · have HS := Lib.hid hS
            have hSd : decide (y2 ∈ S) = true := decide_eq_true hS
            clear hS
            go_upto_region 11 with (first | (refine ask_yes rfl (.tmp 50) (.tmp 51) rfl HAS.out rfl y2 rfl ?_; rw [hSd]))
            clear cG' hSd HAS
            go_cut [20] (fun v wx => ∃ gq, v = .pointer (some ⟨gq, 0, none⟩) ∧ Hid (Blk wx gq 100 (wdC (wOf (mulV r x3 y3)))) ∧ Hid (w.heap.size ≤ gq) ∧ Hid (SumM wx gm (sumF r S T2)) ∧ Hid (Blk wx gb 31 [.int .i64 k, .int .i64 j, .slice (some ⟨e1, 0, none⟩) (k + 1) f1, .slice E2 LB.length f2, .slice E3 LB.length f3]) ∧ Hid (Kept [] w wx))
            case first =>
              refine wp_region_held_drew (S := (fun w' => w'.cell? ⟨bD, oD + q, none⟩ = some (.int .i64 x3) ∧ w'.cell? ⟨bE, oE + p, none⟩ = some (.int .i64 y3))) (by kernel_rfl) ?_ (fun hHeld => ?_)
              · exact ⟨(K0.out.trans (Kept.refl [] wr).drew).cell_lt cD, (K0.out.trans (Kept.refl [] wr).drew).cell_lt cE⟩
              replace HM := Lib.hid (HM.out.kept (Kept.refl [] wr).drew (by simp))
              replace HXB := Lib.hid (HXB.out.kept (Kept.refl [] wr).drew (by simp))
              replace K0 := Lib.hid (K0.out.trans (Kept.refl [] wr).drew)
              generalize wr.drew = w6 at *
              refine tkYes (i := 0) (v := ?_) rfl rfl (by kernel_rfl) (by kernel_rfl) (by kernel_rfl) (fun _ _ _ h => h) (by rfl) ?_ (by assumption) ?_
              rotate_left
              · (intro w' hSw; (try dsimp only at hSw); go_simp; try with_reducible rfl)
              try simp only [Act.put, List.setIfInBounds_toArray, List.set_cons_zero, List.set_cons_succ]
              refine tkYes (i := 1) (v := ?_) rfl rfl (by kernel_rfl) (by kernel_rfl) (by kernel_rfl) (fun _ _ _ h => h) (by rfl) ?_ (by assumption) ?_
              rotate_left
              · (intro w' hSw; (try dsimp only at hSw); go_simp; try with_reducible rfl)
              try simp only [Act.put, List.setIfInBounds_toArray, List.set_cons_zero, List.set_cons_succ]
              refine tkYes (i := 2) (v := ?_) rfl rfl (by kernel_rfl) (by kernel_rfl) (by kernel_rfl) (fun _ _ _ h => h) (by rfl) ?_ (by assumption) ?_
              rotate_left
              · (intro w' hSw; (try dsimp only at hSw); go_simp; try with_reducible rfl)
              try simp only [Act.put, List.setIfInBounds_toArray, List.set_cons_zero, List.set_cons_succ]
              refine tkYes (i := 3) (v := .pointer (some ⟨bD, oD + q, none⟩)) rfl rfl (by kernel_rfl) (by kernel_rfl) (by kernel_rfl) (fun _ _ _ h => h) (by rfl) ?_ (by assumption) ?_
              skip
              · (intro w' hSw; (try dsimp only at hSw); go_simp; first | done | (rw [if_pos (by omega)]; simp; done) | (intro hbad; omega))
              try simp only [Act.put, List.setIfInBounds_toArray, List.set_cons_zero, List.set_cons_succ]
              refine tkYes (i := 4) (v := ?_) rfl rfl (by kernel_rfl) (by kernel_rfl) (by kernel_rfl) (fun _ _ _ h => h) (by rfl) ?_ (by assumption) ?_
              rotate_left
              · (intro w' hSw; (try dsimp only at hSw); go_simp; try with_reducible rfl)
              try simp only [Act.put, List.setIfInBounds_toArray, List.set_cons_zero, List.set_cons_succ]
              refine tkYes (i := 5) (v := ?_) rfl rfl (by kernel_rfl) (by kernel_rfl) (by kernel_rfl) (fun _ _ _ h => h) (by rfl) ?_ (by assumption) ?_
              rotate_left
              · (intro w' hSw; (try dsimp only at hSw); go_simp; try with_reducible rfl)
              try simp only [Act.put, List.setIfInBounds_toArray, List.set_cons_zero, List.set_cons_succ]
              refine tkYes (i := 6) (v := ?_) rfl rfl (by kernel_rfl) (by kernel_rfl) (by kernel_rfl) (fun _ _ _ h => h) (by rfl) ?_ (by assumption) ?_
              rotate_left
              · (intro w' hSw; (try dsimp only at hSw); go_simp; try with_reducible rfl)
              try simp only [Act.put, List.setIfInBounds_toArray, List.set_cons_zero, List.set_cons_succ]
              refine tkYes (i := 7) (v := .pointer (some ⟨bE, oE + p, none⟩)) rfl rfl (by kernel_rfl) (by kernel_rfl) (by kernel_rfl) (fun _ _ _ h => h) (by rfl) ?_ (by assumption) ?_
              skip
              · (intro w' hSw; (try dsimp only at hSw); go_simp; first | done | (rw [if_pos (by omega)]; simp; done) | (intro hbad; omega))
              try simp only [Act.put, List.setIfInBounds_toArray, List.set_cons_zero, List.set_cons_succ]
              refine tkYes (i := 8) (v := ?_) rfl rfl (by kernel_rfl) (by kernel_rfl) (by kernel_rfl) (fun _ _ _ h => h) (by rfl) ?_ (by assumption) ?_
              rotate_left
              · (intro w' hSw; (try dsimp only at hSw); go_simp; try with_reducible rfl)
              try simp only [Act.put, List.setIfInBounds_toArray, List.set_cons_zero, List.set_cons_succ]
              refine wpAnyH_ready (rs := [9, 10]) (by kernel_rfl) (by simp) ?_
              refine AllReadyH.cons rfl (fun K hK => ?_) (AllReadyH.cons rfl (fun K hK => ?_) AllReadyH.nil)
              · go_simp
                refine (mul_val HRV.out HVX.out HVY.out _).mono ?_
                rintro _ wy1 ⟨rfl, hk⟩
                replace HM := Lib.hid (HM.out.kept hk (by simp))
                replace HXB := Lib.hid (HXB.out.kept hk (by simp))
                replace K0 := Lib.hid (K0.out.trans hk)
                clear hk
                go_wp2_with fail
                refine hK.out _ _ ?_ (fun hHeld => ?_)
                · exact ⟨K0.out.cell_lt cD, K0.out.cell_lt cE⟩
                clear hK K
                try simp only [Act.put, List.setIfInBounds_toArray, List.set_cons_zero, List.set_cons_succ]
                refine wpAnyH_ready (rs := [10]) (by kernel_rfl) (by simp) ?_
                refine AllReadyH.cons rfl (fun K hK => ?_) AllReadyH.nil
                go_simp
                have HZ := Lib.hid (Blk.new wy1 100 (wdC (0, 0)))
                have HGG := Lib.hid K0.out.size
                replace HM := Lib.hid (HM.out.kept ((Kept.refl [] wy1).alloc (.cells #[.int .i64 0, .int .u64 0] 100)) (by simp))
                replace HXB := Lib.hid (HXB.out.kept ((Kept.refl [] wy1).alloc (.cells #[.int .i64 0, .int .u64 0] 100)) (by simp))
                replace K0 := Lib.hid (K0.out.trans ((Kept.refl [] wy1).alloc (.cells #[.int .i64 0, .int .u64 0] 100)))
                generalize wy1.alloc (.cells #[.int .i64 0, .int .u64 0] 100) = z1 at *
                generalize wy1.heap.size = gq at *
                refine hK.out _ _ ?_ (fun hHeld => ?_)
                · exact ⟨K0.out.cell_lt cD, K0.out.cell_lt cE⟩
                clear hK K
                try simp only [Act.put, List.setIfInBounds_toArray, List.set_cons_zero, List.set_cons_succ]
                refine wpAnyH_ready (rs := [11]) (by kernel_rfl) (by simp) ?_
                refine AllReadyH.cons rfl (fun K hK => ?_) AllReadyH.nil
                refine stpBlk rfl 100 (.tmp 20) (.tmp 63) rfl gq _ (wdC (wOf (mulV r x3 y3))) HZ.out rfl rfl rfl infoWide (by simp [Value.oneCell']) ?_
                intro w8 hb8 hk8
                have HNE := Lib.hid (show gm ∉ [gq] by have := HM.out.ne_blk HZ.out; simpa using fun h => this h.symm)
                have HNX := Lib.hid (show gb ∉ [gq] by have := Blk.ne HXB.out HZ.out (by decide); simpa using this)
                replace HM := Lib.hid (HM.out.kept hk8 HNE.out)
                replace HXB := Lib.hid (HXB.out.kept hk8 HNX.out)
                replace HZ := Lib.hid hb8
                replace K0 := Lib.hid (K0.out.then hk8 (fun u hu => by simp at hu; subst hu; exact .inr HGG.out))
                clear hk8 hb8
                go_simp
                refine hK.out _ _ ?_ (fun hHeld => ?_)
                · exact ⟨K0.out.cell_lt cD, K0.out.cell_lt cE⟩
                clear hK K
                try simp only [Act.put, List.setIfInBounds_toArray, List.set_cons_zero, List.set_cons_succ]
                refine wpAnyH_done (by kernel_rfl) ?_ _
                go_wp2_with fail
                go_meet
                exact ⟨gq, rfl, HZ, HGG, HM, HXB, K0⟩
              · go_simp
                have HZ := Lib.hid (Blk.new w6 100 (wdC (0, 0)))
                have HGG := Lib.hid K0.out.size
                replace HM := Lib.hid (HM.out.kept ((Kept.refl [] w6).alloc (.cells #[.int .i64 0, .int .u64 0] 100)) (by simp))
                replace HXB := Lib.hid (HXB.out.kept ((Kept.refl [] w6).alloc (.cells #[.int .i64 0, .int .u64 0] 100)) (by simp))
                replace K0 := Lib.hid (K0.out.trans ((Kept.refl [] w6).alloc (.cells #[.int .i64 0, .int .u64 0] 100)))
                generalize w6.alloc (.cells #[.int .i64 0, .int .u64 0] 100) = z1 at *
                generalize w6.heap.size = gq at *
                refine hK.out _ _ ?_ (fun hHeld => ?_)
                · exact ⟨K0.out.cell_lt cD, K0.out.cell_lt cE⟩
                clear hK K
                try simp only [Act.put, List.setIfInBounds_toArray, List.set_cons_zero, List.set_cons_succ]
                refine wpAnyH_ready (rs := [9]) (by kernel_rfl) (by simp) ?_
                refine AllReadyH.cons rfl (fun K hK => ?_) AllReadyH.nil
                go_simp
                refine (mul_val HRV.out HVX.out HVY.out _).mono ?_
                rintro _ wy2 ⟨rfl, hk⟩
                replace HM := Lib.hid (HM.out.kept hk (by simp))
                replace HXB := Lib.hid (HXB.out.kept hk (by simp))
                replace K0 := Lib.hid (K0.out.trans hk)
                replace HZ := Lib.hid (HZ.out.kept hk (by simp))
                clear hk
                go_wp2_with fail
                refine hK.out _ _ ?_ (fun hHeld => ?_)
                · exact ⟨K0.out.cell_lt cD, K0.out.cell_lt cE⟩
                clear hK K
                try simp only [Act.put, List.setIfInBounds_toArray, List.set_cons_zero, List.set_cons_succ]
                refine wpAnyH_ready (rs := [11]) (by kernel_rfl) (by simp) ?_
                refine AllReadyH.cons rfl (fun K hK => ?_) AllReadyH.nil
                refine stpBlk rfl 100 (.tmp 20) (.tmp 63) rfl gq _ (wdC (wOf (mulV r x3 y3))) HZ.out rfl rfl rfl infoWide (by simp [Value.oneCell']) ?_
                intro w8 hb8 hk8
                have HNE := Lib.hid (show gm ∉ [gq] by have := HM.out.ne_blk HZ.out; simpa using fun h => this h.symm)
                have HNX := Lib.hid (show gb ∉ [gq] by have := Blk.ne HXB.out HZ.out (by decide); simpa using this)
                replace HM := Lib.hid (HM.out.kept hk8 HNE.out)
                replace HXB := Lib.hid (HXB.out.kept hk8 HNX.out)
                replace HZ := Lib.hid hb8
                replace K0 := Lib.hid (K0.out.then hk8 (fun u hu => by simp at hu; subst hu; exact .inr HGG.out))
                clear hk8 hb8
                go_simp
                refine hK.out _ _ ?_ (fun hHeld => ?_)
                · exact ⟨K0.out.cell_lt cD, K0.out.cell_lt cE⟩
                clear hK K
                try simp only [Act.put, List.setIfInBounds_toArray, List.set_cons_zero, List.set_cons_succ]
                refine wpAnyH_done (by kernel_rfl) ?_ _
                go_wp2_with fail
                go_meet
                exact ⟨gq, rfl, HZ, HGG, HM, HXB, K0⟩
            case rest =>
            clear HM HXB K0
            obtain ⟨gq, hv, HZ, HGG, HM, HXB, K0⟩ := hcut
            subst hv
            cases hf : sumF r S T2 y2 with
            | none =>
              go_upto_region 13 with (first | (refine sum_get rfl (.tmp 65) (.tmp 66) rfl HM.out rfl y2 rfl ?_; rw [hf]; simp only [oW, Option.isSome_none]))
              replace HZ := Lib.hid (HZ.out.kept ((Kept.refl [] wc).alloc (.cells (wdC (0, 0)).toArray 100)) (by simp))
              replace HM := Lib.hid (HM.out.kept ((Kept.refl [] wc).alloc (.cells (wdC (0, 0)).toArray 100)) (by simp))
              replace HXB := Lib.hid (HXB.out.kept ((Kept.refl [] wc).alloc (.cells (wdC (0, 0)).toArray 100)) (by simp))
              replace K0 := Lib.hid (K0.out.trans ((Kept.refl [] wc).alloc (.cells (wdC (0, 0)).toArray 100)))
              generalize wc.alloc (.cells (wdC (0, 0)).toArray 100) = w5 at *
              have HF := Lib.hid hf
              clear hf
              go_wp2_with (first | (refine wpList_loadBlk rfl 100 (.tmp 20) rfl gq (wdC (wOf (mulV r x3 y3))) _ HZ.out rfl Tryz.underlying100 rfl infoWide ?_) | (refine sum_set rfl (.tmp 75) (.tmp 76) (.tmp 77) rfl HM.out rfl y2 rfl (mulV r x3 y3) rfl ?_; intro w8 hm8 hk8))
              have HM8 := Lib.hid (show SumM w8 gm (sumF r S (T ++ (RB.take (p + 1)).map (prR r x3))) from by
                rw [HT3.out]
                exact hm8.ext (sumF_yes T2 HS.out (by rw [HF.out]; rfl)))
              have HX8 := Lib.hid (HXB.out.kept hk8 (by have := HM.out.ne_blk HXB.out; simpa using this))
              have K8 := Lib.hid (K0.out.then hk8 (fun u hu => by simp at hu; subst hu; exact .inr HGM.out))
              clear hm8 hk8
              go_roundw
              case rel => exact ⟨p + 1, by omega, by go_num, HM8, HX8, K8⟩
              case measure => simp [intOf]; omega
            | some s =>
              go_upto_region 13 with (first | (refine sum_get rfl (.tmp 65) (.tmp 66) rfl HM.out rfl y2 rfl ?_; rw [hf]; simp only [oW, Option.isSome_some]))
              have HSO := Lib.hid (show OkV r s by have h1 := sumF_ok (S := S) HP2.out y2; rw [hf] at h1; exact h1)
              have HY := Lib.hid (Blk.new wc 100 (wdC (wOf s)))
              replace HZ := Lib.hid (HZ.out.kept ((Kept.refl [] wc).alloc (.cells (wdC (wOf s)).toArray 100)) (by simp))
              replace HM := Lib.hid (HM.out.kept ((Kept.refl [] wc).alloc (.cells (wdC (wOf s)).toArray 100)) (by simp))
              replace HXB := Lib.hid (HXB.out.kept ((Kept.refl [] wc).alloc (.cells (wdC (wOf s)).toArray 100)) (by simp))
              replace K0 := Lib.hid (K0.out.trans ((Kept.refl [] wc).alloc (.cells (wdC (wOf s)).toArray 100)))
              generalize wc.alloc (.cells (wdC (wOf s)).toArray 100) = w5 at *
              generalize wc.heap.size = g11 at HY ⊢
              have HF := Lib.hid hf
              clear hf
              go_wp2_with (first | (refine wpList_loadBlk rfl 100 (.tmp 21) rfl g11 (wdC (wOf s)) _ HY.out rfl Tryz.underlying100 rfl infoWide ?_) | (refine wpList_loadBlk rfl 100 (.tmp 20) rfl gq (wdC (wOf (mulV r x3 y3))) _ HZ.out rfl Tryz.underlying100 rfl infoWide ?_))
              refine (ringAdd_val HRV.out HSO.out (mulV_ok HVX.out HVY.out) _).mono ?_
              rintro _ w6 ⟨rfl, hk6⟩
              replace HZ := Lib.hid (HZ.out.kept hk6 (by simp))
              replace HM := Lib.hid (HM.out.kept hk6 (by simp))
              replace HXB := Lib.hid (HXB.out.kept hk6 (by simp))
              replace K0 := Lib.hid (K0.out.trans hk6)
              clear hk6 HY
              have HNE := Lib.hid (show gm ∉ [gq] by have := HM.out.ne_blk HZ.out; simpa using fun h => this h.symm)
              have HNX := Lib.hid (show gb ∉ [gq] by have := Blk.ne HXB.out HZ.out (by decide); simpa using this)
              go_upto_region 15 with (first | (refine wpList_storeBlk rfl 100 (.tmp 20) (.tmp 74) rfl gq _ (wdC (wOf (addV r s (mulV r x3 y3)))) HZ.out rfl rfl rfl infoWide (by simp [Value.oneCell']) ?_; intro w7 hb7 hk7))
              replace HZ := Lib.hid hb7
              replace HM := Lib.hid (HM.out.kept hk7 HNE.out)
              replace HXB := Lib.hid (HXB.out.kept hk7 HNX.out)
              replace K0 := Lib.hid (K0.out.then hk7 (fun u hu => by simp at hu; subst hu; exact .inr HGG.out))
              clear hb7 hk7
              go_wp2_with (first | (refine wpList_loadBlk rfl 100 (.tmp 20) rfl gq (wdC (wOf (addV r s (mulV r x3 y3)))) _ HZ.out rfl Tryz.underlying100 rfl infoWide ?_) | (refine sum_set rfl (.tmp 75) (.tmp 76) (.tmp 77) rfl HM.out rfl y2 rfl (addV r s (mulV r x3 y3)) rfl ?_; intro w8 hm8 hk8))
              have HM8 := Lib.hid (show SumM w8 gm (sumF r S (T ++ (RB.take (p + 1)).map (prR r x3))) from by
                rw [HT3.out]
                exact hm8.ext (sumF_yes T2 HS.out (by rw [HF.out]; rfl)))
              have HX8 := Lib.hid (HXB.out.kept hk8 (by have := HM.out.ne_blk HXB.out; simpa using this))
              have K8 := Lib.hid (K0.out.then hk8 (fun u hu => by simp at hu; subst hu; exact .inr HGM.out))
              clear hm8 hk8
              go_roundw
              case rel => exact ⟨p + 1, by omega, by go_num, HM8, HX8, K8⟩
              case measure => simp [intOf]; omega
          · have HS := Lib.hid hS
            have hSd : decide (y2 ∈ S) = false := decide_eq_false hS
            clear hS
            go_wp2_with (first | (refine ask_yes rfl (.tmp 50) (.tmp 51) rfl HAS.out rfl y2 rfl ?_; rw [hSd]))
            go_roundw
            case rel => exact ⟨p + 1, by omega, by go_num, Lib.hid (by rw [HT3.out]; exact HM.out.ext (sumF_no T2 HS.out)), HXB, K0⟩
            case measure => simp [intOf]; omega
        · obtain rfl : p = RB.length := by omega
          rw [List.take_length, ← HPS.out] at HM
          go_wp2_with fail
          go_roundw
          case rel => exact ⟨q + 1, by omega, by go_num, HM, HXB, K0⟩
          case measure => simp [intOf]; omega
    · obtain rfl : q = RA.length := by omega
      rw [List.take_length] at HM
      go_wp2_with fail
      show post (.returned (.map (some gm))) _
      rw [HPOST.out]
      exact ⟨_, rfl, HM.out, K0.out⟩
end Go.Proofs.YtblfingmdipopaaGreat
