/- pull.Done: a vector of sums. Conditions: places that rise. -/
import Derived.Test.YtblfingmdipopaaGreatM42
namespace Go.Proofs.YtblfingmdipopaaGreat
set_option linter.unusedSimpArgs false
set_option linter.unusedVariables false
open Go.ChangeShapes Go.WideShapes Go.ChangeAt Go.RowKit
open Go.RowKit (wrap32 wrap64)
set_option maxHeartbeats 8000000
theorem itemsR_len (r : Int) (S : List (Nat × Int)) : (itemsR r S).length ≤ S.length := by
  unfold itemsR
  rw [List.length_map]
  exact List.length_filter_le _ _
theorem items_succ (r : Int) (S : List (Nat × Int)) {k : Nat} (h : k < S.length) : itemsR r (S.take (k + 1)) = if S[k].2 = zeroV r then itemsR r (S.take k) else itemsR r (S.take k) ++ [((0 : Int), (S[k].1 : Int), S[k].2)] := by
  rw [List.take_succ_eq_append_getElem h]
  unfold itemsR
  rw [List.filter_append, List.map_append]
  by_cases hz : S[k].2 = zeroV r
  · rw [if_pos hz]
    simp [hz]
  · rw [if_neg hz]
    simp [hz]
set_option maxRecDepth 100000 in
theorem pDone_any (r : Int) (hr : RingV r) (n c : Nat) (S : List (Nat × Int)) (A : Option Addr) (w : World) (hn : n ≤ 4096) (hl : S.length ≤ 65536) (hs : ∀ x ∈ S, x.1 < n) (hri : S.Pairwise (fun x y => x.1 < y.1)) (ho : ∀ x ∈ S, OkV r x.2) (hA : Reads w A (S.flatMap smV)) :
    Calls Tryz.prog 28 #[.int .i64 r, .int .i64 n, .slice A S.length c] w fun e w' => ∃ v, e = .returned (.tuple #[v, .int .i64 0]) ∧ VcPost w n (itemsR r S) (.returned v) w' := by
  have HRV := Lib.hid hr
  have HS := Lib.hid hs
  have HRI := Lib.hid hri
  have HO := Lib.hid ho
  have HA := Lib.hid hA
  have HN := Lib.hid hn
  clear hr hs hri ho hA
  obtain ⟨post, hpost⟩ : ∃ post : Ending → World → Prop, post = (fun e w' => ∃ v, e = .returned (.tuple #[v, .int .i64 0]) ∧ VcPost w n (itemsR r S) (.returned v) w') := ⟨_, rfl⟩
  rw [← hpost]
  have HPOST := Lib.hid hpost
  clear hpost
  have ri : ringIs r = true := by rcases HRV.out with rfl | rfl | rfl <;> rfl
  go_enter Tryz.func28, Tryz.ntmps28
  go_wp2_with fail
  refine (ringIs_any r _).mono ?_
  rintro _ w1 ⟨rfl, hw1⟩
  rw [ri]
  have HB := Lib.hid ((Blk.new w 3 [.int .i64 n]).alloc (.cells #[.int .i64 0, .slice none 0 0] 35))
  have HV0 := Blk.new (w.alloc (.cells #[.int .i64 n] 3)) 35 [.int .i64 0, .slice none 0 0]
  rw [show (w.alloc (.cells #[.int .i64 n] 3)).heap.size = w.heap.size + 1 by simp] at HV0
  have HV := Lib.hid HV0
  have K0 := Lib.hid (((Kept.refl [] w).alloc (.cells #[.int .i64 n] 3)).alloc (.cells #[.int .i64 0, .slice none 0 0] 35))
  clear HV0
  rw [← hw1] at HB HV K0
  clear hw1
  have b0 := HB.out.cell 0
  simp only [List.getElem?_cons_zero] at b0
  have g1 : ¬ (n : Int) < 0 := by omega
  have g2 : ¬ (n : Int) > 4096 := by omega
  go_wp2_with fail
  refine (containsS_any S n w.heap.size A c w1 (by unfold maxLen; omega) HN.out HS.out HB.out (HA.out.kept0 K0.out)).mono ?_
  rintro _ w2 ⟨rfl, hk⟩
  replace HB := Lib.hid (HB.out.kept hk (by simp))
  replace HV := Lib.hid (HV.out.kept hk (by simp))
  replace K0 := Lib.hid (K0.out.trans hk)
  clear hk b0
  go_wp2_with fail
  go_loopw [32] (fun i wr => ∃ k : Nat, k ≤ S.length ∧ i = .int .i64 k ∧ Hid (Blk wr w.heap.size 3 [.int .i64 n]) ∧ Hid (Blk wr (w.heap.size + 1) 35 [.int .i64 0, .slice none 0 0]) ∧ Hid (Kept [] w wr)) (fun i _ => S.length - (intOf i).toNat)
  case atStart => exact ⟨0, Nat.zero_le _, rfl, HB, HV, K0⟩
  case round =>
    clear K0 HB HV
    obtain ⟨k, hk, rfl, HB, HV, K0⟩ := hrel
    by_cases hlt : k < S.length
    · obtain ⟨b, off, rfl, hb, h0, _, _⟩ := sum_at (HA.out.kept0 K0.out) hlt
      by_cases hz : k = 0
      · subst hz
        go_wp2_with fail
        go_quiet (fail)
        go_wp2_with fail
        go_roundw
        case rel => exact ⟨0 + 1, by omega, by go_num, HB.out.drewN _, HV.out.drewN _, Lib.hid (K0.out.drewN _)⟩
        case measure => simp [intOf]; omega
      · obtain ⟨j, rfl⟩ : ∃ j, k = j + 1 := ⟨k - 1, by omega⟩
        obtain ⟨b2, off2, e2, _, h2, _, _⟩ := sum_at (HA.out.kept0 K0.out) (show j < S.length by omega)
        injection e2 with e2
        injection e2 with e2 e3
        subst e2 e3
        have hlt2 : ¬ (S[j].1 : Int) ≥ (S[j + 1].1 : Int) := by have := List.pairwise_iff_getElem.1 HRI.out j (j + 1) (by omega) hlt (by omega); omega
        go_wp2_with fail
        go_quiet (fail)
        go_wp2_with fail
        go_roundw
        case rel => exact ⟨j + 1 + 1, by omega, by go_num, HB.out.drewN _, HV.out.drewN _, Lib.hid (K0.out.drewN _)⟩
        case measure => simp [intOf]; omega
    · obtain rfl : k = S.length := by omega
      have b0 := HB.out.cell 0
      simp only [List.getElem?_cons_zero] at b0
      go_upto_region 13 with (first | (refine wpList_storeBlk rfl 35 (.tmp 9) (.tmp 54) rfl wr.heap.size [.int .i64 0, .slice none 0 0] [.int .i64 n, .slice none 0 0] (Blk.new _ _ _) rfl rfl rfl infoVec (by simp [Value.oneCell']) ?_; intro w4 hb4 hk4))
      have hk43 := (Kept.refl [] wr).alloc (.cells #[.int .i64 0, .slice none 0 0] 35)
      have hk44 : Kept [] wr w4 := hk43.then hk4 (fun q hq => by simp at hq; subst hq; exact .inr (Nat.le_refl _))
      have HG := Lib.hid hb4
      have HGE := Lib.hid (show w.heap.size + 1 < wr.heap.size from HV.out.lt)
      replace HV := Lib.hid (HV.out.kept hk44 (by simp))
      replace K0 := Lib.hid (K0.out.trans hk44)
      clear hk43 hk44 hk4 hb4 b0 HB hlt hk
      generalize wr.heap.size = g9 at HG HGE ⊢
      go_wp2_with fail
      go_loopw [57] (fun i wr => ∃ k : Nat, k ≤ S.length ∧ i = .int .i64 k ∧ ∃ v, Hid (wr.ownsRow w.heap.size 38 2 v (itemsR r (S.take k)).length ((itemsR r (S.take k)).flatMap itV)) ∧ Hid (Blk wr g9 35 [.int .i64 n, v]) ∧ Hid (Blk wr (w.heap.size + 1) 35 [.int .i64 0, .slice none 0 0]) ∧ Hid (Kept [] w wr)) (fun i _ => S.length - (intOf i).toNat)
      case atStart => exact ⟨0, Nat.zero_le _, rfl, _, Lib.hid (World.ownsRow_nil _ _ _ _), HG, HV, K0⟩
      case round =>
        clear HG HV K0
        obtain ⟨k, hk, rfl, v, HI, HG, HV, K0⟩ := hrel
        by_cases hlt : k < S.length
        · obtain ⟨b, off, rfl, hb, h0, h1, h2⟩ := sum_at (HA.out.kept0 K0.out) hlt
          have HTK := Lib.hid (items_succ r S hlt)
          have HOK := Lib.hid (HO.out S[k] (List.getElem_mem hlt))
          have hil : (itemsR r (S.take k)).length ≤ 65536 := Nat.le_trans (itemsR_len r _) (by rw [List.length_take]; omega)
          obtain ⟨x, hx⟩ : ∃ x, x = S[k] := ⟨_, rfl⟩
          rw [← hx] at h0 h1 h2 HTK HOK
          clear hx
          obtain ⟨I, hI⟩ : ∃ I, I = itemsR r (S.take k) := ⟨_, rfl⟩
          rw [← hI] at HTK HI hil
          clear hI
          obtain ⟨A7, c7, rfl⟩ := own_n HI.out
          obtain ⟨x1, x2⟩ := x
          dsimp only at h0 h1 h2 HTK HOK
          go_upto_region 16 with (fail)
          have HX := Lib.hid (Blk.new wr 138 (smV (x1, x2)))
          have hka := (Kept.refl [] wr).alloc (.cells (smV (x1, x2)).toArray 138)
          replace HI := Lib.hid (own_kept0 HI.out hka)
          replace HG := Lib.hid (HG.out.kept hka (by simp))
          replace HV := Lib.hid (HV.out.kept hka (by simp))
          replace K0 := Lib.hid (K0.out.trans hka)
          clear hka h0 h1 h2 hb
          generalize wr.alloc (.cells (smV (x1, x2)).toArray 138) = w5 at *
          generalize wr.heap.size = g11 at HX ⊢
          go_wp2_with (first | (refine wpList_load_mid rfl 100 (.tmp 63) rfl g11 1 rfl (wdC (wOf x2)) _ (HX.out.range 1 _ (fun j v hv => by simpa [List.getElem?_cons_succ, Nat.add_comm] using hv)) Tryz.underlying100 rfl infoWide ?_))
          refine (ringNarrow_val r HOK.out _).mono ?_
          rintro _ w6 ⟨rfl, hk6⟩
          replace HX := Lib.hid (HX.out.kept hk6 (by simp))
          replace HI := Lib.hid (own_kept0 HI.out hk6)
          replace HG := Lib.hid (HG.out.kept hk6 (by simp))
          replace HV := Lib.hid (HV.out.kept hk6 (by simp))
          replace K0 := Lib.hid (K0.out.trans hk6)
          clear hk6
          go_wp2_with fail
          refine (zero_val HRV.out _).mono ?_
          rintro _ w7 ⟨rfl, rfl⟩
          by_cases hz : x2 = zeroV r
          · have hzb : (x2 != zeroV r) = false := by simp [hz]
            rw [if_pos hz] at HTK
            clear hz
            go_wp2_with fail
            go_roundw
            case rel => exact ⟨k + 1, by omega, by go_num, _, by rw [HTK.out]; exact HI, HG, HV, K0⟩
            case measure => simp [intOf]; omega
          · have hzb : (x2 != zeroV r) = true := by simp [hz]
            rw [if_neg hz] at HTK
            clear hz
            have x0 := HX.out.cell 0
            have d1 := HG.out.cell 1
            have lg := HG.out.lt
            have hsz := K0.out.size
            simp only [smV, List.getElem?_cons_zero, List.getElem?_cons_succ] at x0 d1
            go_wp2_with ((at_builtin; refine wpList_app _ rfl (.tmp 76) (.tmp 81) _ rfl 38 (.agg #[.int .i64 0, .int .i64 0]) 2 16 Tryz.underlying27 infoItem rfl (by decide) w.heap.size (.slice A7 I.length c7) I.length _ rfl (HI.out.alloc _) (some ⟨_, 0, none⟩) 1 1 (itV (0, (x1 : Int), x2)) rfl rfl (Reads.of_blk (Blk.new _ _ _) (fun _ _ h => h)) (by simp [Value.oneCell']) (by omega) (by unfold maxLen; omega) (by simp; omega) ?_; intro va wa howna hka hba; have HOa := Lib.hid howna; have Fa := Lib.hid (((KeptB.refl w.heap.size [38] w7).alloc _).app hka (HI.out.alloc _) (by decide)); clear howna hka hba; obtain ⟨A8, c8, rfl⟩ := own_n HOa.out; have HGa := Lib.hid (HG.out.keptB Fa.out (by decide)); have fa := HGa.out.frozen 1; have da := HGa.out.cell 1; have la := HGa.out.lt; simp only [List.getElem?_cons_zero, List.getElem?_cons_succ] at da))
            clear fa da la d1 lg hsz x0 HX hzb
            replace HV := Lib.hid (HV.out.keptB Fa.out (by decide))
            replace K0 := Lib.hid (K0.out.thenB Fa.out (Nat.le_refl _))
            replace HG := HGa
            replace HI := HOa
            clear HGa HOa Fa
            have ko := (Kept.refl [g9] wa).setCell (p := ⟨g9, 1, none⟩) (.inl (by simp)) (.slice A8 (I.length + 1) c8)
            replace HI := Lib.hid (own_kept HI.out ko (fun u hu => by simp; rintro rfl; exact own_ne_blk HI.out HG.out (by decide) hu))
            replace HV := Lib.hid (HV.out.kept ko (by simp; have := HGE.out; omega))
            replace HG := Lib.hid (HG.out.set 1 (.slice A8 (I.length + 1) c8))
            simp only [List.set_cons_zero, List.set_cons_succ] at HG
            replace K0 := Lib.hid (K0.out.then ko (fun u hu => by simp at hu; subst hu; exact .inr (by have := HGE.out; omega)))
            clear ko
            generalize wa.setCell ⟨g9, 1, none⟩ (.slice A8 (I.length + 1) c8) = wb at *
            go_wp2_with fail
            go_roundw
            case rel =>
              refine ⟨k + 1, by omega, by go_num, _, Lib.hid ?_, HG, HV, K0⟩
              have := HI.out
              rw [HTK.out, List.flatMap_append]
              simpa using this
            case measure => simp [intOf]; omega
        · obtain rfl : k = S.length := by omega
          rw [List.take_length] at HI
          obtain ⟨A7, c7, rfl⟩ := own_n HI.out
          go_wp2_with (first | (refine wpList_loadBlk rfl 35 (.tmp 9) rfl g9 [.int .i64 n, .slice A7 (itemsR r S).length c7] _ HG.out rfl Tryz.underlying35 rfl infoVec ?_) | (refine wpList_storeBlk rfl 35 (.tmp 6) (.tmp 85) rfl (w.heap.size + 1) _ [.int .i64 n, .slice A7 (itemsR r S).length c7] HV.out rfl rfl rfl infoVec (by simp [Value.oneCell']) ?_; intro w8 hb8 hk8))
          have e0 := hb8.cell 0
          have e1 := hb8.cell 1
          simp only [List.getElem?_cons_zero, List.getElem?_cons_succ] at e0 e1
          refine bodyPost_ret (v := .tuple #[.agg #[.int .i64 n, .slice A7 (itemsR r S).length c7], .int .i64 0]) (by simp [results, Tryz.results28, go_sem, e0, e1]) rfl ?_
          rw [HPOST.out]
          have f8 : KeptB w.heap.size [35] wr w8 := (KeptB.refl _ _ wr).step (L := [w.heap.size + 1]) hk8 (fun u hu => by simp at hu; subst hu; exact ⟨by omega, _, _, _, HV.out, by simp⟩)
          exact ⟨_, rfl, _, rfl, own_keptB HI.out f8 (by decide), K0.out.thenB f8 (Nat.le_refl _)⟩
end Go.Proofs.YtblfingmdipopaaGreat
