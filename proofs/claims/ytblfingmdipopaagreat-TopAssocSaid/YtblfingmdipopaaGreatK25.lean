/- fretworkref07.Of of triples that lie in the matrix, by the least sums. Conditions: sizes within the limits. -/
import Derived.Test.YtblfingmdipopaaGreatK24
namespace Go.Proofs.YtblfingmdipopaaGreat
set_option linter.unusedSimpArgs false
set_option linter.unusedVariables false
open Go.ChangeShapes Go.WideShapes Go.ChangeAt Go.RowKit
open Go.RowKit (wrap32 wrap64)
set_option maxHeartbeats 8000000

theorem combP_one {l : List Ed} (h : ∀ e ∈ l, In64 e.2.2) : combP 1 l = (0, canonP l) := by
  obtain ⟨h1, h2, h3, h4⟩ := canonE_all l h [] [] (by simp) (by unfold RisesL; simp) (by simp) (by intro x hx; cases hx)
  rw [List.nil_append] at h3 h4
  have hi : insAll 1 l = (canonE l).map toK := h1
  have hn : ∀ x ∈ canonE l, wNarrow (wOf x.2.2) = (x.2.2, true) := fun x hx => wNarrow_of (h x (h3 x hx))
  unfold canonP
  rw [combP_ref, if_neg (by decide), hi, if_pos (by rw [List.all_map, List.all_eq_true]; intro x hx; show (wNarrow (wOf x.2.2)).2 = true; rw [hn x hx])]
/-- Triples that lie in a matrix. -/
def InM (n m : Nat) (l : List Ed) : Prop := ∀ e ∈ l, (0 ≤ e.1 ∧ e.1 < n) ∧ 0 ≤ e.2.1 ∧ e.2.1 < m
theorem canon_ok {n m : Nat} {l : List Ed} (hn : n ≤ 4096) (hm : m ≤ 4096) (hl : l.length ≤ 65536) (hw : ∀ e ∈ l, In64 e.2.2) (hin : InM n m l) : MtOkM n m (canonP l) := by
  obtain ⟨h1, h2, _⟩ := canonP_spec hw
  exact ⟨h1, fun e he => hin e (h2 e he), Nat.le_trans (canonP_length l) hl, hn, hm⟩

set_option maxRecDepth 100000 in
theorem refOf7_any (n m : Nat) (l : List Ed) (A : Option Addr) (c : Nat) (w : World) (hn : n ≤ 4096) (hm : m ≤ 4096) (hl : l.length ≤ 65536) (hA : Reads w A (l.flatMap edV)) (hw : ∀ e ∈ l, In64 e.2.2) (hin : InM n m l) :
    Calls Tryz.prog 25 #[.int .i64 1, .int .i64 n, .int .i64 m, .slice A l.length c] w (fun e w' => ∃ v, e = .returned (.tuple #[v, .int .i64 0]) ∧ MtPost w n m (canonP l) (.returned v) w') := by
  have HA := Lib.hid hA
  have HW := Lib.hid hw
  have HIN := Lib.hid hin
  have HCO := Lib.hid (canon_ok hn hm hl hw hin)
  clear hA hw hin
  obtain ⟨post, hpost⟩ : ∃ post : Ending → World → Prop, post = (fun e w' => ∃ v, e = .returned (.tuple #[v, .int .i64 0]) ∧ MtPost w n m (canonP l) (.returned v) w') := ⟨_, rfl⟩
  rw [← hpost]
  have HPOST := Lib.hid hpost
  clear hpost
  have HZ := Lib.hid (Blk.new w 31 [.int .i64 0, .int .i64 0, .slice none 0 0, .slice none 0 0, .slice none 0 0])
  have K0 := Lib.hid ((Kept.refl [] w).alloc (.cells #[.int .i64 0, .int .i64 0, .slice none 0 0, .slice none 0 0, .slice none 0 0] 31))
  have HGZ := Lib.hid (show w.heap.size ≤ w.heap.size from Nat.le_refl _)
  have h1 : ¬ (n : Int) < 0 := by omega
  have h2 : ¬ (4096 : Int) < (n : Int) := by omega
  have h3 : ¬ (m : Int) < 0 := by omega
  have h4 : ¬ (4096 : Int) < (m : Int) := by omega
  have h5 : ¬ (65536 : Int) < (l.length : Int) := by omega
  go_enter Tryz.func25, Tryz.ntmps25
  go_upto_region 1 with (fail)
  generalize w.alloc (.cells #[.int .i64 0, .int .i64 0, .slice none 0 0, .slice none 0 0, .slice none 0 0] 31) = w1 at *
  generalize hgq : w.heap.size = gz at HZ ⊢
  rw [hgq] at HGZ
  have HGE := Lib.hid (show w.heap.size ≤ gz by omega)
  clear hgq HGZ
  go_wp2_with fail
  refine (refIs_any _ _).mono ?_
  rintro _ w2 ⟨rfl, rfl⟩
  rw [show ringIs 1 = true from by decide]
  go_wp2_with fail
  clear h1 h2 h3 h4 h5
  go_loopw [10, 11] (fun v x wr => ∃ k : Nat, k ≤ l.length ∧ x = .int .i64 k ∧ Hid (wr.ownsRow w.heap.size 107 3 v k ((l.take k).flatMap edV)) ∧ Hid (Blk wr gz 31 [.int .i64 0, .int .i64 0, .slice none 0 0, .slice none 0 0, .slice none 0 0]) ∧ Hid (Kept [] w wr)) (fun _ x _ => l.length - (intOf x).toNat)
  case atStart => exact ⟨0, Nat.zero_le _, rfl, Lib.hid (World.ownsRow_nil _ _ _ _), HZ, K0⟩
  case round =>
    clear HZ K0
    obtain ⟨k, hk, rfl, HO, HZ, K0⟩ := hrel
    obtain ⟨v, hv⟩ : ∃ v, v = u10 := ⟨_, rfl⟩
    subst hv
    obtain ⟨A5, c5, rfl⟩ := own_n HO.out
    by_cases hlt : k < l.length
    · have HTK := Lib.hid (List.take_succ_eq_append_getElem hlt)
      have hi := HIN.out l[k] (List.getElem_mem _)
      obtain ⟨b, off, rfl, hbl, c0, c1, c2⟩ := edge_at (HA.out.kept0 K0.out) hlt
      obtain ⟨x, hx⟩ : ∃ x, x = l[k] := ⟨_, rfl⟩
      rw [← hx] at c0 c1 c2 HTK hi
      clear hx
      obtain ⟨x1, x2, x3⟩ := x
      dsimp only at c0 c1 c2 hi
      have h1 : ¬ x1 < 0 := by omega
      have h2 : ¬ (n : Int) ≤ x1 := by omega
      have h3 : ¬ x2 < 0 := by omega
      have h4 : ¬ (m : Int) ≤ x2 := by omega
      clear hi
      go_upto_region 13 with (fail)
      clear h1 h2 h3 h4
      have HD := Lib.hid (own_kept0 HO.out (Kept.refl [] wr).drew)
      have hsz := K0.out.size
      go_region_law (refine step_app _ rfl (.tmp 77) (.tmp 94) _ rfl 107 (.agg #[.int .i64 0, .int .i64 0, .int .i64 0]) 3 24 Tryz.underlying54 infoEd rfl (by decide) w.heap.size (.slice A5 k c5) (k) _ rfl (HD.out.alloc _) (some ⟨_, 0, none⟩) 1 1 (edV (x1, x2, x3)) rfl rfl (Reads.of_blk (Blk.new _ _ _) (fun _ _ h => h)) (by simp [edV, Value.oneCell']) (by omega) (by unfold maxLen; omega) (by simp; omega) ?_; intro va wa howna hka hba; have HOa := Lib.hid howna; have Fa := Lib.hid (((KeptB.refl w.heap.size [107] wr.drew).alloc _).app hka (HD.out.alloc _) (by decide)); clear howna hka hba)
      all_goals
        go_wp2_with fail
        go_roundw
        case rel =>
          refine ⟨k + 1, by omega, by go_num, Lib.hid ?_, Lib.hid ((HZ.out.kept (Kept.refl [] wr).drew (by simp)).keptB Fa.out (by decide)), Lib.hid ((K0.out.trans (Kept.refl [] wr).drew).thenB Fa.out (Nat.le_refl _))⟩
          have := HOa.out
          rw [HTK.out, List.flatMap_append]
          simpa [edV] using this
        case measure => simp [intOf]; omega
    · obtain rfl : k = l.length := by omega
      rw [List.take_length] at HO
      have HCM := Lib.hid (combP_one HW.out)
      go_wp2_with fail
      have HRC := Lib.hid (refCombine_ok 1 l A5 c5 wr (by decide) (by omega) (Reads.of_own HO.out) HW.out)
      rw [HCM.out] at HRC
      refine HRC.out.mono ?_
      rintro _ w3 ⟨v, rfl, ho, hk3⟩
      clear HRC
      replace HO := Lib.hid (own_base ho K0.out.size)
      dsimp only at HO
      clear ho
      replace HZ := Lib.hid (HZ.out.kept hk3 (by simp))
      replace K0 := Lib.hid (K0.out.trans hk3)
      clear hk3
      obtain ⟨C, hC⟩ : ∃ C, C = canonP l := ⟨_, rfl⟩
      rw [← hC] at HO HCO HPOST
      have hcl : C.length ≤ 65536 := HCO.out.len
      clear hC HCM
      obtain ⟨A6, c6, rfl⟩ := own_n HO.out
      go_wp2_with fail
      go_loopw [13, 14] (fun v x wr => ∃ k : Nat, k ≤ C.length ∧ x = .int .i64 k ∧ Hid (wr.ownsRow w.heap.size 84 3 v k ((C.take k).flatMap edV)) ∧ Hid (wr.ownsRow w.heap.size 107 3 (.slice A6 C.length c6) C.length (C.flatMap edV)) ∧ Hid (Blk wr gz 31 [.int .i64 0, .int .i64 0, .slice none 0 0, .slice none 0 0, .slice none 0 0]) ∧ Hid (Kept [] w wr)) (fun _ x _ => C.length - (intOf x).toNat)
      case atStart => exact ⟨0, Nat.zero_le _, rfl, Lib.hid (World.ownsRow_nil _ _ _ _), HO, HZ, K0⟩
      case round =>
        clear HZ K0 HO
        obtain ⟨k, hk, rfl, HO, HE, HZ, K0⟩ := hrel
        obtain ⟨v, hv⟩ : ∃ v, v = u13 := ⟨_, rfl⟩
        subst hv
        obtain ⟨A7, c7, rfl⟩ := own_n HO.out
        by_cases hlt : k < C.length
        · have HTK := Lib.hid (List.take_succ_eq_append_getElem hlt)
          obtain ⟨b, off, hA6, hbl, c0, c1, c2⟩ := edge_at (Reads.of_own HE.out) hlt
          subst hA6
          obtain ⟨x, hx⟩ : ∃ x, x = C[k] := ⟨_, rfl⟩
          rw [← hx] at c0 c1 c2 HTK
          clear hx
          obtain ⟨x1, x2, x3⟩ := x
          dsimp only at c0 c1 c2
          go_upto_region 21 with (fail)
          have HD := Lib.hid (own_kept0 HO.out (Kept.refl [] wr).drew)
          have hsz := K0.out.size
          go_region_law (refine step_app _ rfl (.tmp 112) (.tmp 129) _ rfl 84 (.agg #[.int .i64 0, .int .i64 0, .int .i64 0]) 3 24 Tryz.underlying24 infoTrI rfl (by decide) w.heap.size (.slice A7 k c7) (k) _ rfl (HD.out.alloc _) (some ⟨_, 0, none⟩) 1 1 (edV (x1, x2, x3)) rfl rfl (Reads.of_blk (Blk.new _ _ _) (fun _ _ h => h)) (by simp [edV, Value.oneCell']) (by omega) (by unfold maxLen; omega) (by simp; omega) ?_; intro va wa howna hka hba; have HOa := Lib.hid howna; have Fa := Lib.hid (((KeptB.refl w.heap.size [84] wr.drew).alloc _).app hka (HD.out.alloc _) (by decide)); clear howna hka hba)
          all_goals
            go_wp2_with fail
            go_roundw
            case rel =>
              refine ⟨k + 1, by omega, by go_num, Lib.hid ?_, Lib.hid (own_keptB (own_kept0 HE.out (Kept.refl [] wr).drew) Fa.out (by decide)), Lib.hid ((HZ.out.kept (Kept.refl [] wr).drew (by simp)).keptB Fa.out (by decide)), Lib.hid ((K0.out.trans (Kept.refl [] wr).drew).thenB Fa.out (Nat.le_refl _))⟩
              have := HOa.out
              rw [HTK.out, List.flatMap_append]
              simpa [edV] using this
            case measure => simp [intOf]; omega
        · obtain rfl : k = C.length := by omega
          rw [List.take_length] at HO
          go_wp2_with fail
          refine (refBuilt_any n m C A7 c7 wr hn (by omega) (Reads.of_own HO.out) (fun e he => (HCO.out.inn e he).1)).mono ?_
          rintro _ w4 ⟨v1, v2, v3, rfl, hm4, hk4⟩
          replace HZ := Lib.hid (HZ.out.kept hk4 (by simp))
          have HM := Lib.hid (hm4.le K0.out.size)
          replace K0 := Lib.hid (K0.out.trans hk4)
          clear hk4 hm4
          obtain ⟨b1, c1, B2, d2, B3, d3, rfl, rfl, rfl, _, _⟩ := HM.out.form
          go_wp2_with (first | (refine wpList_storeBlk rfl 31 (.tmp 8) (.tmp 134) rfl gz _ [.int .i64 n, .int .i64 m, .slice (some ⟨b1, 0, none⟩) (n + 1) c1, .slice B2 C.length d2, .slice B3 C.length d3] HZ.out rfl rfl rfl infoRows (by simp [Value.oneCell']) ?_; intro w8 hb8 hk8))
          have e0 := hb8.cell 0
          have e1 := hb8.cell 1
          have e2 := hb8.cell 2
          have e3 := hb8.cell 3
          have e4 := hb8.cell 4
          simp only [List.getElem?_cons_zero, List.getElem?_cons_succ] at e0 e1 e2 e3 e4
          refine bodyPost_ret (v := .tuple #[.agg #[.int .i64 n, .int .i64 m, .slice (some ⟨b1, 0, none⟩) (n + 1) c1, .slice B2 C.length d2, .slice B3 C.length d3], .int .i64 0]) (by simp [results, Tryz.results25, go_sem, e0, e1, e2, e3, e4]) rfl ?_
          rw [HPOST.out]
          have f8 : KeptB w.heap.size [31] w4 w8 := (KeptB.refl _ _ w4).step (L := [gz]) hk8 (fun u hu => by simp at hu; subst hu; exact ⟨HGE.out, _, _, _, HZ.out, by simp⟩)
          exact ⟨_, rfl, _, _, _, rfl, HM.out.keptB f8 (by decide) (by decide), K0.out.thenB f8 (Nat.le_refl _)⟩
end Go.Proofs.YtblfingmdipopaaGreat
