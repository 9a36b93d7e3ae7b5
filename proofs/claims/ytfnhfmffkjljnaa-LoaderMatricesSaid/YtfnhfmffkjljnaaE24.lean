/- The reference's Turn. -/
import Derived.Test.YtfnhfmffkjljnaaE23
namespace Go.Proofs.Ytfnhfmffkjljnaa
set_option linter.unusedSimpArgs false
set_option linter.unusedVariables false
open Go.ChangeShapes Go.WideShapes Go.ChangeAt Go.RowKit
open Go.RowKit (wrap32 wrap64)
set_option maxHeartbeats 8000000

set_option maxRecDepth 100000 in
theorem refTurn_any (n : Int) (l : List Ed) (A : Option Addr) (c : Nat) (w : World) (hl : l.length ≤ 1048576) (hA : Reads w A (l.flatMap edV)) (hw : ∀ e ∈ l, In64 e.2.2) :
    Calls Try.prog 23 #[.agg #[.int .i64 n, .slice A l.length c]] w (GrPost w n (canonP (madeP turnE allE l))) := by
  have HA := Lib.hid hA
  have HW := Lib.hid (madeP_in (f := turnE) (p := allE) (fun e h => h) hw)
  have HB := Lib.hid (((Blk.new w 24 (grV n A l.length c)).alloc (.cells #[.int .i64 0, .slice none 0 0] 24)).alloc (.cells #[.int .i64 n, .slice none 0 0] 24))
  have HZ := Lib.hid ((Blk.new1F w (.cells #[.int .i64 n, .slice A l.length c] 24) 24 [.int .i64 0, .slice none 0 0]).alloc (.cells #[.int .i64 n, .slice none 0 0] 24))
  have HG0 := Blk.new ((w.alloc (.cells #[.int .i64 n, .slice A l.length c] 24)).alloc (.cells #[.int .i64 0, .slice none 0 0] 24)) 24 [.int .i64 n, .slice none 0 0]
  rw [show ((w.alloc (.cells #[.int .i64 n, .slice A l.length c] 24)).alloc (.cells #[.int .i64 0, .slice none 0 0] 24)).heap.size = w.heap.size + 1 + 1 by simp] at HG0
  have HG := Lib.hid HG0
  have K0 := Lib.hid ((((Kept.refl [] w).alloc (.cells #[.int .i64 n, .slice A l.length c] 24)).alloc (.cells #[.int .i64 0, .slice none 0 0] 24)).alloc (.cells #[.int .i64 n, .slice none 0 0] 24))
  have HGZ := Lib.hid (show w.heap.size ≤ w.heap.size + 1 by omega)
  have HG3 := Lib.hid (show w.heap.size ≤ w.heap.size + 1 + 1 ∧ w.heap.size ≠ w.heap.size + 1 + 1 ∧ w.heap.size + 1 ≠ w.heap.size + 1 + 1 by omega)
  clear hA hw HG0
  obtain ⟨post, hpost⟩ : ∃ post : Ending → World → Prop, post = GrPost w n (canonP (madeP turnE allE l)) := ⟨_, rfl⟩
  rw [← hpost]
  have HPOST := Lib.hid hpost
  clear hpost
  go_enter Try.func23, Try.ntmps23
  go_upto_region 2 with (fail)
  generalize (((w.alloc (.cells #[.int .i64 n, .slice A l.length c] 24)).alloc (.cells #[.int .i64 0, .slice none 0 0] 24)).alloc (.cells #[.int .i64 n, .slice none 0 0] 24)) = w2 at *
  generalize w.heap.size + 1 + 1 = g3 at HG HG3 ⊢
  generalize w.heap.size + 1 = gz at HZ HGZ HG3 ⊢
  generalize hgq : w.heap.size = g at HB ⊢
  rw [hgq] at HG3
  have HGE := Lib.hid (show w.heap.size ≤ g from by rw [hgq]; exact Nat.le_refl _)
  clear hgq
  go_wp2_with fail
  go_loopw [4] (fun i wr => ∃ (k : Nat) (v : Value), k ≤ l.length ∧ i = .int .i64 k ∧ Hid (wr.ownsRow w.heap.size 41 3 v (madeP turnE allE (l.take k)).length ((madeP turnE allE (l.take k)).flatMap edV)) ∧ Hid (Blk wr g 24 (grV n A l.length c)) ∧ Hid (Blk wr gz 24 [.int .i64 0, .slice none 0 0]) ∧ Hid (Blk wr g3 24 [.int .i64 n, v]) ∧ Hid (Kept [] w wr)) (fun i _ => l.length - (intOf i).toNat)
  case atStart => exact ⟨0, _, Nat.zero_le _, rfl, Lib.hid (World.ownsRow_nil _ _ _ _), HB, HZ, HG, K0⟩
  case round =>
    clear HB HZ HG K0
    obtain ⟨k, v, hk, rfl, HO, HB, HZ, HG, K0⟩ := hrel
    have hml := Nat.le_trans (madeP_length turnE allE (l.take k)) (List.length_take_le' k l)
    have y1 := HB.out.cell 1
    have hgl := HB.out.lt
    simp only [List.getElem?_cons_zero, List.getElem?_cons_succ] at y1
    by_cases hlt : k < l.length
    · have HS := Lib.hid (madeP_succ turnE allE l hlt)
      obtain ⟨b, off, rfl, hbl, c0, c1, c2⟩ := edge_at (HA.out.kept0 K0.out) hlt
      obtain ⟨x, hx⟩ : ∃ x, x = l[k] := ⟨_, rfl⟩
      rw [← hx] at c0 c1 c2 HS
      clear hx
      generalize hmq : madeP turnE allE (l.take k) = M at HO HS hml
      clear hmq
      obtain ⟨x1, x2, x3⟩ := x
      dsimp only at c0 c1 c2
      obtain ⟨A5, c5, rfl⟩ := own_n HO.out
      go_upto_region 6 with (fail)
      have ka := Lib.hid ((Kept.refl [] wr).alloc (.cells #[.int .i64 x1, .int .i64 x2, .int .i64 x3] 41))
      have H5 := Lib.hid (Blk.new wr 41 [.int .i64 x1, .int .i64 x2, .int .i64 x3])
      replace HO := Lib.hid (own_kept0 HO.out ka.out)
      replace HB := Lib.hid (HB.out.kept ka.out (by simp))
      replace HZ := Lib.hid (HZ.out.kept ka.out (by simp))
      replace HG := Lib.hid (HG.out.kept ka.out (by simp))
      replace K0 := Lib.hid (K0.out.trans ka.out)
      clear ka c0 c1 c2 y1 hgl hbl
      generalize wr.alloc (.cells #[.int .i64 x1, .int .i64 x2, .int .i64 x3] 41) = w3 at *
      generalize wr.heap.size = g5 at H5 ⊢
      have z0 := H5.out.cell 0
      have z1 := H5.out.cell 1
      have z2 := H5.out.cell 2
      have d0 := HG.out.cell 1
      have hg3l := HG.out.lt
      have hsz := K0.out.size
      simp only [List.getElem?_cons_zero, List.getElem?_cons_succ] at z0 z1 z2 d0
      go_upto_region 4 with (first | (at_builtin; refine wpList_app _ rfl (.tmp 22) (.tmp 30) _ rfl 41 (.agg #[.int .i64 0, .int .i64 0, .int .i64 0]) 3 24 Try.underlying22 infoEd rfl (by decide) w.heap.size (.slice A5 M.length c5) _ _ rfl (HO.out.alloc _) (some ⟨_, 0, none⟩) 1 1 (edV (x2, x1, x3)) rfl rfl (Reads.of_blk (Blk.new _ _ _) (fun _ _ h => h)) (by simp [edV, Value.oneCell']) (by omega) (by unfold maxLen; omega) (by simp; omega) ?_; intro va wa howna hka hba; obtain ⟨A6, c6, rfl⟩ := own_n howna; have Fa := Lib.hid (((KeptB.refl w.heap.size [41] w3).alloc _).app hka (HO.out.alloc _) (by decide)); have HOa := Lib.hid howna; have HGa := Lib.hid (HG.out.keptB Fa.out (by decide)); have d1 := HGa.out.cell 1; have f1 := HGa.out.frozen 1; have ll := HGa.out.lt; simp only [List.getElem?_cons_zero, List.getElem?_cons_succ] at d1; clear howna hka hba))
      have ko := (Kept.refl [g3] wa).setCell (p := ⟨g3, 1, none⟩) (.inl (by simp)) (.slice A6 (M.length + 1) c6)
      have HOb := Lib.hid (own_kept HOa.out ko (fun q hq => by have := own_ne_blk HOa.out HGa.out (by decide); simp; rintro rfl; exact this hq))
      replace HB := Lib.hid ((HB.out.keptB Fa.out (by decide)).kept ko (by simp; exact HG3.out.2.1))
      replace HZ := Lib.hid ((HZ.out.keptB Fa.out (by decide)).kept ko (by simp; exact HG3.out.2.2))
      have HGb := Lib.hid (HGa.out.set 1 (.slice A6 (M.length + 1) c6))
      simp only [List.set_cons_zero, List.set_cons_succ] at HGb
      replace K0 := Lib.hid ((K0.out.thenB Fa.out (Nat.le_refl _)).then ko (fun m hm => by simp at hm; subst hm; exact .inr (Nat.le_trans HGE.out HG3.out.1)))
      clear ko Fa HOa HGa d1 f1 ll HG d0 z0 z1 z2 H5 hg3l hsz HO
      generalize wa.setCell ⟨g3, 1, none⟩ (.slice A6 (M.length + 1) c6) = wb at *
      go_wp2_with fail
      go_roundw
      case rel =>
        refine ⟨k + 1, .slice A6 (M.length + 1) c6, by omega, by go_num, Lib.hid ?_, HB, HZ, HGb, K0⟩
        rw [HS.out]
        have := HOb.out
        simpa [allE, turnE] using this
      case measure => simp [intOf]; omega
    · obtain rfl : k = l.length := by omega
      rw [List.take_length] at HO
      obtain ⟨A5, c5, rfl⟩ := own_n HO.out
      have HML := Lib.hid (Nat.le_trans (madeP_length turnE allE l) hl)
      have d0 := HG.out.cell 0
      have d1 := HG.out.cell 1
      have d2 := HG.out.cell2
      have ll := HG.out.lt
      simp only [List.getElem?_cons_zero, List.getElem?_cons_succ] at d0 d1
      rw [List.take_length] at *
      clear hml
      go_wp2_with (first | (refine wpList_loadBlk rfl 24 (.tmp 3) rfl g3 [.int .i64 n, .slice A5 (madeP turnE allE l).length c5] _ HG.out rfl Try.underlying24 rfl infoGraph ?_))
      refine (refCanon_any n (madeP turnE allE l) A5 c5 _ HML.out (Reads.of_own HO.out) HW.out).mono ?_
      rintro _ w5 ⟨vr, rfl, ho5, hk5⟩
      obtain ⟨A6, c6, rfl⟩ := own_n ho5
      have HO5 := Lib.hid (own_le (base' := w.heap.size) ho5 K0.out.size)
      replace HZ := Lib.hid (HZ.out.kept hk5 (by simp))
      replace K0 := Lib.hid (K0.out.trans hk5)
      clear ho5 hk5 d0 d1 d2 ll
      go_wp2_with (first | (refine wpList_storeBlk rfl 24 (.tmp 2) (.tmp 34) rfl gz _ [.int .i64 n, .slice A6 (canonP (madeP turnE allE l)).length c6] HZ.out rfl rfl rfl infoGraph (by simp [Value.oneCell']) ?_; intro w8 hb8 hk8))
      have e0 := hb8.cell 0
      have e1 := hb8.cell 1
      simp only [List.getElem?_cons_zero, List.getElem?_cons_succ] at e0 e1
      refine bodyPost_ret (v := .agg #[.int .i64 n, .slice A6 (canonP (madeP turnE allE l)).length c6]) (by simp [results, Try.results23, go_sem, e0, e1]) rfl ?_
      rw [HPOST.out]
      have f8 : KeptB w.heap.size [24] w5 w8 := (KeptB.refl _ _ w5).step (L := [gz]) hk8 (fun m hm => by simp at hm; subst hm; exact ⟨HGZ.out, _, _, _, HZ.out, by simp⟩)
      exact ⟨_, rfl, own_keptB HO5.out f8 (by decide), K0.out.thenB f8 (Nat.le_refl _)⟩
end Go.Proofs.Ytfnhfmffkjljnaa
