/- csr.Graph of a graph that can be: the matrix of the turned edges. -/
import Derived.Test.YtibjpjpbmkdddaaC1
import Derived.Test.YtibjpjpbmkdddaaE17
import Derived.Test.YtibjpjpbmkdddaaE26
namespace Go.Proofs.Ytibjpjpbmkdddaa
set_option linter.unusedSimpArgs false
set_option linter.unusedVariables false
open Go.ChangeShapes Go.WideShapes Go.ChangeAt Go.RowKit
open Go.RowKit (wrap32 wrap64)
set_option maxHeartbeats 8000000

theorem fieldGraphC (n : Int) (A : Option Addr) (k c : Nat) : ∀ w : World, (Instr.field 24 (.agg #[.int .i64 n, .slice A k c]) 1).run Try.prog w = .ok (.slice A k c) w := fun w => by kernel_rfl
set_option maxRecDepth 100000 in
theorem csrGraph_any (n : Nat) (l : List Ed) (A : Option Addr) (c : Nat) (w : World) (hn : n ≤ 4096) (hl : l.length ≤ 1048576) (hA : Reads w A (l.flatMap edV)) (hR : rightP n l = 0) (hw : ∀ e ∈ l, In64 e.2.2) (hr : ∀ e ∈ l, 0 ≤ e.2.1 ∧ e.2.1 < n) :
    Calls Try.prog 11 #[.agg #[.int .i64 n, .slice A l.length c]] w (fun e w' => ∃ v, e = .returned (.tuple #[v, .int .i64 0]) ∧ MtPost w n n (canonP (turnL l)) (.returned v) w') := by
  have HA := Lib.hid hA
  have HL := Lib.hid hl
  have HLM := Lib.hid (show l.length ≤ maxLen by unfold maxLen; omega)
  have HW := Lib.hid hw
  have HR := Lib.hid hR
  have HTR := Lib.hid (fun e he => by
    have h1 := (canonP_spec (turnL_in hw)).2.1 e he
    rw [turnL_map] at h1
    obtain ⟨y, hy, rfl⟩ := List.mem_map.1 h1
    exact hr y hy : ∀ e ∈ (canonP (turnL l)), 0 ≤ e.1 ∧ e.1 < n)
  have HTL := Lib.hid (show (canonP (turnL l)).length ≤ 1048576 from Nat.le_trans (canonP_length _) (by rw [turnL_map, List.length_map]; exact hl))
  have HX := Lib.hid ((Blk.new w 24 (grV n A l.length c)).alloc (.cells #[.int .i64 0, .int .i64 0, .slice none 0 0, .slice none 0 0, .slice none 0 0] 44))
  have HZ := Lib.hid (Blk.new1F w (.cells #[.int .i64 n, .slice A l.length c] 24) 44 [.int .i64 0, .int .i64 0, .slice none 0 0, .slice none 0 0, .slice none 0 0])
  have K0 := Lib.hid (((Kept.refl [] w).alloc (.cells #[.int .i64 n, .slice A l.length c] 24)).alloc (.cells #[.int .i64 0, .int .i64 0, .slice none 0 0, .slice none 0 0, .slice none 0 0] 44))
  have HGZ := Lib.hid (show w.heap.size ≤ w.heap.size + 1 by omega)
  clear hA hl hw hR hr
  obtain ⟨M, hM⟩ : ∃ M, M = (canonP (turnL l)) := ⟨_, rfl⟩
  rw [← hM] at HTR HTL ⊢
  have HTE := Lib.hid (show canonP (madeP turnE allE l) = M from hM.symm)
  clear hM
  obtain ⟨post, hpost⟩ : ∃ post : Ending → World → Prop, post = (fun e w' => ∃ v, e = .returned (.tuple #[v, .int .i64 0]) ∧ MtPost w n n M (.returned v) w') := ⟨_, rfl⟩
  rw [← hpost]
  have HPOST := Lib.hid hpost
  clear hpost
  go_enter Try.func11, Try.ntmps11
  go_upto_region 1 with (fail)
  generalize ((w.alloc (.cells #[.int .i64 n, .slice A l.length c] 24)).alloc (.cells #[.int .i64 0, .int .i64 0, .slice none 0 0, .slice none 0 0, .slice none 0 0] 44)) = w2 at *
  generalize w.heap.size + 1 = gz at HZ HGZ ⊢
  generalize hgq : w.heap.size = g at HX ⊢
  clear hgq
  have y0 := HX.out.cell 0
  have y1 := HX.out.cell 1
  simp only [List.getElem?_cons_zero, List.getElem?_cons_succ] at y0 y1
  go_wp2_with fail
  refine (right_any n l A c w2 HLM.out (HA.out.kept0 K0.out)).mono ?_
  rintro _ w3 ⟨rfl, hk3⟩
  rw [HR.out]
  replace HX := Lib.hid (HX.out.kept hk3 (by simp))
  replace HZ := Lib.hid (HZ.out.kept hk3 (by simp))
  replace K0 := Lib.hid (K0.out.trans hk3)
  clear hk3 y0 y1
  have y0 := HX.out.cell 0
  have y1 := HX.out.cell 1
  simp only [List.getElem?_cons_zero, List.getElem?_cons_succ] at y0 y1
  go_wp2_with fail
  refine (topT n l A c w3 HL.out (HA.out.kept0 K0.out) HW.out).mono ?_
  rintro _ w4 ⟨v4, rfl, ho4, hk4⟩
  rw [HTE.out] at ho4
  obtain ⟨A4, c4, rfl⟩ := own_n ho4
  have HSZ := Lib.hid K0.out.size
  replace HX := Lib.hid (HX.out.kept hk4 (by simp))
  replace HZ := Lib.hid (HZ.out.kept hk4 (by simp))
  have HO4 := Lib.hid (own_le (base' := w.heap.size) ho4 HSZ.out)
  replace K0 := Lib.hid (K0.out.trans hk4)
  clear ho4 hk4 y0 y1 HTE
  have hfd := fieldGraphC n A4 M.length c4
  go_wp2_with fail
  clear hfd
  go_loopw [5, 18] (fun v i wr => ∃ k : Nat, k ≤ M.length ∧ i = .int .i64 k ∧ Hid (wr.ownsRow w.heap.size 30 3 v k ((M.take k).flatMap edV)) ∧ Hid (wr.ownsRow w.heap.size 28 3 (.slice A4 M.length c4) M.length (M.flatMap edV)) ∧ Hid (Blk wr g 24 (grV n A l.length c)) ∧ Hid (Blk wr gz 44 [.int .i64 0, .int .i64 0, .slice none 0 0, .slice none 0 0, .slice none 0 0]) ∧ Hid (Kept [] w wr)) (fun _ i _ => M.length - (intOf i).toNat)
  case atStart => exact ⟨0, Nat.zero_le _, rfl, Lib.hid (World.ownsRow_nil _ _ _ _), HO4, HX, HZ, K0⟩
  case round =>
    clear HX HZ K0 HO4
    obtain ⟨k, hk, rfl, HO, HO4, HX, HZ, K0⟩ := hrel
    obtain ⟨v, hv⟩ : ∃ v, v = u5 := ⟨_, rfl⟩
    subst hv
    by_cases hlt : k < M.length
    · have HTK := Lib.hid (List.take_succ_eq_append_getElem hlt)
      have hml := HTL.out
      obtain ⟨b, off, rfl, hbl, c0, c1, c2⟩ := edge_at (Reads.of_own HO4.out) hlt
      obtain ⟨x, hx⟩ : ∃ x, x = M[k] := ⟨_, rfl⟩
      rw [← hx] at c0 c1 c2 HTK
      clear hx
      obtain ⟨x1, x2, x3⟩ := x
      dsimp only at c0 c1 c2
      obtain ⟨A5, c5, rfl⟩ := own_n HO.out
      go_upto_region 8 with (fail)
      have kd := Lib.hid ((Kept.refl [] wr).alloc (.cells #[.int .i64 x1, .int .i64 x2, .int .i64 x3] 28))
      have HE := Lib.hid (Blk.new wr 28 [.int .i64 x1, .int .i64 x2, .int .i64 x3])
      replace HO := Lib.hid (own_kept0 HO.out kd.out)
      replace HO4 := Lib.hid (own_kept0 HO4.out kd.out)
      replace HX := Lib.hid (HX.out.kept kd.out (by simp))
      replace HZ := Lib.hid (HZ.out.kept kd.out (by simp))
      replace K0 := Lib.hid (K0.out.trans kd.out)
      clear kd c0 c1 c2 hbl
      generalize wr.alloc (.cells #[.int .i64 x1, .int .i64 x2, .int .i64 x3] 28) = w5 at *
      generalize wr.heap.size = ge at HE ⊢
      have e0 := HE.out.cell 0
      have e1 := HE.out.cell 1
      have e2 := HE.out.cell 2
      simp only [List.getElem?_cons_zero, List.getElem?_cons_succ] at e0 e1 e2
      have hsz := K0.out.size
      go_wp2_with (first | (at_builtin; refine wpList_app _ rfl (.tmp 22) (.tmp 30) _ rfl 30 (.agg #[.int .i64 0, .int .i64 0, .int .i64 0]) 3 24 Try.underlying26 infoTrI rfl (by decide) w.heap.size (.slice A5 k c5) k _ rfl (HO.out.alloc _) (some ⟨_, 0, none⟩) 1 1 (edV (x1, x2, x3)) rfl rfl (Reads.of_blk (Blk.new _ _ _) (fun _ _ h => h)) (by simp [edV, Value.oneCell']) (by omega) (by unfold maxLen; omega) (by simp; omega) ?_; intro va wa howna hka hba; have HOa := Lib.hid howna; have Fa := Lib.hid (((KeptB.refl w.heap.size [30] w5).alloc _).app hka (HO.out.alloc _) (by decide)); clear howna hka hba))
      go_roundw
      case rel =>
        refine ⟨k + 1, by omega, by go_num, Lib.hid ?_, Lib.hid (own_keptB HO4.out Fa.out (by decide)), Lib.hid (HX.out.keptB Fa.out (by decide)), Lib.hid (HZ.out.keptB Fa.out (by decide)), Lib.hid (K0.out.thenB Fa.out (Nat.le_refl _))⟩
        rw [HTK.out, List.flatMap_append]
        simpa [edV] using HOa.out
      case measure => simp [intOf]; omega
    · obtain rfl : k = M.length := by omega
      rw [List.take_length] at HO
      obtain ⟨A5, c5, rfl⟩ := own_n HO.out
      have y0 := HX.out.cell 0
      simp only [List.getElem?_cons_zero, List.getElem?_cons_succ] at y0
      go_wp2_with fail
      refine (built_any n n M A5 c5 wr hn HTL.out (Reads.of_own HO.out) HTR.out).mono ?_
      rintro _ w6 ⟨v1, v2, v3, rfl, hm6, hk6⟩
      obtain ⟨B1, d1, rfl⟩ := own_n hm6.o1
      obtain ⟨B2, d2, rfl⟩ := own_n hm6.o2
      obtain ⟨B3, d3, rfl⟩ := own_n hm6.o3
      have HM := Lib.hid (hm6.le K0.out.size)
      replace HZ := Lib.hid (HZ.out.kept hk6 (by simp))
      replace K0 := Lib.hid (K0.out.trans hk6)
      clear hm6 hk6 y0
      go_wp2_with (first | (refine wpList_storeBlk rfl 44 (.tmp 2) (.tmp 38) rfl gz _ [.int .i64 n, .int .i64 n, .slice B1 (n + 1) d1, .slice B2 M.length d2, .slice B3 M.length d3] HZ.out rfl rfl rfl infoRows (by simp [Value.oneCell']) ?_; intro w8 hb8 hk8))
      have e0 := hb8.cell 0
      have e1 := hb8.cell 1
      have e2 := hb8.cell 2
      have e3 := hb8.cell 3
      have e4 := hb8.cell 4
      simp only [List.getElem?_cons_zero, List.getElem?_cons_succ] at e0 e1 e2 e3 e4
      refine bodyPost_ret (v := .tuple #[.agg #[.int .i64 n, .int .i64 n, .slice B1 (n + 1) d1, .slice B2 M.length d2, .slice B3 M.length d3], .int .i64 0]) (by simp [results, Try.results11, go_sem, e0, e1, e2, e3, e4]) rfl ?_
      rw [HPOST.out]
      have f8 : KeptB w.heap.size [44] w6 w8 := (KeptB.refl _ _ w6).step (L := [gz]) hk8 (fun u hu => by simp at hu; subst hu; exact ⟨HGZ.out, _, _, _, HZ.out, by simp⟩)
      exact ⟨_, rfl, _, _, _, rfl, HM.out.keptB f8 (by decide) (by decide), K0.out.thenB f8 (Nat.le_refl _)⟩
end Go.Proofs.Ytibjpjpbmkdddaa
