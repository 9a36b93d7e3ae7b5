/- Lists one behind the other; graphs that go both ways. -/
import Derived.Test.YtibjpjpbmkdddaaE26
import Derived.Test.YtibjpjpbmkdddaaLib2
import Derived.Test.YtibjpjpbmkdddaaE23
import Derived.Lib.AppendZeros
namespace Go.Proofs.Ytibjpjpbmkdddaa
set_option linter.unusedSimpArgs false
set_option linter.unusedVariables false
open Go.ChangeShapes Go.WideShapes Go.ChangeAt Go.RowKit
open Go.RowKit (wrap32 wrap64)
set_option maxHeartbeats 8000000

theorem edV_ones (l : List Ed) : ∀ u ∈ l.flatMap edV, u.oneCell' = true := fun u hu => by
  obtain ⟨e, _, h⟩ := List.mem_flatMap.1 hu
  simp [edV] at h
  rcases h with rfl | rfl | rfl <;> rfl
theorem edV_len (l : List Ed) : (l.flatMap edV).length = l.length * 3 := flatMap_length _ _ 3 (fun _ _ => rfl)
end Go.Proofs.Ytibjpjpbmkdddaa

namespace Go.Proofs.Ytibjpjpbmkdddaa
set_option linter.unusedSimpArgs false
set_option linter.unusedVariables false
open Go.ChangeShapes Go.WideShapes Go.ChangeAt Go.RowKit
open Go.RowKit (wrap32 wrap64)
set_option maxHeartbeats 8000000

set_option maxRecDepth 100000 in
theorem grow_any (n : Nat) (w : World) (hn : n ≤ 1048576) :
    Calls Try.prog 109 #[.slice none 0 0, .int .i64 n] w fun e w' => ∃ v, e = .returned v ∧ w'.ownsRow w.heap.size 28 3 v 0 [] ∧ Kept [] w w' := by
  by_cases h0 : 0 < n
  · have hi : ∃ i : TypeInfo, Try.prog.info? 28 = some i ∧ i.zero = some (.agg #[.int .i64 0, .int .i64 0, .int .i64 0]) ∧ i.size = 3 ∧ i.bytes = 24 := by
      have h := infoEd
      unfold Info at h
      cases hq : Try.prog.info? 28 with
      | none => rw [hq] at h; cases h
      | some i => rw [hq] at h; simp at h; exact ⟨i, rfl, h.1, h.2.1, h.2.2⟩
    obtain ⟨i, hi, hz, hsz, hby⟩ := hi
    have hrz := fun ty => Lib.run_append_nil_zeros (P := Try.prog) w 22 3 ty 28 i _ .i64 .i64 Try.underlying22 Try.underlying3 hi hz n h0 (by omega) (by omega) (by rw [hby]; omega)
    have hge := grownCap_ge w n 0 28
    have hle := grownCap_le_maxLen w n 0 28 (by unfold maxLen; omega)
    generalize grownCap w n 0 28 = G at *
    unfold maxLen at hle
    have HO := Lib.hid (World.ownsRow_made (base := w.heap.size) (e := 28) (size := 3) w.drew (Builtin.zeroCells (Value.agg #[.int .i64 0, .int .i64 0, .int .i64 0]).cells n ++ Builtin.zeroCells (Value.agg #[.int .i64 0, .int .i64 0, .int .i64 0]).cells (G - n)) G (Nat.le_refl _) (by unfold maxLen; omega) (by simp [size_zeroCells, Value.cells]; omega))
    have K0 := Lib.hid (((Kept.refl [] w).drew).alloc (.cells (Builtin.zeroCells (Value.agg #[.int .i64 0, .int .i64 0, .int .i64 0]).cells n ++ Builtin.zeroCells (Value.agg #[.int .i64 0, .int .i64 0, .int .i64 0]).cells (G - n)) 28))
    clear hi hz hsz hby
    go_enter Try.func109, Try.ntmps109
    go_wp2_with (at_builtin; refine Lib.wpList_append_run _ rfl _ _ _ _ rfl _ _ rfl rfl _ _ (hrz _) ?_)
    go_ret
    exact ⟨_, rfl, HO.out, K0.out⟩
  · obtain rfl : n = 0 := by omega
    go_enter Try.func109, Try.ntmps109
    go_wp2_with fail
    go_ret
    exact ⟨_, rfl, World.ownsRow_nil _ _ _ _, Kept.refl _ _⟩
def sz3 (a b : Nat) : Nat → Nat
  | 0 => 0
  | 1 => a
  | _ => a + b
def parts3 (l m : List Ed) : Nat → List Ed
  | 0 => []
  | 1 => l
  | _ => l ++ m
theorem parts3_length (l m : List Ed) (k : Nat) : (parts3 l m k).length ≤ l.length + m.length := by
  match k with
  | 0 => simp [parts3]
  | 1 => simp [parts3]
  | k + 2 => simp [parts3]
set_option maxRecDepth 100000 in
theorem concat_any (l m : List Ed) (A B : Option Addr) (c d g : Nat) (w : World) (hlm : l.length + m.length ≤ 1048576) (hA : Reads w A (l.flatMap edV)) (hB : Reads w B (m.flatMap edV)) (hg : Blk w g 22 [.slice A l.length c, .slice B m.length d]) :
    Calls Try.prog 67 #[.slice (some ⟨g, 0, none⟩) 2 2] w fun e w' => ∃ v, e = .returned v ∧ w'.ownsRow w.heap.size 28 3 v (l ++ m).length ((l ++ m).flatMap edV) ∧ Kept [] w w' := by
  have HA := Lib.hid hA
  have HB := Lib.hid hB
  have HG := Lib.hid hg
  clear hA hB hg
  go_enter Try.func67, Try.ntmps67
  go_wp2_with fail
  go_loopw [3, 11] (fun v3 i wr => ∃ k : Nat, k ≤ 2 ∧ i = .int .i64 k ∧ v3 = .int .i64 (sz3 l.length m.length k) ∧ wr = w) (fun _ i _ => 2 - (intOf i).toNat)
  case atStart => exact ⟨0, by omega, rfl, rfl, rfl⟩
  case round =>
    obtain ⟨k, hk, rfl, rfl, hww⟩ := hrel
    replace hww := hww.symm
    subst hww
    have c0 := HG.out.cell 0
    have c1 := HG.out.cell 1
    have hgl := HG.out.lt
    simp only [List.getElem?_cons_zero, List.getElem?_cons_succ] at c0 c1
    rcases (show k = 0 ∨ k = 1 ∨ k = 2 by omega) with rfl | rfl | rfl
    · simp only [sz3]
      go_wp2_with fail
      go_roundw
      case rel => refine ⟨1, by omega, rfl, ?_⟩; simp [sz3]
      case measure => simp [intOf]
    · simp only [sz3]
      go_wp2_with fail
      go_roundw
      case rel => refine ⟨2, by omega, rfl, ?_⟩; simp [sz3]
      case measure => simp [intOf]
    · simp only [sz3]
      go_wp2_with fail
      refine (grow_any (l.length + m.length) _ hlm).mono ?_
      rintro _ w3 ⟨v, rfl, ho, hk3⟩
      have HO := Lib.hid ho
      have K3 := Lib.hid hk3
      clear ho hk3 c0 c1 hgl
      go_wp2_with fail
      go_loopw [6, 27] (fun v6 i wr => ∃ k : Nat, k ≤ 2 ∧ i = .int .i64 k ∧ Hid (wr.ownsRow w.heap.size 28 3 v6 (parts3 l m k).length ((parts3 l m k).flatMap edV)) ∧ Hid (Kept [] w wr)) (fun _ i _ => 2 - (intOf i).toNat)
      case atStart => exact ⟨0, by omega, rfl, HO, K3⟩
      case round =>
        clear HO K3
        obtain ⟨k, hk, rfl, HO, K3⟩ := hrel
        have HG3 := Lib.hid (HG.out.kept K3.out (by simp))
        have c0 := HG3.out.cell 0
        have c1 := HG3.out.cell 1
        have hgl := HG3.out.lt
        have hsz := K3.out.size
        simp only [List.getElem?_cons_zero, List.getElem?_cons_succ] at c0 c1
        obtain ⟨v6, hv6⟩ : ∃ v6, v6 = u6 := ⟨_, rfl⟩
        subst hv6
        rcases (show k = 0 ∨ k = 1 ∨ k = 2 by omega) with rfl | rfl | rfl
        · simp only [parts3] at HO
          obtain ⟨A6, c6, rfl⟩ := own_n HO.out
          go_wp2_with (first | (at_builtin; refine wpList_app _ rfl (.tmp 31) (.tmp 32) _ rfl 28 (.agg #[.int .i64 0, .int .i64 0, .int .i64 0]) 3 24 Try.underlying22 infoEd rfl (by decide) w.heap.size (.slice A6 _ c6) _ _ rfl HO.out A l.length c (l.flatMap edV) rfl (edV_len l) (HA.out.kept0 K3.out) (edV_ones l) (by first | omega | (simp; omega)) (by unfold maxLen; first | omega | (simp; omega)) (by omega) ?_; intro va wa howna hka hba; have Fa := Lib.hid ((KeptB.refl w.heap.size [28] wr).app hka HO.out (by decide)); have HOa := Lib.hid howna; clear howna hka hba))
          go_roundw
          case rel =>
            refine ⟨1, by omega, rfl, Lib.hid ?_, Lib.hid (K3.out.thenB Fa.out (Nat.le_refl _))⟩
            have := HOa.out
            simpa [parts3] using this
          case measure => simp [intOf]
        · simp only [parts3] at HO
          obtain ⟨A6, c6, rfl⟩ := own_n HO.out
          go_wp2_with (first | (at_builtin; refine wpList_app _ rfl (.tmp 31) (.tmp 32) _ rfl 28 (.agg #[.int .i64 0, .int .i64 0, .int .i64 0]) 3 24 Try.underlying22 infoEd rfl (by decide) w.heap.size (.slice A6 _ c6) _ _ rfl HO.out B m.length d (m.flatMap edV) rfl (edV_len m) (HB.out.kept0 K3.out) (edV_ones m) (by first | omega | (simp; omega)) (by unfold maxLen; first | omega | (simp; omega)) (by omega) ?_; intro va wa howna hka hba; have Fa := Lib.hid ((KeptB.refl w.heap.size [28] wr).app hka HO.out (by decide)); have HOa := Lib.hid howna; clear howna hka hba))
          go_roundw
          case rel =>
            refine ⟨2, by omega, rfl, Lib.hid ?_, Lib.hid (K3.out.thenB Fa.out (Nat.le_refl _))⟩
            have := HOa.out
            simpa [parts3] using this
          case measure => simp [intOf]
        · simp only [parts3] at HO
          go_wp2_with fail
          go_ret
          exact ⟨_, rfl, HO.out, K3.out⟩
theorem fieldGraph (n : Int) (A : Option Addr) (k c : Nat) (w : World) : (Instr.field 24 (.agg #[.int .i64 n, .slice A k c]) 1).run Try.prog w = .ok (.slice A k c) w := by kernel_rfl
set_option maxRecDepth 100000 in
theorem both_any (n : Int) (l : List Ed) (A : Option Addr) (c : Nat) (w : World) (hl : l.length ≤ 524288) (hA : Reads w A (l.flatMap edV)) (hw : ∀ e ∈ l, In64 e.2.2) :
    Calls Try.prog 22 #[.agg #[.int .i64 n, .slice A l.length c]] w (GrPost w n (bothP l)) := by
  have HA := Lib.hid hA
  have HW := Lib.hid hw
  have HLT := Lib.hid (show l.length ≤ 1048576 by omega)
  have HB := Lib.hid ((Blk.new w 24 (grV n A l.length c)).alloc (.cells #[.int .i64 0, .slice none 0 0] 24))
  have HZ := Lib.hid (Blk.new1F w (.cells #[.int .i64 n, .slice A l.length c] 24) 24 [.int .i64 0, .slice none 0 0])
  have K0 := Lib.hid (((Kept.refl [] w).alloc (.cells #[.int .i64 n, .slice A l.length c] 24)).alloc (.cells #[.int .i64 0, .slice none 0 0] 24))
  have HGZ := Lib.hid (show w.heap.size ≤ w.heap.size + 1 by omega)
  clear hA hw
  obtain ⟨post, hpost⟩ : ∃ post : Ending → World → Prop, post = GrPost w n (bothP l) := ⟨_, rfl⟩
  rw [← hpost]
  have HPOST := Lib.hid hpost
  clear hpost
  go_enter Try.func22, Try.ntmps22
  go_upto_region 1 with (fail)
  generalize (w.alloc (.cells #[.int .i64 n, .slice A l.length c] 24)).alloc (.cells #[.int .i64 0, .slice none 0 0] 24) = w2 at *
  have HNE := Lib.hid (show w.heap.size ≠ w.heap.size + 1 by omega)
  generalize w.heap.size + 1 = gz at HZ HGZ HNE ⊢
  generalize hgq : w.heap.size = g at HB HNE ⊢
  clear hgq
  refine wp_region_held_drew (S := (fun w' => w'.cell? ⟨g, 0, none⟩ = some (.int .i64 n) ∧ w'.cell? ⟨g, 1, none⟩ = some (.slice A l.length c) ∧ w'.rangeAt g 0 [.int .i64 n, .slice A l.length c])) (by kernel_rfl) ?_ (fun hHeld => ?_)
  · exact ⟨HB.out.cell 0, HB.out.cell 1, HB.out.cell2⟩
  replace HB := Lib.hid HB.out.drew
  replace HZ := Lib.hid HZ.out.drew
  replace K0 := Lib.hid K0.out.drew
  generalize World.drew w2 = w3 at *
  refine tkYes (i := 0) (v := ?_) rfl rfl (by kernel_rfl) (by kernel_rfl) (by kernel_rfl) (fun _ _ _ h => h) (by rfl) ?_ (by assumption) ?_
  rotate_left
  · (intro w' hSw; (try dsimp only at hSw); go_simp; try with_reducible rfl)
  try simp only [Act.put, List.setIfInBounds_toArray, List.set_cons_zero, List.set_cons_succ]
  refine tkYes (i := 1) (v := ?_) rfl rfl (by kernel_rfl) (by kernel_rfl) (by kernel_rfl) (fun _ _ _ h => h) (by rfl) ?_ (by assumption) ?_
  rotate_left
  · (intro w' hSw; (try dsimp only at hSw); go_simp; try with_reducible rfl)
  try simp only [Act.put, List.setIfInBounds_toArray, List.set_cons_zero, List.set_cons_succ]
  refine tkYes (i := 2) (v := ?_) rfl rfl (by kernel_rfl) (by kernel_rfl) (by kernel_rfl) (fun _ _ _ h => h) (by rfl) ?_ (by assumption) ?_
  rotate_left
  · (intro w' hSw; (try dsimp only at hSw); go_simp; try with_reducible rfl)
  try simp only [Act.put, List.setIfInBounds_toArray, List.set_cons_zero, List.set_cons_succ]
  refine tkYes (i := 3) (v := ?_) rfl rfl (by kernel_rfl) (by kernel_rfl) (by kernel_rfl) (fun _ _ _ h => h) (by rfl) ?_ (by assumption) ?_
  rotate_left
  · (intro w' hSw; (try dsimp only at hSw); go_simp; try with_reducible rfl)
  try simp only [Act.put, List.setIfInBounds_toArray, List.set_cons_zero, List.set_cons_succ]
  refine tkLoad (i := 4) 24 (.tmp 1) g (0) [.int .i64 n, .slice A l.length c] _ rfl rfl (by kernel_rfl) (by kernel_rfl) (by kernel_rfl) (fun _ _ _ h => h) (by rfl) rfl rfl (fun w hw => hw.2.2) Try.underlying24 rfl infoGraph (by assumption) ?_
  try simp only [Act.put, List.setIfInBounds_toArray, List.set_cons_zero, List.set_cons_succ]
  refine wpAnyH_ready (rs := [5]) (by kernel_rfl) (by simp) ?_
  refine AllReadyH.cons rfl (fun K hK => ?_) AllReadyH.nil
  go_simp
  refine (topT n l A c _ HLT.out (HA.out.kept0 K0.out) HW.out).mono ?_
  rintro _ w4 ⟨vr, rfl, ho4, hk4⟩
  obtain ⟨A5, c5, rfl⟩ := own_n ho4
  have HML := Lib.hid (Nat.le_trans (canonP_length (madeP turnE allE l)) (madeP_length turnE allE l))
  have HMW := Lib.hid (canonP_in (turnL_in HW.out))
  have HMB := Lib.hid (show canonP (l ++ canonP (madeP turnE allE l)) = bothP l from rfl)
  generalize canonP (madeP turnE allE l) = M at *
  have HO := Lib.hid (own_le (base' := w.heap.size) ho4 K0.out.size)
  replace HB := Lib.hid (HB.out.kept hk4 (by simp))
  replace HZ := Lib.hid (HZ.out.kept hk4 (by simp))
  replace K0 := Lib.hid (K0.out.trans hk4)
  clear ho4 hk4
  go_wp2_with fail
  refine hK.out _ _ ?_ (fun hHeld => ?_)
  · exact ⟨HB.out.cell 0, HB.out.cell 1, HB.out.cell2⟩
  clear hK K
  try simp only [Act.put, List.setIfInBounds_toArray, List.set_cons_zero, List.set_cons_succ]
  refine tkYes (i := 6) (v := .slice A5 M.length c5) rfl rfl (by kernel_rfl) (by kernel_rfl) (by kernel_rfl) (fun _ _ _ h => h) (by rfl) ?_ (by assumption) ?_
  skip
  · (intro w' hSw; (try dsimp only at hSw); go_simp; rw [fieldGraph]; rfl)
  try simp only [Act.put, List.setIfInBounds_toArray, List.set_cons_zero, List.set_cons_succ]
  refine wpAnyH_ready (rs := [7]) (by kernel_rfl) (by simp) ?_
  refine AllReadyH.cons rfl (fun K hK => ?_) AllReadyH.nil
  go_simp
  have H10 := Lib.hid (Blk.new w4 22 [.slice A l.length c, .slice A5 M.length c5])
  have kd := Lib.hid ((Kept.refl [] w4).alloc (.cells #[.slice A l.length c, .slice A5 M.length c5] 22))
  replace HO := Lib.hid (own_kept0 HO.out kd.out)
  replace HB := Lib.hid (HB.out.kept kd.out (by simp))
  replace HZ := Lib.hid (HZ.out.kept kd.out (by simp))
  replace K0 := Lib.hid (K0.out.trans kd.out)
  clear kd
  generalize w4.alloc (.cells #[.slice A l.length c, .slice A5 M.length c5] 22) = w5 at *
  generalize w4.heap.size = g10 at H10 ⊢
  refine hK.out _ _ ?_ (fun hHeld => ?_)
  · exact ⟨HB.out.cell 0, HB.out.cell 1, HB.out.cell2⟩
  clear hK K
  try simp only [Act.put, List.setIfInBounds_toArray, List.set_cons_zero, List.set_cons_succ]
  refine wpAnyH_ready (rs := [8]) (by kernel_rfl) (by simp) ?_
  refine AllReadyH.cons rfl (fun K hK => ?_) AllReadyH.nil
  go_simp
  have HLM := Lib.hid (show l.length + M.length ≤ 1048576 by have := HML.out; omega)
  refine (concat_any l M A A5 c c5 g10 _ HLM.out (HA.out.kept0 K0.out) (Reads.of_own HO.out) H10.out).mono ?_
  rintro _ w6 ⟨vr, rfl, ho6, hk6⟩
  have HIN := Lib.hid (app_in HW.out HMW.out)
  have HLN := Lib.hid (show (l ++ M).length ≤ 1048576 by rw [List.length_append]; exact HLM.out)
  generalize l ++ M = N at *
  obtain ⟨A6, c6, rfl⟩ := own_n ho6
  replace HO := Lib.hid (own_le (base' := w.heap.size) ho6 K0.out.size)
  replace HB := Lib.hid (HB.out.kept hk6 (by simp))
  replace HZ := Lib.hid (HZ.out.kept hk6 (by simp))
  replace K0 := Lib.hid (K0.out.trans hk6)
  clear ho6 hk6 H10
  go_wp2_with fail
  refine hK.out _ _ ?_ (fun hHeld => ?_)
  · exact ⟨HB.out.cell 0, HB.out.cell 1, HB.out.cell2⟩
  clear hK K
  try simp only [Act.put, List.setIfInBounds_toArray, List.set_cons_zero, List.set_cons_succ]
  refine tkYes (i := 9) (v := ?_) rfl rfl (by kernel_rfl) (by kernel_rfl) (by kernel_rfl) (fun _ _ _ h => h) (by rfl) ?_ (by assumption) ?_
  rotate_left
  · (intro w' hSw; (try dsimp only at hSw); go_simp; try with_reducible rfl)
  try simp only [Act.put, List.setIfInBounds_toArray, List.set_cons_zero, List.set_cons_succ]
  refine wpAnyH_ready (rs := [10]) (by kernel_rfl) (by simp) ?_
  refine AllReadyH.cons rfl (fun K hK => ?_) AllReadyH.nil
  go_simp
  refine (canon_any n N A6 c6 _ HLN.out (Reads.of_own HO.out) HIN.out).mono ?_
  rintro _ w7 ⟨vr, rfl, ho7, hk7⟩
  rw [HMB.out] at ho7
  obtain ⟨A7, c7, rfl⟩ := own_n ho7
  replace HO := Lib.hid (own_le (base' := w.heap.size) ho7 K0.out.size)
  replace HB := Lib.hid (HB.out.kept hk7 (by simp))
  replace HZ := Lib.hid (HZ.out.kept hk7 (by simp))
  replace K0 := Lib.hid (K0.out.trans hk7)
  clear ho7 hk7
  go_wp2_with fail
  refine hK.out _ _ ?_ (fun hHeld => ?_)
  · exact ⟨HB.out.cell 0, HB.out.cell 1, HB.out.cell2⟩
  clear hK K
  try simp only [Act.put, List.setIfInBounds_toArray, List.set_cons_zero, List.set_cons_succ]
  refine wpAnyH_ready (rs := [11]) (by kernel_rfl) (by simp) ?_
  refine AllReadyH.cons rfl (fun K hK => ?_) AllReadyH.nil
  refine step_storeMid rfl 24 (.tmp 2) (.tmp 13) rfl gz 0 [.int .i64 n, .slice A7 (bothP l).length c7].toArray rfl rfl (fun j hj => by rw [Nat.zero_add, HZ.out.cell, HZ.out.frozen]; exact ⟨by rw [List.getElem?_eq_getElem (by simpa using hj)]; rfl, rfl⟩) infoGraph (by simp [Value.oneCell']) ?_
  have HS0 := Blk.setMid [.int .i64 n, .slice A7 (bothP l).length c7] w7 0 _ (by simp) HZ.out
  simp only [List.take_zero, List.nil_append, List.length_cons, List.length_nil, List.drop_succ_cons, List.drop_zero, List.append_nil] at HS0
  have HST := Lib.hid HS0
  replace HB := Lib.hid (HB.out.kept HS0.2 (by have := HNE.out; simpa using this))
  have f8 := Lib.hid ((KeptB.refl w.heap.size [24] w7).step (L := [gz]) HS0.2 (fun m hm => by simp at hm; subst hm; exact ⟨HGZ.out, _, _, _, HZ.out, by simp⟩))
  clear HS0
  generalize hw8 : World.setCells w7 gz 0 [.int .i64 n, .slice A7 (bothP l).length c7] = w8 at *
  refine hK.out _ _ ?_ (fun hHeld => ?_)
  · exact ⟨HB.out.cell 0, HB.out.cell 1, HB.out.cell2⟩
  clear hK K
  try simp only [Act.put, List.setIfInBounds_toArray, List.set_cons_zero, List.set_cons_succ]
  refine wpAnyH_done (by kernel_rfl) ?_ _
  go_wp2_with fail
  obtain ⟨hb8, hk8⟩ := HST.out
  have e0 := hb8.cell 0
  have e1 := hb8.cell 1
  simp only [List.getElem?_cons_zero, List.getElem?_cons_succ] at e0 e1
  refine bodyPost_ret (v := .agg #[.int .i64 n, .slice A7 (bothP l).length c7]) (by simp [results, Try.results22, go_sem, e0, e1]) rfl ?_
  rw [HPOST.out]
  exact ⟨_, rfl, own_keptB HO.out f8.out (by decide), K0.out.thenB f8.out (Nat.le_refl _)⟩
end Go.Proofs.Ytibjpjpbmkdddaa
