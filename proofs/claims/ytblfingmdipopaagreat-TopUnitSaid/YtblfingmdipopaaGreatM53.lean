/- model.states hands back its iterator; model.Run runs a plan to its end. Conditions: a plan of levels or paths of at most 60 vertices; edges of weight 1 that are canonical; the run ends by round n. -/
import Derived.Test.YtblfingmdipopaaGreatM51
namespace Go.Proofs.YtblfingmdipopaaGreat
set_option linter.unusedSimpArgs false
set_option linter.unusedVariables false
open Go.ChangeShapes Go.WideShapes Go.ChangeAt Go.RowKit
open Go.RowKit (wrap32 wrap64)
set_option maxHeartbeats 8000000
open Go.Shelf
attribute [local go_sem] Oper.semAt_some
theorem states_any (κ : Int) (n s gr cg : Nat) (lim : Int) (le : List Ed) (Ag : Option Addr) (w : World) :
    Calls Tryz.prog 41 #[.agg (plC κ n s).toArray, .agg #[.int .i64 n, .slice Ag le.length cg], .int .i64 lim, .pointer (some ⟨gr, 0, none⟩)] w fun e w' => ∃ g1 g2 g3 g4, e = .returned (.func (.func 73) #[] #[.pointer (some ⟨g1, 0, none⟩), .pointer (some ⟨g2, 0, none⟩), .pointer (some ⟨g3, 0, none⟩), .pointer (some ⟨g4, 0, none⟩)]) ∧ Blk w' g1 68 (plC κ n s) ∧ Blk w' g2 56 [.int .i64 n, .slice Ag le.length cg] ∧ Blk w' g3 112 [.pointer (some ⟨gr, 0, none⟩)] ∧ Blk w' g4 3 [.int .i64 lim] ∧ Kept [] w w' := by
  have H40 := Blk.new w 68 (plC κ n s)
  have H4 := Lib.hid (((H40.alloc (.cells ([.int .i64 n, .slice Ag le.length cg]).toArray 56)).alloc (.cells ([.int .i64 lim]).toArray 3)).alloc (.cells ([.pointer (some ⟨gr, 0, none⟩)]).toArray 112))
  clear H40
  have H50 := Blk.new (w.alloc (.cells (plC κ n s).toArray 68)) 56 ([.int .i64 n, .slice Ag le.length cg])
  rw [show (w.alloc (.cells (plC κ n s).toArray 68)).heap.size = w.heap.size + 1 by simp] at H50
  have H5 := Lib.hid ((H50.alloc (.cells ([.int .i64 lim]).toArray 3)).alloc (.cells ([.pointer (some ⟨gr, 0, none⟩)]).toArray 112))
  clear H50
  have H60 := Blk.new ((w.alloc (.cells (plC κ n s).toArray 68)).alloc (.cells ([.int .i64 n, .slice Ag le.length cg]).toArray 56)) 3 ([.int .i64 lim])
  rw [show ((w.alloc (.cells (plC κ n s).toArray 68)).alloc (.cells ([.int .i64 n, .slice Ag le.length cg]).toArray 56)).heap.size = w.heap.size + 2 by simp] at H60
  have H6 := Lib.hid (H60.alloc (.cells ([.pointer (some ⟨gr, 0, none⟩)]).toArray 112))
  clear H60
  have H70 := Blk.new (((w.alloc (.cells (plC κ n s).toArray 68)).alloc (.cells ([.int .i64 n, .slice Ag le.length cg]).toArray 56)).alloc (.cells ([.int .i64 lim]).toArray 3)) 112 ([.pointer (some ⟨gr, 0, none⟩)])
  rw [show (((w.alloc (.cells (plC κ n s).toArray 68)).alloc (.cells ([.int .i64 n, .slice Ag le.length cg]).toArray 56)).alloc (.cells ([.int .i64 lim]).toArray 3)).heap.size = w.heap.size + 3 by simp] at H70
  have H7 := Lib.hid H70
  clear H70
  have K0 := Lib.hid (((((Kept.refl [] w).alloc (.cells (plC κ n s).toArray 68)).alloc (.cells ([.int .i64 n, .slice Ag le.length cg]).toArray 56)).alloc (.cells ([.int .i64 lim]).toArray 3)).alloc (.cells ([.pointer (some ⟨gr, 0, none⟩)]).toArray 112))
  go_enter Tryz.func41, Tryz.ntmps41
  go_wp2_with fail
  go_ret
  exact ⟨_, _, _, _, rfl, H4.out, H5.out, H7.out, H6.out, K0.out⟩
theorem RunI.step {gr n : Nat} {w W W3 : World} {pre : List StX} {x : StX} (h : RunI gr n w pre W) (hb : Blk W3 gr 63 (rsC n 0 (wrap64 ((pre.length : Int) - 1)) (some x))) (hk : Kept [gr] W W3) :
    let W4 := W3.setCell ⟨gr, 1, none⟩ (.int .i64 (wrap64 (wrap64 ((pre.length : Int) - 1) + 1)))
    KeepsOthers W W4 ∧ KpR gr W W4 ∧ RunI gr n w (pre ++ [x]) W4 := by
  have hk4 : Kept [gr] W3 (W3.setCell ⟨gr, 1, none⟩ (.int .i64 (wrap64 (wrap64 ((pre.length : Int) - 1) + 1)))) := (Kept.refl [gr] W3).setCell (.inl (by simp)) _
  refine ⟨KeepsOthers.trans ⟨hk.size, fun k o ho hc => (hk.block k (Array.getElem?_eq_some_iff.1 ho).1 (fun hm => ?_)).trans ho⟩ (KeepsOthers.setCell _ _ _), (KpR.of_kept hk).trans (KpR.of_kept hk4), ?_, h.2.trans (hk.trans hk4)⟩
  · simp at hm
    subst hm
    have h1 := h.1.symm.trans ho
    injection h1 with h1
    subst h1
    cases hc
  · have h1 := hb.set 1 (.int .i64 (wrap64 (wrap64 ((pre.length : Int) - 1) + 1)))
    rw [List.getLast?_concat, show wrap64 ((((pre ++ [x]).length : Nat) : Int) - 1) = wrap64 (wrap64 ((pre.length : Int) - 1) + 1) by unfold wrap64; simp; omega]
    exact h1
set_option maxRecDepth 100000 in
theorem run_any (κ : Int) (n s T : Nat) (le lm : List Ed) (Ag : Option Addr) (cg : Nat) (w : World) (h : PlOk κ n s) (hl : le.length ≤ 65536) (hA : Reads w Ag (le.flatMap edV)) (hR : rightP n le = 0) (hw : ∀ e ∈ le, In64 e.2.2) (hin : ∀ e ∈ le, 0 ≤ e.2.1 ∧ e.2.1 < n) (hcan : canonP (madeP oneE allE le) = le)
    (hlm : canonP (turnL le) = lm) (hmo : MtOkM n n lm) (hv : ∀ e ∈ lm, OkV (ringP κ) e.2.2) (hT : T ≤ n) (hT0 : (runS κ n s lm T).b = 0) (hT1 : ∀ t, t < T → (runS κ n s lm t).b ≠ 0) (htell : ∀ t, t ≤ T → ∀ i : Nat, (runS κ n s lm t).b.testBit i = true → OkV (ringP κ) (tellV κ i ((runS κ n s lm t).A.getD i 0))) :
    Calls Tryz.prog 17 #[.agg (plC κ n s).toArray, .agg #[.int .i64 n, .slice Ag le.length cg], .int .i64 ((n : Int) + 1)] w fun e w' => ∃ x : StX, e = .returned (.tuple #[.agg (rsC n 1 T (some x)).toArray, .int .i64 0]) ∧ x.at n w.heap.size (runS κ n s lm T) w' ∧ Kept [] w w' := by
  have HPL := Lib.hid h
  have HL := Lib.hid hl
  have HRP := Lib.hid hR
  have HW := Lib.hid hw
  have HIN := Lib.hid hin
  have HCAN := Lib.hid hcan
  have HLM := Lib.hid hlm
  have HMO := Lib.hid hmo
  have HV := Lib.hid hv
  have HT := Lib.hid hT
  have HT0 := Lib.hid hT0
  have HT1 := Lib.hid hT1
  have HTL := Lib.hid htell
  have HNN := Lib.hid h.num
  have H30 := Blk.new w 68 (plC κ n s)
  have H3 := Lib.hid ((H30.alloc (.cells ([.int .i64 n, .slice Ag le.length cg]).toArray 56)).alloc (.cells ([.int .i64 0, .int .i64 0, .int .i64 0, .int .i64 0, .slice none 0 0, .slice none 0 0, .slice none 0 0]).toArray 63))
  clear H30
  have H40 := Blk.new (w.alloc (.cells (plC κ n s).toArray 68)) 56 ([.int .i64 n, .slice Ag le.length cg])
  rw [show (w.alloc (.cells (plC κ n s).toArray 68)).heap.size = w.heap.size + 1 by simp] at H40
  have H4 := Lib.hid (H40.alloc (.cells ([.int .i64 0, .int .i64 0, .int .i64 0, .int .i64 0, .slice none 0 0, .slice none 0 0, .slice none 0 0]).toArray 63))
  clear H40
  have H60 := Blk.new ((w.alloc (.cells (plC κ n s).toArray 68)).alloc (.cells ([.int .i64 n, .slice Ag le.length cg]).toArray 56)) 63 ([.int .i64 0, .int .i64 0, .int .i64 0, .int .i64 0, .slice none 0 0, .slice none 0 0, .slice none 0 0])
  rw [show ((w.alloc (.cells (plC κ n s).toArray 68)).alloc (.cells ([.int .i64 n, .slice Ag le.length cg]).toArray 56)).heap.size = w.heap.size + 2 by simp] at H60
  have H6 := Lib.hid H60
  clear H60
  have K0 := Lib.hid ((((Kept.refl [] w).alloc (.cells (plC κ n s).toArray 68)).alloc (.cells ([.int .i64 n, .slice Ag le.length cg]).toArray 56)).alloc (.cells ([.int .i64 0, .int .i64 0, .int .i64 0, .int .i64 0, .slice none 0 0, .slice none 0 0, .slice none 0 0]).toArray 63))
  have HA0 := Lib.hid hA
  have HA := Lib.hid (hA.kept0 K0.out)
  clear h hl hA hR hw hin hcan hlm hmo hv hT hT0 hT1 htell
  rw [← callsIn_wide (n := 5)]
  refine callsIn_of_wp_marks Tryz.func17 rfl trivial ?_ rfl
  simp only [Tryz.ntmps17, List.size_toArray, List.length_cons, List.length_nil, Nat.reduceAdd, Nat.reduceSub, Array.replicate_succ, Array.replicate_zero, List.push_toArray, List.append_toArray, List.nil_append, List.cons_append]
  gi_wp2_with (first | (refine inLoad rfl 68 (.tmp 3) rfl w.heap.size (plC κ n s) _ H3.out rfl Tryz.underlying68 rfl infoPlan ?_) | (refine inLoad rfl 56 (.tmp 4) rfl (w.heap.size + 1) [.int .i64 n, .slice Ag le.length cg] _ H4.out rfl Tryz.underlying56 rfl infoGraph ?_))
  generalize (((w.alloc (.cells (plC κ n s).toArray 68)).alloc (.cells ([.int .i64 n, .slice Ag le.length cg]).toArray 56)).alloc (.cells ([.int .i64 0, .int .i64 0, .int .i64 0, .int .i64 0, .slice none 0 0, .slice none 0 0, .slice none 0 0]).toArray 63)) = w1 at *
  refine ⟨trivial, callsIn_wide.2 ((check_any κ n s le Ag cg (n + 1) w1 HPL.out HL.out HA.out HRP.out HW.out HIN.out HCAN.out (by have := HNN.out; omega)).mono ?_)⟩
  rintro _ w2 ⟨rfl, hk⟩
  replace H3 := Lib.hid (H3.out.kept hk (by simp))
  replace H4 := Lib.hid (H4.out.kept hk (by simp))
  replace H6 := Lib.hid (H6.out.kept hk (by simp))
  replace HA := Lib.hid (HA.out.kept0 hk)
  replace K0 := Lib.hid (K0.out.trans hk)
  clear hk
  have H60 := H6.out
  have K00 := K0.out
  have hkz := ((Kept.refl [] w2).alloc (.cells ([.int .i64 0, .int .i64 0, .int .i64 0, .int .i64 0, .slice none 0 0, .slice none 0 0, .slice none 0 0]).toArray 63))
  replace H3 := Lib.hid (H3.out.kept hkz (by simp))
  replace H4 := Lib.hid (H4.out.kept hkz (by simp))
  replace H6 := Lib.hid (H6.out.kept hkz (by simp))
  replace HA := Lib.hid (HA.out.kept0 hkz)
  replace K0 := Lib.hid (K0.out.trans hkz)
  have HQ := Lib.hid (Blk.new w2 63 [.int .i64 0, .int .i64 0, .int .i64 0, .int .i64 0, .slice none 0 0, .slice none 0 0, .slice none 0 0])
  have HLT := Lib.hid (show w.heap.size + 2 < w2.heap.size from H60.lt)
  have HLE := Lib.hid (show w.heap.size ≤ w2.heap.size from K00.size)
  clear hkz H60 K00
  gi_wp2_with (first | (refine inStore rfl 63 (.tmp 9) (.tmp 19) rfl w2.heap.size _ [.int .i64 0, .int .i64 (-1), .int .i64 0, .int .i64 0, .slice none 0 0, .slice none 0 0, .slice none 0 0] HQ.out rfl rfl rfl infoResult (by simp [Value.oneCell']) ?_; intro w3 hb3 hk3; have f3 : KeptB w2.heap.size [63] (w2.alloc (.cells ([.int .i64 0, .int .i64 0, .int .i64 0, .int .i64 0, .slice none 0 0, .slice none 0 0, .slice none 0 0]).toArray 63)) w3 := (KeptB.refl _ _ _).step (L := [w2.heap.size]) hk3 (fun u hu => by simp at hu; subst hu; exact ⟨Nat.le_refl _, _, _, _, HQ.out, by simp⟩); have HP3 := Lib.hid (H3.out.keptB f3 (by decide)); have HG3 := Lib.hid (H4.out.keptB f3 (by decide))) | (refine inLoad rfl 68 (.tmp 3) rfl w.heap.size (plC κ n s) _ HP3.out rfl Tryz.underlying68 rfl infoPlan ?_) | (refine inLoad rfl 56 (.tmp 4) rfl (w.heap.size + 1) [.int .i64 n, .slice Ag le.length cg] _ HG3.out rfl Tryz.underlying56 rfl infoGraph ?_))
  have HB := Lib.hid hb3
  replace H6 := Lib.hid (H6.out.keptBlt f3 HLT.out)
  replace K0 := Lib.hid (K0.out.thenB f3 HLE.out)
  clear hb3 hk3 f3 HP3 HG3 HQ H3 H4 HA
  generalize w2.heap.size = gr at HB HLT ⊢
  refine ⟨trivial, callsIn_wide.2 ((states_any κ n s gr cg ((n : Int) + 1) le Ag w3).mono ?_)⟩
  rintro _ w7 ⟨g1, g2, g3, g4, rfl, h1, h2, h3, h4, hk⟩
  replace HB := Lib.hid (HB.out.kept hk (by simp))
  replace H6 := Lib.hid (H6.out.kept hk (by simp))
  replace K0 := Lib.hid (K0.out.trans hk)
  have HA := Lib.hid (HA0.out.kept0 K0.out)
  have H1 := Lib.hid h1
  have H2 := Lib.hid h2
  have H3 := Lib.hid h3
  have H4 := Lib.hid h4
  clear h1 h2 h3 h4 hk
  gi_wp2
  change Code.wpIn _ _ _ _ _ (Act.mk ?tm ?df) _
  refine wpIn_rangeFunc_W (α := StX) rfl (by omega) (gf := 73) (lb := #[.pointer (some ⟨g1, 0, none⟩), .pointer (some ⟨g2, 0, none⟩), .pointer (some ⟨g3, 0, none⟩), .pointer (some ⟨g4, 0, none⟩)]) rfl trivial (enters_of Tryz.func73 (by kernel_rfl) rfl) (encs := encS n) (Kp := KpR gr) (I := RunI gr n w7) (S := RunS gr n T (runS κ n s lm T) w7)
    (states1_seq κ n s T 4 le lm Ag cg g1 g2 g3 g4 gr [.int .i64 0, .int .i64 (-1), .int .i64 0, .int .i64 0, .slice none 0 0, .slice none 0 0, .slice none 0 0] w7 HPL.out HL.out HA.out HRP.out HW.out HIN.out HCAN.out HLM.out HMO.out HV.out HT.out HT0.out HT1.out HTL.out H1.out H2.out H3.out H4.out HB.out)
    (fun h k => h.trans k) (fun W l o o' _ ho hc _ => KpR.put W l o o' ho hc) (fun _ => rfl) (fun _ _ o h => h.alloc o) (fun _ _ _ _ _ h hl ho hc => h.put hl ho hc) (fun _ _ _ _ h hl ho hc => h.put hl ho hc) ?first
    (fun x a' W => ∃ B, a' = { tmps := ((?tm : Array Value).setIfInBounds 25 (.agg (x.cells n).toArray)).setIfInBounds 10 (.pointer (some ⟨B, 0, none⟩)), defers := [] } ∧ Blk W B 61 (x.cells n)) (fun x a' W l o o' h hl ho hc => h.imp fun B h => ⟨h.1, h.2.put o' ho hc⟩) ?assign ?body ?done
  case first =>
    refine ⟨?_, Kept.refl _ _⟩
    show Blk w7 gr 63 (rsC n 0 (wrap64 ((0 : Int) - 1)) none)
    rw [show wrap64 ((0 : Int) - 1) = -1 by unfold wrap64; omega]
    exact HB.out
  case assign =>
    rintro lp pre x W K hI hK
    gi_wp2_with (first | (refine inStore rfl 61 (.tmp 10) (.tmp 25) rfl W.heap.size _ (x.cells n) (Blk.new W _ _) rfl rfl rfl infoState (by simp [stC, Value.oneCell']) ?_; intro W2 hb2 hk2))
    have hk : Kept [] W W2 := ((Kept.refl [] W).alloc _).then hk2 (fun u hu => by simp at hu; subst hu; exact .inr (Nat.le_refl _))
    exact hK _ _ ⟨hk.size, fun k o h _ => (hk.block k (Array.getElem?_eq_some_iff.1 h).1 (by simp)).trans h⟩ (KpR.of_kept (hk.mono (fun m hm => by simp at hm))) (hI.kept0 hk) ⟨_, rfl, hb2⟩
  case body =>
    rintro lp pre x a' W ⟨B, rfl, hB⟩ hI
    simp only [List.setIfInBounds_toArray, List.set_cons_zero, List.set_cons_succ]
    have HI := Lib.hid hI
    have HBB := Lib.hid hB
    clear hI hB
    gi_wp2_with (first | (refine inLoad rfl 61 (.tmp 10) rfl B (x.cells n) _ HBB.out rfl Tryz.underlying61 rfl infoState ?_) | (refine inStoreEnd rfl 61 63 (.tmp 27) (.tmp 26) rfl gr 2 (rsC n 0 _ pre.getLast?) (x.cells n) HI.out.1 (by rw [rsC_len]; rfl) rfl rfl infoState (by simp [stC, Value.oneCell']) ?_; intro W3 hb3 hk3; have HB4 : Hid (Blk W3 gr 63 (rsC n 0 (wrap64 ((pre.length : Int) - 1)) (some x))) := Lib.hid hb3; have HK3 := Lib.hid hk3; clear hb3 hk3; have c1 := HB4.out.cell 1; have f1 := HB4.out.frozen 1; have l1 := HB4.out.lt; simp only [rsC, List.getElem?_cons_zero, List.getElem?_cons_succ] at c1))
    exact RunI.step HI.out HB4.out HK3.out
  case done =>
    rintro D W hD ⟨x, hb, hst, hk⟩ hK
    have HBB := Lib.hid hb
    have HST := Lib.hid (StAt.le hst K0.out.size)
    have HKD := Lib.hid hK
    have HKW := Lib.hid hk
    have HDD := Lib.hid (Nat.le_trans K0.out.size hD)
    have H6W := Lib.hid (H6.out.kept hk (by simp; have := HLT.out; omega))
    clear hb hst hK hk hD
    gi_wp2_with (first | (refine inLoad rfl 63 (.tmp 9) rfl gr (rsC n 1 T (some x)) _ HBB.out rfl Tryz.underlying63 rfl infoResult ?_) | (refine inStore rfl 63 (.tmp 6) (.tmp 32) rfl (w.heap.size + 2) _ (rsC n 1 T (some x)) H6W.out rfl rfl rfl infoResult (by simp [rsC, lastC, stC, Value.oneCell']) ?_; intro W3 hb3 hk3))
    have f3 : KeptB w.heap.size [63] W W3 := (KeptB.refl _ _ _).step (L := [w.heap.size + 2]) hk3 (fun u hu => by simp at hu; subst hu; exact ⟨by omega, _, _, _, H6W.out, by simp⟩)
    have HKD3 := Lib.hid ((f3.block D (Array.getElem?_eq_some_iff.1 HKD.out).1 (.inr fun c t fr h => by rw [HKD.out] at h; injection h with h; cases h)).trans HKD.out)
    refine ⟨by simp, .inl ⟨_, _, rfl, run_takeDeferred HKD3.out, ?_⟩⟩
    have hb5 := hb3.put (.deferred none) HKD3.out rfl
    have e0 := hb5.cell 0
    have e1 := hb5.cell 1
    have e2 := hb5.cell 2
    have e3 := hb5.cell 3
    have e4 := hb5.cell 4
    have e5 := hb5.cell 5
    have e6 := hb5.cell 6
    simp only [rsC, lastC, stC, List.getElem?_cons_zero, List.getElem?_cons_succ] at e0 e1 e2 e3 e4 e5 e6
    refine ⟨.tuple #[.agg (rsC n 1 T (some x)).toArray, .int .i64 0], by simp [results, Tryz.results17, go_sem, rsC, lastC, e0, e1, e2, e3, e4, e5, e6], x, rfl, (StAt.keptB HST.out f3 (by decide) (by decide)).put _ HKD3.out rfl, ?_⟩
    exact ((K0.out.then HKW.out (fun u hu => by simp at hu; subst hu; exact .inr (by have := HLT.out; omega))).thenB f3 (Nat.le_refl _)).put D _ HDD.out
end Go.Proofs.YtblfingmdipopaaGreat
