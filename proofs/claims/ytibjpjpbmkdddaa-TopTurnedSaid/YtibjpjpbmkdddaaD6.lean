/- slices.AppendSeq and slices.Collect of an iterator over items. -/
import Derived.Test.YtibjpjpbmkdddaaD5
namespace Go.Proofs.Ytibjpjpbmkdddaa
set_option linter.unusedSimpArgs false
set_option linter.unusedVariables false
open Go.ChangeShapes Go.WideShapes Go.ChangeAt Go.RowKit
open Go.RowKit (wrap32 wrap64)
set_option maxHeartbeats 8000000

open Go.Shelf
attribute [local go_sem] Oper.semAt_some
set_option maxRecDepth 100000 in
theorem appendSeq_in (n : Nat) (hn : 3 ≤ n) (lb : Array Value) (xs : List Ed) (hl : xs.length ≤ 65536) (w : World)
    (hseq : SeqStopsK Fence.wide (n - 1) Try.prog 108 lb encI (Below w.heap.size) (fun ys => ys = xs) (fun _ => True) xs.length w) :
    CallsIn Fence.wide n Try.prog 107 #[.slice none 0 0, .func (.func 108) #[] lb] w fun e W' => ∃ v, e = .returned v ∧ W'.ownsRow w.heap.size 102 2 v xs.length (xs.flatMap itV) ∧ Below w.heap.size w W' := by
  have h1 : 1 ≤ n := by omega
  obtain ⟨i0, hi, hz0, hz1, hz2⟩ := info_parts infoItem
  refine callsIn_of_wp_marks Try.func107 rfl trivial ?_ rfl
  simp only [Try.ntmps107, List.size_toArray, List.length_cons, List.length_nil, Nat.reduceAdd, Nat.reduceSub, Array.replicate_succ, Array.replicate_zero, List.push_toArray, List.append_toArray, List.nil_append, List.cons_append]
  gi_wp2
  have bO := Boxed.new w 53 (.slice none 0 0)
  have hB0 : Below w.heap.size w (w.alloc (.cells #[.slice none 0 0] 53)) := (Below.refl _ w).alloc (Nat.le_refl _) _
  refine wpIn_rangeFunc_ownH rfl h1 (gf := 108) (lb := lb) rfl trivial (enters_of Try.func108 (by kernel_rfl) rfl) hseq belowK_t (belowK_b (by simp)) hB0 (fun _ => rfl)
    (fun pre W => (∃ v, Boxed W w.heap.size 53 v ∧ W.ownsRow w.heap.size 102 2 v pre.length (pre.flatMap itV) ∧ True) ∧ Below w.heap.size w W)
    (fun _ _ _ => False)
    (OwnFrom.and (Own.from (holdsRow_own w.heap.size w.heap.size 53 102 2 (fun pre : List Ed => pre.length) (fun pre => pre.flatMap itV) (fun _ _ => True)) _) (ownFrom_below (Nat.le_refl _) (by simp)))
    (fun _ _ _ _ _ hs _ _ => hs)
    ⟨⟨_, bO, World.ownsRow_nil _ _ _ _, trivial⟩, hB0⟩
    (fun x a' W => ∃ Bx, w.heap.size + 1 ≤ Bx ∧ Blk W Bx 102 (itV x) ∧ a' = { tmps := #[.slice none 0 0, .func (.func 108) #[] lb, .pointer (some ⟨w.heap.size, 0, none⟩), undef, .slice none 0 0, .pointer (some ⟨Bx, 0, none⟩), .func (.func 108) #[] lb, .agg #[.int .i64 x.2.1, .int .i64 x.2.2], undef, undef, undef, undef, undef], defers := [] })
    (fun x a' s X Y row hs hg hr => by
      obtain ⟨Bx, h1, h2, h3⟩ := hs
      refine ⟨Bx, h1, (hg.block Bx h2.lt (fun e => ?_)).trans h2, h3⟩
      obtain ⟨_, o, ho, hc⟩ := hr Bx e.symm
      unfold Blk at h2
      rw [h2] at ho
      injection ho with ho
      subst ho
      cases hc)
    ?assign ?body ?done ?stop
  case assign =>
    rintro l pre x W K ⟨⟨v, hv, hrow, _⟩, hB⟩ hK
    obtain ⟨x1, x2, x3⟩ := x
    gi_wp2
    refine hK _ _ ((KeepsOthers.alloc _ _).from _) ((Below.refl _ W).alloc hB.size _) ⟨⟨v, hv.alloc _, hrow.alloc _, trivial⟩, hB.alloc hB.size _⟩ ⟨W.heap.size, ?_, Blk.new W 102 (itV (x1, x2, x3)), rfl⟩
    exact hv.lt
  case body =>
    rintro l pre x a' W hlB hlr ⟨⟨v, hv, hrow, _⟩, hB⟩ ⟨Bx, hBx, bX, rfl⟩ hlt
    obtain ⟨x1, x2, x3⟩ := x
    have hc := hv.cell
    have c0 := bX.cell 0
    have c1 := bX.cell 1
    simp only [itV, List.getElem?_cons_zero, List.getElem?_cons_succ] at c0 c1
    gi_wp2_with (gi_at_builtin; refine wpListIn_append_own _ rfl _ _ 53 rfl w.heap.size 102 i0 (.agg #[.int .i64 0, .int .i64 0]) 2 16 Try.underlying53 hi hz0 hz1 hz2 rfl (by decide) _ _ _ rfl (hrow.alloc _) ⟨W.heap.size, 0, none⟩ 1 1 (itV (x1, x2, x3)) rfl rfl (fun j u hu => by rw [Addr.add_lit, Nat.zero_add, (Blk.new W 102 (itV (x1, x2, x3))).cell]; exact hu) (by simp [itV, Value.oneCell']) (by unfold maxLen; omega) (by omega) (by have := hB.size; simp; omega) ?_; intro v' w1 hown' hgrow _; obtain ⟨g', cap', rfl⟩ := ownsRow_succ hown'; obtain ⟨hv1, hv2, hr2, hk2, hb2⟩ := hv.appended (by decide) hrow hB.size (Nat.le_refl _) hown' hgrow; have hc1 := hv1.cell; have hf1 := hv1.frozen)
    exact ⟨hk2.from _, hb2, ⟨_, hv2, by rw [List.length_append, List.flatMap_append, List.flatMap_singleton]; exact hr2⟩, hB.trans hb2⟩
  case done =>
    rintro D ys W hD rfl ⟨⟨v, hv, hrow, _⟩, hB⟩ hK
    have hc := hv.cell
    gi_wp2
    refine ⟨by simp, .inl ⟨_, _, rfl, run_takeDeferred hK, ?_⟩⟩
    exact ⟨_, results_tmp rfl _ _ _, v, rfl, ownsRow_putObj hrow _ hK rfl, hB.trans (belowK_b (w := w) (Nat.le_refl _) W D _ _ (by simp at hD; omega) hK rfl rfl)⟩
  case stop =>
    rintro D c pre W _ _ h _
    exact h.elim
set_option maxRecDepth 100000 in
theorem collect_any (lb : Array Value) (xs : List Ed) (hl : xs.length ≤ 65536) (w : World)
    (hseq : SeqStopsK Fence.wide 3 Try.prog 108 lb encI (Below w.heap.size) (fun ys => ys = xs) (fun _ => True) xs.length w) :
    Calls Try.prog 63 #[.func (.func 108) #[] lb] w fun e W' => ∃ v, e = .returned v ∧ W'.ownsRow w.heap.size 102 2 v xs.length (xs.flatMap itV) ∧ Kept [] w W' := by
  have HA := Lib.hid (callsIn_wide.1 (appendSeq_in 4 (by omega) lb xs hl w hseq))
  clear hseq
  go_enter Try.func63, Try.ntmps63
  go_wp2_with fail
  refine HA.out.mono ?_
  rintro _ w1 ⟨v, rfl, ho, hb⟩
  have HO := Lib.hid ho
  have HB := Lib.hid hb
  clear ho hb
  go_wp2_with fail
  go_ret
  exact ⟨v, rfl, HO.out, Kept.of_below HB.out []⟩
end Go.Proofs.Ytibjpjpbmkdddaa
