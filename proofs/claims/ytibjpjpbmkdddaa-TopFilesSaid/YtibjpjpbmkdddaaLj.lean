/- Loader: what the deferred call does; caught, whatever is called. -/
import Derived.Test.YtibjpjpbmkdddaaLi
namespace Go.Proofs.Ytibjpjpbmkdddaa
set_option linter.unusedSimpArgs false
set_option linter.unusedVariables false
open Go.ChangeShapes Go.WideShapes Go.ChangeAt Go.RowKit
open Go.RowKit (wrap32 wrap64)
set_option maxHeartbeats 8000000

theorem infoFault : (Try.prog.info? 36).map (·.size) = some 2 := by kernel_rfl
theorem dcaught_idle (a : Option Addr) (w : World) :
    CallsD Try.prog 90 #[.pointer a] .returning w fun e u' w' => e = .returned (.tuple #[]) ∧ u' = .returning ∧ w = w' := by
  refine callsD_of_wpS Try.func90 rfl fun c₀ cs hu => ?_
  refine wpS_seq_k fun K hK => ?_
  apply wpS_region
  simp only [Try.ntmps90, List.size_toArray, List.length_cons, List.length_nil, Nat.reduceAdd, Nat.reduceSub, Array.replicate_succ,
     Array.replicate_zero, List.push_toArray, List.append_toArray, List.nil_append, List.cons_append]
  simp [wpOpsS, go_sem, recoverD, hu, Exit.thenS]
  refine hK _ _ _ (wpS_of_wp ?_)
  clear hK K
  have HU := Lib.hid hu
  clear hu
  go_wp2
  exact postS_ret rfl rfl .returning (by rw [← frame_mode c₀ HU.out]) ⟨rfl, rfl, rfl⟩
set_option maxRecDepth 100000 in
theorem dcaught_bad (h : Nat) (e a : Int) (ds : List Value) (older : List PanicEntry) (w : World) (hh : Blk w h 36 ds) (hd : ds.length = 2) :
    CallsD Try.prog 90 #[.pointer (some ⟨h, 0, none⟩)] (.panicking (stp e a :: older)) w fun x u' w' => x = .returned (.tuple #[]) ∧ u' = .panicking ({ stp e a with recovered := true } :: older) ∧
      Blk w' h 36 [.int .i64 e, .int .i64 a] ∧ Kept [h] w w' := by
  match ds, hd with
  | [b0, b1], _ =>
  have hta := fun (v : Value) (wx : World) => run_assert_hit (P := Try.prog) wx 20 140 _ v Try.underlying140
  unfold stp
  have HH := Lib.hid (hh.alloc (.cells #[.int .i64 e, .int .i64 a] 140))
  have K0 := Lib.hid ((Kept.refl [h] w).alloc (.cells #[.int .i64 e, .int .i64 a] 140))
  clear hh
  refine callsD_of_wpS Try.func90 rfl fun c₀ cs hu => ?_
  refine wpS_seq_k fun K hK => ?_
  apply wpS_region
  simp only [Try.ntmps90, List.size_toArray, List.length_cons, List.length_nil, Nat.reduceAdd, Nat.reduceSub, Array.replicate_succ,
     Array.replicate_zero, List.push_toArray, List.append_toArray, List.nil_append, List.cons_append]
  simp [wpOpsS, go_sem, recoverD, hu, Exit.thenS]
  refine hK _ _ _ (wpS_of_wp ?_)
  clear hK K
  have HU := Lib.hid hu
  clear hu
  go_wp2_with (first | (refine wpList_storeBlk rfl 36 (.tmp 0) (.tmp 16) rfl h _ [.int .i64 e, .int .i64 a] HH.out rfl rfl rfl infoFault (by simp [Value.oneCell']) ?_; intro w5 hb5 hk5))
  exact postS_end rfl rfl _ rfl ⟨rfl, rfl, hb5, K0.out.trans hk5⟩
set_option maxRecDepth 100000 in
theorem caughtG_of (cap : Array Value) (w : World) (C : Ending → World → Prop) (hC : Calls Try.prog 71 cap (w.alloc (.cells #[.int .i64 0, .int .i64 0] 36)) C)
    (hx : ∀ x w1, C x w1 → (x = .returned (.tuple #[]) ∨ ∃ e a, x = .panicked [stp e a]) ∧ Blk w1 w.heap.size 36 [.int .i64 0, .int .i64 0]) :
    Calls Try.prog 36 #[.func (.func 71) #[] cap] w fun x w' => ∃ w1, Kept [w.heap.size] w1 w' ∧
      ((C (.returned (.tuple #[])) w1 ∧ x = .returned (.agg #[.int .i64 0, .int .i64 0])) ∨ ∃ e a, C (.panicked [stp e a]) w1 ∧ x = .returned (.agg #[.int .i64 e, .int .i64 a])) := by
  have HC := Lib.hid hC
  have HX := Lib.hid hx
  clear hC hx
  go_enter_defers Try.func36, Try.ntmps36
  go_wp2_with fail
  refine HC.out.mono ?_
  intro x w1 hc
  obtain ⟨hx, hb⟩ := HX.out x w1 hc
  have HB := Lib.hid hb
  have HD := Lib.hid hc
  clear hb hc
  rcases hx with rfl | ⟨e, a, rfl⟩
  · go_wp2_with (first | (refine wpList_storeBlk rfl 36 (.tmp 2) (.tmp 6) rfl w.heap.size _ [.int .i64 0, .int .i64 0] HB.out rfl rfl rfl infoFault (by simp [Value.oneCell']) ?_; intro w5 hb5 hk5))
    refine leaves_cons (f := 90) (args := #[.pointer (some ⟨w.heap.size, 0, none⟩)]) (by simp) (by simp [go_sem]) ?_
    refine (dcaught_idle _ _).mono ?_
    rintro x u' w'' ⟨rfl, rfl, rfl⟩
    have z0 := hb5.cell 0
    have z1 := hb5.cell 1
    simp only [List.getElem?_cons_zero, List.getElem?_cons_succ] at z0 z1
    refine ⟨.agg #[.int .i64 0, .int .i64 0], by simp [results, Try.results36, go_sem, z0, z1], w1, hk5, .inl ⟨HD.out, rfl⟩⟩
  · go_wp2_with fail
    refine leaves_cons (f := 90) (args := #[.pointer (some ⟨w.heap.size, 0, none⟩)]) (by simp) (by simp [go_sem]) ?_
    refine (dcaught_bad w.heap.size e a _ [] _ HB.out rfl).mono ?_
    rintro x u' w'' ⟨rfl, rfl, hh, hk⟩
    simp only [settle, Leaves, List.dropWhile_nil]
    have z0 := hh.cell 0
    have z1 := hh.cell 1
    simp only [List.getElem?_cons_zero, List.getElem?_cons_succ] at z0 z1
    refine ⟨.agg #[.int .i64 e, .int .i64 a], by simp [results, Try.results36, go_sem, z0, z1], w1, hk, .inr ⟨e, a, HD.out, rfl⟩⟩
set_option maxRecDepth 100000 in
theorem caughtM_of (cap : Array Value) (w : World) (C : Ending → World → Prop) (hC : Calls Try.prog 37 cap (w.alloc (.cells #[.int .i64 0, .int .i64 0] 36)) C)
    (hx : ∀ x w1, C x w1 → (x = .returned (.tuple #[]) ∨ ∃ e a, x = .panicked [stp e a]) ∧ Blk w1 w.heap.size 36 [.int .i64 0, .int .i64 0]) :
    Calls Try.prog 36 #[.func (.func 37) #[] cap] w fun x w' => ∃ w1, Kept [w.heap.size] w1 w' ∧
      ((C (.returned (.tuple #[])) w1 ∧ x = .returned (.agg #[.int .i64 0, .int .i64 0])) ∨ ∃ e a, C (.panicked [stp e a]) w1 ∧ x = .returned (.agg #[.int .i64 e, .int .i64 a])) := by
  have HC := Lib.hid hC
  have HX := Lib.hid hx
  clear hC hx
  go_enter_defers Try.func36, Try.ntmps36
  go_wp2_with fail
  refine HC.out.mono ?_
  intro x w1 hc
  obtain ⟨hx, hb⟩ := HX.out x w1 hc
  have HB := Lib.hid hb
  have HD := Lib.hid hc
  clear hb hc
  rcases hx with rfl | ⟨e, a, rfl⟩
  · go_wp2_with (first | (refine wpList_storeBlk rfl 36 (.tmp 2) (.tmp 6) rfl w.heap.size _ [.int .i64 0, .int .i64 0] HB.out rfl rfl rfl infoFault (by simp [Value.oneCell']) ?_; intro w5 hb5 hk5))
    refine leaves_cons (f := 90) (args := #[.pointer (some ⟨w.heap.size, 0, none⟩)]) (by simp) (by simp [go_sem]) ?_
    refine (dcaught_idle _ _).mono ?_
    rintro x u' w'' ⟨rfl, rfl, rfl⟩
    have z0 := hb5.cell 0
    have z1 := hb5.cell 1
    simp only [List.getElem?_cons_zero, List.getElem?_cons_succ] at z0 z1
    refine ⟨.agg #[.int .i64 0, .int .i64 0], by simp [results, Try.results36, go_sem, z0, z1], w1, hk5, .inl ⟨HD.out, rfl⟩⟩
  · go_wp2_with fail
    refine leaves_cons (f := 90) (args := #[.pointer (some ⟨w.heap.size, 0, none⟩)]) (by simp) (by simp [go_sem]) ?_
    refine (dcaught_bad w.heap.size e a _ [] _ HB.out rfl).mono ?_
    rintro x u' w'' ⟨rfl, rfl, hh, hk⟩
    simp only [settle, Leaves, List.dropWhile_nil]
    have z0 := hh.cell 0
    have z1 := hh.cell 1
    simp only [List.getElem?_cons_zero, List.getElem?_cons_succ] at z0 z1
    refine ⟨.agg #[.int .i64 e, .int .i64 a], by simp [results, Try.results36, go_sem, z0, z1], w1, hk, .inr ⟨e, a, HD.out, rfl⟩⟩
end Go.Proofs.Ytibjpjpbmkdddaa
