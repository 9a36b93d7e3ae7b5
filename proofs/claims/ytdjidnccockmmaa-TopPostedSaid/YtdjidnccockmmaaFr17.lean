/- Frames: what the deferred call of Decode does. -/
import Derived.Test.YtdjidnccockmmaaFr16
namespace Go.Proofs.Ytdjidnccockmmaa
set_option linter.unusedSimpArgs false
set_option linter.unusedVariables false
open Go.ChangeShapes Go.WideShapes Go.ChangeAt Go.RowKit
open Go.RowKit (wrap32 wrap64)
set_option maxHeartbeats 4000000

/-- The cells of no frame. -/
abbrev zeroC : List Value := [.int .i64 0, .int .i64 0, .int .i64 0, .int .i64 0, .int .i64 0, .int .i64 0, .slice none 0 0, .slice none 0 0, .slice none 0 0, .int .i64 0, .bool false]

theorem dcaught_idle (a b : Option Addr) (w : World) :
    CallsD Try.prog 82 #[.pointer a, .pointer b] .returning w fun e u' w' => e = .returned (.tuple #[]) ∧ u' = .returning ∧ w = w' := by
  refine callsD_of_wpS Try.func82 rfl fun c₀ cs hu => ?_
  refine wpS_seq_k fun K hK => ?_
  apply wpS_region
  simp only [Try.ntmps82, List.size_toArray, List.length_cons, List.length_nil, Nat.reduceAdd, Nat.reduceSub, Array.replicate_succ,
     Array.replicate_zero, List.push_toArray, List.append_toArray, List.nil_append, List.cons_append]
  simp [wpOpsS, go_sem, recoverD, hu, Exit.thenS]
  refine hK _ _ _ (wpS_of_wp ?_)
  clear hK K
  have HU := Lib.hid hu
  clear hu
  go_wp2
  exact postS_ret rfl rfl .returning (by rw [← frame_mode c₀ HU.out]) ⟨rfl, rfl, rfl⟩

set_option maxRecDepth 100000 in
theorem dcaught_bad (g h : Nat) (e a : Int) (cs ds : List Value) (older : List PanicEntry) (w : World) (hg : Blk w g 60 cs) (hc : cs.length = 11) (hh : Blk w h 40 ds) (hd : ds.length = 2) :
    CallsD Try.prog 82 #[.pointer (some ⟨g, 0, none⟩), .pointer (some ⟨h, 0, none⟩)] (.panicking (stp e a :: older)) w fun x u' w' => x = .returned (.tuple #[]) ∧ u' = .panicking ({ stp e a with recovered := true } :: older) ∧
      Blk w' g 60 zeroC ∧ Blk w' h 40 [.int .i64 e, .int .i64 a] ∧ Kept [g, h] w w' := by
  match cs, hc, ds, hd with
  | [a0, a1, a2, a3, a4, a5, a6, a7, a8, a9, a10], _, [b0, b1], _ =>
  have hta := fun (v : Value) (wx : World) => run_assert_hit (P := Try.prog) wx 20 117 _ v Try.underlying117
  unfold stp
  have HG := Lib.hid hg
  have HH := Lib.hid hh
  have GL := hg.lt
  have HL := hh.lt
  have NE := hg.ne hh (by decide)
  have c0 := hg.cell 0
  have f0 := hg.frozen 0
  have c1 := hg.cell 1
  have f1 := hg.frozen 1
  have c2 := hg.cell 2
  have f2 := hg.frozen 2
  have c3 := hg.cell 3
  have f3 := hg.frozen 3
  have c4 := hg.cell 4
  have f4 := hg.frozen 4
  have c5 := hg.cell 5
  have f5 := hg.frozen 5
  have c6 := hg.cell 6
  have f6 := hg.frozen 6
  have c7 := hg.cell 7
  have f7 := hg.frozen 7
  have c8 := hg.cell 8
  have f8 := hg.frozen 8
  have c9 := hg.cell 9
  have f9 := hg.frozen 9
  have c10 := hg.cell 10
  have f10 := hg.frozen 10
  have d0 := hh.cell 0
  have e0 := hh.frozen 0
  have d1 := hh.cell 1
  have e1 := hh.frozen 1
  simp only [List.getElem?_cons_zero, List.getElem?_cons_succ] at c0 c1 c2 c3 c4 c5 c6 c7 c8 c9 c10 d0 d1
  clear hg hh
  refine callsD_of_wpS Try.func82 rfl fun c₀ cs hu => ?_
  refine wpS_seq_k fun K hK => ?_
  apply wpS_region
  simp only [Try.ntmps82, List.size_toArray, List.length_cons, List.length_nil, Nat.reduceAdd, Nat.reduceSub, Array.replicate_succ,
     Array.replicate_zero, List.push_toArray, List.append_toArray, List.nil_append, List.cons_append]
  simp [wpOpsS, go_sem, recoverD, hu, Exit.thenS]
  refine hK _ _ _ (wpS_of_wp ?_)
  clear hK K
  have HU := Lib.hid hu
  clear hu
  go_wp2_with fail
  go_region_law (fail)
  all_goals
    refine postS_end rfl rfl _ rfl ⟨rfl, rfl, ?_, ?_, ?_⟩
    · exact ((((((((((((((HG.out.set 0 (.int .i64 0)).set 1 (.int .i64 0)).set 2 (.int .i64 0)).set 3 (.int .i64 0)).set 4 (.int .i64 0)).set 5 (.int .i64 0)).set 6 (.slice none 0 0)).set 7 (.slice none 0 0)).set 8 (.slice none 0 0)).set 9 (.int .i64 0)).set 10 (.bool false)).far (p := ⟨h, 0, none⟩) NE (.int .i64 e)).far (p := ⟨h, 1, none⟩) NE (.int .i64 a)).alloc (.cells #[.int .i64 e, .int .i64 a] 117)).drew
    · exact ((((((((((((((HH.out.far (p := ⟨g, 0, none⟩) (Ne.symm NE) (.int .i64 0)).far (p := ⟨g, 1, none⟩) (Ne.symm NE) (.int .i64 0)).far (p := ⟨g, 2, none⟩) (Ne.symm NE) (.int .i64 0)).far (p := ⟨g, 3, none⟩) (Ne.symm NE) (.int .i64 0)).far (p := ⟨g, 4, none⟩) (Ne.symm NE) (.int .i64 0)).far (p := ⟨g, 5, none⟩) (Ne.symm NE) (.int .i64 0)).far (p := ⟨g, 6, none⟩) (Ne.symm NE) (.slice none 0 0)).far (p := ⟨g, 7, none⟩) (Ne.symm NE) (.slice none 0 0)).far (p := ⟨g, 8, none⟩) (Ne.symm NE) (.slice none 0 0)).far (p := ⟨g, 9, none⟩) (Ne.symm NE) (.int .i64 0)).far (p := ⟨g, 10, none⟩) (Ne.symm NE) (.bool false)).set 0 (.int .i64 e)).set 1 (.int .i64 a)).alloc (.cells #[.int .i64 e, .int .i64 a] 117)).drew
    · exact (((((((((((((((Kept.refl [g, h] w).setCell (p := ⟨g, 0, none⟩) (.inl (by simp)) (.int .i64 0)).setCell (p := ⟨g, 1, none⟩) (.inl (by simp)) (.int .i64 0)).setCell (p := ⟨g, 2, none⟩) (.inl (by simp)) (.int .i64 0)).setCell (p := ⟨g, 3, none⟩) (.inl (by simp)) (.int .i64 0)).setCell (p := ⟨g, 4, none⟩) (.inl (by simp)) (.int .i64 0)).setCell (p := ⟨g, 5, none⟩) (.inl (by simp)) (.int .i64 0)).setCell (p := ⟨g, 6, none⟩) (.inl (by simp)) (.slice none 0 0)).setCell (p := ⟨g, 7, none⟩) (.inl (by simp)) (.slice none 0 0)).setCell (p := ⟨g, 8, none⟩) (.inl (by simp)) (.slice none 0 0)).setCell (p := ⟨g, 9, none⟩) (.inl (by simp)) (.int .i64 0)).setCell (p := ⟨g, 10, none⟩) (.inl (by simp)) (.bool false)).setCell (p := ⟨h, 0, none⟩) (.inl (by simp)) (.int .i64 e)).setCell (p := ⟨h, 1, none⟩) (.inl (by simp)) (.int .i64 a)).alloc (.cells #[.int .i64 e, .int .i64 a] 117)).drew
end Go.Proofs.Ytdjidnccockmmaa
