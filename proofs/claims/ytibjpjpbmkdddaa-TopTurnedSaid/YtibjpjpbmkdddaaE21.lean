/- Canonical graphs; graphs made of others. -/
import Derived.Test.YtibjpjpbmkdddaaE15
import Derived.Test.YtibjpjpbmkdddaaE16
namespace Go.Proofs.Ytibjpjpbmkdddaa
set_option linter.unusedSimpArgs false
set_option linter.unusedVariables false
open Go.ChangeShapes Go.WideShapes Go.ChangeAt Go.RowKit
open Go.RowKit (wrap32 wrap64)
set_option maxHeartbeats 8000000

theorem infoGraph : (Try.prog.info? 24).map (·.size) = some 2 := by kernel_rfl
/-- The canonical edges. -/
def canonP (l : List Ed) : List Ed := (combP 1 l).2
/-- A graph that a call hands back: its edges are the call's own. -/
def GrPost (w : World) (n : Int) (m : List Ed) (e : Ending) (w' : World) : Prop := ∃ v, e = .returned (.agg #[.int .i64 n, v]) ∧ w'.ownsRow w.heap.size 28 3 v m.length (m.flatMap edV) ∧ Kept [] w w'
set_option maxRecDepth 100000 in
theorem canon_any (n : Int) (l : List Ed) (A : Option Addr) (c : Nat) (w : World) (hl : l.length ≤ 1048576) (hA : Reads w A (l.flatMap edV)) (hw : ∀ e ∈ l, In64 e.2.2) :
    Calls Try.prog 6 #[.agg #[.int .i64 n, .slice A l.length c]] w (GrPost w n (canonP l)) := by
  have HA := Lib.hid hA
  have HW := Lib.hid hw
  have HL := Lib.hid hl
  have HB := Lib.hid ((Blk.new w 24 (grV n A l.length c)).alloc (.cells #[.int .i64 0, .slice none 0 0] 24))
  have HZ := Lib.hid (Blk.new1F w (.cells #[.int .i64 n, .slice A l.length c] 24) 24 [.int .i64 0, .slice none 0 0])
  have K0 := Lib.hid (((Kept.refl [] w).alloc (.cells #[.int .i64 n, .slice A l.length c] 24)).alloc (.cells #[.int .i64 0, .slice none 0 0] 24))
  clear hA hw hl
  unfold GrPost
  go_enter Try.func6, Try.ntmps6
  go_wp2_with fail
  refine (combine_ok 1 l A c _ (by decide) HL.out (HA.out.kept0 K0.out) HW.out).mono ?_
  rintro _ w3 ⟨v, rfl, ho, hk⟩
  obtain ⟨A3, c3, rfl⟩ := own_n ho
  have HO := Lib.hid (own_le (base' := w.heap.size) ho K0.out.size)
  replace HB := Lib.hid (HB.out.kept hk (by simp))
  replace HZ := Lib.hid (HZ.out.kept hk (by simp))
  have K := Lib.hid (K0.out.trans hk)
  clear ho hk K0
  have y0 := HB.out.cell 0
  simp only [List.getElem?_cons_zero] at y0
  go_wp2_with (first | (refine wpList_storeBlk rfl 24 (.tmp 2) (.tmp 14) rfl (w.heap.size + 1) _ [.int .i64 n, .slice A3 (combP 1 l).2.length c3] HZ.out rfl rfl rfl infoGraph (by simp [Value.oneCell']) ?_; intro w8 hb8 hk8))
  have e0 := hb8.cell 0
  have e1 := hb8.cell 1
  simp only [List.getElem?_cons_zero, List.getElem?_cons_succ] at e0 e1
  refine bodyPost_ret (v := .agg #[.int .i64 n, .slice A3 (combP 1 l).2.length c3]) (by simp [results, Try.results6, go_sem, e0, e1]) rfl ?_
  refine ⟨_, rfl, ?_, K.out.then hk8 (fun m hm => by simp at hm; subst hm; exact .inr (by omega))⟩
  have f8 : KeptB w.heap.size [24] w3 w8 := (KeptB.refl _ _ w3).step (L := [w.heap.size + 1]) hk8 (fun m hm => by simp at hm; subst hm; exact ⟨by omega, _, _, _, HZ.out, by simp⟩)
  exact own_keptB HO.out f8 (by decide)
end Go.Proofs.Ytibjpjpbmkdddaa
