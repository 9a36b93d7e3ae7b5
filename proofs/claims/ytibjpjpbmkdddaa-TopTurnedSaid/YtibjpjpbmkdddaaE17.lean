/- What is wrong with a graph: Right, the program's and the reference's. -/
import Derived.Test.YtibjpjpbmkdddaaE16
namespace Go.Proofs.Ytibjpjpbmkdddaa
set_option linter.unusedSimpArgs false
set_option linter.unusedVariables false
open Go.ChangeShapes Go.WideShapes Go.ChangeAt Go.RowKit
open Go.RowKit (wrap32 wrap64)
set_option maxHeartbeats 8000000

set_option maxRecDepth 100000 in
theorem right_any (n : Int) (l : List Ed) (A : Option Addr) (c : Nat) (w : World) (hl : l.length ≤ maxLen) (hr : Reads w A (l.flatMap edV)) :
    Calls Try.prog 47 #[.agg #[.int .i64 n, .slice A l.length c]] w fun e w' => e = .returned (.int .i64 (rightP n l)) ∧ Kept [] w w' := by
  have hl' := hl
  unfold maxLen at hl'
  have hsf : ∀ (a : Addr) (f : Fn) (x cb : Array Value) (wx : World), (store a (.func f x cb)).run Try.prog wx = stored Try.prog wx a (.func f x cb) .plain := fun a f x cb wx => run_store _ wx a _ _ rfl
  have HL := Lib.hid hl
  have HR := Lib.hid hr
  have HO := Lib.hid (show OutAt ((w.alloc (.cells #[.int .i64 n, .slice A l.length c] 24)).alloc (.cells #[.func (.func 98) #[] #[.pointer (some ⟨w.heap.size, 0, none⟩)]] 147)) w.heap.size (w.heap.size + 1) n A l.length c from
    ⟨(Blk.new w 24 (grV n A l.length c)).alloc _, Blk.new1F w (.cells #[.int .i64 n, .slice A l.length c] 24) 147 [.func (.func 98) #[] #[.pointer (some ⟨w.heap.size, 0, none⟩)]]⟩)
  have K0 := Lib.hid (((Kept.refl [] w).alloc (.cells #[.int .i64 n, .slice A l.length c] 24)).alloc (.cells #[.func (.func 98) #[] #[.pointer (some ⟨w.heap.size, 0, none⟩)]] 147))
  clear hl hr
  by_cases h1 : n < 0
  · rw [show rightP n l = 3 from if_pos h1]
    go_enter Try.func47, Try.ntmps47
    go_upto_region 2 with (fail)
    generalize ((w.alloc (.cells #[.int .i64 n, .slice A l.length c] 24)).alloc (.cells #[.func (.func 98) #[] #[.pointer (some ⟨w.heap.size, 0, none⟩)]] 147)) = w2 at *
    generalize w.heap.size + 1 = g3 at HO ⊢
    generalize w.heap.size = g1 at HO ⊢
    have y0 := HO.out.b1.cell 0
    have y1 := HO.out.b1.cell 1
    simp only [List.getElem?_cons_zero, List.getElem?_cons_succ] at y0 y1
    go_wp2_with fail
    go_ret
    exact ⟨rfl, K0.out⟩
  by_cases h2 : 4096 < n
  · rw [show rightP n l = 5 by unfold rightP; rw [if_neg h1, if_pos h2]]
    go_enter Try.func47, Try.ntmps47
    go_upto_region 2 with (fail)
    generalize ((w.alloc (.cells #[.int .i64 n, .slice A l.length c] 24)).alloc (.cells #[.func (.func 98) #[] #[.pointer (some ⟨w.heap.size, 0, none⟩)]] 147)) = w2 at *
    generalize w.heap.size + 1 = g3 at HO ⊢
    generalize w.heap.size = g1 at HO ⊢
    have y0 := HO.out.b1.cell 0
    have y1 := HO.out.b1.cell 1
    simp only [List.getElem?_cons_zero, List.getElem?_cons_succ] at y0 y1
    go_wp2_with fail
    go_ret
    exact ⟨rfl, K0.out⟩
  by_cases h3 : 65536 < l.length
  · rw [show rightP n l = 5 by unfold rightP; rw [if_neg h1, if_neg h2, if_pos h3]]
    go_enter Try.func47, Try.ntmps47
    go_upto_region 2 with (fail)
    generalize ((w.alloc (.cells #[.int .i64 n, .slice A l.length c] 24)).alloc (.cells #[.func (.func 98) #[] #[.pointer (some ⟨w.heap.size, 0, none⟩)]] 147)) = w2 at *
    generalize w.heap.size + 1 = g3 at HO ⊢
    generalize w.heap.size = g1 at HO ⊢
    have y0 := HO.out.b1.cell 0
    have y1 := HO.out.b1.cell 1
    simp only [List.getElem?_cons_zero, List.getElem?_cons_succ] at y0 y1
    go_wp2_with fail
    go_ret
    exact ⟨rfl, K0.out⟩
  by_cases h4 : l.any (outE n) = true
  · rw [show rightP n l = 3 by unfold rightP; rw [if_neg h1, if_neg h2, if_neg h3, if_pos h4]]
    have HB := Lib.hid h4
    clear h4
    go_enter Try.func47, Try.ntmps47
    go_upto_region 2 with (fail)
    generalize ((w.alloc (.cells #[.int .i64 n, .slice A l.length c] 24)).alloc (.cells #[.func (.func 98) #[] #[.pointer (some ⟨w.heap.size, 0, none⟩)]] 147)) = w2 at *
    generalize w.heap.size + 1 = g3 at HO ⊢
    generalize w.heap.size = g1 at HO ⊢
    have y0 := HO.out.b1.cell 0
    have y1 := HO.out.b1.cell 1
    simp only [List.getElem?_cons_zero, List.getElem?_cons_succ] at y0 y1
    go_wp2_with fail
    refine (containsEO g1 g3 n A l.length c l A c _ HL.out (HR.out.kept0 K0.out) HO.out).mono ?_
    rintro _ w3 ⟨rfl, hk⟩
    rw [HB.out]
    replace K0 := Lib.hid (K0.out.trans hk)
    replace HO := Lib.hid (HO.out.kept0 hk)
    clear hk y0 y1
    have y1 := HO.out.b1.cell 1
    simp only [List.getElem?_cons_zero, List.getElem?_cons_succ] at y1
    go_wp2_with fail
    go_ret
    exact ⟨rfl, K0.out⟩
  replace h4 : l.any (outE n) = false := by simpa using h4
  have HB := Lib.hid h4
  by_cases h5 : l.any badW = true
  · rw [show rightP n l = 7 by unfold rightP; rw [if_neg h1, if_neg h2, if_neg h3, if_neg (by rw [h4]; simp), if_pos h5]]
    have HC := Lib.hid h5
    clear h4 h5
    go_enter Try.func47, Try.ntmps47
    go_upto_region 2 with (fail)
    generalize ((w.alloc (.cells #[.int .i64 n, .slice A l.length c] 24)).alloc (.cells #[.func (.func 98) #[] #[.pointer (some ⟨w.heap.size, 0, none⟩)]] 147)) = w2 at *
    generalize w.heap.size + 1 = g3 at HO ⊢
    generalize w.heap.size = g1 at HO ⊢
    have y0 := HO.out.b1.cell 0
    have y1 := HO.out.b1.cell 1
    simp only [List.getElem?_cons_zero, List.getElem?_cons_succ] at y0 y1
    go_wp2_with fail
    refine (containsEO g1 g3 n A l.length c l A c _ HL.out (HR.out.kept0 K0.out) HO.out).mono ?_
    rintro _ w3 ⟨rfl, hk⟩
    rw [HB.out]
    replace K0 := Lib.hid (K0.out.trans hk)
    replace HO := Lib.hid (HO.out.kept0 hk)
    clear hk y0 y1
    have y1 := HO.out.b1.cell 1
    simp only [List.getElem?_cons_zero, List.getElem?_cons_succ] at y1
    go_wp2_with fail
    refine (containsEW l A c _ HL.out (HR.out.kept0 K0.out)).mono ?_
    rintro _ w4 ⟨rfl, hk⟩
    rw [HC.out]
    replace K0 := Lib.hid (K0.out.trans hk)
    clear hk y1
    go_wp2_with fail
    go_ret
    exact ⟨rfl, K0.out⟩
  · rw [show rightP n l = 0 by unfold rightP; rw [if_neg h1, if_neg h2, if_neg h3, if_neg (by rw [h4]; simp), if_neg h5]]
    replace h5 : l.any badW = false := by simpa using h5
    have HC := Lib.hid h5
    clear h4 h5
    go_enter Try.func47, Try.ntmps47
    go_upto_region 2 with (fail)
    generalize ((w.alloc (.cells #[.int .i64 n, .slice A l.length c] 24)).alloc (.cells #[.func (.func 98) #[] #[.pointer (some ⟨w.heap.size, 0, none⟩)]] 147)) = w2 at *
    generalize w.heap.size + 1 = g3 at HO ⊢
    generalize w.heap.size = g1 at HO ⊢
    have y0 := HO.out.b1.cell 0
    have y1 := HO.out.b1.cell 1
    simp only [List.getElem?_cons_zero, List.getElem?_cons_succ] at y0 y1
    go_wp2_with fail
    refine (containsEO g1 g3 n A l.length c l A c _ HL.out (HR.out.kept0 K0.out) HO.out).mono ?_
    rintro _ w3 ⟨rfl, hk⟩
    rw [HB.out]
    replace K0 := Lib.hid (K0.out.trans hk)
    replace HO := Lib.hid (HO.out.kept0 hk)
    clear hk y0 y1
    have y1 := HO.out.b1.cell 1
    simp only [List.getElem?_cons_zero, List.getElem?_cons_succ] at y1
    go_wp2_with fail
    refine (containsEW l A c _ HL.out (HR.out.kept0 K0.out)).mono ?_
    rintro _ w4 ⟨rfl, hk⟩
    rw [HC.out]
    replace K0 := Lib.hid (K0.out.trans hk)
    clear hk y1
    go_wp2_with fail
    go_ret
    exact ⟨rfl, K0.out⟩
end Go.Proofs.Ytibjpjpbmkdddaa
