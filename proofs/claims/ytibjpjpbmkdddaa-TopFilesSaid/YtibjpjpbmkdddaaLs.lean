/- Loader: what the encoders look for. -/
import Derived.Test.YtibjpjpbmkdddaaLo
import Derived.Test.YtibjpjpbmkdddaaE17
import Derived.Test.YtibjpjpbmkdddaaE19
import Derived.Test.YtibjpjpbmkdddaaE22
namespace Go.Proofs.Ytibjpjpbmkdddaa
set_option linter.unusedSimpArgs false
set_option linter.unusedVariables false
open Go.ChangeShapes Go.WideShapes Go.ChangeAt Go.RowKit
open Go.RowKit (wrap32 wrap64)
set_option maxHeartbeats 8000000

def neOne (e : Ed) : Bool := !decide (e.2.2 = 1)
theorem neOne_any (e : Ed) (w : World) : Calls Try.prog 69 #[.agg #[.int .i64 e.1, .int .i64 e.2.1, .int .i64 e.2.2]] w fun x w' => x = .returned (.bool (neOne e)) ∧ Kept [] w w' := by
  obtain ⟨a, b, d⟩ := e
  unfold neOne
  dsimp only
  go_enter Try.func69, Try.ntmps69
  go_wp2
  go_ret
  exact ⟨ret_bool (neq_bool d 1), (Kept.refl _ _).alloc _⟩
theorem indexNE (l : List Ed) (A : Option Addr) (c : Nat) (w : World) (hl : l.length ≤ maxLen) (hr : Reads w A (l.flatMap edV)) :
    Calls Try.prog 110 #[.slice A l.length c, .func (.func 69) #[] #[]] w fun e w' => ∃ r : Int, e = .returned (.int .i64 r) ∧ decide (0 ≤ r) = l.any neOne ∧ Kept [] w w' := by
  unfold maxLen at hl
  have HR := Lib.hid hr
  clear hr
  go_enter Try.func110, Try.ntmps110
  go_wp2_with fail
  go_loopw [8] (fun i wr => ∃ k : Nat, k ≤ l.length ∧ i = .int .i64 k ∧ Hid (∀ j (hj : j < l.length), j < k → neOne l[j] = false) ∧ Hid (Kept [] w wr)) (fun i _ => l.length - (intOf i).toNat)
  case atStart => exact ⟨0, Nat.zero_le _, rfl, Lib.hid (fun j _ h => absurd h (Nat.not_lt_zero _)), Lib.hid (Kept.refl _ _)⟩
  case round =>
    obtain ⟨k, hk, rfl, HN, KW⟩ := hrel
    by_cases hlt : k < l.length
    · obtain ⟨b, off, rfl, hbl, h0, h1, h2⟩ := edge_at (HR.out.kept0 KW.out) hlt
      by_cases hb : neOne l[k] = true
      · have HB := Lib.hid hb
        clear hb
        go_wp2_with fail
        refine (neOne_any l[k] _).mono ?_
        rintro e w1 ⟨rfl, hk1⟩
        rw [HB.out]
        have KW := Lib.hid (KW.out.trans hk1)
        clear hk1 h0 h1 h2
        go_wp2_with fail
        go_ret
        exact ⟨_, rfl, by rw [any_true hlt HB.out]; simp, KW.out⟩
      · have HB := Lib.hid (Bool.eq_false_iff.2 hb)
        clear hb
        go_wp2_with fail
        refine (neOne_any l[k] _).mono ?_
        rintro e w1 ⟨rfl, hk1⟩
        rw [HB.out]
        have KW := Lib.hid (KW.out.trans hk1)
        clear hk1 h0 h1 h2
        go_wp2_with fail
        go_roundw
        case rel =>
          refine ⟨k + 1, by omega, by go_num, Lib.hid (fun j hj hjk => ?_), KW⟩
          rcases Nat.lt_succ_iff_lt_or_eq.1 hjk with h | rfl
          · exact HN.out j hj h
          · exact HB.out
        case measure => simp [intOf]; omega
    · go_wp2_with fail
      go_ret
      exact ⟨_, rfl, by rw [any_false (fun j hj => HN.out j hj (by omega))]; simp, KW.out⟩
theorem containsNE (l : List Ed) (A : Option Addr) (c : Nat) (w : World) (hl : l.length ≤ maxLen) (hr : Reads w A (l.flatMap edV)) :
    Calls Try.prog 68 #[.slice A l.length c, .func (.func 69) #[] #[]] w fun e w' => e = .returned (.bool (l.any neOne)) ∧ Kept [] w w' := by
  have HR := Lib.hid hr
  clear hr
  go_enter Try.func68, Try.ntmps68
  go_wp2_with fail
  refine (indexNE l A c _ hl HR.out).mono ?_
  rintro e w1 ⟨r, rfl, hr, hk⟩
  have HE := Lib.hid hr
  clear hr
  go_wp2_with fail
  go_ret
  exact ⟨ret_bool HE.out, hk⟩

def badT (m n : Int) (t : Ed) : Bool := decide (t.1 < 0 ∨ t.2.1 < 0) || decide (m ≤ t.1) || decide (n ≤ t.2.1)
/-- What the closure of EncodeMatrix finds: how many rows, how many columns. -/
structure MkAt (w : World) (g1 g3 : Nat) (m n : Int) : Prop where
  b1 : Blk w g1 3 [.int .i64 m]
  b3 : Blk w g3 3 [.int .i64 n]
theorem MkAt.kept0 {w w' : World} {g1 g3 : Nat} {m n : Int} (h : MkAt w g1 g3 m n) (hk : Kept [] w w') : MkAt w' g1 g3 m n := ⟨h.b1.kept hk (by simp), h.b3.kept hk (by simp)⟩
set_option maxRecDepth 100000 in
theorem badT_any (e : Ed) (g1 g3 : Nat) (m n : Int) (w : World) (h : MkAt w g1 g3 m n) :
    Calls Try.prog 31 #[.agg #[.int .i64 e.1, .int .i64 e.2.1, .int .i64 e.2.2], .pointer (some ⟨g1, 0, none⟩), .pointer (some ⟨g3, 0, none⟩)] w fun x w' => x = .returned (.bool (badT m n e)) ∧ Kept [] w w' := by
  obtain ⟨a, b, d⟩ := e
  unfold badT
  dsimp only
  have H := Lib.hid (h.kept0 ((Kept.refl [] w).alloc (.cells #[.int .i64 a, .int .i64 b, .int .i64 d] 30)))
  have K0 := Lib.hid ((Kept.refl [] w).alloc (.cells #[.int .i64 a, .int .i64 b, .int .i64 d] 30))
  have HX := Lib.hid (Blk.new w 30 [.int .i64 a, .int .i64 b, .int .i64 d])
  clear h
  by_cases h1 : a < 0 ∨ b < 0
  · rw [decide_eq_true h1]
    have hm : min a b < 0 := by omega
    have HM := Lib.hid h1
    clear h1
    go_enter Try.func31, Try.ntmps31
    go_upto_region 1 with (fail)
    generalize w.alloc (.cells #[.int .i64 a, .int .i64 b, .int .i64 d] 30) = w2 at *
    generalize w.heap.size = gx at HX ⊢
    have f1 := H.out.b1.cell 0
    have f3 := H.out.b3.cell 0
    have x0 := HX.out.cell 0
    have x1 := HX.out.cell 1
    simp only [edV, List.getElem?_cons_zero, List.getElem?_cons_succ] at f1 f3 x0 x1
    go_wp2_with fail
    go_ret
    exact ⟨ret_bool (by simp), K0.out⟩
  · rw [decide_eq_false h1]
    have hm : ¬ min a b < 0 := by omega
    by_cases h2 : m ≤ a
    · go_enter Try.func31, Try.ntmps31
      go_upto_region 1 with (fail)
      generalize w.alloc (.cells #[.int .i64 a, .int .i64 b, .int .i64 d] 30) = w2 at *
      generalize w.heap.size = gx at HX ⊢
      have f1 := H.out.b1.cell 0
      have f3 := H.out.b3.cell 0
      have x0 := HX.out.cell 0
      have x1 := HX.out.cell 1
      simp only [edV, List.getElem?_cons_zero, List.getElem?_cons_succ] at f1 f3 x0 x1
      go_wp2_with fail
      go_ret
      exact ⟨ret_bool (by simp [h2]), K0.out⟩
    · by_cases h3 : n ≤ b
      · go_enter Try.func31, Try.ntmps31
        go_upto_region 1 with (fail)
        generalize w.alloc (.cells #[.int .i64 a, .int .i64 b, .int .i64 d] 30) = w2 at *
        generalize w.heap.size = gx at HX ⊢
        have f1 := H.out.b1.cell 0
        have f3 := H.out.b3.cell 0
        have x0 := HX.out.cell 0
        have x1 := HX.out.cell 1
        simp only [edV, List.getElem?_cons_zero, List.getElem?_cons_succ] at f1 f3 x0 x1
        go_wp2_with fail
        go_ret
        exact ⟨ret_bool (by simp [h2, h3]), K0.out⟩
      · go_enter Try.func31, Try.ntmps31
        go_upto_region 1 with (fail)
        generalize w.alloc (.cells #[.int .i64 a, .int .i64 b, .int .i64 d] 30) = w2 at *
        generalize w.heap.size = gx at HX ⊢
        have f1 := H.out.b1.cell 0
        have f3 := H.out.b3.cell 0
        have x0 := HX.out.cell 0
        have x1 := HX.out.cell 1
        simp only [edV, List.getElem?_cons_zero, List.getElem?_cons_succ] at f1 f3 x0 x1
        go_wp2_with fail
        go_ret
        exact ⟨ret_bool (by simp [h2, h3]), K0.out⟩
theorem indexTB (g1 g3 : Nat) (m n : Int) (l : List Ed) (A : Option Addr) (c : Nat) (w : World) (hl : l.length ≤ maxLen) (hr : Reads w A (l.flatMap edV)) (ho : MkAt w g1 g3 m n) :
    Calls Try.prog 84 #[.slice A l.length c, .func (.func 31) #[] #[.pointer (some ⟨g1, 0, none⟩), .pointer (some ⟨g3, 0, none⟩)]] w fun e w' => ∃ r : Int, e = .returned (.int .i64 r) ∧ decide (0 ≤ r) = l.any (badT m n) ∧ Kept [] w w' := by
  unfold maxLen at hl
  have HR := Lib.hid hr
  clear hr
  have HO := Lib.hid ho
  clear ho
  go_enter Try.func84, Try.ntmps84
  go_wp2_with fail
  go_loopw [8] (fun i wr => ∃ k : Nat, k ≤ l.length ∧ i = .int .i64 k ∧ Hid (∀ j (hj : j < l.length), j < k → (badT m n) l[j] = false) ∧ Hid (Kept [] w wr)) (fun i _ => l.length - (intOf i).toNat)
  case atStart => exact ⟨0, Nat.zero_le _, rfl, Lib.hid (fun j _ h => absurd h (Nat.not_lt_zero _)), Lib.hid (Kept.refl _ _)⟩
  case round =>
    obtain ⟨k, hk, rfl, HN, KW⟩ := hrel
    by_cases hlt : k < l.length
    · obtain ⟨b, off, rfl, hbl, h0, h1, h2⟩ := edge_at (HR.out.kept0 KW.out) hlt
      by_cases hb : (badT m n) l[k] = true
      · have HB := Lib.hid hb
        clear hb
        go_wp2_with fail
        refine (badT_any l[k] g1 g3 m n _ (HO.out.kept0 KW.out)).mono ?_
        rintro e w1 ⟨rfl, hk1⟩
        rw [HB.out]
        have KW := Lib.hid (KW.out.trans hk1)
        clear hk1 h0 h1 h2
        go_wp2_with fail
        go_ret
        exact ⟨_, rfl, by rw [any_true hlt HB.out]; simp, KW.out⟩
      · have HB := Lib.hid (Bool.eq_false_iff.2 hb)
        clear hb
        go_wp2_with fail
        refine (badT_any l[k] g1 g3 m n _ (HO.out.kept0 KW.out)).mono ?_
        rintro e w1 ⟨rfl, hk1⟩
        rw [HB.out]
        have KW := Lib.hid (KW.out.trans hk1)
        clear hk1 h0 h1 h2
        go_wp2_with fail
        go_roundw
        case rel =>
          refine ⟨k + 1, by omega, by go_num, Lib.hid (fun j hj hjk => ?_), KW⟩
          rcases Nat.lt_succ_iff_lt_or_eq.1 hjk with h | rfl
          · exact HN.out j hj h
          · exact HB.out
        case measure => simp [intOf]; omega
    · go_wp2_with fail
      go_ret
      exact ⟨_, rfl, by rw [any_false (fun j hj => HN.out j hj (by omega))]; simp, KW.out⟩
theorem containsTB (g1 g3 : Nat) (m n : Int) (l : List Ed) (A : Option Addr) (c : Nat) (w : World) (hl : l.length ≤ maxLen) (hr : Reads w A (l.flatMap edV)) (ho : MkAt w g1 g3 m n) :
    Calls Try.prog 30 #[.slice A l.length c, .func (.func 31) #[] #[.pointer (some ⟨g1, 0, none⟩), .pointer (some ⟨g3, 0, none⟩)]] w fun e w' => e = .returned (.bool (l.any (badT m n))) ∧ Kept [] w w' := by
  have HR := Lib.hid hr
  clear hr
  have HO := Lib.hid ho
  clear ho
  go_enter Try.func30, Try.ntmps30
  go_wp2_with fail
  refine (indexTB g1 g3 m n l A c _ hl HR.out HO.out).mono ?_
  rintro e w1 ⟨r, rfl, hr, hk⟩
  have HE := Lib.hid hr
  clear hr
  go_wp2_with fail
  go_ret
  exact ⟨ret_bool HE.out, hk⟩
end Go.Proofs.Ytibjpjpbmkdddaa
