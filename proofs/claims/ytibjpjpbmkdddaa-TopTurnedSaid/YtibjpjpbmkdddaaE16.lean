/- What is wrong with a graph. -/
import Derived.Test.YtibjpjpbmkdddaaE11
import Derived.Test.YtibjpjpbmkdddaaLib2
import Derived.Deep.CutBlock
namespace Go.Proofs.Ytibjpjpbmkdddaa
set_option linter.unusedSimpArgs false
set_option linter.unusedVariables false
open Go.ChangeShapes Go.WideShapes Go.ChangeAt Go.RowKit
open Go.RowKit (wrap32 wrap64)
set_option maxHeartbeats 4000000

def outV (n v : Int) : Bool := decide (v < 0) || decide (n ≤ v)
def outE (n : Int) (e : Ed) : Bool := outV n e.1 || outV n e.2.1
def badW (e : Ed) : Bool := decide (e.2.2 < 0) || decide (2147483647 < e.2.2)
def rightP (n : Int) (l : List Ed) : Int := if n < 0 then 3 else if 4096 < n then 5 else if 65536 < l.length then 5 else if l.any (outE n) = true then 3 else if l.any badW = true then 7 else 0
abbrev grV (n : Int) (A : Option Addr) (k c : Nat) : List Value := [.int .i64 n, .slice A k c]
theorem outV_any (n v : Int) (g : Nat) (A : Option Addr) (k c : Nat) (w : World) (hb : Blk w g 24 (grV n A k c)) :
    Calls Try.prog 98 #[.int .i64 v, .pointer (some ⟨g, 0, none⟩)] w fun e w' => e = .returned (.bool (outV n v)) ∧ w' = w := by
  have y0 := hb.cell 0
  simp only [List.getElem?_cons_zero] at y0
  clear hb
  unfold outV
  by_cases h1 : v < 0
  · go_enter Try.func98, Try.ntmps98
    go_wp2
    go_ret
    exact ⟨ret_bool (by simp [h1]), rfl⟩
  · go_enter Try.func98, Try.ntmps98
    go_wp2
    go_ret
    exact ⟨ret_bool (by simp; omega), rfl⟩
theorem badW_any (e : Ed) (w : World) : Calls Try.prog 100 #[.agg #[.int .i64 e.1, .int .i64 e.2.1, .int .i64 e.2.2]] w fun x w' => x = .returned (.bool (badW e)) ∧ Kept [] w w' := by
  obtain ⟨a, b, c⟩ := e
  unfold badW
  dsimp only
  by_cases h1 : c < 0
  · go_enter Try.func100, Try.ntmps100
    go_wp2
    go_ret
    exact ⟨ret_bool (by simp [h1]), (Kept.refl _ _).alloc _⟩
  · go_enter Try.func100, Try.ntmps100
    go_wp2
    go_ret
    exact ⟨ret_bool (by simp; omega), (Kept.refl _ _).alloc _⟩
/-- What the closure of Right finds: the graph, and the variable that holds the test of one end. -/
structure OutAt (w : World) (g1 g3 : Nat) (n : Int) (A : Option Addr) (k c : Nat) : Prop where
  b1 : Blk w g1 24 (grV n A k c)
  b3 : Blk w g3 147 [.func (.func 98) #[] #[.pointer (some ⟨g1, 0, none⟩)]]
theorem OutAt.kept0 {w w' : World} {g1 g3 : Nat} {n : Int} {A : Option Addr} {k c : Nat} (h : OutAt w g1 g3 n A k c) (hk : Kept [] w w') : OutAt w' g1 g3 n A k c := ⟨h.b1.kept hk (by simp), h.b3.kept hk (by simp)⟩
set_option maxRecDepth 100000 in
theorem outE_any (e : Ed) (g1 g3 : Nat) (n : Int) (A : Option Addr) (k c : Nat) (w : World) (h : OutAt w g1 g3 n A k c) :
    Calls Try.prog 99 #[.agg #[.int .i64 e.1, .int .i64 e.2.1, .int .i64 e.2.2], .pointer (some ⟨g3, 0, none⟩)] w fun x w' => x = .returned (.bool (outE n e)) ∧ Kept [] w w' := by
  obtain ⟨a, b, d⟩ := e
  unfold outE
  dsimp only
  have H := Lib.hid (h.kept0 ((Kept.refl [] w).alloc (.cells #[.int .i64 a, .int .i64 b, .int .i64 d] 28)))
  have K0 := Lib.hid ((Kept.refl [] w).alloc (.cells #[.int .i64 a, .int .i64 b, .int .i64 d] 28))
  have HX := Lib.hid (Blk.new w 28 [.int .i64 a, .int .i64 b, .int .i64 d])
  clear h
  by_cases h1 : outV n a = true
  · rw [h1]
    have HB := Lib.hid h1
    clear h1
    go_enter Try.func99, Try.ntmps99
    go_upto_region 1 with (fail)
    generalize w.alloc (.cells #[.int .i64 a, .int .i64 b, .int .i64 d] 28) = w2 at *
    generalize w.heap.size = gx at HX ⊢
    have f3 := H.out.b3.cell 0
    have x0 := HX.out.cell 0
    have x1 := HX.out.cell 1
    simp only [edV, List.getElem?_cons_zero, List.getElem?_cons_succ] at f3 x0 x1
    go_wp2_with fail
    refine (outV_any n a g1 A k c _ H.out.b1).mono ?_
    rintro _ w3 ⟨rfl, rfl⟩
    rw [HB.out]
    go_wp2_with fail
    go_ret
    exact ⟨ret_bool (by simp), K0.out⟩
  · replace h1 : outV n a = false := by simpa using h1
    rw [h1]
    have HB := Lib.hid h1
    clear h1
    go_enter Try.func99, Try.ntmps99
    go_upto_region 1 with (fail)
    generalize w.alloc (.cells #[.int .i64 a, .int .i64 b, .int .i64 d] 28) = w2 at *
    generalize w.heap.size = gx at HX ⊢
    have f3 := H.out.b3.cell 0
    have x0 := HX.out.cell 0
    have x1 := HX.out.cell 1
    simp only [edV, List.getElem?_cons_zero, List.getElem?_cons_succ] at f3 x0 x1
    go_wp2_with fail
    refine (outV_any n a g1 A k c _ H.out.b1).mono ?_
    rintro _ w3 ⟨rfl, rfl⟩
    rw [HB.out]
    go_wp2_with fail
    refine (outV_any n b g1 A k c _ H.out.b1).mono ?_
    rintro _ w4 ⟨rfl, rfl⟩
    go_wp2_with fail
    go_ret
    exact ⟨ret_bool (by simp), K0.out⟩

theorem indexEW (l : List Ed) (A : Option Addr) (c : Nat) (w : World) (hl : l.length ≤ maxLen) (hr : Reads w A (l.flatMap edV)) :
    Calls Try.prog 110 #[.slice A l.length c, .func (.func 100) #[] #[]] w fun e w' => ∃ r : Int, e = .returned (.int .i64 r) ∧ decide (0 ≤ r) = l.any badW ∧ Kept [] w w' := by
  unfold maxLen at hl
  have HR := Lib.hid hr
  clear hr
  go_enter Try.func110, Try.ntmps110
  go_wp2_with fail
  go_loopw [8] (fun i wr => ∃ k : Nat, k ≤ l.length ∧ i = .int .i64 k ∧ Hid (∀ j (hj : j < l.length), j < k → badW l[j] = false) ∧ Hid (Kept [] w wr)) (fun i _ => l.length - (intOf i).toNat)
  case atStart => exact ⟨0, Nat.zero_le _, rfl, Lib.hid (fun j _ h => absurd h (Nat.not_lt_zero _)), Lib.hid (Kept.refl _ _)⟩
  case round =>
    obtain ⟨k, hk, rfl, HN, KW⟩ := hrel
    by_cases hlt : k < l.length
    · obtain ⟨b, off, rfl, hbl, h0, h1, h2⟩ := edge_at (HR.out.kept0 KW.out) hlt
      by_cases hb : badW l[k] = true
      · have HB := Lib.hid hb
        clear hb
        go_wp2_with fail
        refine (badW_any l[k] _).mono ?_
        rintro e w1 ⟨rfl, hk1⟩
        rw [HB.out]
        have KW := Lib.hid (KW.out.trans hk1)
        clear hk1 h0 h1 h2
        go_wp2_with fail
        go_ret
        exact ⟨_, rfl, by rw [any_true hlt HB.out]; simp, KW.out⟩
      · have HB := Lib.hid (Bool.eq_false_iff.2 hb)
        clear hb
        go_wp2_with fail
        refine (badW_any l[k] _).mono ?_
        rintro e w1 ⟨rfl, hk1⟩
        rw [HB.out]
        have KW := Lib.hid (KW.out.trans hk1)
        clear hk1 h0 h1 h2
        go_wp2_with fail
        go_roundw
        case rel =>
          refine ⟨k + 1, by omega, by go_num, Lib.hid (fun j hj hjk => ?_), KW⟩
          rcases Nat.lt_succ_iff_lt_or_eq.1 hjk with h | rfl
          · exact HN.out j hj h
          · exact HB.out
        case measure => simp [intOf]; omega
    · go_wp2_with fail
      go_ret
      exact ⟨_, rfl, by rw [any_false (fun j hj => HN.out j hj (by omega))]; simp, KW.out⟩
theorem containsEW (l : List Ed) (A : Option Addr) (c : Nat) (w : World) (hl : l.length ≤ maxLen) (hr : Reads w A (l.flatMap edV)) :
    Calls Try.prog 68 #[.slice A l.length c, .func (.func 100) #[] #[]] w fun e w' => e = .returned (.bool (l.any badW)) ∧ Kept [] w w' := by
  have HR := Lib.hid hr
  clear hr
  go_enter Try.func68, Try.ntmps68
  go_wp2_with fail
  refine (indexEW l A c _ hl HR.out).mono ?_
  rintro e w1 ⟨r, rfl, hr, hk⟩
  have HE := Lib.hid hr
  clear hr
  go_wp2_with fail
  go_ret
  exact ⟨ret_bool HE.out, hk⟩

theorem indexEO (g1 g3 : Nat) (n : Int) (A0 : Option Addr) (k0 c0 : Nat) (l : List Ed) (A : Option Addr) (c : Nat) (w : World) (hl : l.length ≤ maxLen) (hr : Reads w A (l.flatMap edV)) (ho : OutAt w g1 g3 n A0 k0 c0) :
    Calls Try.prog 110 #[.slice A l.length c, .func (.func 99) #[] #[.pointer (some ⟨g3, 0, none⟩)]] w fun e w' => ∃ r : Int, e = .returned (.int .i64 r) ∧ decide (0 ≤ r) = l.any (outE n) ∧ Kept [] w w' := by
  unfold maxLen at hl
  have HR := Lib.hid hr
  clear hr
  have HO := Lib.hid ho
  clear ho
  go_enter Try.func110, Try.ntmps110
  go_wp2_with fail
  go_loopw [8] (fun i wr => ∃ k : Nat, k ≤ l.length ∧ i = .int .i64 k ∧ Hid (∀ j (hj : j < l.length), j < k → (outE n) l[j] = false) ∧ Hid (Kept [] w wr)) (fun i _ => l.length - (intOf i).toNat)
  case atStart => exact ⟨0, Nat.zero_le _, rfl, Lib.hid (fun j _ h => absurd h (Nat.not_lt_zero _)), Lib.hid (Kept.refl _ _)⟩
  case round =>
    obtain ⟨k, hk, rfl, HN, KW⟩ := hrel
    by_cases hlt : k < l.length
    · obtain ⟨b, off, rfl, hbl, h0, h1, h2⟩ := edge_at (HR.out.kept0 KW.out) hlt
      by_cases hb : (outE n) l[k] = true
      · have HB := Lib.hid hb
        clear hb
        go_wp2_with fail
        refine (outE_any l[k] g1 g3 n A0 k0 c0 _ (HO.out.kept0 KW.out)).mono ?_
        rintro e w1 ⟨rfl, hk1⟩
        rw [HB.out]
        have KW := Lib.hid (KW.out.trans hk1)
        clear hk1 h0 h1 h2
        go_wp2_with fail
        go_ret
        exact ⟨_, rfl, by rw [any_true hlt HB.out]; simp, KW.out⟩
      · have HB := Lib.hid (Bool.eq_false_iff.2 hb)
        clear hb
        go_wp2_with fail
        refine (outE_any l[k] g1 g3 n A0 k0 c0 _ (HO.out.kept0 KW.out)).mono ?_
        rintro e w1 ⟨rfl, hk1⟩
        rw [HB.out]
        have KW := Lib.hid (KW.out.trans hk1)
        clear hk1 h0 h1 h2
        go_wp2_with fail
        go_roundw
        case rel =>
          refine ⟨k + 1, by omega, by go_num, Lib.hid (fun j hj hjk => ?_), KW⟩
          rcases Nat.lt_succ_iff_lt_or_eq.1 hjk with h | rfl
          · exact HN.out j hj h
          · exact HB.out
        case measure => simp [intOf]; omega
    · go_wp2_with fail
      go_ret
      exact ⟨_, rfl, by rw [any_false (fun j hj => HN.out j hj (by omega))]; simp, KW.out⟩
theorem containsEO (g1 g3 : Nat) (n : Int) (A0 : Option Addr) (k0 c0 : Nat) (l : List Ed) (A : Option Addr) (c : Nat) (w : World) (hl : l.length ≤ maxLen) (hr : Reads w A (l.flatMap edV)) (ho : OutAt w g1 g3 n A0 k0 c0) :
    Calls Try.prog 68 #[.slice A l.length c, .func (.func 99) #[] #[.pointer (some ⟨g3, 0, none⟩)]] w fun e w' => e = .returned (.bool (l.any (outE n))) ∧ Kept [] w w' := by
  have HR := Lib.hid hr
  clear hr
  have HO := Lib.hid ho
  clear ho
  go_enter Try.func68, Try.ntmps68
  go_wp2_with fail
  refine (indexEO g1 g3 n A0 k0 c0 l A c _ hl HR.out HO.out).mono ?_
  rintro e w1 ⟨r, rfl, hr, hk⟩
  have HE := Lib.hid hr
  clear hr
  go_wp2_with fail
  go_ret
  exact ⟨ret_bool HE.out, hk⟩
end Go.Proofs.Ytibjpjpbmkdddaa
