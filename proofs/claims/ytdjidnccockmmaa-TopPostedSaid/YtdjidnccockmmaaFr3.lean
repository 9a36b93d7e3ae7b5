/- Frames: is a vector one that can be? -/
import Derived.Test.YtdjidnccockmmaaFr2
namespace Go.Proofs.Ytdjidnccockmmaa
set_option linter.unusedSimpArgs false
set_option linter.unusedVariables false
open Go.ChangeShapes Go.WideShapes Go.ChangeAt Go.RowKit
open Go.RowKit (wrap32 wrap64)
set_option maxHeartbeats 2000000

/-- Do items rise, from behind a place on, ahead of n? -/
def risesIn (n : Int) : Int → List (Int × Int) → Bool
  | _, [] => true
  | last, x :: l => (decide (last < x.1) && decide (x.1 < n)) && risesIn n x.1 l
def vecRight (n : Int) (l : List (Int × Int)) : Bool := inR n 4096 && risesIn n (-1) l
theorem risesIn_drop (n last : Int) {l : List (Int × Int)} {k : Nat} (hk : k < l.length) :
    risesIn n last (l.drop k) = ((decide (last < l[k].1) && decide (l[k].1 < n)) && risesIn n l[k].1 (l.drop (k + 1))) := by
  rw [List.drop_eq_getElem_cons hk]; rfl

theorem indexItem_any (l : List (Int × Int)) (A : Option Addr) (c : Nat) (n : Int) (g h : Nat) (z : Value) (w0 w : World) (hl : l.length ≤ maxLen) (hr : Reads w0 A (l.flatMap readV)) (hk0 : Kept [] w0 w) (hg0 : w0.heap.size ≤ g)
    (hg : Blk w g 3 [.int .i64 (-1)]) (hh : Blk w h 56 [.int .i64 n, z]) (hgh : g ≠ h) :
    Calls Try.prog 117 #[.slice A l.length c, .func (.func 103) #[] #[.pointer (some ⟨g, 0, none⟩), .pointer (some ⟨h, 0, none⟩)]] w fun e w' => ∃ r : Int, e = .returned (.int .i64 r) ∧ decide (0 ≤ r) = (!risesIn n (-1) l) ∧ Kept [g] w w' := by
  unfold maxLen at hl
  have HR := Lib.hid hr
  have HK0 := Lib.hid hk0
  have HG := Lib.hid hg
  have HH := Lib.hid hh
  clear hr hk0 hg hh
  go_enter Try.func117, Try.ntmps117
  go_wp2_with fail
  go_loopw [8] (fun i wr => ∃ (k : Nat) (last : Int), k ≤ l.length ∧ i = .int .i64 k ∧ Hid (risesIn n (-1) l = risesIn n last (l.drop k)) ∧ Hid (Blk wr g 3 [.int .i64 last]) ∧ Hid (Kept [g] w wr)) (fun i _ => l.length - (intOf i).toNat)
  case atStart => exact ⟨0, -1, Nat.zero_le _, rfl, Lib.hid rfl, HG, Lib.hid (Kept.refl _ _)⟩
  case round =>
    obtain ⟨k, last, hk, rfl, HN, HGr, KW⟩ := hrel
    by_cases hlt : k < l.length
    · obtain ⟨b, off, rfl, hbl, h0, h1⟩ := read_at (HR.out.kept0 (HK0.out.then KW.out (by simp; exact hg0))) hlt
      have HRD := Lib.hid (risesIn_drop n last hlt)
      by_cases hb : (decide (l[k].1 ≤ last) || decide (n ≤ l[k].1)) = true
      · have HB := Lib.hid hb
        clear hb
        go_wp2_with fail
        refine (badItem_any l[k].1 l[k].2 last n g h z _ HGr.out (HH.out.kept KW.out (by simp; exact Ne.symm hgh)) hgh).mono ?_
        rintro e w1 ⟨rfl, hb1, hk1⟩
        rw [HB.out]
        have KW := Lib.hid (KW.out.trans hk1)
        clear hk1 hb1 h0 h1
        go_wp2_with fail
        go_ret
        refine ⟨_, rfl, ?_, KW.out⟩
        rw [HN.out, HRD.out]
        have hb := HB.out
        simp only [Bool.or_eq_true, decide_eq_true_eq] at hb
        have : (decide (last < l[k].1) && decide (l[k].1 < n)) = false := by
          rcases hb with h | h
          · simp; omega
          · simp; omega
        rw [this]; simp
      · have HB := Lib.hid (Bool.eq_false_iff.2 hb)
        clear hb
        go_wp2_with fail
        refine (badItem_any l[k].1 l[k].2 last n g h z _ HGr.out (HH.out.kept KW.out (by simp; exact Ne.symm hgh)) hgh).mono ?_
        rintro e w1 ⟨rfl, hb1, hk1⟩
        rw [HB.out]
        have KW := Lib.hid (KW.out.trans hk1)
        have HG1 := Lib.hid hb1
        clear hk1 hb1 h0 h1
        go_wp2_with fail
        go_roundw
        case rel =>
          refine ⟨k + 1, l[k].1, by omega, by go_num, Lib.hid ?_, HG1, KW⟩
          rw [HN.out, HRD.out]
          have hb := HB.out
          simp only [Bool.or_eq_false_iff, decide_eq_false_iff_not] at hb
          have : (decide (last < l[k].1) && decide (l[k].1 < n)) = true := by simp; omega
          rw [this]; simp
        case measure => simp [intOf]; omega
    · go_wp2_with fail
      go_ret
      refine ⟨_, rfl, ?_, KW.out⟩
      rw [HN.out, List.drop_eq_nil_of_le (by omega)]
      simp [risesIn]
theorem containsItem_any (l : List (Int × Int)) (A : Option Addr) (c : Nat) (n : Int) (g h : Nat) (z : Value) (w0 w : World) (hl : l.length ≤ maxLen) (hr : Reads w0 A (l.flatMap readV)) (hk0 : Kept [] w0 w) (hg0 : w0.heap.size ≤ g)
    (hg : Blk w g 3 [.int .i64 (-1)]) (hh : Blk w h 56 [.int .i64 n, z]) (hgh : g ≠ h) :
    Calls Try.prog 102 #[.slice A l.length c, .func (.func 103) #[] #[.pointer (some ⟨g, 0, none⟩), .pointer (some ⟨h, 0, none⟩)]] w fun e w' => e = .returned (.bool (!risesIn n (-1) l)) ∧ Kept [g] w w' := by
  have HR := Lib.hid hr
  have HK0 := Lib.hid hk0
  have HG := Lib.hid hg
  have HH := Lib.hid hh
  clear hr hk0 hg hh
  go_enter Try.func102, Try.ntmps102
  go_wp2_with fail
  refine (indexItem_any l A c n g h z w0 _ hl HR.out HK0.out hg0 HG.out HH.out hgh).mono ?_
  rintro e w1 ⟨r, rfl, hr, hk⟩
  have HE := Lib.hid hr
  clear hr
  go_wp2_with fail
  go_ret
  exact ⟨ret_bool HE.out, hk⟩

theorem spvecRight_any (n : Int) (l : List (Int × Int)) (A : Option Addr) (c : Nat) (w : World) (hl : l.length ≤ maxLen) (hr : Reads w A (l.flatMap readV)) :
    Calls Try.prog 73 #[.agg #[.int .i64 n, .slice A l.length c]] w fun e w' => e = .returned (.bool (vecRight n l)) ∧ Kept [] w w' := by
  have HR := Lib.hid hr
  clear hr
  by_cases h : inR n 4096 = true
  · have H := Lib.hid h
    clear h
    go_enter Try.func73, Try.ntmps73
    go_wp2_with fail
    refine (swithin_any n 4096 _).mono ?_
    rintro e w1 ⟨rfl, rfl⟩
    rw [H.out]
    go_wp2_with fail
    refine (containsItem_any l A c n (w.heap.size + 1) w.heap.size (.slice A l.length c) w _ hl HR.out ?_ (by simp) ?_ ?_ (by omega)).mono ?_
    · exact ((Kept.refl _ _).alloc _).alloc _
    · have hb := Blk.new (w.alloc (.cells #[.int .i64 n, .slice A l.length c] 56)) 3 [.int .i64 (-1)]
      simpa using hb
    · exact (Blk.new w 56 [.int .i64 n, .slice A l.length c]).alloc _
    rintro e w2 ⟨rfl, hk⟩
    have HK := Lib.hid hk
    clear hk
    go_wp2_with fail
    go_ret
    exact ⟨ret_bool (by simp [vecRight, H.out]), (((Kept.refl _ _).alloc _).alloc _).then HK.out (by simp)⟩
  · have H := Lib.hid (Bool.eq_false_iff.2 h)
    clear h
    go_enter Try.func73, Try.ntmps73
    go_wp2_with fail
    refine (swithin_any n 4096 _).mono ?_
    rintro e w1 ⟨rfl, rfl⟩
    rw [H.out]
    go_wp2_with fail
    go_ret
    exact ⟨ret_bool (by simp [vecRight, H.out]), (Kept.refl _ _).alloc _⟩

end Go.Proofs.Ytdjidnccockmmaa
