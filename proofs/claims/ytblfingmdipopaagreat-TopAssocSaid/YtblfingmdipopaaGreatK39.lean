/- pull.Done: a vector of sums. Conditions: places that rise. -/
import Derived.Test.YtblfingmdipopaaGreatK38
namespace Go.Proofs.YtblfingmdipopaaGreat
set_option linter.unusedSimpArgs false
set_option linter.unusedVariables false
open Go.ChangeShapes Go.WideShapes Go.ChangeAt Go.RowKit
open Go.RowKit (wrap32 wrap64)
set_option maxHeartbeats 8000000

/-- No sum that rises is out of range. -/
theorem done1_any (x : Nat × Int) (n g : Nat) (w : World) (h : Blk w g 3 [.int .i64 n]) (hx : x.1 < n) (hn : n ≤ 4096) :
    Calls Tryz.prog 62 #[.agg (smV x).toArray, .pointer (some ⟨g, 0, none⟩)] w fun e w' => e = .returned (.bool false) ∧ Kept [] w w' := by
  have k0 := (Kept.refl [] w).alloc (.cells (smV x).toArray 138)
  have HX := Lib.hid (Blk.new w 138 (smV x))
  have c0 := HX.out.cell 0
  have c1 := (h.kept k0 (by simp)).cell 0
  simp only [smV, List.getElem?_cons_zero] at c0 c1
  have h1 : ¬ (n : Int) ≤ (x.1 : Int) := by omega
  have h2 : ¬ (x.1 : Int) < 0 := by omega
  go_enter Tryz.func62, Tryz.ntmps62
  go_wp2_with fail
  go_ret
  exact ⟨rfl, k0⟩
theorem sum_at {w : World} {A : Option Addr} {S : List (Nat × Int)} (h : Reads w A (S.flatMap smV)) {k : Nat} (hk : k < S.length) :
    ∃ b off, A = some ⟨b, off, none⟩ ∧ b < w.heap.size ∧ w.cell? ⟨b, off + k * 3, none⟩ = some (.int .i64 (S[k].1 : Int)) ∧ w.cell? ⟨b, off + k * 3 + 1, none⟩ = some (.int .i64 (wOf S[k].2).1) ∧ w.cell? ⟨b, off + k * 3 + 2, none⟩ = some (.int .u64 ((wOf S[k].2).2 : Int)) := by
  obtain ⟨b, off, e, hb, hc⟩ := rec_cell (m := 3) (fun _ _ => rfl) (by decide) h hk
  exact ⟨b, off, e, hb, hc 0 _ rfl, hc 1 _ rfl, hc 2 _ rfl⟩
theorem indexS_any (S : List (Nat × Int)) (n g : Nat) (A : Option Addr) (c : Nat) (w : World) (hl : S.length ≤ maxLen) (hn : n ≤ 4096) (hs : ∀ x ∈ S, x.1 < n) (h : Blk w g 3 [.int .i64 n]) (hr : Reads w A (S.flatMap smV)) :
    Calls Tryz.prog 101 #[.slice A S.length c, .func (.func 62) #[] #[.pointer (some ⟨g, 0, none⟩)]] w fun e w' => e = .returned (.int .i64 (-1)) ∧ Kept [] w w' := by
  unfold maxLen at hl
  have HR := Lib.hid hr
  have HG := Lib.hid h
  have HS := Lib.hid hs
  have HN := Lib.hid hn
  clear hr h hs hn
  go_enter Tryz.func101, Tryz.ntmps101
  go_wp2_with fail
  go_loopw [8] (fun i wr => ∃ k : Nat, k ≤ S.length ∧ i = .int .i64 k ∧ Hid (Kept [] w wr)) (fun i _ => S.length - (intOf i).toNat)
  case atStart => exact ⟨0, Nat.zero_le _, rfl, Lib.hid (Kept.refl _ _)⟩
  case round =>
    obtain ⟨k, hk, rfl, KW⟩ := hrel
    by_cases hlt : k < S.length
    · obtain ⟨b, off, rfl, hbl, h0, h1, h2⟩ := sum_at (HR.out.kept0 KW.out) hlt
      go_wp2_with fail
      refine (done1_any S[k] n g _ (HG.out.kept KW.out (by simp)) (HS.out _ (List.getElem_mem hlt)) HN.out).mono ?_
      rintro e w1 ⟨rfl, hk1⟩
      have KW := Lib.hid (KW.out.trans hk1)
      clear hk1 h0 h1 h2
      go_wp2_with fail
      go_roundw
      case rel => exact ⟨k + 1, by omega, by go_num, KW⟩
      case measure => simp [intOf]; omega
    · go_wp2_with fail
      go_ret
      exact ⟨rfl, KW.out⟩
theorem containsS_any (S : List (Nat × Int)) (n g : Nat) (A : Option Addr) (c : Nat) (w : World) (hl : S.length ≤ maxLen) (hn : n ≤ 4096) (hs : ∀ x ∈ S, x.1 < n) (h : Blk w g 3 [.int .i64 n]) (hr : Reads w A (S.flatMap smV)) :
    Calls Tryz.prog 61 #[.slice A S.length c, .func (.func 62) #[] #[.pointer (some ⟨g, 0, none⟩)]] w fun e w' => e = .returned (.bool false) ∧ Kept [] w w' := by
  have HI := Lib.hid (indexS_any S n g A c w hl hn hs h hr)
  clear hl hn hs h hr
  go_enter Tryz.func61, Tryz.ntmps61
  go_wp2_with fail
  refine HI.out.mono ?_
  rintro _ w1 ⟨rfl, hk⟩
  have HK := Lib.hid hk
  clear hk
  go_wp2_with fail
  go_ret
  exact ⟨rfl, HK.out⟩
/-- What the sums are: their rows are asked, and come to them. -/
theorem sumsR_mem {r : Int} {b : Nat} {V : List Int} {l : List Ed} {is : List Nat} {x : Nat × Int} (h : x ∈ sumsR r b V l is) : x.1 ∈ is ∧ rowR r b V (rowL l x.1) = some x.2 := by
  obtain ⟨i, hi, hx⟩ := List.mem_filterMap.1 h
  obtain ⟨s, hs, rfl⟩ := Option.map_eq_some_iff.1 hx
  exact ⟨hi, hs⟩
/-- The sums rise as the rows do. -/
theorem sumsR_rise (r : Int) (b : Nat) (V : List Int) (l : List Ed) : ∀ (is : List Nat), is.Pairwise (· < ·) → (sumsR r b V l is).Pairwise (fun x y => x.1 < y.1)
  | [], _ => List.Pairwise.nil
  | i :: is, h => by
    have h2 := List.pairwise_cons.1 h
    have ih := sumsR_rise r b V l is h2.2
    rcases ho : rowR r b V (rowL l i) with _ | s
    · have e : sumsR r b V l (i :: is) = sumsR r b V l is := by simp [sumsR, ho]
      rw [e]
      exact ih
    · have e : sumsR r b V l (i :: is) = (i, s) :: sumsR r b V l is := by simp [sumsR, ho]
      rw [e]
      exact List.Pairwise.cons (fun y hy => h2.1 _ (sumsR_mem hy).1) ih
theorem askN_rise (n : Nat) (q : Nat → Bool) (oth : Bool) : (askN n q oth).Pairwise (· < ·) := List.Pairwise.filter _ List.pairwise_lt_range
theorem askN_lt {n : Nat} {q : Nat → Bool} {oth : Bool} {i : Nat} (h : i ∈ askN n q oth) : i < n := List.mem_range.1 (List.mem_filter.1 h).1
/-- The items of sums: those that are not zero. -/
def itemsR (r : Int) (S : List (Nat × Int)) : List Ed := (S.filter (fun x => x.2 != zeroV r)).map (fun x => ((0 : Int), (x.1 : Int), x.2))
end Go.Proofs.YtblfingmdipopaaGreat
