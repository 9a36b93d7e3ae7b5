/- flags.each hands back an iterator over a set's places. Conditions: a set of fewer than 61 places. -/
import Derived.Test.YtblfingmdipopaaGreatM23
import Derived.RangeFuncNested
import Derived.RangeFuncBound
import Derived.RangeFuncCalls
import Derived.RangeFuncLeaves
import Derived.Shelf.Abstract
import Derived.OwnWalkIn
import Derived.TacticsInMore
import Derived.LoopNIn
import Derived.LoopIn
namespace Go.Proofs.YtblfingmdipopaaGreat
set_option linter.unusedSimpArgs false
set_option linter.unusedVariables false
open Go.ChangeShapes Go.WideShapes Go.ChangeAt Go.RowKit
open Go.RowKit (wrap32 wrap64)
set_option maxHeartbeats 8000000
open Go.Shelf
attribute [local go_sem] Oper.semAt_some
/-- What yield is handed. -/
abbrev encN (x : Nat) : Array Value := #[.int .i64 (x : Int)]
theorem kept_below {n₀ : Nat} {w w' : World} (h : n₀ = w.heap.size) (hb : Below n₀ w w') : Kept [] w w' := by
  subst h
  exact Kept.of_below hb []
/-- The places of a set below j. -/
def bitsL (b j : Nat) : List Nat := (List.range j).filter (fun i => b.testBit i)
theorem bitsL_yes {b j : Nat} (h : b.testBit j = true) : bitsL b (j + 1) = bitsL b j ++ [j] := by simp [bitsL, List.range_succ, List.filter_append, h]
theorem bitsL_no {b j : Nat} (h : b.testBit j = false) : bitsL b (j + 1) = bitsL b j := by simp [bitsL, List.range_succ, List.filter_append, h]
theorem testBit_high {b j i : Nat} (h : b / 2 ^ j = 0) (hi : j ≤ i) : b.testBit i = false := by
  have h1 : b < 2 ^ j := by
    rcases Nat.lt_or_ge b (2 ^ j) with h' | h'
    · exact h'
    · have := Nat.div_pos h' (Nat.two_pow_pos j)
      omega
  exact Nat.testBit_lt_two_pow (Nat.lt_of_lt_of_le h1 (Nat.pow_le_pow_right (by decide) hi))
theorem bitsL_end {b j : Nat} (h : b / 2 ^ j = 0) : ∀ k, bitsL b (j + k) = bitsL b j
  | 0 => rfl
  | k + 1 => by
    rw [← Nat.add_assoc, bitsL_no (testBit_high h (by omega))]
    exact bitsL_end h k
theorem bitsL_len (b : Nat) {j k : Nat} (h : j ≤ k) : (bitsL b j).length ≤ (bitsL b k).length := by
  obtain ⟨d, rfl⟩ := Nat.exists_eq_add_of_le h
  unfold bitsL
  rw [List.range_add, List.filter_append, List.length_append]
  omega
theorem bitsL_pre (b : Nat) {j k : Nat} (h : j ≤ k) : ∃ zs, bitsL b k = bitsL b j ++ zs := by
  obtain ⟨d, rfl⟩ := Nat.exists_eq_add_of_le h
  unfold bitsL
  rw [List.range_add, List.filter_append]
  exact ⟨_, rfl⟩
theorem and_one (b j : Nat) (hb : b < 18446744073709551616) : bits .and .u64 ((b / 2 ^ j : Nat) : Int) 1 = if b.testBit j = true then 1 else 0 := by
  have h1 := bits_and (a := b / 2 ^ j) (b := 1) (Nat.lt_of_le_of_lt (Nat.div_le_self _ _) hb) (by decide)
  refine Eq.trans h1 ?_
  rw [Nat.and_one_is_mod, Nat.testBit_eq_decide_div_mod_eq]
  by_cases h : b / 2 ^ j % 2 = 1
  · simp [h]
  · have h0 : b / 2 ^ j % 2 = 0 := by omega
    simp [h0]
set_option maxRecDepth 100000 in
theorem each1_stops (m : Nat) (hm : 1 ≤ m) (N b gF c : Nat) (A : Option Addr) (w : World) (hN : N ≤ 60) (hb : b < 2 ^ N) (hF : Blk w gF 46 [.slice A (wordsN N) c]) (hr : Reads w A (bitsV N b)) :
    SeqStopsK Fence.wide m Tryz.prog 197 #[.pointer (some ⟨gF, 0, none⟩)] encN (Below w.heap.size) (fun xs => xs = bitsL b 64) (fun ys => ∃ zs, bitsL b 64 = ys ++ zs) (bitsL b 64).length w := fun lp J Jx W hW hJ hJx hY h0 => by
  have HF := Lib.hid hF
  have HR := Lib.hid hr
  have hb64 := lt_64 hN hb
  have HB0 := Lib.hid (fun h0 : N = 0 => by
    subst h0
    have : b = 0 := by simpa using hb
    subst this
    rfl : N = 0 → bitsL b 64 = [])
  clear hF hr hb
  refine callsIn_of_wp Tryz.func197 rfl trivial ?_ rfl
  simp only [Tryz.ntmps197, List.size_toArray, List.length_cons, List.length_nil, Nat.reduceAdd, Nat.reduceSub, Array.replicate_succ, Array.replicate_zero, List.push_toArray, List.append_toArray, List.nil_append, List.cons_append]
  have k0 := kept_below rfl hW
  have y0 := (HF.out.kept k0 (by simp)).cell 0
  simp only [List.getElem?_cons_zero, List.getElem?_cons_succ] at y0
  gi_wp2
  clear y0 k0
  gi_loopw [8] (fun x wr => ∃ j : Nat, j ≤ wordsN N ∧ x = .int .i64 (j : Int) ∧ J (if j = 0 then [] else bitsL b 64) wr ∧ Below w.heap.size w wr) (fun x _ => wordsN N - (intOf x).toNat)
  case atStart => exact ⟨0, Nat.zero_le _, rfl, h0, hW⟩
  case round =>
    obtain ⟨j, hj, rfl, hJs, hB⟩ := hrel
    have hwle := wordsN_le N
    by_cases hlt : j < wordsN N
    · have hN0 : N ≠ 0 := by
        rintro rfl
        have : wordsN 0 = 0 := rfl
        omega
      have hj0 : j = 0 := by have := wordsN_le N; omega
      rw [if_pos hj0] at hJs
      have HR2 := HR.out.kept0 (kept_below rfl hB)
      unfold bitsV at HR2
      rw [if_neg hN0] at HR2
      obtain ⟨gB, oB, rfl, hgB, cB⟩ := HR2 (by simp)
      have c0 : wr.cell? ⟨gB, oB + j, none⟩ = some (vU b) := by rw [hj0]; exact cB 0 _ rfl
      have HJ0 := Lib.hid hj0
      clear cB HR2 hj0
      gi_wp2
      gi_loopw [4, 5] (fun u x wr => ∃ i : Nat, i ≤ 64 ∧ u = .int .u64 ((b / 2 ^ i : Nat) : Int) ∧ x = .int .i64 (i : Int) ∧ J (bitsL b i) wr ∧ Below w.heap.size w wr) (fun u _ _ => (intOf u).toNat)
      case atStart => exact ⟨0, by omega, by simp, by rw [HJ0.out]; rfl, hJs, hB⟩
      case round =>
        obtain ⟨i, hi, rfl, rfl, hJi, hBi⟩ := hrel
        by_cases hz : b / 2 ^ i = 0
        · have HE := Lib.hid (bitsL_end hz (64 - i))
          rw [show i + (64 - i) = 64 by omega] at HE
          have hz' : ((b / 2 ^ i : Nat) : Int) = 0 := by rw [hz]; rfl
          rw [hz']
          clear hz hz'
          gi_wp2
          go_roundw
          case rel => exact ⟨j + 1, by omega, by go_num, by rw [if_neg (by omega), HE.out]; exact hJi, hBi⟩
          case measure => simp [intOf]; omega
        · have hi64 : i < 64 := by
            rcases Nat.lt_or_ge i 64 with h' | h'
            · exact h'
            · exfalso
              apply hz
              rw [show i = 64 by omega]
              exact Nat.div_eq_of_lt hb64
          have HAN := and_one b i hb64
          have hnz : ((b / 2 ^ i : Nat) : Int) ≠ 0 := fun h => hz (Int.natCast_eq_zero.1 h)
          have HD2 := Lib.hid (show ((b / 2 ^ i : Nat) : Int) / 2 = ((b / 2 ^ (i + 1) : Nat) : Int) by
            rw [Nat.pow_succ, ← Nat.div_div_eq_div_mul]
            omega)
          have HM := Lib.hid (show b / 2 ^ (i + 1) < b / 2 ^ i by
            rw [Nat.pow_succ, ← Nat.div_div_eq_div_mul]
            exact Nat.div_lt_self (Nat.pos_of_ne_zero hz) (by decide))
          obtain ⟨q, hq⟩ : ∃ q, q = b / 2 ^ i := ⟨_, rfl⟩
          rw [← hq] at HAN hnz HD2 HM ⊢
          clear hz hq
          by_cases ht : b.testBit i = true
          · rw [if_pos ht] at HAN
            have HT := Lib.hid (bitsL_yes ht)
            have HPX := Lib.hid (show ∃ zs, bitsL b 64 = (bitsL b i ++ [i]) ++ zs by rw [← bitsL_yes ht]; exact bitsL_pre b (by omega))
            obtain ⟨fn, tmps, assign, body, hy, hRy⟩ := hY _ i wr hJi (by
              have h1 := congrArg List.length HT.out
              rw [List.length_append] at h1
              have h2 := bitsL_len b (show i + 1 ≤ 64 by omega)
              simp at h1
              omega)
            dsimp only [encN] at hy
            clear ht
            gi_wp2
            refine hRy.mono ?_
            rintro e W3 (⟨rfl, hJ3, hk3⟩ | ⟨rfl, hJx3⟩)
            · gi_wp2
              go_roundw
              case rel => exact ⟨i + 1, by omega, by rw [HD2.out], by go_num, by rw [HT.out]; exact hJ3, hBi.trans hk3⟩
              case measure => simp [intOf]; have := HM.out; have := HD2.out; omega
            · gi_wp2
              refine bodyPost_ret (results_none rfl _ _ _) rfl ?_
              exact ⟨⟨_, rfl⟩, .inr ⟨_, HPX.out, hJx3⟩⟩
          · rw [if_neg ht] at HAN
            have HT := Lib.hid (bitsL_no (show b.testBit i = false by simpa using ht))
            clear ht
            gi_wp2
            refine ⟨fun _ h => (by cases h), ?_⟩
            gi_wp2
            go_roundw
            case rel => exact ⟨i + 1, by omega, by rw [HD2.out], by go_num, by rw [HT.out]; exact hJi, hBi⟩
            case measure => simp [intOf]; have := HM.out; have := HD2.out; omega
    · have hjw : j = wordsN N := by omega
      have hJe : J (bitsL b 64) wr := by
        by_cases h0 : j = 0
        · rw [if_pos h0] at hJs
          rw [HB0.out (by
            rcases Nat.eq_zero_or_pos N with h' | h'
            · exact h'
            · exfalso
              unfold wordsN at hjw
              rw [if_neg (by omega)] at hjw
              omega)]
          exact hJs
        · rw [if_neg h0] at hJs
          exact hJs
      gi_wp2
      refine bodyPost_end (results_none rfl _ _ _) rfl ?_
      exact ⟨⟨_, rfl⟩, .inl ⟨_, rfl, hJe⟩⟩
theorem Kept.putObj {L : List Nat} {a b : World} (h : Kept L a b) {D : Nat} (hD : D ∈ L ∨ a.heap.size ≤ D) (o : Obj) : Kept L a (b.putObj D o) :=
  ⟨h.os, h.tape, h.output, by simpa [World.putObj] using h.size, fun i hi hl => (World.putObj_heap_other (by rintro rfl; rcases hD with h' | h'; exact hl h'; omega)).trans (h.block i hi hl)⟩
theorem Blk.putObj {w : World} {g D : Nat} {t : TypeId} {cs : List Value} (h : Blk w g t cs) (hD : D ≠ g) (o : Obj) : Blk (w.putObj D o) g t cs := (World.putObj_heap_other (fun e => hD e.symm)).trans h
theorem each_any (A : Option Addr) (n c : Nat) (w : World) : Calls Tryz.prog 171 #[.slice A n c] w fun e w' => ∃ g, e = .returned (.func (.func 197) #[] #[.pointer (some ⟨g, 0, none⟩)]) ∧ Blk w' g 46 [.slice A n c] ∧ Kept [] w w' := by
  have HB := Lib.hid (Blk.new w 46 [.slice A n c])
  go_enter Tryz.func171, Tryz.ntmps171
  go_wp2_with fail
  go_ret
  exact ⟨_, rfl, HB.out, (Kept.refl _ _).alloc _⟩
set_option maxRecDepth 100000 in
theorem next_none (N b k : Nat) (A : Option Addr) (c : Nat) (w : World) (hN : N ≤ 60) (hb : b < 2 ^ N) (hk : N ≤ k) (hr : Reads w A (bitsV N b)) :
    Calls Tryz.prog 138 #[.slice A (wordsN N) c, .int .i64 k] w fun e w' => e = .returned (.int .i64 (-1)) ∧ Kept [] w w' := by
  have HR := Lib.hid hr
  have HLT : Hid (∀ x ∈ bitsL b 64, x < k) := Lib.hid (fun x hx => by
    unfold bitsL at hx
    have h1 := (List.mem_filter.1 hx).2
    rcases Nat.lt_or_ge x k with h' | h'
    · exact h'
    · exfalso
      have h2 : b.testBit x = false := Nat.testBit_lt_two_pow (Nat.lt_of_lt_of_le hb (Nat.pow_le_pow_right (by decide) (by omega)))
      rw [h2] at h1
      cases h1)
  have HB := Lib.hid hb
  clear hr hb
  rw [← callsIn_wide (n := 4)]
  refine callsIn_of_wp_marks Tryz.func138 rfl trivial ?_ rfl
  simp only [Tryz.ntmps138, List.size_toArray, List.length_cons, List.length_nil, Nat.reduceAdd, Nat.reduceSub, Array.replicate_succ, Array.replicate_zero, List.push_toArray, List.append_toArray, List.nil_append, List.cons_append]
  gi_wp2
  have HA0 := Lib.hid ((Blk.new w 3 [.int .i64 (k : Int)]).alloc (.cells #[.int .i64 0] 3))
  have HA1 := Lib.hid (Blk.new1F w (.cells #[.int .i64 (k : Int)] 3) 3 [.int .i64 0])
  have K0 := Lib.hid (((Kept.refl [] w).alloc (.cells #[.int .i64 (k : Int)] 3)).alloc (.cells #[.int .i64 0] 3))
  generalize ((w.alloc (.cells #[.int .i64 (k : Int)] 3)).alloc (.cells #[.int .i64 0] 3)) = w1 at *
  refine ⟨trivial, callsIn_wide.2 ((each_any A (wordsN N) c _).mono ?_)⟩
  rintro _ w2 ⟨gF, rfl, hF, hk⟩
  have HF := Lib.hid hF
  replace HA0 := Lib.hid (HA0.out.kept hk (by simp))
  replace HA1 := Lib.hid (HA1.out.kept hk (by simp))
  replace K0 := Lib.hid (K0.out.trans hk)
  clear hF hk
  gi_wp2
  refine wpIn_rangeFunc_ownH rfl (by omega) (gf := 197) (lb := #[.pointer (some ⟨gF, 0, none⟩)]) rfl trivial (enters_of Tryz.func197 (by kernel_rfl) rfl) (each1_stops 3 (by omega) N b gF c A w2 hN HB.out HF.out (HR.out.kept0 K0.out)) belowK_t (belowK_b (by simp)) (Below.refl _ w2) (fun _ => rfl)
    (fun pre W => Below w2.heap.size w2 W)
    (fun _ pre _ => ∃ x ∈ pre, k ≤ x)
    (ownFrom_below (Nat.le_refl _) (by simp))
    (fun _ _ _ _ _ hs _ _ => hs)
    (Below.refl _ w2)
    (fun x a' W => a' = { tmps := #[.slice A (wordsN N) c, .int .i64 (k : Int), undef, .pointer (some ⟨w.heap.size, 0, none⟩), .pointer (some ⟨w.heap.size + 1, 0, none⟩), .int .i64 (x : Int), .slice A (wordsN N) c, .func (.func 197) #[] #[.pointer (some ⟨gF, 0, none⟩)], .int .i64 (x : Int), undef, undef, undef, undef], defers := [] })
    (fun x a' s X Y row hs hg hr => hs)
    ?assign ?body ?done ?stop
  case assign =>
    rintro l pre x W K hB hK
    gi_wp2
    refine hK _ _ ((KeepsOthers.refl _).from _) (Below.refl _ W) hB rfl
  case body =>
    rintro l pre x a' W hlB hlr hB rfl hlt
    have c0 := (HA0.out.kept (Kept.of_below hB []) (by simp)).cell 0
    have c1 := (HA1.out.kept (Kept.of_below hB []) (by simp)).cell 0
    have f1 := (HA1.out.kept (Kept.of_below hB []) (by simp)).frozen 0
    have l1 := (HA1.out.kept (Kept.of_below hB []) (by simp)).lt
    simp only [List.getElem?_cons_zero] at c0 c1
    by_cases hx : k ≤ x
    · gi_wp2
      exact ⟨(KeepsOthers.setCell _ _ _).from _, x, by simp, hx⟩
    · gi_wp2
      exact ⟨(KeepsOthers.refl _).from _, Below.refl _ _, hB⟩
  case done =>
    rintro D ys W hD rfl hB hK
    have c1 := (HA1.out.kept (Kept.of_below hB []) (by simp)).cell 0
    have f1 := (HA1.out.kept (Kept.of_below hB []) (by simp)).frozen 0
    simp only [List.getElem?_cons_zero] at c1
    have l1 := HA1.out.lt
    have hDs : w2.heap.size ≤ D := by first | exact hD | omega
    have hDg : D ≠ w.heap.size + 1 := by omega
    have hb := (HA1.out.kept (Kept.of_below hB []) (by simp)).set 0 (.int .i64 (-1))
    have hkk : Kept [] w (W.setCell ⟨w.heap.size + 1, 0, none⟩ (.int .i64 (-1))) := (K0.out.trans (Kept.of_below hB [])).setCell (p := ⟨w.heap.size + 1, 0, none⟩) (.inr (by simp)) _
    have hK2 := (Below.heap_setCell W ⟨w.heap.size + 1, 0, none⟩ (.int .i64 (-1)) D hDg).trans hK
    gi_wp2
    refine ⟨by simp, .inl ⟨_, _, rfl, run_takeDeferred hK2, ?_⟩⟩
    have e0 := (hb.putObj hDg (.deferred none)).cell 0
    simp only [List.set_cons_zero, List.getElem?_cons_zero] at e0
    exact ⟨_, by simp [results, Tryz.results138, go_sem, e0], rfl, hkk.putObj (.inr (Nat.le_trans K0.out.size hDs)) _⟩
  case stop =>
    rintro D c' pre W _ ⟨zs, hz⟩ ⟨x, hx, hkx⟩ _
    have := HLT.out x (by rw [hz]; simp [hx])
    omega
set_option maxRecDepth 100000 in
theorem fRight_any (N b : Nat) (A : Option Addr) (c : Nat) (w : World) (hN : N ≤ 60) (hb : b < 2 ^ N) (hr : Reads w A (bitsV N b)) :
    Calls Tryz.prog 99 #[.slice A (wordsN N) c, .int .i64 N] w fun e w' => e = .returned (.bool true) ∧ Kept [] w w' := by
  have HR := Lib.hid hr
  have HB := Lib.hid hb
  have h1 : (0 : Int) ≤ (N : Int) := by omega
  have h2 : (N : Int) ≤ 4096 := by omega
  clear hr hb
  go_enter Tryz.func99, Tryz.ntmps99
  go_wp2_with fail
  refine (fWords_any N _ hN).mono ?_
  rintro _ w2 ⟨rfl, rfl⟩
  go_wp2_with fail
  refine (next_none N b N A c _ hN HB.out (Nat.le_refl _) HR.out).mono ?_
  rintro _ w3 ⟨rfl, hk⟩
  go_wp2_with fail
  go_ret
  exact ⟨rfl, hk⟩
end Go.Proofs.YtblfingmdipopaaGreat
