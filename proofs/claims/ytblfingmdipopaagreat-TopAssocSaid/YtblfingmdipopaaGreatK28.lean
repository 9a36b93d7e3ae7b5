/- fretworkref09.Right, Sure, Same of vectors that can be. Conditions: none but those of the lemmas. -/
import Derived.Test.YtblfingmdipopaaGreatK27
import Derived.Test.YtblfingmdipopaaGreatK22
namespace Go.Proofs.YtblfingmdipopaaGreat
set_option linter.unusedSimpArgs false
set_option linter.unusedVariables false
open Go.ChangeShapes Go.WideShapes Go.ChangeAt Go.RowKit
open Go.RowKit (wrap32 wrap64)
set_option maxHeartbeats 8000000

theorem vc_step {N : Nat} {X : List Ed} (h : VcOk N X) {j : Nat} (hj : j + 1 < X.length) : X[j].2.1 < X[j + 1].2.1 := by
  have h1 := (List.pairwise_iff_getElem.1 h.rises) j (j + 1) (by omega) hj (by omega)
  have a := (h.inn X[j] (List.getElem_mem _)).1
  have b := (h.inn X[j + 1] (List.getElem_mem _)).1
  simp [keyLt] at h1
  omega

set_option maxRecDepth 100000 in
theorem refRight9_any (N : Nat) (X : List Ed) (A : Option Addr) (c : Nat) (w : World) (hok : VcOk N X) (hr : Reads w A (X.flatMap itV)) :
    Calls Tryz.prog 63 #[.agg #[.int .i64 N, .slice A X.length c]] w fun e w' => e = .returned (.bool true) ∧ Kept [] w w' := by
  have HR := Lib.hid hr
  have HOK := Lib.hid hok
  have hn := hok.num
  have hl := hok.len
  have HX := Lib.hid (Blk.new w 35 [.int .i64 N, .slice A X.length c])
  have K0 := Lib.hid ((Kept.refl [] w).alloc (.cells #[.int .i64 N, .slice A X.length c] 35))
  clear hr hok
  go_enter Tryz.func63, Tryz.ntmps63
  go_upto_region 1 with (fail)
  generalize w.alloc (.cells #[.int .i64 N, .slice A X.length c] 35) = w1 at *
  generalize hgq : w.heap.size = g1 at HX ⊢
  clear hgq
  have y0 := HX.out.cell 0
  have y1 := HX.out.cell 1
  simp only [List.getElem?_cons_zero, List.getElem?_cons_succ] at y0 y1
  have h1 : ¬ (N : Int) < 0 := by omega
  have h2 : ¬ (4096 : Int) < (N : Int) := by omega
  go_wp2_with fail
  clear h1 h2 y0 y1
  go_loopw [3] (fun i wr => ∃ k : Nat, k ≤ X.length ∧ i = .int .i64 k ∧ Hid (Blk wr g1 35 [.int .i64 N, .slice A X.length c]) ∧ Hid (Kept [] w wr)) (fun i _ => X.length - (intOf i).toNat)
  case atStart => exact ⟨0, Nat.zero_le _, rfl, HX, K0⟩
  case round =>
    clear K0 HX
    obtain ⟨k, hk, rfl, HX, K0⟩ := hrel
    have y0 := HX.out.cell 0
    have y1 := HX.out.cell 1
    simp only [List.getElem?_cons_zero, List.getElem?_cons_succ] at y0 y1
    by_cases hlt : k < X.length
    · have hi := HOK.out.inn X[k] (List.getElem_mem _)
      by_cases hk0 : k = 0
      · subst hk0
        obtain ⟨b, off, rfl, hb, c0, _⟩ := it_at (HR.out.kept0 K0.out) hlt
        obtain ⟨q, hq⟩ : ∃ q, q = X[0].2.1 := ⟨_, rfl⟩
        rw [← hq] at c0 hi
        rw [Nat.zero_mul, Nat.add_zero] at c0
        clear hq
        have h1 : ¬ q < 0 := by omega
        have h2 : ¬ (N : Int) ≤ q := by omega
        clear hi
        go_upto_region 6 with (fail)
        go_quiet (fail)
        go_wp2_with fail
        go_roundw
        case rel => exact ⟨1, by omega, by go_num, Lib.hid (HX.out.kept ((Kept.refl [] wr).drewN _) (by simp)), Lib.hid (K0.out.drewN _)⟩
        case measure => simp [intOf]; omega
      · obtain ⟨m, rfl⟩ : ∃ m, k = m + 1 := ⟨k - 1, by omega⟩
        have hst := vc_step HOK.out hlt
        obtain ⟨b, off, rfl, hb, c0, _⟩ := it_at (HR.out.kept0 K0.out) hlt
        obtain ⟨b', off', hq, _, p0, _⟩ := it_at (HR.out.kept0 K0.out) (show m < X.length by omega)
        injection hq with hq
        injection hq with hq1 hq2
        subst hq1 hq2
        obtain ⟨q, hq⟩ : ∃ q, q = X[m + 1].2.1 := ⟨_, rfl⟩
        obtain ⟨p, hp⟩ : ∃ p, p = X[m].2.1 := ⟨_, rfl⟩
        rw [← hq] at c0 hi hst
        rw [← hp] at p0 hst
        clear hq hp hk0
        have h1 : ¬ q < 0 := by omega
        have h2 : ¬ (N : Int) ≤ q := by omega
        have h3 : ¬ q ≤ p := by omega
        have h4 : (0 : Int) < (m : Int) + 1 := by omega
        have hwk : IntKind.i64.wrap ((m : Int) + 1 - 1) = (m : Int) := by rw [IntKind.wrap_i64]; omega
        clear hi hst
        go_upto_region 6 with (fail)
        go_quiet (fail)
        go_wp2_with fail
        go_roundw
        case rel => exact ⟨m + 1 + 1, by omega, by go_num, Lib.hid (HX.out.kept ((Kept.refl [] wr).drewN _) (by simp)), Lib.hid (K0.out.drewN _)⟩
        case measure => simp [intOf]; omega
    · obtain rfl : k = X.length := by omega
      go_wp2_with fail
      go_ret
      exact ⟨rfl, K0.out⟩

set_option maxRecDepth 100000 in
theorem refSure9_any (N : Nat) (X : List Ed) (A : Option Addr) (c : Nat) (w : World) (hok : VcOk N X) (hr : Reads w A (X.flatMap itV)) :
    Calls Tryz.prog 29 #[.agg #[.int .i64 N, .slice A X.length c]] w fun e w' => e = .returned (.agg #[.int .i64 N, .slice A X.length c]) ∧ Kept [] w w' := by
  have HR := Lib.hid hr
  have HOK := Lib.hid hok
  have HX := Lib.hid ((Blk.new w 35 [.int .i64 N, .slice A X.length c]).alloc (.cells #[.int .i64 0, .slice none 0 0] 35))
  have HZ := Lib.hid (Blk.new1F w (.cells #[.int .i64 N, .slice A X.length c] 35) 35 [.int .i64 0, .slice none 0 0])
  have K0 := Lib.hid (((Kept.refl [] w).alloc (.cells #[.int .i64 N, .slice A X.length c] 35)).alloc (.cells #[.int .i64 0, .slice none 0 0] 35))
  have HGZ := Lib.hid (show w.heap.size ≤ w.heap.size + 1 by omega)
  clear hr hok
  go_enter Tryz.func29, Tryz.ntmps29
  go_upto_region 1 with (fail)
  generalize ((w.alloc (.cells #[.int .i64 N, .slice A X.length c] 35)).alloc (.cells #[.int .i64 0, .slice none 0 0] 35)) = w1 at *
  generalize w.heap.size + 1 = gz at HZ HGZ ⊢
  generalize hgq : w.heap.size = g1 at HX ⊢
  clear hgq
  go_wp2_with (first | (refine wpList_loadBlk rfl 35 (.tmp 1) rfl g1 [.int .i64 N, .slice A X.length c] _ HX.out rfl Tryz.underlying35 rfl infoVec ?_))
  refine (refRight9_any N X A c w1 HOK.out (HR.out.kept0 K0.out)).mono ?_
  rintro _ w2 ⟨rfl, hk2⟩
  replace HX := Lib.hid (HX.out.kept hk2 (by simp))
  replace HZ := Lib.hid (HZ.out.kept hk2 (by simp))
  replace K0 := Lib.hid (K0.out.trans hk2)
  clear hk2
  go_wp2_with (first | (refine wpList_loadBlk rfl 35 (.tmp 1) rfl g1 [.int .i64 N, .slice A X.length c] _ HX.out rfl Tryz.underlying35 rfl infoVec ?_) | (refine wpList_storeBlk rfl 35 (.tmp 2) (.tmp 5) rfl gz _ [.int .i64 N, .slice A X.length c] HZ.out rfl rfl rfl infoVec (by simp [Value.oneCell']) ?_; intro w8 hb8 hk8))
  have e0 := hb8.cell 0
  have e1 := hb8.cell 1
  simp only [List.getElem?_cons_zero, List.getElem?_cons_succ] at e0 e1
  refine bodyPost_ret (v := .agg #[.int .i64 N, .slice A X.length c]) (by simp [results, Tryz.results29, go_sem, e0, e1]) rfl ?_
  exact ⟨rfl, K0.out.then hk8 (fun u hu => by simp at hu; subst hu; exact .inr HGZ.out)⟩

set_option maxRecDepth 100000 in
theorem refSame9_any (N : Nat) (X : List Ed) (A B : Option Addr) (c d : Nat) (w : World) (hl : X.length ≤ 1048576) (hr : Reads w A (X.flatMap itV)) (hs : Reads w B (X.flatMap itV)) :
    Calls Tryz.prog 13 #[.agg #[.int .i64 N, .slice A X.length c], .agg #[.int .i64 N, .slice B X.length d]] w fun e w' => e = .returned (.bool true) ∧ Kept [] w w' := by
  have HR := Lib.hid hr
  have HS := Lib.hid hs
  have HX := Lib.hid ((Blk.new w 35 [.int .i64 N, .slice A X.length c]).alloc (.cells #[.int .i64 N, .slice B X.length d] 35))
  have HY := Lib.hid (Blk.new1F w (.cells #[.int .i64 N, .slice A X.length c] 35) 35 [.int .i64 N, .slice B X.length d])
  have K0 := Lib.hid (((Kept.refl [] w).alloc (.cells #[.int .i64 N, .slice A X.length c] 35)).alloc (.cells #[.int .i64 N, .slice B X.length d] 35))
  clear hr hs
  go_enter Tryz.func13, Tryz.ntmps13
  go_upto_region 1 with (fail)
  generalize ((w.alloc (.cells #[.int .i64 N, .slice A X.length c] 35)).alloc (.cells #[.int .i64 N, .slice B X.length d] 35)) = w1 at *
  generalize w.heap.size + 1 = g2 at HY ⊢
  generalize hgq : w.heap.size = g1 at HX ⊢
  clear hgq
  have x0 := HX.out.cell 0
  have x1 := HX.out.cell 1
  simp only [List.getElem?_cons_zero, List.getElem?_cons_succ] at x0 x1
  have y0 := HY.out.cell 0
  have y1 := HY.out.cell 1
  simp only [List.getElem?_cons_zero, List.getElem?_cons_succ] at y0 y1
  go_wp2_with fail
  refine (sameItems_true X A B c d w1 hl (HR.out.kept0 K0.out) (HS.out.kept0 K0.out)).mono ?_
  rintro _ w2 ⟨rfl, hk2⟩
  go_wp2_with fail
  go_ret
  exact ⟨rfl, K0.out.trans hk2⟩
end Go.Proofs.YtblfingmdipopaaGreat

/- Sets of fewer than 64 places: words, New, set, Put, Of of fretworkref03. Conditions: places below 64. -/
namespace Go.Proofs.YtblfingmdipopaaGreat
set_option linter.unusedSimpArgs false
set_option linter.unusedVariables false
open Go.ChangeShapes Go.WideShapes Go.ChangeAt Go.RowKit
open Go.RowKit (wrap32 wrap64)
set_option maxHeartbeats 8000000

abbrev vU (b : Nat) : Value := .int .u64 (b : Int)
theorem infoU64 : Info Tryz.prog 98 (.int .u64 0) 1 8 := by unfold Info; kernel_rfl
theorem two_lt {i : Nat} (h : i < 64) : 2 ^ i < 18446744073709551616 := Nat.lt_of_lt_of_le (Nat.pow_lt_pow_right (by decide) h) (Nat.le_refl _)
theorem ofInt_nat (b : Nat) : BitVec.ofInt 64 (b : Int) = BitVec.ofNat 64 b := by simp
theorem wrap_two {i : Nat} (h : i < 64) : IntKind.u64.wrap (2 ^ i) = ((2 ^ i : Nat) : Int) := by
  rw [u64_wrap]
  have h2 := two_lt h
  have e : ((2 : Int) ^ i) = ((2 ^ i : Nat) : Int) := by simp
  rw [e]
  generalize 2 ^ i = p at *
  omega
theorem bits_or {a b : Nat} (ha : a < 18446744073709551616) (hb : b < 18446744073709551616) : bits .or .u64 (a : Int) (b : Int) = ((a ||| b : Nat) : Int) := by
  have h1 : a ||| b < 2 ^ 64 := Nat.or_lt_two_pow ha hb
  unfold bits
  rw [u64_wrap]
  show ((BitVec.ofInt 64 (a : Int) ||| BitVec.ofInt 64 (b : Int)).toNat : Int) % 18446744073709551616 = _
  rw [ofInt_nat, ofInt_nat, BitVec.toNat_or, BitVec.toNat_ofNat, BitVec.toNat_ofNat, Nat.mod_eq_of_lt (show a < 2 ^ 64 from ha), Nat.mod_eq_of_lt (show b < 2 ^ 64 from hb)]
  omega
theorem bits_and {a b : Nat} (ha : a < 18446744073709551616) (hb : b < 18446744073709551616) : bits .and .u64 (a : Int) (b : Int) = ((a &&& b : Nat) : Int) := by
  have h1 : a &&& b < 18446744073709551616 := Nat.lt_of_le_of_lt Nat.and_le_left ha
  unfold bits
  rw [u64_wrap]
  show ((BitVec.ofInt 64 (a : Int) &&& BitVec.ofInt 64 (b : Int)).toNat : Int) % 18446744073709551616 = _
  rw [ofInt_nat, ofInt_nat, BitVec.toNat_and, BitVec.toNat_ofNat, BitVec.toNat_ofNat, Nat.mod_eq_of_lt (show a < 2 ^ 64 from ha), Nat.mod_eq_of_lt (show b < 2 ^ 64 from hb)]
  omega
theorem and_two_zero (b i : Nat) : (b &&& 2 ^ i = 0) ↔ b.testBit i = false := by
  constructor
  · intro h
    have h2 : (b &&& 2 ^ i).testBit i = false := by rw [h]; simp
    rw [Nat.testBit_and, Nat.testBit_two_pow] at h2
    simpa using h2
  · intro h
    refine Nat.eq_of_testBit_eq (fun j => ?_)
    rw [Nat.testBit_and, Nat.testBit_two_pow, Nat.zero_testBit]
    by_cases hj : i = j
    · subst hj
      rw [h]
      rfl
    · simp [hj]
/-- How many words so many places have, and the words of a set. -/
def wordsN (N : Nat) : Nat := if N = 0 then 0 else 1
def bitsV (N b : Nat) : List Value := if N = 0 then [] else [vU b]
theorem bitsV_len (N b : Nat) : (bitsV N b).length = wordsN N := by unfold bitsV wordsN; split <;> rfl
theorem wordsN_le (N : Nat) : wordsN N ≤ 1 := by unfold wordsN; split <;> omega
/-- The set of some places. -/
def putB (b : Nat) (i : Int) : Nat := b ||| 2 ^ i.toNat
def bitsP (l : List Int) : Nat := l.foldl putB 0
theorem bitsP_snoc (l : List Int) (i : Int) : bitsP (l ++ [i]) = putB (bitsP l) i := by simp [bitsP]
theorem bitsP_lt (N : Nat) : ∀ (l : List Int), (∀ i ∈ l, 0 ≤ i ∧ i < N) → bitsP l < 2 ^ N := by
  have h : ∀ (l : List Int) (b : Nat), b < 2 ^ N → (∀ i ∈ l, 0 ≤ i ∧ i < N) → l.foldl putB b < 2 ^ N := by
    intro l
    induction l with
    | nil => intro b hb _; exact hb
    | cons i l ih =>
      intro b hb hl
      refine ih _ ?_ (fun j hj => hl j (by simp [hj]))
      have := hl i (by simp)
      exact Nat.or_lt_two_pow hb (Nat.pow_lt_pow_right (by decide) (by omega))
  exact fun l hl => h l 0 (Nat.two_pow_pos N) hl
theorem bitsP_test (j : Nat) : ∀ (l : List Int), (∀ i ∈ l, 0 ≤ i) → (bitsP l).testBit j = decide ((j : Int) ∈ l) := by
  have h : ∀ (l : List Int) (b : Nat), (∀ i ∈ l, 0 ≤ i) → (l.foldl putB b).testBit j = (b.testBit j || decide ((j : Int) ∈ l)) := by
    intro l
    induction l with
    | nil => intro b _; simp
    | cons i l ih =>
      intro b hl
      have hi := hl i (by simp)
      rw [List.foldl_cons, ih _ (fun j hj => hl j (by simp [hj]))]
      unfold putB
      rw [Nat.testBit_or, Nat.testBit_two_pow]
      have e : decide (i.toNat = j) = decide ((j : Int) = i) := by
        rw [decide_eq_decide]
        omega
      rw [e]
      simp [Bool.or_assoc]
  intro l hl
  have := h l 0 hl
  simpa [bitsP] using this
theorem lt_64 {N b : Nat} (hN : N ≤ 60) (hb : b < 2 ^ N) : b < 18446744073709551616 := Nat.lt_of_lt_of_le hb (Nat.le_trans (Nat.pow_le_pow_right (by decide) (show N ≤ 64 by omega)) (Nat.le_refl _))

theorem refWords_any (N : Nat) (hN : N ≤ 60) (w : World) : Calls Tryz.prog 102 #[.int .i64 N] w fun e w' => e = .returned (.int .i64 (wordsN N : Int)) ∧ w' = w := by
  have h0 : ¬ (4096 : Int) < (N : Int) := by omega
  by_cases h : N = 0
  · rw [show wordsN N = 0 by unfold wordsN; rw [if_pos h]]
    have h1 : (N : Int) < 1 := by omega
    clear h
    go_enter Tryz.func102, Tryz.ntmps102
    go_wp2_with fail
    go_ret
    exact ⟨rfl, rfl⟩
  · rw [show wordsN N = 1 by unfold wordsN; rw [if_neg h]]
    have h1 : ¬ (N : Int) < 1 := by omega
    have h2 : ((N : Int) + 63).tdiv 64 = 1 := by rw [Int.tdiv_eq_ediv_of_nonneg (by omega)]; omega
    have h3 : ((N : Int) + 63) / 64 = 1 := by omega
    clear h
    go_enter Tryz.func102, Tryz.ntmps102
    go_wp2_with fail
    go_ret
    exact ⟨rfl, rfl⟩
theorem refNew_any (N : Nat) (hN : N ≤ 60) (w : World) : Calls Tryz.prog 64 #[.int .i64 N] w fun e w' => ∃ v, e = .returned v ∧ w'.ownsRow w.heap.size 98 1 v (wordsN N) (bitsV N 0) ∧ Kept [] w w' := by
  have hw := wordsN_le N
  go_enter Tryz.func64, Tryz.ntmps64
  go_wp2_with fail
  refine (refWords_any N hN _).mono ?_
  rintro _ w2 ⟨rfl, rfl⟩
  go_wp2_with (first | (at_make; refine wpList_mk _ rfl _ _ _ rfl 98 _ 8 Tryz.underlying46 infoU64 rfl _ _ _ _ (wordsN N) rfl rfl (by simp) (by simp) (by omega) (by unfold maxLen; omega) ?_; intro w3 hblk hk3))
  go_ret
  refine ⟨_, rfl, own_of_blk ?_ (Nat.le_refl _) (bitsV_len N 0) (by unfold maxLen; omega), hk3⟩
  rw [show bitsV N 0 = List.replicate (wordsN N) (.int .u64 0) by unfold bitsV wordsN; split <;> rfl]
  exact hblk

set_option maxRecDepth 100000 in
theorem refSet_any (b i : Nat) (A : Option Addr) (c : Nat) (w : World) (hb : b < 18446744073709551616) (ha : i < 64) (hA : Reads w A [vU b]) :
    Calls Tryz.prog 103 #[.slice A 1 c, .int .i64 i, .bool true] w fun e w' => ∃ v, e = .returned v ∧ w'.ownsRow w.heap.size 98 1 v 1 [vU (b ||| 2 ^ i)] ∧ Kept [] w w' := by
  have HA := Lib.hid hA
  clear hA
  have HOR := Lib.hid (show bits .or .u64 (b : Int) (IntKind.u64.wrap (2 ^ i)) = ((b ||| 2 ^ i : Nat) : Int) by rw [wrap_two ha]; exact bits_or hb (two_lt ha))
  have h1 : ¬ (i : Int) < 0 := by omega
  have h2 : (i : Int).tdiv 64 = 0 := by rw [Int.tdiv_eq_ediv_of_nonneg (by omega)]; omega
  have h3 : (i : Int).tmod 64 = i := by rw [Int.tmod_eq_emod_of_nonneg (by omega)]; omega
  have h2' : (i : Int) / 64 = 0 := by omega
  have h3' : (i : Int) % 64 = i := by omega
  go_enter Tryz.func103, Tryz.ntmps103
  go_upto_region 3 with (first | (at_builtin; refine wpList_app _ rfl (.tmp 9) (.tmp 10) _ rfl 98 (.int .u64 0) 1 8 Tryz.underlying46 infoU64 rfl (by decide) w.heap.size (.slice none 0 0) 0 [] rfl (World.ownsRow_nil _ _ _ _) A 1 c [vU b] rfl rfl HA.out (by simp [Value.oneCell']) (by omega) (by unfold maxLen; omega) (by omega) ?_; intro va wa howna hka hba; have HOa := Lib.hid howna; have HKa := Lib.hid hka; clear howna hka hba))
  have HO := Lib.hid (show wa.ownsRow w.heap.size 98 1 va 1 [vU b] from HOa.out)
  have HK := Lib.hid (show Kept [] w wa from HKa.out)
  obtain ⟨g, cap, rfl, hgb, hgl, hcc, _⟩ := own_ptr HO.out (by omega)
  have HS := Lib.hid (own_setCell HO.out 0 (vU (b ||| 2 ^ i)))
  have c0 := (HS.out.2.1 _ rfl).1
  have f0 := (HS.out.2.1 _ rfl).2
  clear HOa HKa
  go_upto_region 9 with (fail)
  rw [HOR.out]
  have HO2 := Lib.hid HS.out.1
  have HK2 := Lib.hid (HK.out.then ((Kept.refl [g] wa).setCell (p := ⟨g, 0, none⟩) (.inl (by simp)) (vU (b ||| 2 ^ i))) (fun u hu => by simp at hu; subst hu; exact .inr hgb))
  clear HS c0 f0 HO HK
  generalize wa.setCell ⟨g, 0, none⟩ (vU (b ||| 2 ^ i)) = wb at *
  go_wp2_with fail
  go_ret
  exact ⟨_, rfl, HO2.out, HK2.out⟩
theorem refPut_any (b i : Nat) (A : Option Addr) (c : Nat) (w : World) (hb : b < 18446744073709551616) (ha : i < 64) (hA : Reads w A [vU b]) :
    Calls Tryz.prog 65 #[.slice A 1 c, .int .i64 i] w fun e w' => ∃ v, e = .returned v ∧ w'.ownsRow w.heap.size 98 1 v 1 [vU (b ||| 2 ^ i)] ∧ Kept [] w w' := by
  have HA := Lib.hid hA
  clear hA
  go_enter Tryz.func65, Tryz.ntmps65
  go_wp2_with fail
  refine (refSet_any b i A c _ hb ha HA.out).mono ?_
  rintro _ w2 ⟨v, rfl, ho, hk⟩
  obtain ⟨A2, c2, rfl⟩ := own_n ho
  go_wp2_with fail
  go_ret
  exact ⟨_, rfl, ho, hk⟩

set_option maxRecDepth 100000 in
theorem refOf3_any (N : Nat) (hN : N ≤ 60) (l : List Int) (hin : ∀ i ∈ l, 0 ≤ i ∧ i < N) (hl : l.length ≤ 65536) (A : Option Addr) (c : Nat) (w : World) (hA : Reads w A (l.map vI)) :
    Calls Tryz.prog 31 #[.int .i64 N, .slice A l.length c] w fun e w' => ∃ v, e = .returned v ∧ w'.ownsRow w.heap.size 98 1 v (wordsN N) (bitsV N (bitsP l)) ∧ Kept [] w w' := by
  have HA := Lib.hid hA
  have HIN := Lib.hid hin
  clear hA hin
  obtain ⟨post, hpost⟩ : ∃ post : Ending → World → Prop, post = (fun e w' => ∃ v, e = .returned v ∧ w'.ownsRow w.heap.size 98 1 v (wordsN N) (bitsV N (bitsP l)) ∧ Kept [] w w') := ⟨_, rfl⟩
  rw [← hpost]
  have HPOST := Lib.hid hpost
  clear hpost
  go_enter Tryz.func31, Tryz.ntmps31
  go_wp2_with fail
  refine (refNew_any N hN _).mono ?_
  rintro _ w2 ⟨v0, rfl, ho, hk2⟩
  have HO := Lib.hid ho
  have K0 := Lib.hid hk2
  clear ho hk2
  obtain ⟨A0, c0, rfl⟩ := own_n HO.out
  go_wp2_with fail
  go_loopw [5, 6] (fun v x wr => ∃ k : Nat, k ≤ l.length ∧ x = .int .i64 k ∧ Hid (wr.ownsRow w.heap.size 98 1 v (wordsN N) (bitsV N (bitsP (l.take k)))) ∧ Hid (Kept [] w wr)) (fun _ x _ => l.length - (intOf x).toNat)
  case atStart => exact ⟨0, Nat.zero_le _, rfl, HO, K0⟩
  case round =>
    clear HO K0
    obtain ⟨k, hk, rfl, HO, K0⟩ := hrel
    obtain ⟨v, hv⟩ : ∃ v, v = u5 := ⟨_, rfl⟩
    subst hv
    obtain ⟨A5, c5, rfl⟩ := own_n HO.out
    by_cases hlt : k < l.length
    · have HTK := Lib.hid (List.take_succ_eq_append_getElem hlt)
      have hi := HIN.out l[k] (List.getElem_mem _)
      have HBL := Lib.hid (bitsP_lt N (l.take k) (fun i hi => HIN.out i (List.mem_of_mem_take hi)))
      obtain ⟨b, off, rfl, hbl, hc⟩ := ints_at (HA.out.kept0 K0.out) hlt
      have c1 := hc k hlt
      obtain ⟨x, hx⟩ : ∃ x, x = l[k] := ⟨_, rfl⟩
      rw [← hx] at c1 HTK hi
      clear hx hc
      obtain ⟨i, rfl⟩ := Int.eq_ofNat_of_zero_le hi.1
      have hiN : i < N := by omega
      have hN0 : N ≠ 0 := by omega
      have HW1 := Lib.hid (show wordsN N = 1 by unfold wordsN; rw [if_neg hN0])
      have HBV := Lib.hid (fun q => by unfold bitsV; rw [if_neg hN0] : ∀ q, bitsV N q = [vU q])
      rw [HW1.out, HBV.out] at HO
      rw [HW1.out]
      have h1 : (i : Int) < (N : Int) := by omega
      have h2 : (i : Int) < 4096 := by omega
      clear hi hN0
      go_wp2_with fail
      refine (refPut_any (bitsP (l.take k)) i A5 c5 wr (lt_64 hN HBL.out) (by omega) (Reads.of_own HO.out)).mono ?_
      rintro _ w3 ⟨v3, rfl, ho, hk3⟩
      have HO3 := Lib.hid (own_base ho K0.out.size)
      replace K0 := Lib.hid (K0.out.trans hk3)
      clear ho hk3
      obtain ⟨A6, c6, rfl⟩ := own_n HO3.out
      go_wp2_with fail
      go_roundw
      case rel =>
        refine ⟨k + 1, by omega, by go_num, Lib.hid ?_, K0⟩
        rw [HTK.out, bitsP_snoc, HBV.out]
        exact HO3.out
      case measure => simp [intOf]; omega
    · obtain rfl : k = l.length := by omega
      rw [List.take_length] at HO
      go_wp2_with fail
      rw [HPOST.out]
      exact ⟨_, rfl, HO.out, K0.out⟩
end Go.Proofs.YtblfingmdipopaaGreat
