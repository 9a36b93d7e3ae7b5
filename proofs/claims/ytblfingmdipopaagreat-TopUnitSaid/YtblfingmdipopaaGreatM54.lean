/- 'TopUnit' returns true for every graph and vertex. Conditions: none. -/
import Derived.Test.YtblfingmdipopaaGreatM52
import Derived.Test.YtblfingmdipopaaGreatM02
import Derived.Test.YtblfingmdipopaaGreatM53
namespace Go.Proofs.YtblfingmdipopaaGreat
set_option linter.unusedSimpArgs false
set_option linter.unusedVariables false
open Go.ChangeShapes Go.WideShapes Go.ChangeAt Go.RowKit
open Go.RowKit (wrap32 wrap64)
set_option maxHeartbeats 8000000
theorem own : ownKnob Tryz.prog.godebug = none := by kernel_rfl
theorem laidOut : laidOutB Tryz.prog = true := by kernel_rfl
set_option maxRecDepth 100000 in
theorem topUnit_walk (nn v : Int) (l : List Ed) (A : Option Addr) (c : Nat) (w : World) (hA : Reads w A (l.flatMap edV)) (hl : l.length ≤ maxLen) :
    Calls Tryz.prog 4 #[.agg #[.int .i64 nn, .slice A l.length c], .int .i64 v] w fun e w' => e = .returned (.bool true) ∧ Kept [] w w' := by
  obtain ⟨n, hn⟩ : ∃ n, n = unN nn := ⟨_, rfl⟩
  obtain ⟨le, hle⟩ : ∃ le, le = unL nn l := ⟨_, rfl⟩
  obtain ⟨s, hs⟩ : ∃ s : Nat, s = (withinP v (n : Int)).toNat := ⟨_, rfl⟩
  have HUN : Hid (UnOk n le) := Lib.hid (by subst hn hle; exact un_ok nn l)
  have hsv : (s : Int) = withinP v (n : Int) := by have := withinP_ge v (n : Int); omega
  have hsn : s < n := by
    have := withinP_lt v (n : Int) (by have := HUN.out.pos; omega)
    omega
  obtain ⟨T, hT, h1, h2, h3, h4, h5, h6, h7⟩ := un_runs HUN.out hsn
  have HS := Lib.hid hsn
  have HSV := Lib.hid hsv
  have HT := Lib.hid hT
  have HE1 := Lib.hid (And.intro h1 (And.intro h2 h5))
  have HE2 := Lib.hid (And.intro h3 (And.intro h4 h6))
  have HAB := Lib.hid h7
  have HN := Lib.hid hn
  have HLE := Lib.hid hle
  have HN23 := HUN.out.num
  have HNP := HUN.out.pos
  have HGI := Lib.hid (grN_in nn)
  have H2 := Lib.hid (Blk.new w 56 [.int .i64 nn, .slice A l.length c])
  have K0 := Lib.hid ((Kept.refl [] w).alloc (.cells #[.int .i64 nn, .slice A l.length c] 56))
  have HR := Lib.hid (hA.kept0 K0.out)
  have HG := Lib.hid (Nat.le_refl w.heap.size)
  clear hA hs hsv hsn hT h1 h2 h3 h4 h5 h6 h7 hn hle
  obtain ⟨post, hpost⟩ : ∃ post : Ending → World → Prop, post = fun e w' => e = .returned (.bool true) ∧ Kept [] w w' := ⟨_, rfl⟩
  rw [← hpost]
  have HPOST := Lib.hid hpost
  clear hpost
  go_enter Tryz.func4, Tryz.ntmps4
  go_upto_region 1 with (fail)
  generalize w.alloc (.cells #[.int .i64 nn, .slice A l.length c] 56) = w1 at *
  generalize hg2 : w.heap.size = g2 at H2 HG ⊢
  have HG2 := Lib.hid hg2
  clear hg2
  go_wp2_with (first | (refine wpList_loadBlk rfl 56 (.tmp 2) rfl g2 [.int .i64 nn, .slice A l.length c] _ H2.out rfl Tryz.underlying56 rfl infoGraph ?_))
  refine (graph21_any nn l A c w1 hl HR.out).mono ?_
  rintro _ w2 ⟨v2, rfl, ho, hk⟩
  have HO := Lib.hid ho
  clear ho HR hl
  replace H2 := Lib.hid (H2.out.kept hk (by simp))
  replace K0 := Lib.hid (K0.out.trans hk)
  clear hk
  obtain ⟨A2, c2, rfl⟩ := own_n HO.out
  go_wp2_with fail
  refine (refPlain_any (grN nn) (grL nn l) A2 c2 w2 (by have := grL_len nn l; omega) (Reads.of_own HO.out) (grL_i64 nn l)).mono ?_
  rintro _ w3 ⟨v3, rfl, ho, hk⟩
  rw [show canonP (madeP oneE allE (grL nn l)) = le from HLE.out.symm] at ho
  have HO3 := Lib.hid (own_le ho K0.out.size)
  clear ho HO HLE
  replace H2 := Lib.hid (H2.out.kept hk (by simp))
  replace K0 := Lib.hid (K0.out.trans hk)
  clear hk
  obtain ⟨Ag, cg, rfl⟩ := own_n HO3.out
  go_upto_region 2 with (first | (refine wpList_storeBlk rfl 56 (.tmp 2) (.tmp 12) rfl g2 _ [.int .i64 (grN nn), .slice Ag le.length cg] H2.out rfl rfl rfl infoGraph (by simp [Value.oneCell']) ?_; intro w4 hb4 hk4))
  have f4 : KeptB w.heap.size [56] w3 w4 := (KeptB.refl _ _ w3).step (L := [g2]) hk4 (fun u hu => by simp at hu; subst hu; exact ⟨by rw [HG2.out]; exact Nat.le_refl _, _, _, _, H2.out, by simp⟩)
  have HO := Lib.hid (own_keptB HO3.out f4 (by decide))
  replace H2 := Lib.hid hb4
  replace K0 := Lib.hid (K0.out.thenB f4 (Nat.le_refl _))
  clear HO3 f4 hb4 hk4
  by_cases hz : grN nn = 0
  · have hn1 : n = 1 := by have := HN.out; unfold unN at this; rw [if_pos hz] at this; exact this
    have H2Z : Hid (Blk w4 g2 56 [.int .i64 0, .slice Ag le.length cg]) := Lib.hid (by have := H2.out; rw [hz] at this; exact this)
    clear HN HGI hz H2
    have q0 := H2Z.out.cell 0
    have qf := H2Z.out.frozen 0
    have ql := H2Z.out.lt
    simp only [List.getElem?_cons_zero] at q0
    have HN1 := Lib.hid hn1
    clear hn1
    go_upto_region 4 with (fail)
    have hk5 : Kept [g2] w4 (w4.setCell ⟨g2, 0, none⟩ (.int .i64 1)) := (Kept.refl [g2] w4).setCell (.inl (by simp)) _
    have f5 : KeptB w.heap.size [56] w4 (w4.setCell ⟨g2, 0, none⟩ (.int .i64 1)) := (KeptB.refl _ _ w4).step (L := [g2]) hk5 (fun u hu => by simp at hu; subst hu; exact ⟨by rw [HG2.out]; exact Nat.le_refl _, _, _, _, H2Z.out, by simp⟩)
    have H2 : Hid (Blk (w4.setCell ⟨g2, 0, none⟩ (.int .i64 1)) g2 56 [.int .i64 (n : Int), .slice Ag le.length cg]) := Lib.hid (by have := H2Z.out.set 0 (.int .i64 1); rw [HN1.out]; exact this)
    replace K0 := Lib.hid (K0.out.thenB f5 (Nat.le_refl _))
    have HR := Lib.hid (Reads.of_own (own_keptB HO.out f5 (by decide)))
    clear hk5 f5 q0 qf ql H2Z HO HN1
    generalize w4.setCell ⟨g2, 0, none⟩ (.int .i64 1) = w5 at *
    have q0 := H2.out.cell 0
    simp only [List.getElem?_cons_zero] at q0
    go_wp2_with fail
    refine (within_any v (n : Int) w5).mono ?_
    rintro _ _ ⟨rfl, rfl⟩
    rw [← HSV.out]
    go_wp2_with (first | (refine wpList_loadBlk rfl 56 (.tmp 2) rfl g2 [.int .i64 (n : Int), .slice Ag le.length cg] _ H2.out rfl Tryz.underlying56 rfl infoGraph ?_))
    clear q0
    refine (run_any 1 n s T le (canonP (turnL le)) Ag cg w5 ⟨by simp, HS.out, by have := HUN.out.num; omega⟩ (by have := HUN.out.len; omega) HR.out HUN.out.right HUN.out.i64 (fun e he => (HUN.out.ends e he).2) HUN.out.canon rfl HUN.out.mat (HUN.out.ok 1) HT.out HE1.out.1 HE1.out.2.1 HE1.out.2.2).mono ?_
    rintro _ w6 ⟨x, rfl, hst, hk⟩
    have HX1 := Lib.hid ((show x.at n w.heap.size _ _ from StAt.le hst K0.out.size))
    replace H2 := Lib.hid (H2.out.kept hk (by simp))
    replace HR := Lib.hid (HR.out.kept0 hk)
    replace K0 := Lib.hid (K0.out.trans hk)
    clear hst hk
    go_upto_region 6 with (first | (refine wpList_storeBlk rfl 63 (.tmp 5) (.tmp 31) rfl w6.heap.size _ (rsC n 1 T (some x)) (Blk.new w6 _ [.int .i64 0, .int .i64 0, .int .i64 0, .int .i64 0, .slice none 0 0, .slice none 0 0, .slice none 0 0]) rfl rfl (by rfl) infoResult (by simp [rsC, lastC, Value.oneCell']) ?_; intro w7 hb7 hk7))
    have hk : Kept [] w6 w7 := ((Kept.refl [] w6).alloc _).then hk7 (fun u hu => by simp at hu; subst hu; exact .inr (Nat.le_refl _))
    have HB1 := Lib.hid hb7
    replace H2 := Lib.hid (H2.out.kept hk (by simp))
    replace HR := Lib.hid (HR.out.kept0 hk)
    replace HX1 := Lib.hid (HX1.out.kept0 hk)
    replace K0 := Lib.hid (K0.out.trans hk)
    clear hk hb7 hk7
    generalize w6.heap.size = gr1 at HB1 ⊢
    have q0 := H2.out.cell 0
    simp only [List.getElem?_cons_zero, List.getElem?_cons_succ] at q0
    go_wp2_with (first | (refine wpList_loadBlk rfl 56 (.tmp 2) rfl g2 [.int .i64 (n : Int), .slice Ag le.length cg] _ H2.out rfl Tryz.underlying56 rfl infoGraph ?_))
    clear q0
    refine (run_any 2 n s T le (canonP (turnL le)) Ag cg w7 ⟨by simp, HS.out, by have := HUN.out.num; omega⟩ (by have := HUN.out.len; omega) HR.out HUN.out.right HUN.out.i64 (fun e he => (HUN.out.ends e he).2) HUN.out.canon rfl HUN.out.mat (HUN.out.ok 2) HT.out HE2.out.1 HE2.out.2.1 HE2.out.2.2).mono ?_
    rintro _ w8 ⟨y, rfl, hst, hk⟩
    have HX2 := Lib.hid ((show y.at n w.heap.size _ _ from StAt.le hst K0.out.size))
    replace H2 := Lib.hid (H2.out.kept hk (by simp))
    replace HB1 := Lib.hid (HB1.out.kept hk (by simp))
    replace HR := Lib.hid (HR.out.kept0 hk)
    replace HX1 := Lib.hid (HX1.out.kept0 hk)
    replace K0 := Lib.hid (K0.out.trans hk)
    clear hst hk
    go_upto_region 7 with (first | (refine wpList_storeBlk rfl 63 (.tmp 7) (.tmp 43) rfl w8.heap.size _ (rsC n 1 T (some y)) (Blk.new w8 _ [.int .i64 0, .int .i64 0, .int .i64 0, .int .i64 0, .slice none 0 0, .slice none 0 0, .slice none 0 0]) rfl rfl (by rfl) infoResult (by simp [rsC, lastC, Value.oneCell']) ?_; intro w9 hb9 hk9))
    have hk : Kept [] w8 w9 := ((Kept.refl [] w8).alloc _).then hk9 (fun u hu => by simp at hu; subst hu; exact .inr (Nat.le_refl _))
    have HB2 := Lib.hid hb9
    replace H2 := Lib.hid (H2.out.kept hk (by simp))
    replace HB1 := Lib.hid (HB1.out.kept hk (by simp))
    replace HR := Lib.hid (HR.out.kept0 hk)
    replace HX2 := Lib.hid (HX2.out.kept0 hk)
    replace HX1 := Lib.hid (HX1.out.kept0 hk)
    replace K0 := Lib.hid (K0.out.trans hk)
    clear hk hb9 hk9
    generalize w8.heap.size = gr2 at HB2 ⊢
    obtain ⟨Aa, ca, Ab, cb, Ao, co⟩ := x
    obtain ⟨Ba, da, Bb, db, Bo, dO⟩ := y
    have HA1 := Lib.hid (Reads.of_own HX1.out.o1)
    have HA2 := Lib.hid (Reads.of_own HX2.out.o1)
    have HP1 := Lib.hid (runS_lenA 1 n s (canonP (turnL le)) T)
    have HP2 := Lib.hid (runS_lenA 2 n s (canonP (turnL le)) T)
    clear HX1 HX2 HE1 HE2 HUN HR HS HSV
    generalize (runS 1 n s (canonP (turnL le)) T).A = P at HA1 HP1 HAB
    generalize (runS 2 n s (canonP (turnL le)) T).A = Q at HA2 HP2 HAB
    dsimp only at HA1 HA2
    have q0 := H2.out.cell 0
    have a0 := HB1.out.cell 0
    have a1 := HB1.out.cell 1
    have a4 := HB1.out.cell 4
    have b0 := HB2.out.cell 0
    have b1 := HB2.out.cell 1
    have b4 := HB2.out.cell 4
    simp only [rsC, lastC, StX.cells, stS, stC, List.getElem?_cons_zero, List.getElem?_cons_succ] at q0 a0 a1 a4 b0 b1 b4
    go_upto_region 9 with (fail)
    clear q0 a0 a1 a4 b0 b1 b4
    go_wp2_with fail
    go_loopw [9] (fun u wr => ∃ i : Nat, i ≤ n ∧ u = .int .i64 (i : Int) ∧ Hid (Kept [] w9 wr)) (fun u _ => n - (intOf u).toNat)
    case atStart => exact ⟨0, Nat.zero_le _, rfl, Lib.hid (Kept.refl _ _)⟩
    case round =>
      obtain ⟨i, hi, rfl, HK⟩ := hrel
      have q0 := (H2.out.kept HK.out (by simp)).cell 0
      simp only [List.getElem?_cons_zero] at q0
      by_cases hlt : i < n
      · have hl1 : i < P.length := by rw [HP1.out]; exact hlt
        have hl2 : i < Q.length := by rw [HP2.out]; exact hlt
        obtain ⟨bA, oA, hAq, _, hcA⟩ := ints_at HA1.out hl1
        obtain ⟨bB, oB, hBq, _, hcB⟩ := ints_at HA2.out hl2
        have cA := HK.out.cell_lt (hcA i hl1)
        have cB := HK.out.cell_lt (hcB i hl2)
        have hab := HAB.out i hlt
        rw [List.getD_eq_getElem?_getD, List.getD_eq_getElem?_getD, List.getElem?_eq_getElem hl1, List.getElem?_eq_getElem hl2] at hab
        simp only [Option.getD_some] at hab
        have a4 := (HB1.out.kept HK.out (by simp)).cell 4
        have b4 := (HB2.out.kept HK.out (by simp)).cell 4
        simp only [rsC, lastC, StX.cells, stS, stC, List.getElem?_cons_zero, List.getElem?_cons_succ] at a4 b4
        rw [hAq] at a4
        rw [hBq] at b4
        clear hcA hcB
        generalize P[i] = p at cA hab
        generalize Q[i] = r at cB hab
        go_upto_region 12 with (fail)
        rcases hab with hab | ⟨h1, h2⟩
        · subst hab
          go_quiet (fail)
          go_wp2_with fail
          go_roundw
          case rel => exact ⟨i + 1, by omega, by go_num, Lib.hid (HK.out.drewN _)⟩
          case measure => simp [intOf]; omega
        · subst h1 h2
          go_quiet (fail)
          go_wp2_with fail
          go_roundw
          case rel => exact ⟨i + 1, by omega, by go_num, Lib.hid (HK.out.drewN _)⟩
          case measure => simp [intOf]; omega
      · obtain rfl : i = n := by omega
        go_wp2_with fail
        refine (pRing_any 2 1 _ (.inr rfl)).mono ?_
        rintro _ w10 ⟨rfl, hw10⟩
        subst hw10
        rw [show ringP 2 = 1 from rfl]
        go_wp2_with fail
        rw [HPOST.out]
        exact ⟨rfl, K0.out.trans HK.out⟩
  · have hn1 : (n : Int) = grN nn := by have := HN.out; unfold unN at this; rw [if_neg hz] at this; have := HGI.out; omega
    replace H2 : Hid (Blk w4 g2 56 [.int .i64 (n : Int), .slice Ag le.length cg]) := Lib.hid (by have := H2.out; rw [← hn1] at this; exact this)
    have hz2 : ((n : Int) == 0) = false := beq_false_of_ne (by omega)
    clear HN HGI hz hn1
    have q0 := H2.out.cell 0
    simp only [List.getElem?_cons_zero] at q0
    have HR := Lib.hid (Reads.of_own HO.out)
    clear HO
    go_upto_region 4 with (fail)
    clear q0
    generalize w4 = w5 at *
    have q0 := H2.out.cell 0
    simp only [List.getElem?_cons_zero] at q0
    go_wp2_with fail
    refine (within_any v (n : Int) w5).mono ?_
    rintro _ _ ⟨rfl, rfl⟩
    rw [← HSV.out]
    go_wp2_with (first | (refine wpList_loadBlk rfl 56 (.tmp 2) rfl g2 [.int .i64 (n : Int), .slice Ag le.length cg] _ H2.out rfl Tryz.underlying56 rfl infoGraph ?_))
    clear q0
    refine (run_any 1 n s T le (canonP (turnL le)) Ag cg w5 ⟨by simp, HS.out, by have := HUN.out.num; omega⟩ (by have := HUN.out.len; omega) HR.out HUN.out.right HUN.out.i64 (fun e he => (HUN.out.ends e he).2) HUN.out.canon rfl HUN.out.mat (HUN.out.ok 1) HT.out HE1.out.1 HE1.out.2.1 HE1.out.2.2).mono ?_
    rintro _ w6 ⟨x, rfl, hst, hk⟩
    have HX1 := Lib.hid ((show x.at n w.heap.size _ _ from StAt.le hst K0.out.size))
    replace H2 := Lib.hid (H2.out.kept hk (by simp))
    replace HR := Lib.hid (HR.out.kept0 hk)
    replace K0 := Lib.hid (K0.out.trans hk)
    clear hst hk
    go_upto_region 6 with (first | (refine wpList_storeBlk rfl 63 (.tmp 5) (.tmp 31) rfl w6.heap.size _ (rsC n 1 T (some x)) (Blk.new w6 _ [.int .i64 0, .int .i64 0, .int .i64 0, .int .i64 0, .slice none 0 0, .slice none 0 0, .slice none 0 0]) rfl rfl (by rfl) infoResult (by simp [rsC, lastC, Value.oneCell']) ?_; intro w7 hb7 hk7))
    have hk : Kept [] w6 w7 := ((Kept.refl [] w6).alloc _).then hk7 (fun u hu => by simp at hu; subst hu; exact .inr (Nat.le_refl _))
    have HB1 := Lib.hid hb7
    replace H2 := Lib.hid (H2.out.kept hk (by simp))
    replace HR := Lib.hid (HR.out.kept0 hk)
    replace HX1 := Lib.hid (HX1.out.kept0 hk)
    replace K0 := Lib.hid (K0.out.trans hk)
    clear hk hb7 hk7
    generalize w6.heap.size = gr1 at HB1 ⊢
    have q0 := H2.out.cell 0
    simp only [List.getElem?_cons_zero, List.getElem?_cons_succ] at q0
    go_wp2_with (first | (refine wpList_loadBlk rfl 56 (.tmp 2) rfl g2 [.int .i64 (n : Int), .slice Ag le.length cg] _ H2.out rfl Tryz.underlying56 rfl infoGraph ?_))
    clear q0
    refine (run_any 2 n s T le (canonP (turnL le)) Ag cg w7 ⟨by simp, HS.out, by have := HUN.out.num; omega⟩ (by have := HUN.out.len; omega) HR.out HUN.out.right HUN.out.i64 (fun e he => (HUN.out.ends e he).2) HUN.out.canon rfl HUN.out.mat (HUN.out.ok 2) HT.out HE2.out.1 HE2.out.2.1 HE2.out.2.2).mono ?_
    rintro _ w8 ⟨y, rfl, hst, hk⟩
    have HX2 := Lib.hid ((show y.at n w.heap.size _ _ from StAt.le hst K0.out.size))
    replace H2 := Lib.hid (H2.out.kept hk (by simp))
    replace HB1 := Lib.hid (HB1.out.kept hk (by simp))
    replace HR := Lib.hid (HR.out.kept0 hk)
    replace HX1 := Lib.hid (HX1.out.kept0 hk)
    replace K0 := Lib.hid (K0.out.trans hk)
    clear hst hk
    go_upto_region 7 with (first | (refine wpList_storeBlk rfl 63 (.tmp 7) (.tmp 43) rfl w8.heap.size _ (rsC n 1 T (some y)) (Blk.new w8 _ [.int .i64 0, .int .i64 0, .int .i64 0, .int .i64 0, .slice none 0 0, .slice none 0 0, .slice none 0 0]) rfl rfl (by rfl) infoResult (by simp [rsC, lastC, Value.oneCell']) ?_; intro w9 hb9 hk9))
    have hk : Kept [] w8 w9 := ((Kept.refl [] w8).alloc _).then hk9 (fun u hu => by simp at hu; subst hu; exact .inr (Nat.le_refl _))
    have HB2 := Lib.hid hb9
    replace H2 := Lib.hid (H2.out.kept hk (by simp))
    replace HB1 := Lib.hid (HB1.out.kept hk (by simp))
    replace HR := Lib.hid (HR.out.kept0 hk)
    replace HX2 := Lib.hid (HX2.out.kept0 hk)
    replace HX1 := Lib.hid (HX1.out.kept0 hk)
    replace K0 := Lib.hid (K0.out.trans hk)
    clear hk hb9 hk9
    generalize w8.heap.size = gr2 at HB2 ⊢
    obtain ⟨Aa, ca, Ab, cb, Ao, co⟩ := x
    obtain ⟨Ba, da, Bb, db, Bo, dO⟩ := y
    have HA1 := Lib.hid (Reads.of_own HX1.out.o1)
    have HA2 := Lib.hid (Reads.of_own HX2.out.o1)
    have HP1 := Lib.hid (runS_lenA 1 n s (canonP (turnL le)) T)
    have HP2 := Lib.hid (runS_lenA 2 n s (canonP (turnL le)) T)
    clear HX1 HX2 HE1 HE2 HUN HR HS HSV
    generalize (runS 1 n s (canonP (turnL le)) T).A = P at HA1 HP1 HAB
    generalize (runS 2 n s (canonP (turnL le)) T).A = Q at HA2 HP2 HAB
    dsimp only at HA1 HA2
    have q0 := H2.out.cell 0
    have a0 := HB1.out.cell 0
    have a1 := HB1.out.cell 1
    have a4 := HB1.out.cell 4
    have b0 := HB2.out.cell 0
    have b1 := HB2.out.cell 1
    have b4 := HB2.out.cell 4
    simp only [rsC, lastC, StX.cells, stS, stC, List.getElem?_cons_zero, List.getElem?_cons_succ] at q0 a0 a1 a4 b0 b1 b4
    go_upto_region 9 with (fail)
    clear q0 a0 a1 a4 b0 b1 b4
    go_wp2_with fail
    go_loopw [9] (fun u wr => ∃ i : Nat, i ≤ n ∧ u = .int .i64 (i : Int) ∧ Hid (Kept [] w9 wr)) (fun u _ => n - (intOf u).toNat)
    case atStart => exact ⟨0, Nat.zero_le _, rfl, Lib.hid (Kept.refl _ _)⟩
    case round =>
      obtain ⟨i, hi, rfl, HK⟩ := hrel
      have q0 := (H2.out.kept HK.out (by simp)).cell 0
      simp only [List.getElem?_cons_zero] at q0
      by_cases hlt : i < n
      · have hl1 : i < P.length := by rw [HP1.out]; exact hlt
        have hl2 : i < Q.length := by rw [HP2.out]; exact hlt
        obtain ⟨bA, oA, hAq, _, hcA⟩ := ints_at HA1.out hl1
        obtain ⟨bB, oB, hBq, _, hcB⟩ := ints_at HA2.out hl2
        have cA := HK.out.cell_lt (hcA i hl1)
        have cB := HK.out.cell_lt (hcB i hl2)
        have hab := HAB.out i hlt
        rw [List.getD_eq_getElem?_getD, List.getD_eq_getElem?_getD, List.getElem?_eq_getElem hl1, List.getElem?_eq_getElem hl2] at hab
        simp only [Option.getD_some] at hab
        have a4 := (HB1.out.kept HK.out (by simp)).cell 4
        have b4 := (HB2.out.kept HK.out (by simp)).cell 4
        simp only [rsC, lastC, StX.cells, stS, stC, List.getElem?_cons_zero, List.getElem?_cons_succ] at a4 b4
        rw [hAq] at a4
        rw [hBq] at b4
        clear hcA hcB
        generalize P[i] = p at cA hab
        generalize Q[i] = r at cB hab
        go_upto_region 12 with (fail)
        rcases hab with hab | ⟨h1, h2⟩
        · subst hab
          go_quiet (fail)
          go_wp2_with fail
          go_roundw
          case rel => exact ⟨i + 1, by omega, by go_num, Lib.hid (HK.out.drewN _)⟩
          case measure => simp [intOf]; omega
        · subst h1 h2
          go_quiet (fail)
          go_wp2_with fail
          go_roundw
          case rel => exact ⟨i + 1, by omega, by go_num, Lib.hid (HK.out.drewN _)⟩
          case measure => simp [intOf]; omega
      · obtain rfl : i = n := by omega
        go_wp2_with fail
        refine (pRing_any 2 1 _ (.inr rfl)).mono ?_
        rintro _ w10 ⟨rfl, hw10⟩
        subst hw10
        rw [show ringP 2 = 1 from rfl]
        go_wp2_with fail
        rw [HPOST.out]
        exact ⟨rfl, K0.out.trans HK.out⟩
set_option maxRecDepth 100000 in
theorem topUnit_lifted (os : Os) (started : os.Started) (H : Type) (enc : TypeId × Value → H) :
    ReturnsInHanded {} Tryz.checked os 4 .any (Rows.topUnitSpec.pre6 enc Tryz.prog Tryz.f4 Rows.topUnitRow.domain false) (Rows.topUnitSpec.post enc Tryz.prog Tryz.f4 false true false false) := by
  refine returnsInHanded_of_change (C := Tryz.checked) own started (by kernel_rfl) Tryz.func4
    (ChangeSpec.witness6 (enc := enc) (C := Tryz.checked) false ⟨#[], #[.agg #[.int .i64 0, .slice none 0 0], .int .i64 0], []⟩ 8 (by kernel_rfl) (by kernel_rfl) (by kernel_rfl) (by kernel_rfl)) ?_
  intro W base args ds gs before hval0 hW hcnd _
  have hval : ∀ (j : Nat) t v, Tryz.f4.params[j]? = some t → args[j]? = some v → Value.okWide Tryz.prog W .any base t v := hval0
  have hW' := hW
  obtain ⟨p, q, hA0, hV, rfl, hfz, hnd⟩ := hW
  have hA : DataW.TrodAll enc Tryz.prog W 0 (fun _ => true) true Tryz.f4.params.toList args.toList ds p := hA0
  rw [Tryz.params4] at hA hval
  obtain ⟨v0, vs0, d0, ds0, p0, q0, hargs, rfl, rfl, h0, r0⟩ := trodAll_cons hA
  obtain ⟨v1, vs1, d1, ds1, p1, q1, rfl, rfl, rfl, h1, r1⟩ := trodAll_cons r0
  obtain ⟨rfl, rfl, rfl⟩ := trodAll_nil r1
  obtain rfl : args = #[v0, v1] := by cases args; simp_all
  obtain ⟨rfl, rfl⟩ := trodVars_none hV
  obtain ⟨n, A, c, l, rfl, l1, l2, hAr, hv, _⟩ := open_graph (hval 0 56 v0 rfl rfl) h0
  obtain ⟨v, rfl, rfl, rfl, _⟩ := open_int Tryz.underlying3 (hval 1 3 v1 rfl rfl) h1
  refine (topUnit_walk n v l A c W hAr (Nat.le_trans l1 l2)).mono fun e W' ⟨he, hk⟩ => ?_
  exact ⟨_, he, post_true rfl Tryz.underlying4 rfl rfl rfl rfl laidOut (by decide +kernel) hW' hk⟩
theorem topUnit_holds : Rows.TopUnitSaid :=
  OpenClaim.holds_of_wide 4 Tryz.f4 rfl rfl rfl rfl rfl rfl rfl ⟨rfl, rfl, rfl, rfl, rfl⟩ rfl rfl rfl rfl rfl (by kernel_rfl) Tryz.func4 (by kernel_rfl)
    (of_decide_eq_true (by kernel_rfl)) (by unfold Func.isWrapper; first | (rw [if_pos (by decide +kernel)]; kernel_rfl) | (rw [if_neg (by decide +kernel)]; exact ⟨rfl, rfl⟩))
    (fun os started H enc _ => topUnit_lifted os started H enc)
end Go.Proofs.YtblfingmdipopaaGreat
