/- pull.Sums: what each row that is asked comes to. Conditions: values of the ring; fewer than 61 columns. -/
import Derived.Test.YtblfingmdipopaaGreatM36
import Derived.Test.YtblfingmdipopaaGreatM37
namespace Go.Proofs.YtblfingmdipopaaGreat
set_option linter.unusedSimpArgs false
set_option linter.unusedVariables false
open Go.ChangeShapes Go.WideShapes Go.ChangeAt Go.RowKit
open Go.RowKit (wrap32 wrap64)
set_option maxHeartbeats 8000000
open Go.Shelf
attribute [local go_sem] Oper.semAt_some
theorem infoSum : Info Tryz.prog 138 (.agg #[.int .i64 0, .int .i64 0, .int .u64 0]) 3 24 := by unfold Info; kernel_rfl
/-- A sum's cells. -/
abbrev smV (x : Nat × Int) : List Value := [.int .i64 (x.1 : Int), .int .i64 (wOf x.2).1, .int .u64 ((wOf x.2).2 : Int)]
/-- The sums of the rows of a list. -/
def sumsR (r : Int) (b : Nat) (V : List Int) (l : List Ed) (is : List Nat) : List (Nat × Int) := is.filterMap (fun i => (rowR r b V (rowL l i)).map (fun s => (i, s)))
theorem sumsR_none {r : Int} {b : Nat} {V : List Int} {l : List Ed} (is : List Nat) {i : Nat} (h : rowR r b V (rowL l i) = none) : sumsR r b V l (is ++ [i]) = sumsR r b V l is := by
  unfold sumsR
  rw [List.filterMap_append]
  simp [h]
theorem sumsR_some {r : Int} {b : Nat} {V : List Int} {l : List Ed} (is : List Nat) {i : Nat} {s : Int} (h : rowR r b V (rowL l i) = some s) : sumsR r b V l (is ++ [i]) = sumsR r b V l is ++ [(i, s)] := by
  unfold sumsR
  rw [List.filterMap_append]
  simp [h]
theorem sumsR_len (r : Int) (b : Nat) (V : List Int) (l : List Ed) (is : List Nat) : (sumsR r b V l is).length ≤ is.length := List.length_filterMap_le _ _
/-- The rows that are asked. -/
def askN (n : Nat) (q : Nat → Bool) (oth : Bool) : List Nat := (List.range n).filter (fun i => q i != oth)
/-- A block stored with what it held: all is kept. -/
theorem Kept.same {g t : Nat} {cs : List Value} {w w' : World} (k : Kept [g] w w') (h : Blk w g t cs) (h' : Blk w' g t cs) : Kept [] w w' := ⟨k.os, k.tape, k.output, k.size, fun i hi _ => by
  by_cases e : i = g
  · subst e
    exact Eq.trans h' (Eq.symm h)
  · exact k.block i hi (by simpa using e)⟩
theorem kpA_b {k₀ g1 g2 g3 : Nat} {w : World} (h0 : k₀ ≤ w.heap.size) (h1 : g1 < w.heap.size) (h2 : g2 < w.heap.size) (h3 : g3 < w.heap.size) (W : World) (l : Nat) (o o' : Obj) (hl : w.heap.size ≤ l) (h : W.heap[l]? = some o) (hc : o.isCells = false) (hw : o.isWalk = false) : KpA k₀ g1 g2 g3 W (W.putObj l o') :=
  have hb : Below w.heap.size W (W.putObj l o') := belowK_b (Nat.le_refl _) W l o o' hl h hc hw
  ⟨hb.mono h0, hb.block _ h1, hb.block _ h2, hb.block _ h3⟩
theorem inRound_of {F : Fence} {lp m : Nat} {P : Program} {f : Nat} {args : Array Value} {w : World} {Q : Ending → World → Prop} (h : CallsIn F m P f args w Q) : CallsIn (F.inRound lp) m P f args w Q := h
theorem blk_app {W w1 : World} {n₀ B e size k g tg : Nat} {v v' : Value} {xs cs : List Value} {tmp : Obj} (hrow : W.ownsRow n₀ e size v k xs) (hgrow : (W.alloc tmp).grownBy w1 v.ownBlock) (h : Blk W g tg cs) (hte : tg ≠ e) (hne : g ≠ B) : (w1.setCell ⟨B, 0, none⟩ v').heap[g]? = W.heap[g]? := by
  have hn : some g ≠ v.ownBlock := by
    rcases hrow.2 with ⟨rfl, _⟩ | ⟨g2, cap, cur, rfl, _, hgb, _⟩
    · simp [Value.ownBlock]
    · intro e'
      obtain rfl : g = g2 := by simpa [Value.ownBlock] using e'
      have := (show W.heap[g]? = _ from h).symm.trans hgb
      simp at this
      exact hte this.2
  exact (Below.heap_setCell _ _ _ g hne).trans ((hgrow.block g (by simp; exact Nat.lt_succ_of_lt (blk_lt h)) hn).trans (Below.heap_alloc W tmp g (blk_lt h)))
theorem askL_len (n : Nat) (q : Nat → Bool) (oth : Bool) : (askL n q oth n).length ≤ n := by
  have h1 := congrArg List.length (askL_nat n q oth n (Nat.le_refl _))
  rw [List.length_map] at h1
  rw [h1]
  exact Nat.le_trans (List.length_filter_le _ _) (by simp)
theorem blk_ownFrom {β : Type} (B g t : Nat) (cs : List Value) : OwnFrom B (fun (_ : β) W => Blk W g t cs) := fun _ X Y row hs hg hr => (hg.block g (blk_lt hs) (fun e => by
  obtain ⟨_, o, ho, hc⟩ := hr g e.symm
  rw [show X.heap[g]? = _ from hs] at ho
  injection ho with ho
  subst ho
  cases hc)).trans hs
set_option maxRecDepth 100000 in
theorem pSums_any (r : Int) (hr : RingV r) (n m N b base base' k c : Nat) (Af : Option Addr) (q : Nat → Bool) (oth : Bool) (l X : List Ed) (V : List Int) (v1 v2 v3 vh vv : Value) (w : World) (hN : N ≤ 60) (hmN : m = N) (hmo : MtOkM n m l) (hm : MtAt w base v1 v2 v3 n l) (hok : DnOk N X b V) (hd : DnAt w base' vh vv N b V) (hv : ∀ e ∈ l, OkV r e.2.2) (hvv : OkVec r b V) (hn : n ≤ 4096) (hf : AskB w.heap.size w Af k c q n) :
    Calls Tryz.prog 26 #[.int .i64 r, .agg #[.int .i64 n, .int .i64 m, v1, v2, v3], .agg #[.int .i64 N, vh, vv], .slice Af k c, .bool oth] w fun e w' => ∃ v, e = .returned (.tuple #[v, .int .i64 0]) ∧ w'.ownsRow w.heap.size 138 3 v (sumsR r b V l (askN n q oth)).length ((sumsR r b V l (askN n q oth)).flatMap smV) ∧ Kept [] w w' := by
  obtain ⟨b1, c1, A2, c2, A3, c3, rfl, rfl, rfl, hc2, hc3⟩ := hm.form
  obtain ⟨Ah, ch, rfl⟩ := own_n hd.o1
  obtain ⟨Av, cv, rfl⟩ := own_n hd.o2
  have HR := Lib.hid (((Blk.new w 22 [.int .i64 r]).alloc (.cells #[.int .i64 n, .int .i64 m, .slice (some ⟨b1, 0, none⟩) (n + 1) c1, .slice A2 l.length c2, .slice A3 l.length c3] 31)).alloc (.cells #[.int .i64 N, .slice Ah (wordsN N) ch, .slice Av N cv] 48))
  have HX := Lib.hid ((Blk.new1F w (.cells #[.int .i64 r] 22) 31 [.int .i64 n, .int .i64 m, .slice (some ⟨b1, 0, none⟩) (n + 1) c1, .slice A2 l.length c2, .slice A3 l.length c3]).alloc (.cells #[.int .i64 N, .slice Ah (wordsN N) ch, .slice Av N cv] 48))
  have HY0 := Blk.new ((w.alloc (.cells #[.int .i64 r] 22)).alloc (.cells #[.int .i64 n, .int .i64 m, .slice (some ⟨b1, 0, none⟩) (n + 1) c1, .slice A2 l.length c2, .slice A3 l.length c3] 31)) 48 [.int .i64 N, .slice Ah (wordsN N) ch, .slice Av N cv]
  rw [show ((w.alloc (.cells #[.int .i64 r] 22)).alloc (.cells #[.int .i64 n, .int .i64 m, .slice (some ⟨b1, 0, none⟩) (n + 1) c1, .slice A2 l.length c2, .slice A3 l.length c3] 31)).heap.size = w.heap.size + 1 + 1 by simp] at HY0
  have HY := Lib.hid HY0
  have K0 := Lib.hid ((((Kept.refl [] w).alloc (.cells #[.int .i64 r] 22)).alloc (.cells #[.int .i64 n, .int .i64 m, .slice (some ⟨b1, 0, none⟩) (n + 1) c1, .slice A2 l.length c2, .slice A3 l.length c3] 31)).alloc (.cells #[.int .i64 N, .slice Ah (wordsN N) ch, .slice Av N cv] 48))
  have HM := Lib.hid (hm.kept0 K0.out)
  have HD := Lib.hid (hd.kept0 K0.out)
  have HM0 := Lib.hid hm
  have HD0 := Lib.hid hd
  have HQ := Lib.hid hf
  have HNN := Lib.hid hn
  have HOK := Lib.hid hok
  have HMO := Lib.hid hmo
  have HRV := Lib.hid hr
  have HV := Lib.hid hv
  have HVV := Lib.hid hvv
  have HMN := Lib.hid hmN
  have hnn := hmo.num
  have HMNI := Lib.hid (show (m : Int) = (N : Int) by omega)
  clear hn hm hd hf hok hmo hr hv hvv HY0 hmN
  rw [← callsIn_wide (n := 5)]
  refine callsIn_of_wp_marks Tryz.func26 rfl trivial ?_ rfl
  simp only [Tryz.ntmps26, List.size_toArray, List.length_cons, List.length_nil, Nat.reduceAdd, Nat.reduceSub, Array.replicate_succ, Array.replicate_zero, List.push_toArray, List.append_toArray, List.nil_append, List.cons_append]
  gi_wp2_with (first | (refine inLoad rfl 31 (.tmp 6) rfl (w.heap.size + 1) [.int .i64 n, .int .i64 m, .slice (some ⟨b1, 0, none⟩) (n + 1) c1, .slice A2 l.length c2, .slice A3 l.length c3] _ HX.out rfl Tryz.underlying31 rfl infoRows ?_) | (refine inLoad rfl 48 (.tmp 7) rfl (w.heap.size + 1 + 1) [.int .i64 N, .slice Ah (wordsN N) ch, .slice Av N cv] _ HY.out rfl Tryz.underlying48 rfl infoDense ?_))
  generalize (((w.alloc (.cells #[.int .i64 r] 22)).alloc (.cells #[.int .i64 n, .int .i64 m, .slice (some ⟨b1, 0, none⟩) (n + 1) c1, .slice A2 l.length c2, .slice A3 l.length c3] 31)).alloc (.cells #[.int .i64 N, .slice Ah (wordsN N) ch, .slice Av N cv] 48)) = w1 at *
  refine ⟨trivial, callsIn_wide.2 ((pSure_any n m N b base base' l X V _ _ _ _ _ w1 hN HMO.out HM.out HOK.out HD.out).mono ?_)⟩
  rintro _ w2 ⟨rfl, hk⟩
  replace HR := Lib.hid (HR.out.kept hk (by simp))
  replace HX := Lib.hid (HX.out.kept hk (by simp))
  replace HY := Lib.hid (HY.out.kept hk (by simp))
  replace HM := Lib.hid (HM.out.kept0 hk)
  replace HD := Lib.hid (HD.out.kept0 hk)
  replace K0 := Lib.hid (K0.out.trans hk)
  clear hk
  gi_wp2_with (first | (refine inStore rfl 31 (.tmp 6) (.tmp 20) rfl (w.heap.size + 1) _ [.int .i64 n, .int .i64 m, .slice (some ⟨b1, 0, none⟩) (n + 1) c1, .slice A2 l.length c2, .slice A3 l.length c3] HX.out rfl rfl rfl infoRows (by simp [Value.oneCell']) ?_; intro w3 hb3 hk3) | (refine inStore rfl 48 (.tmp 7) (.tmp 21) rfl (w.heap.size + 1 + 1) _ [.int .i64 N, .slice Ah (wordsN N) ch, .slice Av N cv] (HY.out.kept hk3 (by simp)) rfl rfl rfl infoDense (by simp [Value.oneCell']) ?_; intro w4 hb4 hk4; have c0 := ((HR.out.kept hk3 (by simp)).kept hk4 (by simp; omega)).cell 0; simp only [List.getElem?_cons_zero] at c0))
  have HK3 := Lib.hid (hk3.same HX.out hb3)
  replace HR := Lib.hid (HR.out.kept HK3.out (by simp))
  replace HX := Lib.hid (HX.out.kept HK3.out (by simp))
  replace HY := Lib.hid (HY.out.kept HK3.out (by simp))
  replace HM := Lib.hid (HM.out.kept0 HK3.out)
  replace HD := Lib.hid (HD.out.kept0 HK3.out)
  replace K0 := Lib.hid (K0.out.trans HK3.out)
  have HK4 := Lib.hid (hk4.same HY.out hb4)
  replace HR := Lib.hid (HR.out.kept HK4.out (by simp))
  replace HX := Lib.hid (HX.out.kept HK4.out (by simp))
  replace HY := Lib.hid (HY.out.kept HK4.out (by simp))
  replace HM := Lib.hid (HM.out.kept0 HK4.out)
  replace HD := Lib.hid (HD.out.kept0 HK4.out)
  replace K0 := Lib.hid (K0.out.trans HK4.out)
  clear hb3 hk3 hb4 hk4 HK3 HK4
  refine ⟨trivial, callsIn_wide.2 ((ringIs_any r w4).mono ?_)⟩
  rintro _ w5 ⟨rfl, hw5⟩
  subst hw5
  have HRI : ringIs r = true := by rcases HRV.out with rfl | rfl | rfl <;> rfl
  have HNM : ((N : Int) != (m : Int)) = false := by rw [HMNI.out]; simp
  have x0 := HX.out.cell 0
  have x1 := HX.out.cell 1
  have y0 := HY.out.cell 0
  simp only [List.getElem?_cons_zero, List.getElem?_cons_succ] at x0 x1 y0
  rw [HRI]
  have HL := Lib.hid (Boxed.new w5 86 (.slice none 0 0))
  have hs5 := K0.out.size
  have HY5 := Lib.hid (blk_lt HY.out)
  have hX6 := (HX.out.kept ((Kept.refl [] w5).alloc (.cells #[.slice none 0 0] 86)) (by simp)).cell 0
  simp only [List.getElem?_cons_zero] at hX6
  gi_wp2
  clear x0 x1 y0 hX6
  replace HR := Lib.hid (HR.out.kept ((Kept.refl [] w5).alloc (.cells #[.slice none 0 0] 86)) (by simp))
  replace HX := Lib.hid (HX.out.kept ((Kept.refl [] w5).alloc (.cells #[.slice none 0 0] 86)) (by simp))
  replace HY := Lib.hid (HY.out.kept ((Kept.refl [] w5).alloc (.cells #[.slice none 0 0] 86)) (by simp))
  replace HM := Lib.hid (HM.out.kept0 ((Kept.refl [] w5).alloc (.cells #[.slice none 0 0] 86)))
  replace HD := Lib.hid (HD.out.kept0 ((Kept.refl [] w5).alloc (.cells #[.slice none 0 0] 86)))
  replace K0 := Lib.hid (K0.out.trans ((Kept.refl [] w5).alloc (.cells #[.slice none 0 0] 86)))
  refine ⟨trivial, callsIn_wide.2 ((asked_any n k c Af oth _).mono ?_)⟩
  rintro _ w7 ⟨gN, gF, gO, rfl, hN7, hF7, hO7, hk⟩
  replace HL := Lib.hid ((hk.block _ HL.out.lt (by simp)).trans HL.out : Boxed w7 _ _ _)
  replace HR := Lib.hid (HR.out.kept hk (by simp))
  replace HX := Lib.hid (HX.out.kept hk (by simp))
  replace HY := Lib.hid (HY.out.kept hk (by simp))
  replace HM := Lib.hid (HM.out.kept0 hk)
  replace HD := Lib.hid (HD.out.kept0 hk)
  replace K0 := Lib.hid (K0.out.trans hk)
  gi_wp2
  clear hk
  have HN7 := Lib.hid hN7
  have HF7 := Lib.hid hF7
  have HO7 := Lib.hid hO7
  clear hN7 hF7 hO7
  have HB7 := Lib.hid K0.out.below
  have HGE := Lib.hid (show w.heap.size ≤ w5.heap.size ∧ w5.heap.size < w7.heap.size from ⟨hs5, (show Boxed w7 w5.heap.size 86 (.slice none 0 0) from HL.out).lt⟩)
  have HNE := Lib.hid (show w5.heap.size ≠ gN ∧ w5.heap.size ≠ gF ∧ w5.heap.size ≠ gO from ⟨fun e => by
    subst e
    have h1 := HL.out.symm.trans HN7.out
    injection h1 with h1
    injection h1 with _ h1
    exact absurd h1 (by decide), fun e => by
    subst e
    have h1 := HL.out.symm.trans HF7.out
    injection h1 with h1
    injection h1 with _ h1
    exact absurd h1 (by decide), fun e => by
    subst e
    have h1 := HL.out.symm.trans HO7.out
    injection h1 with h1
    injection h1 with _ h1
    exact absurd h1 (by decide)⟩)
  change Code.wpIn _ _ _ _ _ (Act.mk ?tm ?df) _
  refine wpIn_rangeFunc_ownH (α := Fin n) rfl (by omega) (gf := 96) (lb := #[.pointer (some ⟨gN, 0, none⟩), .pointer (some ⟨gF, 0, none⟩), .pointer (some ⟨gO, 0, none⟩)]) rfl trivial (enters_of Tryz.func96 (by kernel_rfl) rfl) (asked1_stops w.heap.size 4 (by omega) n gN gF gO k c Af q oth w7 HNN.out K0.out.size HN7.out HF7.out HO7.out (HQ.out.go HB7.out)) (fun h k => h.trans k) (kpA_b (Nat.le_of_lt (Nat.lt_of_le_of_lt HGE.out.1 HGE.out.2)) (blk_lt HN7.out) (blk_lt HF7.out) (blk_lt HO7.out)) (Below.refl _ w7) (fun _ => rfl)
    (fun pre W => ((∃ v, Boxed W w5.heap.size 86 v ∧ W.ownsRow w.heap.size 138 3 v (sumsR r b V l (pre.map (·.1))).length ((sumsR r b V l (pre.map (·.1))).flatMap smV) ∧ True) ∧ Below w.heap.size w7 W) ∧ (Blk W w.heap.size 22 [.int .i64 r] ∧ Blk W (w.heap.size + 1) 31 [.int .i64 n, .int .i64 m, .slice (some ⟨b1, 0, none⟩) (n + 1) c1, .slice A2 l.length c2, .slice A3 l.length c3] ∧ Blk W (w.heap.size + 1 + 1) 48 [.int .i64 N, .slice Ah (wordsN N) ch, .slice Av N cv] ∧ Blk W gN 3 [.int .i64 n] ∧ Blk W gF 46 [.slice Af k c] ∧ Blk W gO 4 [.bool oth]))
    (fun _ _ _ => False)
    (OwnFrom.and (OwnFrom.and (Own.from (holdsRow_own w.heap.size w5.heap.size 86 138 3 (fun pre : List (Fin n) => (sumsR r b V l (pre.map (·.1))).length) (fun pre => (sumsR r b V l (pre.map (·.1))).flatMap smV) (fun _ _ => True)) _) (ownFrom_below K0.out.size K0.out.size)) (OwnFrom.and (blk_ownFrom _ _ _ _) (OwnFrom.and (blk_ownFrom _ _ _ _) (OwnFrom.and (blk_ownFrom _ _ _ _) (OwnFrom.and (blk_ownFrom _ _ _ _) (OwnFrom.and (blk_ownFrom _ _ _ _) (blk_ownFrom _ _ _ _)))))))
    (fun _ _ _ _ _ hs _ _ => hs)
    ⟨⟨⟨_, HL.out, World.ownsRow_nil _ _ _ _, trivial⟩, Below.refl _ _⟩, HR.out, HX.out, HY.out, HN7.out, HF7.out, HO7.out⟩
    (fun x a' W => a' = { tmps := ((?tm : Array Value).setIfInBounds 37 (.int .i64 ((x.1 : Nat) : Int))).setIfInBounds 13 (.int .i64 ((x.1 : Nat) : Int)), defers := [] })
    (fun x a' s X Y row hs hg hr => hs)
    ?assign ?body ?done ?stop
  case assign =>
    rintro lpx pre x W K hI hK
    gi_wp2
    refine hK _ _ ((KeepsOthers.refl _).from _) (KpA.refl _ _ _ _ W) hI rfl
  case body =>
    rintro lpx pre x a' W hlB hlr ⟨⟨⟨v, hv, hrow, _⟩, hB⟩, hR, hX, hY, hG1, hG2, hG3⟩ rfl hlt
    simp only [List.setIfInBounds_toArray, List.set_cons_zero, List.set_cons_succ]
    have hbw := HB7.out.trans hB
    have hkw := Kept.of_below hbw []
    have HMW := Lib.hid (HM0.out.kept0 hkw)
    have HDW := Lib.hid (HD0.out.kept0 hkw)
    have HRW := Lib.hid hR
    have HXW := Lib.hid hX
    have HYW := Lib.hid hY
    have HVW := Lib.hid hv
    have HOW := Lib.hid hrow
    have HBW := Lib.hid hB
    have r0 := hR.cell 0
    simp only [List.getElem?_cons_zero] at r0
    clear hR hX hY hv hrow hbw hkw
    gi_wp2_with (first | (refine inLoad rfl 31 (.tmp 6) rfl (w.heap.size + 1) [.int .i64 n, .int .i64 m, .slice (some ⟨b1, 0, none⟩) (n + 1) c1, .slice A2 l.length c2, .slice A3 l.length c3] _ HXW.out rfl Tryz.underlying31 rfl infoRows ?_) | (refine inLoad rfl 48 (.tmp 7) rfl (w.heap.size + 1 + 1) [.int .i64 N, .slice Ah (wordsN N) ch, .slice Av N cv] _ HYW.out rfl Tryz.underlying48 rfl infoDense ?_))
    refine ⟨trivial, inRound_of (callsIn_wide.2 ((pRow_any r HRV.out n m N b base base' x.1 l X V _ _ _ _ _ W hN x.2 HMN.out HMO.out HMW.out HOK.out HDW.out HV.out HVV.out).mono ?_))⟩
    rintro _ W1 ⟨rfl, hk1⟩
    have HK1 := Lib.hid hk1
    obtain ⟨i0, hi, hz0, hz1, hz2⟩ := info_parts infoSum
    have HSZ := Lib.hid (Nat.le_trans K0.out.size HBW.out.size)
    have HLEN := Lib.hid (show (sumsR r b V l (pre.map (·.1))).length < 4096 from Nat.lt_of_lt_of_le (Nat.lt_of_le_of_lt (Nat.le_trans (sumsR_len r b V l _) (Nat.le_of_eq (List.length_map _))) hlt) (Nat.le_trans (askL_len n q oth) HNN.out))
    have HWD := Lib.hid (Blk.new W1 100 (wdC (0, 0)))
    by_cases hs : (rowR r b V (rowL l x.1)).isSome = true
    · obtain ⟨s, hs⟩ := Option.isSome_iff_exists.1 hs
      have HSM := Lib.hid (sumsR_some (r := r) (b := b) (V := V) (l := l) (pre.map (·.1)) hs)
      rw [hs]
      gi_wp2_with (first | (refine inStore rfl 100 (.tmp 14) (.tmp 44) rfl W1.heap.size _ (wdC (oW (some s))) HWD.out rfl rfl rfl infoWide (by simp [Value.oneCell']) ?_; intro W2 hb2 hk2; have hk3 : Kept [] W W2 := (HK1.out.trans ((Kept.refl [] W1).alloc _)).then hk2 (fun u hu => by simp at hu; subst hu; exact .inr HK1.out.size); have HV3 : Hid (Boxed W2 w5.heap.size 86 v) := Lib.hid ((hk3.block _ HVW.out.lt (by simp)).trans HVW.out); have c12 := HV3.out.cell) | (refine inLoad rfl 100 (.tmp 14) rfl W1.heap.size (wdC (oW (some s))) _ hb2 rfl Tryz.underlying100 rfl infoWide ?_) | (gi_at_builtin; have hrow3 := own_kept0 HOW.out hk3; refine wpListIn_append_own _ rfl _ _ 86 rfl w.heap.size 138 i0 (.agg #[.int .i64 0, .int .i64 0, .int .u64 0]) 3 24 Tryz.underlying86 hi hz0 hz1 hz2 rfl (by decide) _ _ _ rfl (hrow3.alloc _) ⟨W2.heap.size, 0, none⟩ 1 1 (smV (x.1, s)) rfl rfl (fun j u hu => by rw [Addr.add_lit, Nat.zero_add]; exact ((Blk.new W2 138 (smV (x.1, s))).cell j).trans hu) (by simp [smV, Value.oneCell']) (by have := HLEN.out; unfold maxLen; omega) (by have := HLEN.out; omega) (by have := HSZ.out; have := hk3.size; simp; omega) ?_; intro v' w8 hown' hgrow _; obtain ⟨g', cap', rfl⟩ := ownsRow_succ hown'; obtain ⟨hv1, hv2, hr2, hkk, hbb⟩ := HV3.out.appended (by decide) hrow3 (Nat.le_trans HSZ.out hk3.size) HGE.out.1 hown' hgrow; have hc1 := hv1.cell; have hf1 := hv1.frozen))
      have q1 := blk_app (B := w5.heap.size) (v' := .slice (some ⟨g', 0, none⟩) ((sumsR r b V l (pre.map (·.1))).length + 1) cap') hrow3 hgrow (hG1.kept hk3 (by simp)) (by decide) HNE.out.1.symm
      have q2 := blk_app (B := w5.heap.size) (v' := .slice (some ⟨g', 0, none⟩) ((sumsR r b V l (pre.map (·.1))).length + 1) cap') hrow3 hgrow (hG2.kept hk3 (by simp)) (by decide) HNE.out.2.1.symm
      have q3 := blk_app (B := w5.heap.size) (v' := .slice (some ⟨g', 0, none⟩) ((sumsR r b V l (pre.map (·.1))).length + 1) cap') hrow3 hgrow (hG3.kept hk3 (by simp)) (by decide) HNE.out.2.2.symm
      have q4 := blk_app (B := w5.heap.size) (v' := .slice (some ⟨g', 0, none⟩) ((sumsR r b V l (pre.map (·.1))).length + 1) cap') hrow3 hgrow (HRW.out.kept hk3 (by simp)) (by decide) (by have := HY5.out; omega)
      have q5 := blk_app (B := w5.heap.size) (v' := .slice (some ⟨g', 0, none⟩) ((sumsR r b V l (pre.map (·.1))).length + 1) cap') hrow3 hgrow (HXW.out.kept hk3 (by simp)) (by decide) (by have := HY5.out; omega)
      have q6 := blk_app (B := w5.heap.size) (v' := .slice (some ⟨g', 0, none⟩) ((sumsR r b V l (pre.map (·.1))).length + 1) cap') hrow3 hgrow (HYW.out.kept hk3 (by simp)) (by decide) (by have := HY5.out; omega)
      have hbw2 := (hk3.below.mono HSZ.out).trans hbb
      refine ⟨(show KeepsFrom w7.heap.size W W2 from ⟨hk3.size, fun i o _ h1 _ => (hk3.block i (Array.getElem?_eq_some_iff.1 h1).1 (by simp)).trans h1⟩).trans (hkk.from _), ⟨hbw2, q1.trans (hk3.block _ (blk_lt hG1) (by simp)), q2.trans (hk3.block _ (blk_lt hG2) (by simp)), q3.trans (hk3.block _ (blk_lt hG3) (by simp))⟩, ⟨⟨_, hv2, ?_, trivial⟩, HBW.out.trans hbw2⟩, q4.trans (HRW.out.kept hk3 (by simp)), q5.trans (HXW.out.kept hk3 (by simp)), q6.trans (HYW.out.kept hk3 (by simp)), q1.trans (hG1.kept hk3 (by simp)), q2.trans (hG2.kept hk3 (by simp)), q3.trans (hG3.kept hk3 (by simp))⟩
      rw [List.map_append, List.map_singleton, HSM.out, List.length_append, List.flatMap_append, List.flatMap_singleton]
      exact hr2
    · have hs : rowR r b V (rowL l x.1) = none := by simpa using hs
      have HSM := Lib.hid (sumsR_none (r := r) (b := b) (V := V) (l := l) (pre.map (·.1)) hs)
      rw [hs]
      gi_wp2_with ((refine inStore rfl 100 (.tmp 14) (.tmp 44) rfl W1.heap.size _ (wdC (oW (none))) HWD.out rfl rfl rfl infoWide (by simp [Value.oneCell']) ?_; intro W2 hb2 hk2; have hk3 : Kept [] W W2 := (HK1.out.trans ((Kept.refl [] W1).alloc _)).then hk2 (fun u hu => by simp at hu; subst hu; exact .inr HK1.out.size); have HV3 : Hid (Boxed W2 w5.heap.size 86 v) := Lib.hid ((hk3.block _ HVW.out.lt (by simp)).trans HVW.out); have c12 := HV3.out.cell))
      refine ⟨⟨hk3.size, fun i o _ h1 _ => (hk3.block i (Array.getElem?_eq_some_iff.1 h1).1 (by simp)).trans h1⟩, ⟨hk3.below.mono (Nat.le_trans K0.out.size HBW.out.size), hk3.block _ (blk_lt hG1) (by simp), hk3.block _ (blk_lt hG2) (by simp), hk3.block _ (blk_lt hG3) (by simp)⟩, ⟨⟨_, HV3.out, ?_, trivial⟩, HBW.out.trans (hk3.below.mono (Nat.le_trans K0.out.size HBW.out.size))⟩, HRW.out.kept hk3 (by simp), HXW.out.kept hk3 (by simp), HYW.out.kept hk3 (by simp), hG1.kept hk3 (by simp), hG2.kept hk3 (by simp), hG3.kept hk3 (by simp)⟩
      rw [List.map_append, List.map_singleton, HSM.out]
      exact own_kept0 HOW.out hk3
  case done =>
    rintro D ys W hD rfl ⟨⟨⟨v, hv, hrow, _⟩, hB⟩, _⟩ hK
    have hc := hv.cell
    gi_wp2
    refine ⟨by simp, .inl ⟨_, _, rfl, run_takeDeferred hK, ?_⟩⟩
    have hb2 : Below w.heap.size w (W.putObj D (.deferred none)) := (HB7.out.trans hB).trans (belowK_b (w := w) (Nat.le_refl _) W D _ _ (Nat.le_trans K0.out.size hD) hK rfl rfl)
    have hrow2 := ownsRow_putObj hrow (.deferred none) hK rfl
    rw [askL_nat n q oth n (Nat.le_refl _)] at hrow2
    exact ⟨_, by simp [results, Tryz.results26, go_sem], v, rfl, hrow2, Kept.of_below hb2 []⟩
  case stop =>
    rintro D c pre W _ _ h _
    exact h.elim
end Go.Proofs.YtblfingmdipopaaGreat
