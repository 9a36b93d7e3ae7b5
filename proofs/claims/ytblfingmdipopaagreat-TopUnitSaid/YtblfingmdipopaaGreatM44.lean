/- pull.Times, asked for any. Conditions: as pull.Times. -/
import Derived.Test.YtblfingmdipopaaGreatM41
import Derived.Test.YtblfingmdipopaaGreatM42
import Derived.Test.YtblfingmdipopaaGreatM43
namespace Go.Proofs.YtblfingmdipopaaGreat
set_option linter.unusedSimpArgs false
set_option linter.unusedVariables false
open Go.ChangeShapes Go.WideShapes Go.ChangeAt Go.RowKit
open Go.RowKit (wrap32 wrap64)
set_option maxHeartbeats 8000000
set_option maxRecDepth 100000 in
theorem pTimesQ_any (r : Int) (hr : RingV r) (n m N b base base' : Nat) (l X : List Ed) (V : List Int) (v1 v2 v3 vh vv : Value) (w : World) (hN : N ≤ 60) (hmN : m = N) (hmo : MtOkM n m l) (hm : MtAt w base v1 v2 v3 n l) (hok : DnOk N X b V) (hd : DnAt w base' vh vv N b V) (hv : ∀ e ∈ l, OkV r e.2.2) (hvv : OkVec r b V) (hn : n ≤ 60) (Af : Option Addr) (kf cf : Nat) (q : Nat → Bool) (oth : Bool) (hf : ∀ w1, Kept [] w w1 → AskB w1.heap.size w1 Af kf cf q n) :
    Calls Tryz.prog 10 #[.int .i64 r, .agg #[.int .i64 n, .int .i64 m, v1, v2, v3], .agg #[.int .i64 N, vh, vv], .slice Af kf cf, .bool oth] w (fun e w' => ∃ v, e = .returned (.tuple #[v, .int .i64 0]) ∧ VcPost w n (itemsR r (sumsR r b V l (askN n q oth))) (.returned v) w') := by
  obtain ⟨b1, c1, A2, c2, A3, c3, rfl, rfl, rfl, _, _⟩ := hm.form
  obtain ⟨Ah, ch, rfl⟩ := own_n hd.o1
  obtain ⟨Av, cv, rfl⟩ := own_n hd.o2
  have HRV := Lib.hid hr
  have HF := Lib.hid hf
  have HMO := Lib.hid hmo
  have HM := Lib.hid hm
  have HOK := Lib.hid hok
  have HD := Lib.hid hd
  have HV := Lib.hid hv
  have HVV := Lib.hid hvv
  have HMN := Lib.hid hmN
  have HN6 := Lib.hid hN
  have HNN := Lib.hid hn
  have HS1 := Lib.hid (fun x hx => askN_lt (sumsR_mem hx).1 : ∀ x ∈ sumsR r b V l (askN n q oth), x.1 < n)
  have HS2 := Lib.hid (sumsR_rise r b V l _ (askN_rise n q oth))
  have HS3 := Lib.hid (fun x hx => by
    have h1 := rowR_ok (N := N) hok.lt hok.len hvv (rowL l x.1) (fun e he => hv e (List.mem_filter.1 he).1)
    rw [(sumsR_mem hx).2] at h1
    exact h1 : ∀ x ∈ sumsR r b V l (askN n q oth), OkV r x.2)
  have HS4 := Lib.hid (show (sumsR r b V l (askN n q oth)).length ≤ 65536 by
    refine Nat.le_trans (sumsR_len r b V l _) ?_
    unfold askN
    refine Nat.le_trans (List.length_filter_le _ _) ?_
    simp
    omega)
  clear hf hr hmo hm hok hd hv hvv hmN hN hn
  obtain ⟨post, hpost⟩ : ∃ post : Ending → World → Prop, post = (fun e w' => ∃ v, e = .returned (.tuple #[v, .int .i64 0]) ∧ VcPost w n (itemsR r (sumsR r b V l (askN n q oth))) (.returned v) w') := ⟨_, rfl⟩
  rw [← hpost]
  have HPOST := Lib.hid hpost
  clear hpost
  have HX := Lib.hid (((Blk.new w 31 [.int .i64 n, .int .i64 m, .slice (some ⟨b1, 0, none⟩) (n + 1) c1, .slice A2 l.length c2, .slice A3 l.length c3]).alloc (.cells #[.int .i64 N, .slice Ah (wordsN N) ch, .slice Av N cv] 48)).alloc (.cells #[.int .i64 0, .slice none 0 0] 35))
  have HY := Lib.hid ((Blk.new1F w (.cells #[.int .i64 n, .int .i64 m, .slice (some ⟨b1, 0, none⟩) (n + 1) c1, .slice A2 l.length c2, .slice A3 l.length c3] 31) 48 [.int .i64 N, .slice Ah (wordsN N) ch, .slice Av N cv]).alloc (.cells #[.int .i64 0, .slice none 0 0] 35))
  have HR0 := Blk.new ((w.alloc (.cells #[.int .i64 n, .int .i64 m, .slice (some ⟨b1, 0, none⟩) (n + 1) c1, .slice A2 l.length c2, .slice A3 l.length c3] 31)).alloc (.cells #[.int .i64 N, .slice Ah (wordsN N) ch, .slice Av N cv] 48)) 35 [.int .i64 0, .slice none 0 0]
  rw [show ((w.alloc (.cells #[.int .i64 n, .int .i64 m, .slice (some ⟨b1, 0, none⟩) (n + 1) c1, .slice A2 l.length c2, .slice A3 l.length c3] 31)).alloc (.cells #[.int .i64 N, .slice Ah (wordsN N) ch, .slice Av N cv] 48)).heap.size = w.heap.size + 1 + 1 by simp] at HR0
  have HR := Lib.hid HR0
  have K0 := Lib.hid ((((Kept.refl [] w).alloc (.cells #[.int .i64 n, .int .i64 m, .slice (some ⟨b1, 0, none⟩) (n + 1) c1, .slice A2 l.length c2, .slice A3 l.length c3] 31)).alloc (.cells #[.int .i64 N, .slice Ah (wordsN N) ch, .slice Av N cv] 48)).alloc (.cells #[.int .i64 0, .slice none 0 0] 35))
  have HNE0 := Lib.hid (show w.heap.size < w.heap.size + 1 ∧ w.heap.size + 1 < w.heap.size + 1 + 1 ∧ w.heap.size ≤ w.heap.size from ⟨by omega, by omega, by omega⟩)
  clear HR0
  go_enter Tryz.func10, Tryz.ntmps10
  go_upto_region 1 with (fail)
  generalize (((w.alloc (.cells #[.int .i64 n, .int .i64 m, .slice (some ⟨b1, 0, none⟩) (n + 1) c1, .slice A2 l.length c2, .slice A3 l.length c3] 31)).alloc (.cells #[.int .i64 N, .slice Ah (wordsN N) ch, .slice Av N cv] 48)).alloc (.cells #[.int .i64 0, .slice none 0 0] 35)) = w1 at *
  generalize w.heap.size + 1 + 1 = gr at HR HNE0 ⊢
  generalize w.heap.size + 1 = gb at HY HNE0 ⊢
  generalize hga : w.heap.size = ga at HX ⊢
  have HNE := Lib.hid (show ga < gb ∧ gb < gr ∧ w.heap.size ≤ ga by have := HNE0.out; omega)
  clear HNE0 hga
  go_wp2_with (first | (refine wpList_loadBlk rfl 31 (.tmp 6) rfl ga [.int .i64 n, .int .i64 m, .slice (some ⟨b1, 0, none⟩) (n + 1) c1, .slice A2 l.length c2, .slice A3 l.length c3] _ HX.out rfl Tryz.underlying31 rfl infoRows ?_) | (refine wpList_loadBlk rfl 48 (.tmp 7) rfl gb [.int .i64 N, .slice Ah (wordsN N) ch, .slice Av N cv] _ HY.out rfl Tryz.underlying48 rfl infoDense ?_))
  refine (pSums_any r HRV.out n m N b base base' kf cf Af q oth l X V _ _ _ _ _ _ HN6.out HMN.out HMO.out (HM.out.kept0 K0.out) HOK.out (HD.out.kept0 K0.out) HV.out HVV.out (by have := HNN.out; omega) (HF.out _ K0.out)).mono ?_
  rintro _ w3 ⟨v, rfl, ho, hk⟩
  have HC := Lib.hid (own_base ho K0.out.size)
  replace HX := Lib.hid (HX.out.kept hk (by simp))
  replace HY := Lib.hid (HY.out.kept hk (by simp))
  replace HR := Lib.hid (HR.out.kept hk (by simp))
  replace K0 := Lib.hid (K0.out.trans hk)
  clear hk ho
  obtain ⟨C, hC⟩ : ∃ C, C = sumsR r b V l (askN n q oth) := ⟨_, rfl⟩
  rw [← hC] at HC HS1 HS2 HS3 HS4 HPOST
  clear hC
  obtain ⟨Ac, cc, rfl⟩ := own_n HC.out
  go_wp2_with (first | (refine wpList_loadBlk rfl 31 (.tmp 6) rfl ga [.int .i64 n, .int .i64 m, .slice (some ⟨b1, 0, none⟩) (n + 1) c1, .slice A2 l.length c2, .slice A3 l.length c3] _ HX.out rfl Tryz.underlying31 rfl infoRows ?_) | (refine wpList_loadBlk rfl 48 (.tmp 7) rfl gb [.int .i64 N, .slice Ah (wordsN N) ch, .slice Av N cv] _ HY.out rfl Tryz.underlying48 rfl infoDense ?_))
  refine (pSure_any n m N b base base' l X V _ _ _ _ _ w3 HN6.out HMO.out (HM.out.kept0 K0.out) HOK.out (HD.out.kept0 K0.out)).mono ?_
  rintro _ w4 ⟨rfl, hk⟩
  replace HX := Lib.hid (HX.out.kept hk (by simp))
  replace HY := Lib.hid (HY.out.kept hk (by simp))
  replace HR := Lib.hid (HR.out.kept hk (by simp))
  replace HC := Lib.hid (own_kept0 HC.out hk)
  replace K0 := Lib.hid (K0.out.trans hk)
  clear hk
  go_upto_region 5 with (first | (refine wpList_storeBlk rfl 31 (.tmp 6) (.tmp 31) rfl ga _ [.int .i64 n, .int .i64 m, .slice (some ⟨b1, 0, none⟩) (n + 1) c1, .slice A2 l.length c2, .slice A3 l.length c3] HX.out rfl rfl rfl infoRows (by simp [Value.oneCell']) ?_; intro w5 hb5 hk5))
  replace HR := Lib.hid (HR.out.kept hk5 (by have := HNE.out; simp; omega))
  replace HC := Lib.hid (own_kept HC.out hk5 (fun u hu => by simp; rintro rfl; exact own_ne_blk HC.out HX.out (by decide) hu))
  replace HX := Lib.hid hb5
  replace K0 := Lib.hid (K0.out.then hk5 (fun u hu => by simp at hu; subst hu; exact .inr HNE.out.2.2))
  clear hb5 hk5
  have x0 := HX.out.cell 0
  simp only [List.getElem?_cons_zero] at x0
  go_wp2_with fail
  refine (pDone_any r HRV.out n cc C Ac _ (by have := HNN.out; omega) HS4.out HS1.out HS2.out HS3.out (Reads.of_own HC.out)).mono ?_
  rintro _ w6 ⟨v, rfl, v2, hqq, ho, hk⟩
  injection hqq with hqq
  subst hqq
  have HI := Lib.hid (own_base ho K0.out.size)
  replace HR := Lib.hid (HR.out.kept hk (by simp))
  replace K0 := Lib.hid (K0.out.trans hk)
  clear hk ho x0 HX
  obtain ⟨Ai, ci, rfl⟩ := own_n HI.out
  go_wp2_with (first | (refine wpList_storeBlk rfl 35 (.tmp 10) (.tmp 38) rfl gr _ [.int .i64 n, .slice Ai (itemsR r C).length ci] HR.out rfl rfl rfl infoVec (by simp [Value.oneCell']) ?_; intro w8 hb8 hk8))
  have e0 := hb8.cell 0
  have e1 := hb8.cell 1
  simp only [List.getElem?_cons_zero, List.getElem?_cons_succ] at e0 e1
  refine bodyPost_ret (v := .tuple #[.agg #[.int .i64 n, .slice Ai (itemsR r C).length ci], .int .i64 0]) (by simp [results, Tryz.results10, go_sem, e0, e1]) rfl ?_
  rw [HPOST.out]
  have f8 : KeptB w.heap.size [35] w6 w8 := (KeptB.refl _ _ w6).step (L := [gr]) hk8 (fun u hu => by simp at hu; subst hu; exact ⟨by have := HNE.out; omega, _, _, _, HR.out, by simp⟩)
  exact ⟨_, rfl, _, rfl, own_keptB HI.out f8 (by decide), K0.out.thenB f8 (Nat.le_refl _)⟩
end Go.Proofs.YtblfingmdipopaaGreat

/- prog.Asked of both kinds; what a superstep gets. Conditions: a plan of levels or paths of at most 60 vertices. -/
namespace Go.Proofs.YtblfingmdipopaaGreat
set_option linter.unusedSimpArgs false
set_option linter.unusedVariables false
open Go.ChangeShapes Go.WideShapes Go.ChangeAt Go.RowKit
open Go.RowKit (wrap32 wrap64)
set_option maxHeartbeats 8000000
section
variable {P : Program} {ops : Array Oper} {rest : List Oper} {o : Oper} {a : Act} {Q : Exit → Act → World → Prop} {w : World}
/-- A struct is loaded whole off a block, by a guarded operation whose guard holds. -/
theorem wpList_loadBlkG (t : TypeId) (x : Operand) (ho : o.op = .load t x) (g : Nat) (cs : List Value) (d : TypeDesc) (hw : Region.wanted o (yielded ops a.tmps) = true) (hb : Blk w g t cs) (hx : a.eval x = .pointer (some ⟨g, 0, none⟩))
    (hu : P.underlying t = some d) (hd : d.isRow = true) (hi : (P.info? t).map (·.size) = some cs.length) (h : wpList P ops Q rest (a.put o.dst (.agg cs.toArray)) w) : wpList P ops Q (o :: rest) a w := by
  rw [wpList, if_pos hw]
  exact .inl (wp_load_mid t x ho g 0 hx cs d hb.cell2 hu hd hi h)
end
/-- Which vertices are asked. -/
def qP (κ : Int) (A : List Int) (n i : Nat) : Bool := decide (κ = 1) && (onP (frP A) n).testBit i
def oP (κ : Int) : Bool := decide (κ ≠ 1)
theorem pAsked_any (κ : Int) (n s : Nat) (Aa Ab Ao : Option Addr) (ca cb co b : Nat) (A B : List Int) (round : Int) (w : World) (h : PlOk κ n s) (hb : b < 2 ^ n) (hla : A.length = n) (hr : StRd w n Aa Ab Ao A B b) :
    Calls Tryz.prog 119 #[.agg (plC κ n s).toArray, .agg (stS n Aa Ab Ao ca cb co).toArray, .int .i64 round] w (fun e w' => ∃ Af kf cf, e = .returned (.tuple #[.slice Af kf cf, .bool (oP κ)]) ∧ (∀ w1, Kept [] w' w1 → AskB w1.heap.size w1 Af kf cf (qP κ A n) n) ∧ Kept [] w w') := by
  have hn := h.num
  rcases h.kind with rfl | rfl
  · refine (asked1_any n s Aa Ab Ao ca cb co b A B round w h hb hla hr).mono ?_
    rintro _ w1 ⟨v, rfl, ho, hk⟩
    obtain ⟨Af, cf, rfl⟩ := own_n ho
    refine ⟨Af, _, cf, rfl, fun w2 k2 => ?_, hk⟩
    have := askB_one (c := cf) hn (onP_lt (frP A) n) (Reads.of_own (own_kept0 ho k2))
    rw [show qP 1 A n = fun i => (onP (frP A) n).testBit i by funext i; simp [qP]]
    exact this
  · refine (asked2_any n s Aa Ab Ao ca cb co b A B round w h hb hla hr).mono ?_
    rintro _ w1 ⟨rfl, hk⟩
    refine ⟨none, 0, 0, rfl, fun w2 k2 => ?_, hk⟩
    rw [show qP 2 A n = fun _ => false by funext i; simp [qP]]
    exact askB_nil _ _ 0 n (by omega)
theorem items_okQ (r : Int) (b : Nat) (V : List Int) (l : List Ed) {n : Nat} (q : Nat → Bool) (oth : Bool) (hn : n ≤ 4096) : VcOk n (itemsR r (sumsR r b V l (askN n q oth))) := by
  have hmem : ∀ e ∈ itemsR r (sumsR r b V l (askN n q oth)), ∃ i : Nat, i < n ∧ ∃ s, e = ((0 : Int), (i : Int), s) := by
    intro e he
    obtain ⟨x, hx, rfl⟩ := List.mem_map.1 he
    exact ⟨x.1, askN_lt (sumsR_mem (List.mem_filter.1 hx).1).1, x.2, rfl⟩
  refine ⟨?_, ?_, ?_, hn⟩
  · have h1 := sumsR_rise r b V l _ (askN_rise n q oth)
    unfold itemsR RisesL
    rw [List.pairwise_map]
    refine (h1.filter _).imp (fun {x y} h => ?_)
    simp [keyLt, keyOf]
    omega
  · intro e he
    obtain ⟨i, hi, s, rfl⟩ := hmem e he
    exact ⟨rfl, by simp, by simpa using hi⟩
  · unfold itemsR
    rw [List.length_map]
    refine Nat.le_trans (List.length_filter_le _ _) (Nat.le_trans (sumsR_len r b V l _) ?_)
    unfold askN
    refine Nat.le_trans (List.length_filter_le _ _) ?_
    simp
    omega
theorem outL_mem {κ : Int} {A : List Int} {b n : Nat} {e : Ed} (h : e ∈ outL κ A b n) : ∃ i : Nat, i < n ∧ b.testBit i = true ∧ e = ((0 : Int), (i : Int), tellV κ i (A.getD i 0)) := by
  obtain ⟨i, hi, h⟩ := List.mem_filterMap.1 h
  have hi := List.mem_range.1 hi
  split at h
  · injection h with h
    exact ⟨i, hi, by assumption, h.symm⟩
  · cases h
theorem outL_ok (κ : Int) (A : List Int) (b : Nat) {n : Nat} (hn : n ≤ 60) : VcOk n (outL κ A b n) := by
  refine ⟨?_, ?_, ?_, by omega⟩
  · unfold outL RisesL
    rw [List.pairwise_filterMap]
    refine List.pairwise_lt_range.imp (fun {x y} h => ?_)
    intro u hu v hv
    split at hu
    · split at hv
      · simp only [Option.some.injEq] at hu hv
        subst hu
        subst hv
        simp [keyLt, keyOf]
        omega
      · cases hv
    · cases hu
  · intro e he
    obtain ⟨i, hi, _, rfl⟩ := outL_mem he
    exact ⟨rfl, by simp, by simpa using hi⟩
  · exact Nat.le_trans (outL_len κ A b n) (by omega)
/-- What a superstep gets. -/
def gotP (κ : Int) (A : List Int) (b n : Nat) (l : List Ed) : List Ed := itemsR (ringP κ) (sumsR (ringP κ) (bitsP (atsP (outL κ A b n))) (valsP n (outL κ A b n)) l (askN n (qP κ A n) (oP κ)))
theorem gotP_ok (κ : Int) (A : List Int) (b : Nat) {n : Nat} (l : List Ed) (hn : n ≤ 60) : VcOk n (gotP κ A b n l) := items_okQ _ _ _ _ _ _ (by omega)
end Go.Proofs.YtblfingmdipopaaGreat

/- The states of a run, one by one. Conditions: none. -/
namespace Go.Proofs.YtblfingmdipopaaGreat
set_option linter.unusedSimpArgs false
set_option linter.unusedVariables false
open Go.RowKit
/-- What vertices have, and which are on. -/
structure StV where
  A : List Int
  B : List Int
  b : Nat
def gotI (κ : Int) (n : Nat) (l : List Ed) (x : StV) (i : Nat) : Option Int := getP (gotP κ x.A x.b n l) (i : Int)
def nextS (κ : Int) (n : Nat) (l : List Ed) (round : Int) (x : StV) : StV where
  A := (List.range n).map (fun (i : Nat) => newA κ round (x.A.getD i 0) ((gotI κ n l x i).getD 0) (gotI κ n l x i).isSome)
  B := (List.range n).map (fun (i : Nat) => newC κ (x.A.getD i 0) (x.B.getD i 0) ((gotI κ n l x i).getD 0) (gotI κ n l x i).isSome)
  b := onP (fun (i : Nat) => newB κ (x.A.getD i 0) ((gotI κ n l x i).getD 0) (gotI κ n l x i).isSome) n
/-- A run's state behind t supersteps. -/
def runS (κ : Int) (n s : Nat) (l : List Ed) : Nat → StV
  | 0 => ⟨(List.range n).map (firstA κ s), (List.range n).map (fun _ => -1), onP (fun i => decide (i = s)) n⟩
  | t + 1 => nextS κ n l ((t + 1 : Nat) : Int) (runS κ n s l t)
theorem runS_lenA (κ : Int) (n s : Nat) (l : List Ed) (t : Nat) : (runS κ n s l t).A.length = n := by
  cases t <;> simp [runS, nextS]
theorem runS_lenB (κ : Int) (n s : Nat) (l : List Ed) (t : Nat) : (runS κ n s l t).B.length = n := by
  cases t <;> simp [runS, nextS]
theorem runS_lt (κ : Int) (n s : Nat) (l : List Ed) (t : Nat) : (runS κ n s l t).b < 2 ^ n := by
  cases t <;> exact onP_lt _ n
theorem runS_A0 (κ : Int) (n s : Nat) (l : List Ed) {i : Nat} (h : i < n) : (runS κ n s l 0).A.getD i 0 = firstA κ s i := by
  simp [runS, List.getD_eq_getElem?_getD, h]
theorem runS_A (κ : Int) (n s : Nat) (l : List Ed) (t : Nat) {i : Nat} (h : i < n) : (runS κ n s l (t + 1)).A.getD i 0 = newA κ ((t + 1 : Nat) : Int) ((runS κ n s l t).A.getD i 0) ((gotI κ n l (runS κ n s l t) i).getD 0) (gotI κ n l (runS κ n s l t) i).isSome := by
  simp [runS, nextS, List.getD_eq_getElem?_getD, h]
theorem runS_b0 (κ : Int) (n s : Nat) (l : List Ed) (i : Nat) : (runS κ n s l 0).b.testBit i = (decide (i < n) && decide (i = s)) := onP_test _ n i
theorem runS_b (κ : Int) (n s : Nat) (l : List Ed) (t i : Nat) : (runS κ n s l (t + 1)).b.testBit i = (decide (i < n) && newB κ ((runS κ n s l t).A.getD i 0) ((gotI κ n l (runS κ n s l t) i).getD 0) (gotI κ n l (runS κ n s l t) i).isSome) := onP_test _ n i
/-- Where a run has not ended, some vertex is on. -/
theorem bit_of_ne {b n : Nat} (h : b ≠ 0) (hb : b < 2 ^ n) : ∃ i, i < n ∧ b.testBit i = true := by
  obtain ⟨i, hi⟩ := Nat.exists_testBit_of_ne_zero h
  refine ⟨i, ?_, hi⟩
  rcases Nat.lt_or_ge i n with h1 | h1
  · exact h1
  · rw [Nat.testBit_lt_two_pow (Nat.lt_of_lt_of_le hb (Nat.pow_le_pow_right (by decide) h1))] at hi
    cases hi
end Go.Proofs.YtblfingmdipopaaGreat

/- What a vertex gets in a superstep, as a sum over its row. Conditions: none. -/
namespace Go.Proofs.YtblfingmdipopaaGreat
set_option linter.unusedSimpArgs false
set_option linter.unusedVariables false
open Go.RowKit
theorem getP_map (o : Nat → Option Int) (i : Nat) : ∀ is : List Nat, getP (is.filterMap (fun j => (o j).map (fun s => ((0 : Int), (j : Int), s)))) (i : Int) = if i ∈ is then o i else none
  | [] => by simp [getP]
  | j :: is => by
    have ih := getP_map o i is
    unfold getP at ih ⊢
    rw [List.filterMap_cons]
    cases hj : o j with
    | none =>
      simp only [Option.map_none]
      rw [ih]
      by_cases h1 : i ∈ is
      · simp [h1]
      · by_cases h2 : i = j
        · subst h2
          simp [h1, hj]
        · simp [h1, h2]
    | some s =>
      simp only [Option.map_some]
      rw [List.find?_cons]
      by_cases h2 : i = j
      · subst h2
        simp [hj]
      · have h3 : (((j : Nat) : Int) == (i : Int)) = false := beq_false_of_ne (by omega)
        rw [h3]
        simp only []
        rw [ih]
        simp [h2]
theorem askN_mem {n i : Nat} {q : Nat → Bool} {oth : Bool} : i ∈ askN n q oth ↔ i < n ∧ (q i != oth) = true := by
  unfold askN
  simp
/-- What a vertex gets: the sum of its row, where it is asked and the sum is no zero. -/
theorem gotI_eq (κ : Int) (n : Nat) (l : List Ed) (x : StV) (i : Nat) : gotI κ n l x i = if i < n ∧ (qP κ x.A n i != oP κ) = true then nzO (ringP κ) (rowR (ringP κ) (bitsP (atsP (outL κ x.A x.b n))) (valsP n (outL κ x.A x.b n)) (rowL l i)) else none := by
  unfold gotI gotP
  rw [items_sums, getP_map]
  simp only [askN_mem]
/-- The one who tells. -/
theorem outL_at (κ : Int) (A : List Int) (b n : Nat) (i : Nat) : (i : Int) ∈ atsP (outL κ A b n) ↔ i < n ∧ b.testBit i = true := by
  unfold atsP
  constructor
  · intro h
    obtain ⟨e, he, h2⟩ := List.mem_map.1 h
    obtain ⟨j, hj, hb, rfl⟩ := outL_mem he
    have h3 : ((j : Nat) : Int) = (i : Int) := by simpa using h2
    have h4 : j = i := by omega
    subst h4
    exact ⟨hj, hb⟩
  · rintro ⟨h1, h2⟩
    refine List.mem_map.2 ⟨(0, (i : Int), tellV κ i (A.getD i 0)), ?_, rfl⟩
    unfold outL
    exact List.mem_filterMap.2 ⟨i, List.mem_range.2 h1, by simp [h2]⟩
/-- A row's sum: there is one where some edge of the row has a vertex that tells; what holds of the terms and abides sums holds of it. -/
theorem rowR_fold {r : Int} {b : Nat} {V : List Int} (P : Int → Prop) (hadd : ∀ x y, P x → P y → P (addV r x y)) : ∀ (L : List Ed) (o : Option Int), (∀ s, o = some s → P s) → (∀ e ∈ L, b.testBit e.2.1.toNat = true → P (mulV r e.2.2 (V.getD e.2.1.toNat 0))) →
    (∀ s, L.foldl (stepR r b V) o = some s → P s) ∧ (L.foldl (stepR r b V) o).isSome = (o.isSome || L.any (fun e => b.testBit e.2.1.toNat))
  | [], o, ho, _ => ⟨ho, by simp⟩
  | e :: L, o, ho, h => by
    have hL := fun x hx => h x (List.mem_cons_of_mem _ hx)
    rw [List.foldl_cons, List.any_cons]
    cases hb : b.testBit e.2.1.toNat with
    | false =>
      have h1 : stepR r b V o e = o := by unfold stepR; simp [hb]
      rw [h1]
      have := rowR_fold P hadd L o ho hL
      exact ⟨this.1, by rw [this.2]; simp⟩
    | true =>
      have hp := h e (List.mem_cons_self ..) hb
      have h1 : stepR r b V o e = sumO r o (mulV r e.2.2 (V.getD e.2.1.toNat 0)) := by unfold stepR; simp [hb]
      rw [h1]
      have h2 : ∀ s, sumO r o (mulV r e.2.2 (V.getD e.2.1.toNat 0)) = some s → P s := by
        intro s hs
        cases o with
        | none => simp only [sumO, Option.some.injEq] at hs; subst hs; exact hp
        | some t => simp only [sumO, Option.some.injEq] at hs; subst hs; exact hadd _ _ (ho t rfl) hp
      have := rowR_fold P hadd L _ h2 hL
      refine ⟨this.1, ?_⟩
      rw [this.2]
      cases o <;> simp [sumO]
end Go.Proofs.YtblfingmdipopaaGreat
