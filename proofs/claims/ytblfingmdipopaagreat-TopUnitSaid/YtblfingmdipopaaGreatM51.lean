/- model.states' iterator: it yields the states of a run, one by one, and notes that the run has ended. Conditions: a plan of levels or paths of at most 60 vertices; edges of weight 1 that are canonical; the run ends by round n. -/
import Derived.Test.YtblfingmdipopaaGreatM48
import Derived.Test.YtblfingmdipopaaGreatM50
namespace Go.Proofs.YtblfingmdipopaaGreat
set_option linter.unusedSimpArgs false
set_option linter.unusedVariables false
open Go.ChangeShapes Go.WideShapes Go.ChangeAt Go.RowKit
open Go.RowKit (wrap32 wrap64)
set_option maxHeartbeats 8000000
/-- What the iterator knows ahead of each yield. -/
structure StI (κ : Int) (n s : Nat) (lm : List Ed) (v1 v2 v3 : Value) (gr gm gs l D : Nat) (lo : Obj) (w : World) (t : Nat) (pre : List StX) (x : StX) (W : World) : Prop where
  i : RunI gr n w pre W
  hl : W.heap[l]? = some lo
  hD : W.heap[D]? = some (.deferred (some []))
  m : Blk W gm 31 [.int .i64 n, .int .i64 n, v1, v2, v3]
  mt : MtAt W w.heap.size v1 v2 v3 n lm
  sb : Blk W gs 61 (x.cells n)
  st : x.at n w.heap.size (runS κ n s lm t) W
  len : pre.length = t
section
variable {κ : Int} {n s gr gm gs l D t : Nat} {lm : List Ed} {v1 v2 v3 : Value} {lo : Obj} {w W W' : World} {pre : List StX} {x : StX}
theorem RunI.kept0 (h : RunI gr n w pre W) (k : Kept [] W W') : RunI gr n w pre W' := ⟨h.1.kept k (by simp), h.2.then k (by simp)⟩
theorem StI.kept0 (h : StI κ n s lm v1 v2 v3 gr gm gs l D lo w t pre x W) (k : Kept [] W W') : StI κ n s lm v1 v2 v3 gr gm gs l D lo w t pre x W' :=
  ⟨h.i.kept0 k, (k.block l (Array.getElem?_eq_some_iff.1 h.hl).1 (by simp)).trans h.hl, (k.block D (Array.getElem?_eq_some_iff.1 h.hD).1 (by simp)).trans h.hD, h.m.kept k (by simp), h.mt.kept0 k, h.sb.kept k (by simp), h.st.kept0 k, h.len⟩
/-- Behind a yield. -/
theorem StI.yield (h : StI κ n s lm v1 v2 v3 gr gm gs l D lo w t pre x W) (hi : RunI gr n w (pre ++ [x]) W') (hl : W'.heap[l]? = some lo) (hD : W'.heap[D]? = some (.deferred (some []))) (k : KpR gr W W') :
    RunI gr n w (pre ++ [x]) W' ∧ W'.heap[l]? = some lo ∧ W'.heap[D]? = some (.deferred (some [])) ∧ Blk W' gm 31 [.int .i64 n, .int .i64 n, v1, v2, v3] ∧ MtAt W' w.heap.size v1 v2 v3 n lm ∧ Blk W' gs 61 (x.cells n) ∧ x.at n w.heap.size (runS κ n s lm t) W' :=
  ⟨hi, hl, hD, k.blk h.m (h.m.ne h.i.1 (by decide)), h.mt.kpR k h.i.1, k.blk h.sb (h.sb.ne h.i.1 (by decide)), h.st.kpR k h.i.1⟩
theorem RunI.done (h : RunI gr n w (pre ++ [x]) W) (hlen : pre.length = t) (ht : t ≤ 60) {s : StV} (hst : x.at n w.heap.size s W) : RunS gr n t s w (W.setCell ⟨gr, 0, none⟩ (.int .i64 1)) := by
  have hks : Kept [gr] W (W.setCell ⟨gr, 0, none⟩ (.int .i64 1)) := (Kept.refl [gr] W).setCell (.inl (by simp)) _
  have hb := h.1.set 0 (.int .i64 1)
  rw [List.getLast?_concat, show wrap64 ((((pre ++ [x]).length : Nat) : Int) - 1) = (t : Int) by unfold wrap64; simp; omega] at hb
  exact ⟨x, hb, hst.kpR (KpR.of_kept hks) h.1, h.2.trans hks⟩
/-- The next state is stored. -/
theorem StI.next {x' : StX} {cs : List Value} (hi : RunI gr n w (pre ++ [x]) W) (hl : W.heap[l]? = some lo) (hD : W.heap[D]? = some (.deferred (some []))) (hm : Blk W gm 31 [.int .i64 n, .int .i64 n, v1, v2, v3]) (hmt : MtAt W w.heap.size v1 v2 v3 n lm) (hs : Blk W gs 61 cs)
    (hst : x'.at n w.heap.size (runS κ n s lm (t + 1)) W) (hlen : pre.length = t) (hlo : lo.isCells = false) (hgs : w.heap.size ≤ gs) (hb : Blk W' gs 61 (x'.cells n)) (hk : Kept [gs] W W') : StI κ n s lm v1 v2 v3 gr gm gs l D lo w (t + 1) (pre ++ [x]) x' W' := by
  have f : KeptB w.heap.size [61] W W' := (KeptB.refl _ _ W).step (L := [gs]) hk (fun u hu => by simp at hu; subst hu; exact ⟨hgs, _, _, _, hs, by simp⟩)
  exact ⟨⟨hi.1.keptB f (by decide), hi.2.then hk (fun u hu => by simp at hu; subst hu; exact .inr hgs)⟩,
    (f.block l (Array.getElem?_eq_some_iff.1 hl).1 (.inr fun c t fr h => by rw [hl] at h; injection h with h; subst h; cases hlo)).trans hl,
    (f.block D (Array.getElem?_eq_some_iff.1 hD).1 (.inr fun c t fr h => by rw [hD] at h; injection h with h; cases h)).trans hD,
    hm.keptB f (by decide), hmt.keptB f (by decide) (by decide), hb, hst.keptB f (by decide) (by decide), by simp [hlen]⟩
end
set_option maxRecDepth 100000 in
theorem states1_seq (κ : Int) (n s T m : Nat) (le lm : List Ed) (Ag : Option Addr) (cg g1 g2 g3 g4 gr : Nat) (cs0 : List Value) (w : World) (h : PlOk κ n s) (hl : le.length ≤ 65536) (hA : Reads w Ag (le.flatMap edV)) (hR : rightP n le = 0) (hw : ∀ e ∈ le, In64 e.2.2) (hin : ∀ e ∈ le, 0 ≤ e.2.1 ∧ e.2.1 < n) (hcan : canonP (madeP oneE allE le) = le)
    (hlm : canonP (turnL le) = lm) (hmo : MtOkM n n lm) (hv : ∀ e ∈ lm, OkV (ringP κ) e.2.2) (hT : T ≤ n) (hT0 : (runS κ n s lm T).b = 0) (hT1 : ∀ t, t < T → (runS κ n s lm t).b ≠ 0) (htell : ∀ t, t ≤ T → ∀ i : Nat, (runS κ n s lm t).b.testBit i = true → OkV (ringP κ) (tellV κ i ((runS κ n s lm t).A.getD i 0)))
    (b1 : Blk w g1 68 (plC κ n s)) (b2 : Blk w g2 56 [.int .i64 n, .slice Ag le.length cg]) (b3 : Blk w g3 112 [.pointer (some ⟨gr, 0, none⟩)]) (b4 : Blk w g4 3 [.int .i64 ((n : Int) + 1)]) (br : Blk w gr 63 cs0) :
    SeqW Fence.wide m Tryz.prog 73 #[.pointer (some ⟨g1, 0, none⟩), .pointer (some ⟨g2, 0, none⟩), .pointer (some ⟨g3, 0, none⟩), .pointer (some ⟨g4, 0, none⟩)] (encS n) (KpR gr) (RunI gr n w) (RunS gr n T (runS κ n s lm T) w) w := by
  intro l D lo W1 hwD hwl hB1 hlo hl1 hD1 hY h0
  have HPL := Lib.hid h
  have HL := Lib.hid hl
  have HR := Lib.hid hR
  have HW := Lib.hid hw
  have HIN := Lib.hid hin
  have HCAN := Lib.hid hcan
  have HLM := Lib.hid hlm
  have HMO := Lib.hid hmo
  have HV := Lib.hid hv
  have HT := Lib.hid hT
  have HT0 := Lib.hid hT0
  have HT1 := Lib.hid hT1
  have HTL := Lib.hid htell
  have HNN := Lib.hid h.num
  have HY := Lib.hid hY
  have HL1 := Lib.hid hl1
  have HD1 := Lib.hid hD1
  have HI0 := Lib.hid h0
  have HLO := Lib.hid hlo
  have HP0 := Lib.hid b1
  have HG0 := Lib.hid b2
  have HE0 := Lib.hid b3
  have HX0 := Lib.hid b4
  have HNE := Lib.hid (show g1 ≠ gr ∧ g2 ≠ gr ∧ g3 ≠ gr ∧ g4 ≠ gr from ⟨b1.ne br (by decide), b2.ne br (by decide), b3.ne br (by decide), b4.ne br (by decide)⟩)
  have K1 := Lib.hid h0.2
  have HA1 := Lib.hid (hA.kept0 (Kept.of_below hB1 []))
  have HSZ := Lib.hid hB1.size
  have HP := Lib.hid (b1.kept h0.2 (by simpa using HNE.out.1))
  have HG := Lib.hid (b2.kept h0.2 (by simpa using HNE.out.2.1))
  clear h hl hA hR hw hin hcan hlm hmo hv hT hT0 hT1 htell b1 b2 b3 b4 br hwD hwl hB1 hlo hl1 hD1 hY h0
  rw [callsIn_wide]
  simp only [List.append_toArray, List.cons_append, List.nil_append]
  go_enter Tryz.func73, Tryz.ntmps73
  go_step3
  go_wp2_with (first | (refine wpList_loadBlk rfl 68 (.tmp 1) rfl g1 (plC κ n s) _ HP.out rfl Tryz.underlying68 rfl infoPlan ?_) | (refine wpList_loadBlk rfl 56 (.tmp 2) rfl g2 [.int .i64 n, .slice Ag le.length cg] _ HG.out rfl Tryz.underlying56 rfl infoGraph ?_))
  refine (matrix_any κ n s le Ag cg W1 HPL.out HL.out HA1.out HR.out HW.out HIN.out HCAN.out).mono ?_
  rintro _ w2 ⟨v, rfl, v1, v2, v3, hq, hmt, hk⟩
  injection hq with hq
  subst hq
  rw [HLM.out] at hmt
  obtain ⟨bb, c1, A2, c2, A3, c3, rfl, rfl, rfl, _, _⟩ := hmt.form
  have HMT := Lib.hid (hmt.le HSZ.out)
  have K2 := Lib.hid hk
  clear hmt hk
  go_upto_region 1 with (first | (refine wpList_storeBlk rfl 31 (.tmp 6) (.tmp 16) rfl w2.heap.size _ [.int .i64 n, .int .i64 n, .slice (some ⟨bb, 0, none⟩) (n + 1) c1, .slice A2 lm.length c2, .slice A3 lm.length c3] (Blk.new w2 _ _) rfl rfl rfl infoRows (by simp [Value.oneCell']) ?_; intro w3 hb3 hk3))
  have hk4 : Kept [] w2 w3 := ((Kept.refl [] w2).alloc _).then hk3 (fun u hu => by simp at hu; subst hu; exact .inr (Nat.le_refl _))
  have HGM := Lib.hid hb3
  have HMT3 := Lib.hid (HMT.out.kept0 hk4)
  have K3 := Lib.hid (K2.out.trans hk4)
  replace HP := Lib.hid (HP.out.kept K3.out (by simp))
  clear hb3 hk3 hk4 HMT K2
  generalize w2.heap.size = gm at HGM ⊢
  have p1 := HP.out.cell 1
  simp only [List.getElem?_cons_zero, List.getElem?_cons_succ] at p1
  go_wp2_with (first | (refine wpList_loadBlk rfl 68 (.tmp 1) rfl g1 (plC κ n s) _ HP.out rfl Tryz.underlying68 rfl infoPlan ?_))
  clear p1
  refine (pBegin_any κ n s w3 HPL.out).mono ?_
  rintro _ w4 ⟨vA, vB, vO, rfl, hst, hk4⟩
  obtain ⟨Aa, ca, rfl⟩ := own_n hst.o1
  obtain ⟨Ab, cb, rfl⟩ := own_n hst.o2
  obtain ⟨Ao, co, rfl⟩ := own_n hst.o3
  have HST := Lib.hid (hst.le (Nat.le_trans HSZ.out K3.out.size))
  have HK4 := Lib.hid hk4
  clear hst hk4
  go_upto_region 2 with (first | (refine wpList_storeBlk rfl 61 (.tmp 8) (.tmp 21) rfl w4.heap.size _ (stC n (.slice Aa n ca) (.slice Ab n cb) (.slice Ao (wordsN n) co)) (Blk.new w4 _ _) rfl rfl rfl infoState (by simp [stC, Value.oneCell']) ?_; intro w5 hb5 hk5))
  have hk6 : Kept [] w4 w5 := ((Kept.refl [] w4).alloc _).then hk5 (fun u hu => by simp at hu; subst hu; exact .inr (Nat.le_refl _))
  have K5 := Lib.hid (K3.out.trans (HK4.out.trans hk6))
  have HSI : Hid (StI κ n s lm (.slice (some ⟨bb, 0, none⟩) (n + 1) c1) (.slice A2 lm.length c2) (.slice A3 lm.length c3) gr gm w4.heap.size l D lo w 0 [] ⟨Aa, ca, Ab, cb, Ao, co⟩ w5) := Lib.hid
    ⟨HI0.out.kept0 K5.out, (K5.out.block l (Array.getElem?_eq_some_iff.1 HL1.out).1 (by simp)).trans HL1.out, (K5.out.block D (Array.getElem?_eq_some_iff.1 HD1.out).1 (by simp)).trans HD1.out, HGM.out.kept (HK4.out.trans hk6) (by simp), HMT3.out.kept0 (HK4.out.trans hk6), hb5, HST.out.kept0 hk6, rfl⟩
  have HGS := Lib.hid (show w.heap.size ≤ w4.heap.size from Nat.le_trans HSZ.out (Nat.le_trans K3.out.size HK4.out.size))
  clear hb5 hk5 hk6 HGM HMT3 K3 HST HK4 K5 HI0 HL1 HD1 HP HG
  generalize w4.heap.size = gs at HSI HGS ⊢
  go_wp2_with fail
  go_step3
  go_wp2_with fail
  go_loopw [9] (fun x wr => ∃ t : Nat, t ≤ T ∧ x = .int .i64 (t : Int) ∧ ∃ pre X, Hid (StI κ n s lm (.slice (some ⟨bb, 0, none⟩) (n + 1) c1) (.slice A2 lm.length c2) (.slice A3 lm.length c3) gr gm gs l D lo w t pre X wr)) (fun x _ => (T + 1) - (intOf x).toNat)
  case atStart => exact ⟨0, Nat.zero_le _, rfl, _, _, HSI⟩
  case round =>
    obtain ⟨t, ht, rfl, pre, X, HS⟩ := hrel
    clear HSI
    obtain ⟨fn, tmps, assign, body, hy, hRy⟩ := HY.out pre X wr HS.out.i HS.out.hl HS.out.hD
    dsimp only [encS] at hy
    go_upto_region 3 with (fail)
    refine (wpIn_wide (n := m)).1 ?_
    gi_wp2_with (first | (refine inLoad rfl 61 (.tmp 8) rfl gs (X.cells n) _ HS.out.sb rfl Tryz.underlying61 rfl infoState ?_))
    refine ⟨fun h => by simp [Fence.wide] at h, hRy.mono ?_⟩
    rintro e W3 ⟨rfl, hI3, hl3, hD3, hk3⟩
    obtain ⟨hI3, hl3, hD3, hm3, hmt3, hs3, hst3⟩ := HS.out.yield hI3 hl3 hD3 hk3
    have HLEN := Lib.hid HS.out.len
    clear hy hRy hk3 HS
    have HI := Lib.hid hI3
    have HL3 := Lib.hid hl3
    have HD3 := Lib.hid hD3
    have HM := Lib.hid hm3
    have HMT := Lib.hid hmt3
    have HS := Lib.hid hs3
    have HST := Lib.hid hst3
    have HP := Lib.hid (HP0.out.kept hI3.2 (by simpa using HNE.out.1))
    have HE := Lib.hid (HE0.out.kept hI3.2 (by simpa using HNE.out.2.2.1))
    have HX := Lib.hid (HX0.out.kept hI3.2 (by simpa using HNE.out.2.2.2))
    have htn : t ≤ 60 := Nat.le_trans ht (Nat.le_trans HT.out HNN.out)
    clear hI3 hl3 hD3 hm3 hmt3 hs3 hst3
    gi_wp2
    go_wp2_with (first | (refine wpList_loadBlk rfl 68 (.tmp 1) rfl g1 (plC κ n s) _ HP.out rfl Tryz.underlying68 rfl infoPlan ?_) | (refine wpList_loadBlk rfl 61 (.tmp 8) rfl gs (X.cells n) _ HS.out rfl Tryz.underlying61 rfl infoState ?_))
    refine (live_any κ n s X.Aa X.Ab X.Ao X.ca X.cb X.co _ _ _ (t : Int) W3 HPL.out (runS_lt κ n s lm t) (runS_lenA κ n s lm t) HST.out.rd).mono ?_
    rintro _ w6 ⟨mm, rfl, hmm, hk6⟩
    replace HI := Lib.hid (HI.out.kept0 hk6)
    replace HL3 := Lib.hid ((hk6.block l (Array.getElem?_eq_some_iff.1 HL3.out).1 (by simp)).trans HL3.out)
    replace HD3 := Lib.hid ((hk6.block D (Array.getElem?_eq_some_iff.1 HD3.out).1 (by simp)).trans HD3.out)
    replace HM := Lib.hid (HM.out.kept hk6 (by simp))
    replace HMT := Lib.hid (HMT.out.kept0 hk6)
    replace HS := Lib.hid (HS.out.kept hk6 (by simp))
    replace HST := Lib.hid (StAt.kept0 HST.out hk6)
    replace HP := Lib.hid (HP.out.kept hk6 (by simp))
    replace HE := Lib.hid (HE.out.kept hk6 (by simp))
    replace HX := Lib.hid (HX.out.kept hk6 (by simp))
    by_cases hb : (runS κ n s lm t).b = 0
    · obtain rfl : mm = 0 := hmm.2 hb
      have htT : t = T := by
        rcases Nat.lt_or_ge t T with h1 | h1
        · exact absurd hb (HT1.out t h1)
        · omega
      have e0 := HE.out.cell 0
      have r0 := HI.out.1.cell 0
      have rf := HI.out.1.frozen 0
      simp only [rsC, List.getElem?_cons_zero] at e0 r0
      clear hmm hk6
      go_wp2_with fail
      rw [Exit.noGoto_normal]
      refine bodyPost_end (results_none rfl _ _ _) rfl ?_
      subst htT
      exact ⟨⟨_, rfl⟩, HI.out.done HLEN.out htn HST.out, (KeepsOthers.setCell w6 _ _).same l lo HL3.out HLO.out, (KeepsOthers.setCell w6 _ _).same D _ HD3.out rfl⟩
    · have hmm0 : ((mm : Int) == 0) = false := beq_false_of_ne (fun e => hb (hmm.1 (by omega)))
      have htT : t < T := by
        rcases Nat.lt_or_ge t T with h1 | h1
        · exact h1
        · obtain rfl : t = T := by omega
          exact absurd HT0.out hb
      have hlim : ((t : Int) == (n : Int) + 1) = false := beq_false_of_ne (by have := HT.out; omega)
      have HTT := Lib.hid htT
      have x0 := HX.out.cell 0
      simp only [List.getElem?_cons_zero] at x0
      clear hmm hk6 hb htT ht
      go_wp2_with (first | (refine wpList_loadBlk rfl 68 (.tmp 1) rfl g1 (plC κ n s) _ HP.out rfl Tryz.underlying68 rfl infoPlan ?_) | (refine wpList_loadBlk rfl 31 (.tmp 6) rfl gm _ _ HM.out rfl Tryz.underlying31 rfl infoRows ?_) | (refine wpList_loadBlk rfl 61 (.tmp 8) rfl gs (X.cells n) _ HS.out rfl Tryz.underlying61 rfl infoState ?_))
      clear x0
      refine (step_any κ n s w.heap.size X.Aa X.Ab X.Ao X.ca X.cb X.co _ _ _ ((t : Int) + 1) lm _ _ _ w6 HPL.out (runS_lt κ n s lm t) (runS_lenA κ n s lm t) (runS_lenB κ n s lm t) HST.out.rd HMO.out HMT.out HV.out (HTL.out t (Nat.le_of_lt HTT.out))).mono ?_
      rintro _ w7 ⟨v, rfl, vA, vB, vO, hq, hst, hk7⟩
      injection hq with hq
      subst hq
      obtain ⟨Aa, ca, rfl⟩ := own_n hst.o1
      obtain ⟨Ab, cb, rfl⟩ := own_n hst.o2
      obtain ⟨Ao, co, rfl⟩ := own_n hst.o3
      have HST2 := Lib.hid (show (StX.mk Aa ca Ab cb Ao co).at n w.heap.size (runS κ n s lm (t + 1)) w7 from StAt.le hst HI.out.2.size)
      clear hst
      go_upto_region 10 with (first | (refine wpList_storeBlk rfl 61 (.tmp 10) (.tmp 47) rfl w7.heap.size _ (stC n (.slice Aa n ca) (.slice Ab n cb) (.slice Ao (wordsN n) co)) (Blk.new w7 _ _) rfl rfl rfl infoState (by simp [stC, Value.oneCell']) ?_; intro w8 hb8 hk8))
      have hkn : Kept [] w7 w8 := ((Kept.refl [] w7).alloc _).then hk8 (fun u hu => by simp at hu; subst hu; exact .inr (Nat.le_refl _))
      have hk6 := hk7.trans hkn
      replace HI := Lib.hid (HI.out.kept0 hk6)
      replace HL3 := Lib.hid ((hk6.block l (Array.getElem?_eq_some_iff.1 HL3.out).1 (by simp)).trans HL3.out)
      replace HD3 := Lib.hid ((hk6.block D (Array.getElem?_eq_some_iff.1 HD3.out).1 (by simp)).trans HD3.out)
      replace HM := Lib.hid (HM.out.kept hk6 (by simp))
      replace HMT := Lib.hid (HMT.out.kept0 hk6)
      replace HS := Lib.hid (HS.out.kept hk6 (by simp))
      replace HST2 := Lib.hid (StAt.kept0 HST2.out hkn)
      have HNX := Lib.hid hb8
      clear hk6 hk7 hkn hk8 hb8 HST HP HE HX
      generalize w7.heap.size = gt at HNX ⊢
      go_wp2_with (first | (refine wpList_loadBlk rfl 61 (.tmp 10) rfl gt (stC n (.slice Aa n ca) (.slice Ab n cb) (.slice Ao (wordsN n) co)) _ HNX.out rfl Tryz.underlying61 rfl infoState ?_) | (refine wpList_storeBlk rfl 61 (.tmp 8) (.tmp 53) rfl gs _ (stC n (.slice Aa n ca) (.slice Ab n cb) (.slice Ao (wordsN n) co)) HS.out rfl rfl rfl infoState (by simp [stC, Value.oneCell']) ?_; intro w9 hb9 hk9))
      have HFIN := Lib.hid (StI.next (x' := ⟨Aa, ca, Ab, cb, Ao, co⟩) HI.out HL3.out HD3.out HM.out HMT.out HS.out HST2.out HLEN.out HLO.out HGS.out hb9 hk9)
      clear hb9 hk9
      go_roundw
      case rel => exact ⟨t + 1, HTT.out, by go_num, _, _, HFIN⟩
      case measure => have := HTT.out; simp [intOf]; omega
end Go.Proofs.YtblfingmdipopaaGreat
