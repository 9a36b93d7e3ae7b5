/- Loader: one triple that is read. -/
import Derived.Test.YtibjpjpbmkdddaaLg
import Derived.Test.YtibjpjpbmkdddaaE12
import Derived.StillTailTactics
namespace Go.Proofs.Ytibjpjpbmkdddaa
set_option linter.unusedSimpArgs false
set_option linter.unusedVariables false
open Go.ChangeShapes Go.WideShapes Go.ChangeAt Go.RowKit
open Go.RowKit (wrap32 wrap64)
set_option maxHeartbeats 8000000
set_option maxRecDepth 100000 in
theorem torder_any (a b : Ed) (w : World) :
    Calls Try.prog 33 #[.agg (edV a).toArray, .agg (edV b).toArray] w fun e w' => e = .returned (.int .i64 (endsI a b)) ∧ Grown w w' := by
  obtain ⟨a1, a2, a3⟩ := a
  obtain ⟨b1, b2, b3⟩ := b
  have HX := Lib.hid ((Blk.new w 30 (edV (a1, a2, a3))).alloc (.cells (edV (b1, b2, b3)).toArray 30))
  have HY := Lib.hid (Blk.new1F w (.cells (edV (a1, a2, a3)).toArray 30) 30 (edV (b1, b2, b3)))
  have G := Lib.hid (((Grown.refl w).alloc (.cells (edV (a1, a2, a3)).toArray 30)).alloc (.cells (edV (b1, b2, b3)).toArray 30))
  go_enter Try.func33, Try.ntmps33
  go_upto_region 1 with (fail)
  refine wp_region_still_tail 10 (by kernel_rfl) (by kernel_rfl) ?_
  simp only [List.take_succ_cons, List.take_zero, List.drop_succ_cons, List.drop_zero]
  change wpStill _ _ (World.drew ((w.alloc (.cells (edV (a1, a2, a3)).toArray 30)).alloc (.cells (edV (b1, b2, b3)).toArray 30))) (fun a' => wpList _ _ _ _ a' (World.drew ((w.alloc (.cells (edV (a1, a2, a3)).toArray 30)).alloc (.cells (edV (b1, b2, b3)).toArray 30)))) _ _
  replace HX := Lib.hid HX.out.drew
  replace HY := Lib.hid HY.out.drew
  replace G := Lib.hid G.out.drew
  generalize World.drew ((w.alloc (.cells (edV (a1, a2, a3)).toArray 30)).alloc (.cells (edV (b1, b2, b3)).toArray 30)) = w2 at *
  generalize w.heap.size + 1 = g2 at HY ⊢
  generalize w.heap.size = g1 at HX ⊢
  have x0 := HX.out.cell 0
  have x1 := HX.out.cell 1
  have y0 := HY.out.cell 0
  have y1 := HY.out.cell 1
  simp only [edV, List.getElem?_cons_zero, List.getElem?_cons_succ] at x0 x1 y0 y1
  repeat still_step
  still_call (compare_int a1 b1 _)
  repeat still_step
  still_call (compare_int a2 b2 _)
  refine wpStill_nil ?_
  clear x0 x1 y0 y1
  have HO := Lib.hid (Blk.new w2 3 [.int .i64 (cmpI a1 b1), .int .i64 (cmpI a2 b2)])
  go_wp2_with fail
  refine (or2_any (cmpI a1 b1) (cmpI a2 b2) _ _ _ HO.out).mono ?_
  rintro _ w3 ⟨rfl, rfl⟩
  go_wp2_with fail
  go_ret
  exact ⟨rfl, G.out.alloc _⟩
theorem infoTriple : (Try.prog.info? 30).map (·.size) = some 3 := by kernel_rfl
/-- A triple that is read, behind another one. -/
def Rd.trip (R : Rd) (m c : Int) (last : Ed) : Except (Int × Int) (Ed × Rd) :=
  (R.rd 4 0 (m - 1) 3).bind fun a => (a.2.rd 4 0 (c - 1) 3).bind fun b =>
    if (b.2.after 8).e ≠ 0 then .error ((b.2.after 8).e, (b.2.after 8).fat)
    else if keyLt (last.1, last.2.1) (a.1, b.1) = true then .ok ((a.1, b.1, wrap64 ((num (b.2.got 8) : Nat) : Int)), b.2.after 8) else .error (6, R.pos)
/-- What lies in memory while a triple is read: the reader, the source, how many rows and columns, the last one, this one, the result. -/
structure TgAt (w0 w : World) (p q mb cb lb r eb : Nat) (R : Rd) (m c : Int) (last : Ed) (cs ds : List Value) : Prop where
  rd : RdAt 138 w p R
  src : Blk w q 77 [.pointer (some ⟨p, 0, none⟩)]
  mb : Blk w mb 3 [.int .i64 m]
  cb : Blk w cb 3 [.int .i64 c]
  la : Blk w lb 30 (edV last)
  fr : Blk w eb 30 cs
  res : Blk w r 30 ds
  kept : Kept [p] w0 w
  ge : w0.heap.size ≤ eb
  ge' : w0.heap.size ≤ r
  ne : eb ≠ r
  nl : lb ≠ eb
  nr : lb ≠ r
section
variable {w0 w w' : World} {p q mb cb lb r eb : Nat} {R R' : Rd} {m c : Int} {last : Ed} {cs ds : List Value}
theorem TgAt.call (h : TgAt w0 w p q mb cb lb r eb R m c last cs ds) (hr : RdAt 138 w' p R') (hk : Kept [p] w w') : TgAt w0 w' p q mb cb lb r eb R' m c last cs ds :=
  ⟨hr, h.src.kept hk (rd_ne h.rd h.src (by decide)), h.mb.kept hk (rd_ne h.rd h.mb (by decide)), h.cb.kept hk (rd_ne h.rd h.cb (by decide)), h.la.kept hk (rd_ne h.rd h.la (by decide)), h.fr.kept hk (rd_ne h.rd h.fr (by decide)), h.res.kept hk (rd_ne h.rd h.res (by decide)), h.kept.trans hk, h.ge, h.ge', h.ne, h.nl, h.nr⟩
theorem TgAt.kept0 (h : TgAt w0 w p q mb cb lb r eb R m c last cs ds) (hk : Kept [] w w') : TgAt w0 w' p q mb cb lb r eb R m c last cs ds :=
  ⟨h.rd.kept0 hk, h.src.kept hk (by simp), h.mb.kept hk (by simp), h.cb.kept hk (by simp), h.la.kept hk (by simp), h.fr.kept hk (by simp), h.res.kept hk (by simp), h.kept.then hk (by simp), h.ge, h.ge', h.ne, h.nl, h.nr⟩
theorem TgAt.set (h : TgAt w0 w p q mb cb lb r eb R m c last cs ds) (j : Nat) (u : Value) : TgAt w0 (w.setCell ⟨eb, j, none⟩ u) p q mb cb lb r eb R m c last (cs.set j u) ds :=
  have hk : Kept [eb] w (w.setCell ⟨eb, j, none⟩ u) := (Kept.refl [eb] w).setCell (p := ⟨eb, j, none⟩) (.inl (by simp)) u
  have n1 : q ∉ [eb] := by have := h.src.ne h.fr (by decide); simpa using this
  have n2 : mb ∉ [eb] := by have := h.mb.ne h.fr (by decide); simpa using this
  have n3 : cb ∉ [eb] := by have := h.cb.ne h.fr (by decide); simpa using this
  ⟨h.rd.kept1 h.fr (by decide) (by decide) hk, h.src.kept hk n1, h.mb.kept hk n2, h.cb.kept hk n3, h.la.kept hk (by simpa using h.nl), h.fr.set j u, h.res.kept hk (by simpa using fun e => h.ne e.symm), h.kept.setCell (.inr h.ge) u, h.ge, h.ge', h.ne, h.nl, h.nr⟩
end
/-- How the reading of a triple ends. -/
def GotT (p lb : Nat) (last : Ed) (w : World) (r : Except (Int × Int) (Ed × Rd)) (x : Ending) (w' : World) : Prop :=
  match r with
  | .ok (t, R) => x = .returned (.agg (edV t).toArray) ∧ RdAt 138 w' p R ∧ Blk w' lb 30 (edV t) ∧ Kept [p, lb] w w'
  | .error (e, a) => x = .panicked [stp e a] ∧ Kept [p] w w'
theorem neg_lt (a b : Ed) : decide (endsI a b < 0) = keyLt (a.1, a.2.1) (b.1, b.2.1) := by
  unfold keyLt
  congr 1
  rw [eq_iff_iff, endsI_neg]
set_option maxRecDepth 100000 in
theorem trip_any (p q mb cb lb : Nat) (R : Rd) (m c : Int) (last : Ed) (w : World) (h : RdAt 138 w p R) (hq : Blk w q 77 [.pointer (some ⟨p, 0, none⟩)]) (hm : Blk w mb 3 [.int .i64 m]) (hc : Blk w cb 3 [.int .i64 c]) (hla : Blk w lb 30 (edV last)) (hmn : 0 ≤ m ∧ m ≤ 4096) (hcn : 0 ≤ c ∧ c ≤ 4096) :
    Calls Try.prog 41 #[.pointer (some ⟨q, 0, none⟩), .pointer (some ⟨mb, 0, none⟩), .pointer (some ⟨cb, 0, none⟩), .pointer (some ⟨lb, 0, none⟩)] w (GotT p lb last w (R.trip m c last)) := by
  obtain ⟨hm0, hm1⟩ := hmn
  obtain ⟨hc0, hc1⟩ := hcn
  have H := Lib.hid (h.kept0 ((Kept.refl [] w).alloc (.cells #[.int .i64 0, .int .i64 0, .int .i64 0] 30)))
  have HQ := Lib.hid (hq.alloc (.cells #[.int .i64 0, .int .i64 0, .int .i64 0] 30))
  have HM := Lib.hid (hm.alloc (.cells #[.int .i64 0, .int .i64 0, .int .i64 0] 30))
  have HC := Lib.hid (hc.alloc (.cells #[.int .i64 0, .int .i64 0, .int .i64 0] 30))
  have HLA := Lib.hid (hla.alloc (.cells #[.int .i64 0, .int .i64 0, .int .i64 0] 30))
  have HR := Lib.hid (Blk.new w 30 [.int .i64 0, .int .i64 0, .int .i64 0])
  have K0 := Lib.hid ((Kept.refl [p] w).alloc (.cells #[.int .i64 0, .int .i64 0, .int .i64 0] 30))
  have HLL := Lib.hid hla.lt
  have c0 := hq.cell 0
  have l0 := hq.lt
  simp only [List.getElem?_cons_zero] at c0
  clear h hq hm hc hla
  go_enter Try.func41, Try.ntmps41
  go_wp2_with fail
  refine (at_rd p R _ H.out).mono ?_
  rintro x w1 ⟨rfl, rfl⟩
  go_upto_region 2 with (fail)
  generalize w.alloc (.cells #[.int .i64 0, .int .i64 0, .int .i64 0] 30) = w1 at *
  clear c0 l0
  have c0 := HQ.out.cell 0
  have c1 := HM.out.cell 0
  have l0 := HQ.out.lt
  have l1 := HM.out.lt
  simp only [List.getElem?_cons_zero] at c0 c1
  go_wp2_with fail
  refine (smost_any p R (m - 1) 3 _ H.out).mono ?_
  intro x w2 hx
  rcases hr : R.rd 4 0 (m - 1) 3 with ⟨e, a⟩ | ⟨a1, R1⟩
  · rw [hr] at hx
    obtain ⟨rfl, hk⟩ := hx
    have K := Lib.hid (K0.out.trans hk)
    have E1 := Lib.hid hr
    clear hk hr c0 c1 l0 l1
    go_wp2_with fail
    refine ⟨rfl, ?_⟩
    simp only [Rd.trip, E1.out, Except.bind]
    exact ⟨rfl, K.out⟩
  rw [hr] at hx
  obtain ⟨rfl, hrd, hk⟩ := hx
  clear c0 c1 l0 l1
  have E1 := Lib.hid hr
  have HD := Lib.hid (show TgAt w (w2.alloc (.cells #[.int .i64 a1, .int .i64 0, .int .i64 0] 30)) p q mb cb lb w.heap.size w2.heap.size R1 m c last [.int .i64 a1, .int .i64 0, .int .i64 0] [.int .i64 0, .int .i64 0, .int .i64 0] from
    ⟨hrd.kept0 ((Kept.refl [] _).alloc _), (HQ.out.kept hk (rd_ne H.out HQ.out (by decide))).alloc _, (HM.out.kept hk (rd_ne H.out HM.out (by decide))).alloc _, (HC.out.kept hk (rd_ne H.out HC.out (by decide))).alloc _, (HLA.out.kept hk (rd_ne H.out HLA.out (by decide))).alloc _, Blk.new _ _ _, (HR.out.kept hk (rd_ne H.out HR.out (by decide))).alloc _, (K0.out.trans hk).alloc _,
      (by have := hk.size; have := K0.out.size; omega), Nat.le_refl _, (by have := hk.size; have := HR.out.lt; omega), (by have := (K0.out.trans hk).size; have := HLL.out; omega), (by have := HLL.out; omega)⟩)
  clear hr hrd hk H HQ HM HC HLA HR K0
  go_upto_region 3 with (fail)
  generalize w2.alloc (.cells #[.int .i64 a1, .int .i64 0, .int .i64 0] 30) = wh at HD ⊢
  generalize w2.heap.size = eb at HD ⊢
  have y0 := HD.out.src.cell 0
  have y1 := HD.out.mb.cell 0
  have y2 := HD.out.cb.cell 0
  have y3 := HD.out.fr.cell 1
  have l0 := HD.out.src.lt
  have l1 := HD.out.mb.lt
  have l2 := HD.out.cb.lt
  have l3 := HD.out.fr.lt
  simp only [List.getElem?_cons_zero, List.getElem?_cons_succ] at y0 y1 y2 y3
  go_wp2_with fail
  refine (smost_any p R1 (c - 1) 3 _ HD.out.rd).mono ?_
  intro x w3 hx
  rcases hr : R1.rd 4 0 (c - 1) 3 with ⟨e, a⟩ | ⟨a2, R2⟩
  · rw [hr] at hx
    obtain ⟨rfl, hk⟩ := hx
    have K := Lib.hid (HD.out.kept.trans hk)
    have E2 := Lib.hid hr
    clear hk hr y0 y1 y2 y3 l0 l1 l2 l3
    go_wp2_with fail
    refine ⟨rfl, ?_⟩
    simp only [Rd.trip, E1.out, E2.out, Except.bind]
    exact ⟨rfl, K.out⟩
  rw [hr] at hx
  obtain ⟨rfl, hrd, hk⟩ := hx
  replace HD := Lib.hid (HD.out.call hrd hk)
  have E2 := Lib.hid hr
  clear hk hr hrd y0 y1 y2 y3 l0 l1 l2 l3
  have y0 := HD.out.src.cell 0
  have y1 := HD.out.mb.cell 0
  have y2 := HD.out.cb.cell 0
  have y3 := HD.out.fr.cell 1
  have l0 := HD.out.src.lt
  have l1 := HD.out.mb.lt
  have l2 := HD.out.cb.lt
  have l3 := HD.out.fr.lt
  simp only [List.getElem?_cons_zero, List.getElem?_cons_succ] at y0 y1 y2 y3
  have yf := HD.out.fr.frozen 1
  go_upto_region 4 with (fail)
  replace HD := Lib.hid (HD.out.set 1 (.int .i64 a2))
  simp only [List.set_cons_zero, List.set_cons_succ] at HD
  generalize w3.setCell ⟨eb, 1, none⟩ (.int .i64 a2) = wh2 at HD ⊢
  clear yf y0 y1 y2 y3 l0 l1 l2 l3
  have y0 := HD.out.src.cell 0
  have y1 := HD.out.mb.cell 0
  have y2 := HD.out.cb.cell 0
  have y3 := HD.out.fr.cell 1
  have l0 := HD.out.src.lt
  have l1 := HD.out.mb.lt
  have l2 := HD.out.cb.lt
  have l3 := HD.out.fr.lt
  simp only [List.getElem?_cons_zero, List.getElem?_cons_succ] at y0 y1 y2 y3
  go_wp2_with fail
  refine (i64_any p R2 _ HD.out.rd).mono ?_
  rintro x w4 ⟨rfl, hrd, hk⟩
  replace HD := Lib.hid (HD.out.call hrd hk)
  obtain ⟨a3, ha3⟩ : ∃ a3, a3 = wrap64 ((num (R2.got 8) : Nat) : Int) := ⟨_, rfl⟩
  rw [← ha3]
  have E3 := Lib.hid ha3.symm
  clear hk hrd ha3 y0 y1 y2 y3 l0 l1 l2 l3
  have y0 := HD.out.src.cell 0
  have y1 := HD.out.mb.cell 0
  have y2 := HD.out.cb.cell 0
  have y3 := HD.out.fr.cell 1
  have l0 := HD.out.src.lt
  have l1 := HD.out.mb.lt
  have l2 := HD.out.cb.lt
  have l3 := HD.out.fr.lt
  simp only [List.getElem?_cons_zero, List.getElem?_cons_succ] at y0 y1 y2 y3
  have yf := HD.out.fr.frozen 2
  have yc := HD.out.fr.cell 2
  simp only [List.getElem?_cons_zero, List.getElem?_cons_succ] at yc
  go_upto_region 5 with (fail)
  replace HD := Lib.hid (HD.out.set 2 (.int .i64 a3))
  simp only [List.set_cons_zero, List.set_cons_succ] at HD
  generalize w4.setCell ⟨eb, 2, none⟩ (.int .i64 a3) = wh3 at HD ⊢
  clear yf yc y0 y1 y2 y3 l0 l1 l2 l3
  have y0 := HD.out.src.cell 0
  have y1 := HD.out.mb.cell 0
  have y2 := HD.out.cb.cell 0
  have y3 := HD.out.fr.cell 1
  have l0 := HD.out.src.lt
  have l1 := HD.out.mb.lt
  have l2 := HD.out.cb.lt
  have l3 := HD.out.fr.lt
  simp only [List.getElem?_cons_zero, List.getElem?_cons_succ] at y0 y1 y2 y3
  go_wp2_with fail
  refine (sok_any p (R2.after 8) _ HD.out.rd).mono ?_
  rintro x w5 ⟨hx, hk⟩
  by_cases he : (R2.after 8).e = 0
  case neg =>
    rw [if_neg he] at hx
    subst hx
    have K := Lib.hid (HD.out.kept0 hk).kept
    have HE := Lib.hid he
    clear he hk y0 y1 y2 y3 l0 l1 l2 l3
    go_wp2_with fail
    refine ⟨rfl, ?_⟩
    simp only [Rd.trip, E1.out, E2.out, Except.bind]
    rw [if_pos HE.out]
    exact ⟨rfl, K.out⟩
  rw [if_pos he] at hx
  subst hx
  have HE := Lib.hid he
  replace HD := Lib.hid (HD.out.kept0 hk)
  clear he hk y0 y1 y2 y3 l0 l1 l2 l3
  go_wp2_with (first | (refine wpList_loadBlk rfl 30 (.tmp 3) rfl lb (edV last) _ HD.out.la rfl Try.underlying30 rfl infoTriple ?_) | (refine wpList_loadBlk rfl 30 (.tmp 6) rfl eb (edV (a1, a2, a3)) _ HD.out.fr rfl Try.underlying30 rfl infoTriple ?_))
  refine (torder_any last (a1, a2, a3) _).mono ?_
  rintro x w6 ⟨rfl, hgr⟩
  have hk := hgr.kept
  replace HD := Lib.hid (HD.out.kept0 hk)
  have EL := Lib.hid (neg_lt last (a1, a2, a3))
  clear hk hgr
  by_cases hlt : keyLt (last.1, last.2.1) (a1, a2) = true
  case neg =>
    have HLT := Lib.hid hlt
    have hneg : ¬ endsI last (a1, a2, a3) < 0 := by
      intro h0
      have := EL.out
      rw [decide_eq_true h0] at this
      exact hlt this.symm
    clear hlt
    go_wp2_with fail
    refine (unless_no _ _ _ _ (by first | rfl | (simp; omega))).mono ?_
    rintro x w7 ⟨rfl, rfl⟩
    go_wp2_with fail
    refine ⟨rfl, ?_⟩
    simp only [Rd.trip, E1.out, E2.out, Except.bind]
    rw [if_neg (by simpa using HE.out), if_neg HLT.out]
    exact ⟨rfl, HD.out.kept⟩
  have HLT := Lib.hid hlt
  have hneg : endsI last (a1, a2, a3) < 0 := by
    have := EL.out
    exact of_decide_eq_true (this.trans hlt)
  clear hlt
  go_wp2_with fail
  refine (unless_yes _ _ _ _ (by first | rfl | (simp; omega))).mono ?_
  rintro x w7 ⟨rfl, rfl⟩
  clear hneg
  go_upto_region 8 with (first | (refine wpList_loadBlk rfl 30 (.tmp 6) rfl eb (edV (a1, a2, a3)) _ HD.out.fr rfl Try.underlying30 rfl infoTriple ?_) | (refine wpList_storeBlk rfl 30 (.tmp 3) (.tmp 32) rfl lb _ (edV (a1, a2, a3)) HD.out.la rfl rfl rfl infoTriple (by simp [edV, Value.oneCell']) ?_; intro w8 hb8 hk8))
  have HL8 := Lib.hid hb8
  have HF8 := Lib.hid (HD.out.fr.kept hk8 (by simpa using fun e => HD.out.nl e.symm))
  have HR8 := Lib.hid (HD.out.res.kept hk8 (by simpa using fun e => HD.out.nr e.symm))
  have HRD8 := Lib.hid (HD.out.rd.kept1 HD.out.la (by decide) (by decide) hk8)
  have K8 := Lib.hid ((HD.out.kept.mono (M := [p, lb]) (fun m hm => .inl (by simp at hm; simp [hm]))).then hk8 (fun m hm => by simp at hm; subst hm; exact .inl (by simp)))
  clear hb8 hk8
  go_wp2_with (first | (refine wpList_loadBlk rfl 30 (.tmp 6) rfl eb (edV (a1, a2, a3)) _ HF8.out rfl Try.underlying30 rfl infoTriple ?_) | (refine wpList_storeBlk rfl 30 (.tmp 4) (.tmp 33) rfl w.heap.size _ (edV (a1, a2, a3)) HR8.out rfl rfl rfl infoTriple (by simp [edV, Value.oneCell']) ?_; intro w9 hb9 hk9))
  have e0 := hb9.cell 0
  have e1 := hb9.cell 1
  have e2 := hb9.cell 2
  simp only [edV, List.getElem?_cons_zero, List.getElem?_cons_succ] at e0 e1 e2
  refine bodyPost_ret (v := .agg #[.int .i64 a1, .int .i64 a2, .int .i64 a3]) (by simp [results, Try.results41, go_sem, e0, e1, e2]) rfl ?_
  unfold GotT
  simp only [Rd.trip, E1.out, E2.out, Except.bind]
  rw [if_neg (by simpa using HE.out), if_pos HLT.out, E3.out]
  exact ⟨rfl, HRD8.out.kept1 HR8.out (by decide) (by decide) hk9, HL8.out.kept hk9 (by simpa using HD.out.nr), K8.out.then hk9 (fun m hm => by simp at hm; subst hm; exact .inr HD.out.ge')⟩
end Go.Proofs.Ytibjpjpbmkdddaa
