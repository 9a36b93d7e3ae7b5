/- Loader: one edge that is read. -/
import Derived.Test.YtibjpjpbmkdddaaLd
import Derived.Test.YtibjpjpbmkdddaaE20
namespace Go.Proofs.Ytibjpjpbmkdddaa
set_option linter.unusedSimpArgs false
set_option linter.unusedVariables false
open Go.ChangeShapes Go.WideShapes Go.ChangeAt Go.RowKit
open Go.RowKit (wrap32 wrap64)
set_option maxHeartbeats 8000000

/-- What a call comes to: whatever it gives, and a reader behind it, or it gives up. -/
def Got {α : Type} (p : Nat) (w : World) (f : α → Value) (r : Except (Int × Int) (α × Rd)) (x : Ending) (w' : World) : Prop :=
  match r with
  | .ok (n, R) => x = .returned (f n) ∧ RdAt 138 w' p R ∧ Kept [p] w w'
  | .error (e, a) => x = .panicked [stp e a] ∧ Kept [p] w w'
theorem rd_ne {w : World} {p b : Nat} {R : Rd} {t : TypeId} {cs : List Value} (h : RdAt 138 w p R) (hb : Blk w b t cs) (ht : 138 ≠ t) : b ∉ [p] := by
  obtain ⟨_, _, hp, _⟩ := h.ex
  have := hp.ne hb ht
  simp
  exact fun e => this e.symm
/-- An edge that is read. -/
def Rd.edge (R : Rd) (N k : Int) : Except (Int × Int) (Ed × Rd) :=
  (R.rd 4 0 (N - 1) 3).bind fun a => (a.2.rd 4 0 (N - 1) 3).bind fun b => if k = 1 then (b.2.rd 4 0 2147483647 7).bind fun c => .ok ((a.1, b.1, c.1), c.2) else .ok ((a.1, b.1, 1), b.2)
/-- What lies in memory while an edge is read: the reader, the source, the graph, the kind, the edge, the result. -/
structure EgAt (w0 w : World) (p q g kb r eb : Nat) (R : Rd) (N k : Int) (v : Value) (cs ds : List Value) : Prop where
  rd : RdAt 138 w p R
  src : Blk w q 77 [.pointer (some ⟨p, 0, none⟩)]
  gr : Blk w g 24 [.int .i64 N, v]
  kd : Blk w kb 5 [.int .u8 k]
  fr : Blk w eb 28 cs
  res : Blk w r 28 ds
  kept : Kept [p] w0 w
  ge : w0.heap.size ≤ eb
  ge' : w0.heap.size ≤ r
  ne : eb ≠ r
section
variable {w0 w w' : World} {p q g kb r eb : Nat} {R R' : Rd} {N k : Int} {v : Value} {cs ds : List Value}
theorem EgAt.call (h : EgAt w0 w p q g kb r eb R N k v cs ds) (hr : RdAt 138 w' p R') (hk : Kept [p] w w') : EgAt w0 w' p q g kb r eb R' N k v cs ds :=
  ⟨hr, h.src.kept hk (rd_ne h.rd h.src (by decide)), h.gr.kept hk (rd_ne h.rd h.gr (by decide)), h.kd.kept hk (rd_ne h.rd h.kd (by decide)), h.fr.kept hk (rd_ne h.rd h.fr (by decide)), h.res.kept hk (rd_ne h.rd h.res (by decide)), h.kept.trans hk, h.ge, h.ge', h.ne⟩
theorem EgAt.set (h : EgAt w0 w p q g kb r eb R N k v cs ds) (j : Nat) (u : Value) : EgAt w0 (w.setCell ⟨eb, j, none⟩ u) p q g kb r eb R N k v (cs.set j u) ds :=
  have hk : Kept [eb] w (w.setCell ⟨eb, j, none⟩ u) := (Kept.refl [eb] w).setCell (p := ⟨eb, j, none⟩) (.inl (by simp)) u
  have n1 : q ∉ [eb] := by have := h.src.ne h.fr (by decide); simpa using this
  have n2 : g ∉ [eb] := by have := h.gr.ne h.fr (by decide); simpa using this
  have n3 : kb ∉ [eb] := by have := h.kd.ne h.fr (by decide); simpa using this
  ⟨h.rd.kept1 h.fr (by decide) (by decide) hk, h.src.kept hk n1, h.gr.kept hk n2, h.kd.kept hk n3, h.fr.set j u, h.res.kept hk (by simpa using fun e => h.ne e.symm), h.kept.setCell (.inr h.ge) u, h.ge, h.ge', h.ne⟩
end
set_option maxRecDepth 100000 in
theorem edge_any (p q g kb : Nat) (R : Rd) (N k : Int) (v : Value) (w : World) (h : RdAt 138 w p R) (hq : Blk w q 77 [.pointer (some ⟨p, 0, none⟩)]) (hg : Blk w g 24 [.int .i64 N, v]) (hk : Blk w kb 5 [.int .u8 k]) (hn : 0 ≤ N ∧ N ≤ 4096) (hk1 : k = 0 ∨ k = 1) :
    Calls Try.prog 74 #[.pointer (some ⟨q, 0, none⟩), .pointer (some ⟨g, 0, none⟩), .pointer (some ⟨kb, 0, none⟩)] w (Got p w (fun e => .agg (edV e).toArray) (R.edge N k)) := by
  obtain ⟨hn0, hn1⟩ := hn
  have EWN := Lib.hid (show wrap64 (N - 1) = N - 1 by unfold wrap64; omega)
  have H := Lib.hid (h.kept0 ((Kept.refl [] w).alloc (.cells #[.int .i64 0, .int .i64 0, .int .i64 0] 28)))
  have HQ := Lib.hid (hq.alloc (.cells #[.int .i64 0, .int .i64 0, .int .i64 0] 28))
  have HG := Lib.hid (hg.alloc (.cells #[.int .i64 0, .int .i64 0, .int .i64 0] 28))
  have HK := Lib.hid (hk.alloc (.cells #[.int .i64 0, .int .i64 0, .int .i64 0] 28))
  have HR := Lib.hid (Blk.new w 28 [.int .i64 0, .int .i64 0, .int .i64 0])
  have K0 := Lib.hid ((Kept.refl [p] w).alloc (.cells #[.int .i64 0, .int .i64 0, .int .i64 0] 28))
  have c0 := hq.cell 0
  have c1 := hg.cell 0
  have l0 := hq.lt
  have l1 := hg.lt
  simp only [List.getElem?_cons_zero] at c0 c1
  clear h hq hg hk
  go_enter Try.func74, Try.ntmps74
  go_wp2_with fail
  refine (smost_any p R (N - 1) 3 _ H.out).mono ?_
  intro x w1 hx
  rcases hr : R.rd 4 0 (N - 1) 3 with ⟨e, a⟩ | ⟨a1, R1⟩
  · rw [hr] at hx
    obtain ⟨rfl, hk⟩ := hx
    have K := Lib.hid (K0.out.trans hk)
    have E1 := Lib.hid hr
    clear hk hr c0 c1 l0 l1
    go_wp2_with fail
    refine ⟨rfl, ?_⟩
    simp only [Rd.edge, E1.out, Except.bind]
    exact ⟨rfl, K.out⟩
  rw [hr] at hx
  obtain ⟨rfl, hrd, hk⟩ := hx
  clear c0 c1 l0 l1
  have E1 := Lib.hid hr
  have HD := Lib.hid (show EgAt w (w1.alloc (.cells #[.int .i64 a1, .int .i64 0, .int .i64 1] 28)) p q g kb w.heap.size w1.heap.size R1 N k v [.int .i64 a1, .int .i64 0, .int .i64 1] [.int .i64 0, .int .i64 0, .int .i64 0] from
    ⟨hrd.kept0 ((Kept.refl [] _).alloc _), (HQ.out.kept hk (rd_ne H.out HQ.out (by decide))).alloc _, (HG.out.kept hk (rd_ne H.out HG.out (by decide))).alloc _, (HK.out.kept hk (rd_ne H.out HK.out (by decide))).alloc _, Blk.new _ _ _, (HR.out.kept hk (rd_ne H.out HR.out (by decide))).alloc _, (K0.out.trans hk).alloc _,
      (by have := hk.size; simp at this; omega), Nat.le_refl _, (by have := hk.size; simp at this; omega)⟩)
  clear hr hrd hk H HQ HG HK HR K0
  go_upto_region 2 with (fail)
  generalize w1.alloc (.cells #[.int .i64 a1, .int .i64 0, .int .i64 1] 28) = wh at HD ⊢
  generalize w1.heap.size = eb at HD ⊢
  have y0 := HD.out.src.cell 0
  have y1 := HD.out.gr.cell 0
  have y2 := HD.out.kd.cell 0
  have y3 := HD.out.fr.cell 1
  have l0 := HD.out.src.lt
  have l1 := HD.out.gr.lt
  have l2 := HD.out.kd.lt
  have l3 := HD.out.fr.lt
  simp only [List.getElem?_cons_zero, List.getElem?_cons_succ] at y0 y1 y2 y3
  go_wp2_with fail
  refine (smost_any p R1 (N - 1) 3 _ HD.out.rd).mono ?_
  intro x w2 hx
  rcases hr : R1.rd 4 0 (N - 1) 3 with ⟨e, a⟩ | ⟨a2, R2⟩
  · rw [hr] at hx
    obtain ⟨rfl, hk⟩ := hx
    have K := Lib.hid (HD.out.kept.trans hk)
    have E2 := Lib.hid hr
    clear hk hr y0 y1 y2 y3 l0 l1 l2 l3
    go_wp2_with fail
    refine ⟨rfl, ?_⟩
    simp only [Rd.edge, E1.out, E2.out, Except.bind]
    exact ⟨rfl, K.out⟩
  rw [hr] at hx
  obtain ⟨rfl, hrd, hk⟩ := hx
  replace HD := Lib.hid (HD.out.call hrd hk)
  have E2 := Lib.hid hr
  clear hk hr hrd y0 y1 y2 y3 l0 l1 l2 l3
  have y0 := HD.out.src.cell 0
  have y1 := HD.out.gr.cell 0
  have y2 := HD.out.kd.cell 0
  have y3 := HD.out.fr.cell 1
  have l0 := HD.out.src.lt
  have l1 := HD.out.gr.lt
  have l2 := HD.out.kd.lt
  have l3 := HD.out.fr.lt
  simp only [List.getElem?_cons_zero, List.getElem?_cons_succ] at y0 y1 y2 y3
  have yf := HD.out.fr.frozen 1
  go_upto_region 3 with (fail)
  replace HD := Lib.hid (HD.out.set 1 (.int .i64 a2))
  simp only [List.set_cons_zero, List.set_cons_succ] at HD
  generalize w2.setCell ⟨eb, 1, none⟩ (.int .i64 a2) = wh2 at HD ⊢
  clear yf y0 y1 y2 y3 l0 l1 l2 l3
  rcases hk1 with rfl | rfl
  · have y0 := HD.out.src.cell 0
    have y1 := HD.out.gr.cell 0
    have y2 := HD.out.kd.cell 0
    have y3 := HD.out.fr.cell 1
    have l0 := HD.out.src.lt
    have l1 := HD.out.gr.lt
    have l2 := HD.out.kd.lt
    have l3 := HD.out.fr.lt
    simp only [List.getElem?_cons_zero, List.getElem?_cons_succ] at y0 y1 y2 y3
    have z0 := HD.out.res.frozen 0
    have z1 := HD.out.res.frozen 1
    have z2 := HD.out.res.frozen 2
    have u0 := HD.out.res.cell 0
    have u1 := HD.out.res.cell 1
    have u2 := HD.out.res.cell 2
    simp only [List.getElem?_cons_zero, List.getElem?_cons_succ] at u0 u1 u2
    go_wp2_with (first | (refine wpList_loadBlk rfl 28 (.tmp 4) rfl eb [.int .i64 a1, .int .i64 a2, .int .i64 1] _ HD.out.fr rfl Try.underlying28 rfl infoEdge ?_) | (refine wpList_storeBlk rfl 28 (.tmp 3) (.tmp 22) rfl w.heap.size _ [.int .i64 a1, .int .i64 a2, .int .i64 1] HD.out.res rfl rfl rfl infoEdge (by simp [Value.oneCell']) ?_; intro w5 hb5 hk5))
    have e0 := hb5.cell 0
    have e1 := hb5.cell 1
    have e2 := hb5.cell 2
    simp only [List.getElem?_cons_zero, List.getElem?_cons_succ] at e0 e1 e2
    refine bodyPost_ret (v := .agg #[.int .i64 a1, .int .i64 a2, .int .i64 1]) (by simp [results, Try.results74, go_sem, e0, e1, e2]) rfl ?_
    unfold Got
    simp only [Rd.edge, E1.out, E2.out, Except.bind, show ¬ ((0 : Int) = 1) by decide, if_false]
    exact ⟨rfl, HD.out.rd.kept1 HD.out.res (by decide) (by decide) hk5, HD.out.kept.then hk5 (fun m hm => by simp at hm; subst hm; exact .inr HD.out.ge')⟩
  · have y0 := HD.out.src.cell 0
    have y1 := HD.out.gr.cell 0
    have y2 := HD.out.kd.cell 0
    have y3 := HD.out.fr.cell 1
    have l0 := HD.out.src.lt
    have l1 := HD.out.gr.lt
    have l2 := HD.out.kd.lt
    have l3 := HD.out.fr.lt
    simp only [List.getElem?_cons_zero, List.getElem?_cons_succ] at y0 y1 y2 y3
    go_wp2_with fail
    refine (smost_any p R2 2147483647 7 _ HD.out.rd).mono ?_
    intro x w3 hx
    rcases hr : R2.rd 4 0 2147483647 7 with ⟨e, a⟩ | ⟨a3, R3⟩
    · rw [hr] at hx
      obtain ⟨rfl, hk⟩ := hx
      have K := Lib.hid (HD.out.kept.trans hk)
      have E3 := Lib.hid hr
      clear hk hr y0 y1 y2 y3 l0 l1 l2 l3
      go_wp2_with fail
      refine ⟨rfl, ?_⟩
      simp only [Rd.edge, E1.out, E2.out, E3.out, Except.bind, if_true]
      exact ⟨rfl, K.out⟩
    rw [hr] at hx
    obtain ⟨rfl, hrd, hk⟩ := hx
    replace HD := Lib.hid (HD.out.call hrd hk)
    have E3 := Lib.hid hr
    clear hk hr hrd y0 y1 y2 y3 l0 l1 l2 l3
    have y0 := HD.out.src.cell 0
    have y1 := HD.out.gr.cell 0
    have y2 := HD.out.kd.cell 0
    have y3 := HD.out.fr.cell 1
    have l0 := HD.out.src.lt
    have l1 := HD.out.gr.lt
    have l2 := HD.out.kd.lt
    have l3 := HD.out.fr.lt
    simp only [List.getElem?_cons_zero, List.getElem?_cons_succ] at y0 y1 y2 y3
    have yf := HD.out.fr.frozen 2
    have yc := HD.out.fr.cell 2
    simp only [List.getElem?_cons_zero, List.getElem?_cons_succ] at yc
    go_upto_region 5 with (fail)
    replace HD := Lib.hid (HD.out.set 2 (.int .i64 a3))
    simp only [List.set_cons_zero, List.set_cons_succ] at HD
    generalize w3.setCell ⟨eb, 2, none⟩ (.int .i64 a3) = wh3 at HD ⊢
    clear yf yc y0 y1 y2 y3 l0 l1 l2 l3
    have u0 := HD.out.res.cell 0
    have u1 := HD.out.res.cell 1
    have u2 := HD.out.res.cell 2
    simp only [List.getElem?_cons_zero, List.getElem?_cons_succ] at u0 u1 u2
    go_wp2_with (first | (refine wpList_loadBlk rfl 28 (.tmp 4) rfl eb [.int .i64 a1, .int .i64 a2, .int .i64 a3] _ HD.out.fr rfl Try.underlying28 rfl infoEdge ?_) | (refine wpList_storeBlk rfl 28 (.tmp 3) (.tmp 22) rfl w.heap.size _ [.int .i64 a1, .int .i64 a2, .int .i64 a3] HD.out.res rfl rfl rfl infoEdge (by simp [Value.oneCell']) ?_; intro w5 hb5 hk5))
    have e0 := hb5.cell 0
    have e1 := hb5.cell 1
    have e2 := hb5.cell 2
    simp only [List.getElem?_cons_zero, List.getElem?_cons_succ] at e0 e1 e2
    refine bodyPost_ret (v := .agg #[.int .i64 a1, .int .i64 a2, .int .i64 a3]) (by simp [results, Try.results74, go_sem, e0, e1, e2]) rfl ?_
    unfold Got
    simp only [Rd.edge, E1.out, E2.out, E3.out, Except.bind, if_true]
    exact ⟨rfl, HD.out.rd.kept1 HD.out.res (by decide) (by decide) hk5, HD.out.kept.then hk5 (fun m hm => by simp at hm; subst hm; exact .inr HD.out.ge')⟩
end Go.Proofs.Ytibjpjpbmkdddaa
