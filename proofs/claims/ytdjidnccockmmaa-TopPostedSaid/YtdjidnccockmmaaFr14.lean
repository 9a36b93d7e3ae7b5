/- Frames: a block that is loaded or stored whole; the head of a frame that is read. -/
import Derived.Test.YtdjidnccockmmaaFr5
import Derived.Test.YtdjidnccockmmaaFr10
import Derived.Test.YtdjidnccockmmaaFr13
import Derived.Deep.MidRow
import Derived.Deep.DeepCutAuto
namespace Go.Proofs.Ytdjidnccockmmaa
set_option linter.unusedSimpArgs false
set_option linter.unusedVariables false
open Go.ChangeShapes Go.WideShapes Go.ChangeAt Go.RowKit
open Go.RowKit (wrap32 wrap64)
set_option maxHeartbeats 4000000

theorem Blk.setCells {g : Nat} {t : TypeId} : ∀ (news : List Value) (w : World) (o : Nat) (cs : List Value), o + news.length = cs.length → Blk w g t cs → Blk (w.setCells g o news) g t (cs.take o ++ news) ∧ Kept [g] w (w.setCells g o news)
  | [], w, o, cs, hl, h => by
    simp at hl
    rw [World.setCells, List.take_of_length_le (by omega), List.append_nil]
    exact ⟨h, Kept.refl _ _⟩
  | v :: r, w, o, cs, hl, h => by
    simp at hl
    obtain ⟨h1, h2⟩ := Blk.setCells r (w.setCell ⟨g, o, none⟩ v) (o + 1) (cs.set o v) (by simp; omega) (h.set o v)
    rw [World.setCells]
    refine ⟨?_, ((Kept.refl [g] w).setCell (p := ⟨g, o, none⟩) (.inl (by simp)) v).trans h2⟩
    have e : (cs.set o v).take (o + 1) = cs.take o ++ [v] := by
      rw [List.take_succ_eq_append_getElem (by simp; omega), List.take_set_of_le (Nat.le_refl _)]
      simp
    rw [e] at h1
    simpa using h1
section
variable {P : Program} {ops : Array Oper} {rest : List Oper} {o : Oper} {a : Act} {Q : Exit → Act → World → Prop} {w : World}
/-- A whole block is stored anew. -/
theorem wpList_storeBlk (hgd : o.guard = none) (t : TypeId) (x y : Operand) (ho : o.op = .store t x y) (g : Nat) (cs news : List Value) (hb : Blk w g t cs) (hx : a.eval x = .pointer (some ⟨g, 0, none⟩)) (hy : a.eval y = .agg news.toArray)
    (hl : news.length = cs.length) (hi : (P.info? t).map (·.size) = some news.length) (h1 : ∀ v ∈ news, v.oneCell' = true)
    (h : ∀ w', Blk w' g t news → Kept [g] w w' → wpList P ops Q rest (a.put o.dst undef) w') : wpList P ops Q (o :: rest) a w := by
  obtain ⟨h2, h3⟩ := Blk.setCells news w 0 cs (by omega) hb
  refine wpList_store_mid hgd t x y ho g 0 news.toArray hx hy (fun j hj => ?_) (by simpa using hi) (all_oneCell_toArray h1) (h _ (by simpa using h2) h3)
  rw [Nat.zero_add, hb.cell, hb.frozen]
  simp at hj
  exact ⟨by rw [List.getElem?_eq_getElem (by omega)]; rfl, rfl⟩
/-- A whole block is loaded. -/
theorem wpList_loadBlk (hgd : o.guard = none) (t : TypeId) (x : Operand) (ho : o.op = .load t x) (g : Nat) (cs : List Value) (d : TypeDesc) (hb : Blk w g t cs) (hx : a.eval x = .pointer (some ⟨g, 0, none⟩))
    (hu : P.underlying t = some d) (hd : d.isRow = true) (hi : (P.info? t).map (·.size) = some cs.length) (h : wpList P ops Q rest (a.put o.dst (.agg cs.toArray)) w) : wpList P ops Q (o :: rest) a w :=
  wpList_load_mid hgd t x ho g 0 hx cs d (fun j v hv => by rw [Nat.zero_add, hb.cell]; exact hv) hu hd hi h
end
theorem Blk.new1F (w : World) (o : Obj) (t : TypeId) (cs : List Value) : Blk ((w.alloc o).alloc (.cells cs.toArray t)) (w.heap.size + 1) t cs := by
  have := Blk.new (w.alloc o) t cs
  rwa [show (w.alloc o).heap.size = w.heap.size + 1 by simp] at this
theorem infoFrame : (Try.prog.info? 60).map (·.size) = some 11 := by kernel_rfl
theorem infoFault : (Try.prog.info? 40).map (·.size) = some 2 := by kernel_rfl

/-- What a call comes to: whatever it gives, and a reader behind it, or it gives up. -/
def Got {α : Type} (p : Nat) (w : World) (f : α → Value) (r : Except (Int × Int) (α × Rd)) (x : Ending) (w' : World) : Prop :=
  match r with
  | .ok (n, R) => x = .returned (f n) ∧ RdAt 87 w' p R ∧ Kept [p] w w'
  | .error (e, a) => x = .panicked [stp e a] ∧ Kept [p] w w'

/-- A head that is read. -/
def Rd.head (R : Rd) : Except (Int × Int) (Fr × Rd) :=
  (R.rd 1 1 7 8).bind fun x1 => (x1.2.rd 1 0 63 3).bind fun x2 => (x2.2.rd 1 0 63 3).bind fun x3 => (x3.2.rd 4 0 2147483647 3).bind fun x4 => (x4.2.rd 4 0 8192 3).bind fun x5 =>
    (x5.2.rd 1 0 1 7).bind fun x6 => x6.2.word.bind fun x7 => .ok (⟨x1.1, x2.1, x3.1, x4.1, x5.1, 0, [], [], [], x7.1, x6.1 == 1⟩, x7.2)

/-- What stays while the head is read: the reader, the box of the source, two frames' blocks. -/
structure HdAt (w0 w : World) (p b g r : Nat) (R : Rd) (cs ds : List Value) : Prop where
  rd : RdAt 87 w p R
  box : Blk w b 120 [.pointer (some ⟨p, 0, none⟩)]
  fr : Blk w g 60 cs
  res : Blk w r 60 ds
  kept : Kept [p] w0 w
  ge : w0.heap.size ≤ g
  ge' : w0.heap.size ≤ r
  ne : g ≠ r
theorem rd_ne {w : World} {p b : Nat} {R : Rd} {t : TypeId} {cs : List Value} (h : RdAt 87 w p R) (hb : Blk w b t cs) (ht : 87 ≠ t) : b ∉ [p] := by
  obtain ⟨_, _, hp, _⟩ := h.ex
  have := hp.ne hb ht
  simp
  exact fun e => this e.symm
section
variable {w0 w w' : World} {p b g r : Nat} {R R' : Rd} {cs ds : List Value}
theorem HdAt.call (h : HdAt w0 w p b g r R cs ds) (hr : RdAt 87 w' p R') (hk : Kept [p] w w') : HdAt w0 w' p b g r R' cs ds :=
  ⟨hr, h.box.kept hk (rd_ne h.rd h.box (by decide)), h.fr.kept hk (rd_ne h.rd h.fr (by decide)), h.res.kept hk (rd_ne h.rd h.res (by decide)), h.kept.trans hk, h.ge, h.ge', h.ne⟩
theorem HdAt.set (h : HdAt w0 w p b g r R cs ds) (j : Nat) (v : Value) : HdAt w0 (w.setCell ⟨g, j, none⟩ v) p b g r R (cs.set j v) ds :=
  have hk : Kept [g] w (w.setCell ⟨g, j, none⟩ v) := (Kept.refl [g] w).setCell (p := ⟨g, j, none⟩) (.inl (by simp)) v
  have hbg : b ∉ [g] := by have := h.box.ne h.fr (by decide); simpa using this
  ⟨h.rd.kept1 h.fr (by decide) (by decide) hk, h.box.kept hk hbg, h.fr.set j v, h.res.kept hk (by simpa using fun e => h.ne e.symm), h.kept.setCell (.inr h.ge) v, h.ge, h.ge', h.ne⟩
theorem HdAt.drew (h : HdAt w0 w p b g r R cs ds) : HdAt w0 w.drew p b g r R cs ds := ⟨h.rd.kept0 ((Kept.refl [] w).drew), h.box, h.fr, h.res, h.kept.drew, h.ge, h.ge', h.ne⟩
end

theorem worker1_any (p b : Nat) (R : Rd) (w : World) (h : RdAt 87 w p R) (hb : Blk w b 120 [.pointer (some ⟨p, 0, none⟩)]) :
    Calls Try.prog 106 #[.pointer (some ⟨b, 0, none⟩)] w (GotI p w (R.rd 1 0 63 3)) := by
  have y0 := hb.cell 0
  simp only [List.getElem?_cons_zero] at y0
  have H := Lib.hid h
  clear h hb
  go_enter Try.func106, Try.ntmps106
  go_wp2_with fail
  refine (sone_any p R 0 63 3 _ H.out).mono ?_
  intro x w1 hx
  rcases hr : R.rd 1 0 63 3 with ⟨e, a⟩ | ⟨n, R'⟩
  · rw [hr] at hx
    obtain ⟨rfl, hk⟩ := hx
    have K := Lib.hid hk
    have HR := Lib.hid hr
    clear hk hr
    go_wp2_with fail
    try rw [HR.out]
    exact ⟨rfl, rfl, K.out⟩
  · rw [hr] at hx
    obtain ⟨rfl, hrd, hk⟩ := hx
    have K := Lib.hid hk
    have HRD := Lib.hid hrd
    have HR := Lib.hid hr
    clear hk hr hrd
    go_wp2_with fail
    go_ret
    try rw [HR.out]
    exact ⟨rfl, HRD.out, K.out⟩

set_option maxRecDepth 100000 in
theorem head_any (p : Nat) (R : Rd) (w : World) (h : RdAt 87 w p R) :
    Calls Try.prog 83 #[.agg #[.pointer (some ⟨p, 0, none⟩)]] w (Got p w (fun F => .agg (frC F none none none 0 0 0).toArray) R.head) := by
  have H := Lib.hid (h.kept0 (((Kept.refl [] w).alloc (.cells #[.pointer (some ⟨p, 0, none⟩)] 120)).alloc (.cells #[.int .i64 0, .int .i64 0, .int .i64 0, .int .i64 0, .int .i64 0, .int .i64 0, .slice none 0 0, .slice none 0 0, .slice none 0 0, .int .i64 0, .bool false] 60)))
  have HB := Lib.hid ((Blk.new w 120 [.pointer (some ⟨p, 0, none⟩)]).alloc (.cells #[.int .i64 0, .int .i64 0, .int .i64 0, .int .i64 0, .int .i64 0, .int .i64 0, .slice none 0 0, .slice none 0 0, .slice none 0 0, .int .i64 0, .bool false] 60))
  have HR := Lib.hid (Blk.new1F w (.cells #[.pointer (some ⟨p, 0, none⟩)] 120) 60 [.int .i64 0, .int .i64 0, .int .i64 0, .int .i64 0, .int .i64 0, .int .i64 0, .slice none 0 0, .slice none 0 0, .slice none 0 0, .int .i64 0, .bool false])
  have K0 := Lib.hid (((Kept.refl [p] w).alloc (.cells #[.pointer (some ⟨p, 0, none⟩)] 120)).alloc (.cells #[.int .i64 0, .int .i64 0, .int .i64 0, .int .i64 0, .int .i64 0, .int .i64 0, .slice none 0 0, .slice none 0 0, .slice none 0 0, .int .i64 0, .bool false] 60))
  have hpl : p < w.heap.size := by
    obtain ⟨_, _, hb, _⟩ := h.ex
    exact hb.lt
  clear h
  go_enter Try.func83, Try.ntmps83
  go_wp2_with fail
  refine (sone_any p R 1 7 8 _ H.out).mono ?_
  intro x w1 hx
  rcases hr : R.rd 1 1 7 8 with ⟨e, a⟩ | ⟨n1, R1⟩
  · rw [hr] at hx
    obtain ⟨rfl, hk⟩ := hx
    have K := Lib.hid (K0.out.trans hk)
    have E1 := Lib.hid hr
    clear hk hr
    go_wp2_with fail
    refine ⟨rfl, ?_⟩
    simp only [Rd.head, E1.out, Except.bind]
    exact ⟨rfl, K.out⟩
  rw [hr] at hx
  obtain ⟨rfl, hrd, hk⟩ := hx
  have HRD := Lib.hid hrd
  have HB := Lib.hid (HB.out.kept hk (rd_ne H.out HB.out (by decide)))
  have HR := Lib.hid (HR.out.kept hk (rd_ne H.out HR.out (by decide)))
  have K1 := Lib.hid (K0.out.trans hk)
  have E1 := Lib.hid hr
  clear hk hr hrd
  go_upto_region 3 with (fail)
  have HD := Lib.hid (show HdAt w (w1.alloc (.cells #[.int .i64 n1, .int .i64 0, .int .i64 0, .int .i64 0, .int .i64 0, .int .i64 0, .slice none 0 0, .slice none 0 0, .slice none 0 0, .int .i64 0, .bool false] 60)) p w.heap.size w1.heap.size (w.heap.size + 1) R1 [.int .i64 n1, .int .i64 0, .int .i64 0, .int .i64 0, .int .i64 0, .int .i64 0, .slice none 0 0, .slice none 0 0, .slice none 0 0, .int .i64 0, .bool false] [.int .i64 0, .int .i64 0, .int .i64 0, .int .i64 0, .int .i64 0, .int .i64 0, .slice none 0 0, .slice none 0 0, .slice none 0 0, .int .i64 0, .bool false] from
    ⟨HRD.out.kept0 ((Kept.refl [] _).alloc _), HB.out.alloc _, Blk.new _ _ _, HR.out.alloc _, K1.out.alloc _, Nat.le_of_lt (Nat.lt_of_lt_of_le (Nat.lt_succ_self _) (Nat.le_of_lt HR.out.lt)), Nat.le_succ _, by have := HR.out.lt; omega⟩)
  generalize w1.alloc (.cells #[.int .i64 n1, .int .i64 0, .int .i64 0, .int .i64 0, .int .i64 0, .int .i64 0, .slice none 0 0, .slice none 0 0, .slice none 0 0, .int .i64 0, .bool false] 60) = wh at HD ⊢
  clear H HB HR K0 K1 HRD
  have y0 := HD.out.box.cell 0
  have yl := HD.out.fr.lt
  have yb := HD.out.box.lt
  simp only [List.getElem?_cons_zero] at y0
  go_wp2_with fail
  refine (worker1_any p w.heap.size _ _ HD.out.rd HD.out.box).mono ?_
  intro x w2 hx
  rcases hr : R1.rd 1 0 63 3 with ⟨e, a⟩ | ⟨n2, R2⟩
  · rw [hr] at hx
    obtain ⟨rfl, hk⟩ := hx
    have K := Lib.hid (HD.out.kept.trans hk)
    have E2 := Lib.hid hr
    clear hk hr
    go_wp2_with fail
    refine ⟨rfl, ?_⟩
    simp only [Rd.head, E1.out, E2.out, Except.bind]
    exact ⟨rfl, K.out⟩
  rw [hr] at hx
  obtain ⟨rfl, hrd, hk⟩ := hx
  have HD := Lib.hid (HD.out.call hrd hk)
  have E2 := Lib.hid hr
  clear hk hr hrd y0 yl yb
  have yf := HD.out.fr.frozen 1
  have yc := HD.out.fr.cell 1
  have yl := HD.out.fr.lt
  simp only [List.getElem?_cons_zero, List.getElem?_cons_succ] at yc
  go_upto_region 4 with (fail)
  have HD := Lib.hid (HD.out.set 1 (.int .i64 n2))
  simp only [List.set_cons_zero, List.set_cons_succ] at HD
  generalize w2.setCell ⟨w1.heap.size, 1, none⟩ (.int .i64 n2) = wh at HD ⊢
  clear yf yc yl
  have y0 := HD.out.box.cell 0
  have yl := HD.out.fr.lt
  have yb := HD.out.box.lt
  simp only [List.getElem?_cons_zero] at y0
  go_wp2_with fail
  refine (worker1_any p w.heap.size _ _ HD.out.rd HD.out.box).mono ?_
  intro x w3 hx
  rcases hr : R2.rd 1 0 63 3 with ⟨e, a⟩ | ⟨n3, R3⟩
  · rw [hr] at hx
    obtain ⟨rfl, hk⟩ := hx
    have K := Lib.hid (HD.out.kept.trans hk)
    have E3 := Lib.hid hr
    clear hk hr
    go_wp2_with fail
    refine ⟨rfl, ?_⟩
    simp only [Rd.head, E1.out, E2.out, E3.out, Except.bind]
    exact ⟨rfl, K.out⟩
  rw [hr] at hx
  obtain ⟨rfl, hrd, hk⟩ := hx
  have HD := Lib.hid (HD.out.call hrd hk)
  have E3 := Lib.hid hr
  clear hk hr hrd y0 yl yb
  have yf := HD.out.fr.frozen 2
  have yc := HD.out.fr.cell 2
  have yl := HD.out.fr.lt
  simp only [List.getElem?_cons_zero, List.getElem?_cons_succ] at yc
  go_upto_region 5 with (fail)
  have HD := Lib.hid (HD.out.set 2 (.int .i64 n3))
  simp only [List.set_cons_zero, List.set_cons_succ] at HD
  generalize w3.setCell ⟨w1.heap.size, 2, none⟩ (.int .i64 n3) = wh at HD ⊢
  clear yf yc yl
  have y0 := HD.out.box.cell 0
  have yl := HD.out.fr.lt
  have yb := HD.out.box.lt
  simp only [List.getElem?_cons_zero] at y0
  go_wp2_with fail
  refine (sfour_any p _ 2147483647 3 _ HD.out.rd).mono ?_
  intro x w4 hx
  rcases hr : R3.rd 4 0 2147483647 3 with ⟨e, a⟩ | ⟨n4, R4⟩
  · rw [hr] at hx
    obtain ⟨rfl, hk⟩ := hx
    have K := Lib.hid (HD.out.kept.trans hk)
    have E4 := Lib.hid hr
    clear hk hr
    go_wp2_with fail
    refine ⟨rfl, ?_⟩
    simp only [Rd.head, E1.out, E2.out, E3.out, E4.out, Except.bind]
    exact ⟨rfl, K.out⟩
  rw [hr] at hx
  obtain ⟨rfl, hrd, hk⟩ := hx
  have HD := Lib.hid (HD.out.call hrd hk)
  have E4 := Lib.hid hr
  clear hk hr hrd y0 yl yb
  have yf := HD.out.fr.frozen 3
  have yc := HD.out.fr.cell 3
  have yl := HD.out.fr.lt
  simp only [List.getElem?_cons_zero, List.getElem?_cons_succ] at yc
  go_upto_region 6 with (fail)
  have HD := Lib.hid (HD.out.set 3 (.int .i64 n4))
  simp only [List.set_cons_zero, List.set_cons_succ] at HD
  generalize w4.setCell ⟨w1.heap.size, 3, none⟩ (.int .i64 n4) = wh at HD ⊢
  clear yf yc yl
  have y0 := HD.out.box.cell 0
  have yl := HD.out.fr.lt
  have yb := HD.out.box.lt
  simp only [List.getElem?_cons_zero] at y0
  go_wp2_with fail
  refine (sfour_any p _ 8192 3 _ HD.out.rd).mono ?_
  intro x w5 hx
  rcases hr : R4.rd 4 0 8192 3 with ⟨e, a⟩ | ⟨n5, R5⟩
  · rw [hr] at hx
    obtain ⟨rfl, hk⟩ := hx
    have K := Lib.hid (HD.out.kept.trans hk)
    have E5 := Lib.hid hr
    clear hk hr
    go_wp2_with fail
    refine ⟨rfl, ?_⟩
    simp only [Rd.head, E1.out, E2.out, E3.out, E4.out, E5.out, Except.bind]
    exact ⟨rfl, K.out⟩
  rw [hr] at hx
  obtain ⟨rfl, hrd, hk⟩ := hx
  have HD := Lib.hid (HD.out.call hrd hk)
  have E5 := Lib.hid hr
  clear hk hr hrd y0 yl yb
  have yf := HD.out.fr.frozen 4
  have yc := HD.out.fr.cell 4
  have yl := HD.out.fr.lt
  simp only [List.getElem?_cons_zero, List.getElem?_cons_succ] at yc
  go_upto_region 7 with (fail)
  have HD := Lib.hid (HD.out.set 4 (.int .i64 n5))
  simp only [List.set_cons_zero, List.set_cons_succ] at HD
  generalize w5.setCell ⟨w1.heap.size, 4, none⟩ (.int .i64 n5) = wh at HD ⊢
  clear yf yc yl
  have y0 := HD.out.box.cell 0
  have yl := HD.out.fr.lt
  have yb := HD.out.box.lt
  simp only [List.getElem?_cons_zero] at y0
  go_wp2_with fail
  refine (sone_any p _ 0 1 7 _ HD.out.rd).mono ?_
  intro x w6 hx
  rcases hr : R5.rd 1 0 1 7 with ⟨e, a⟩ | ⟨n6, R6⟩
  · rw [hr] at hx
    obtain ⟨rfl, hk⟩ := hx
    have K := Lib.hid (HD.out.kept.trans hk)
    have E6 := Lib.hid hr
    clear hk hr
    go_wp2_with fail
    refine ⟨rfl, ?_⟩
    simp only [Rd.head, E1.out, E2.out, E3.out, E4.out, E5.out, E6.out, Except.bind]
    exact ⟨rfl, K.out⟩
  rw [hr] at hx
  obtain ⟨rfl, hrd, hk⟩ := hx
  have HD := Lib.hid (HD.out.call hrd hk)
  have E6 := Lib.hid hr
  clear hk hr hrd y0 yl yb
  have yf := HD.out.fr.frozen 10
  have yc := HD.out.fr.cell 10
  have yl := HD.out.fr.lt
  simp only [List.getElem?_cons_zero, List.getElem?_cons_succ] at yc
  go_upto_region 8 with (fail)
  have HD := Lib.hid (HD.out.set 10 (.bool (n6 == 1)))
  simp only [List.set_cons_zero, List.set_cons_succ] at HD
  generalize w6.setCell ⟨w1.heap.size, 10, none⟩ (.bool (n6 == 1)) = wh at HD ⊢
  clear yf yc yl
  have y0 := HD.out.box.cell 0
  have yl := HD.out.fr.lt
  have yb := HD.out.box.lt
  simp only [List.getElem?_cons_zero] at y0
  go_wp2_with fail
  refine (seight_any p _ _ HD.out.rd).mono ?_
  intro x w7 hx
  rcases hr : R6.word with ⟨e, a⟩ | ⟨n7, R7⟩
  · rw [hr] at hx
    obtain ⟨rfl, hk⟩ := hx
    have K := Lib.hid (HD.out.kept.trans hk)
    have E7 := Lib.hid hr
    clear hk hr
    go_wp2_with fail
    refine ⟨rfl, ?_⟩
    simp only [Rd.head, E1.out, E2.out, E3.out, E4.out, E5.out, E6.out, E7.out, Except.bind]
    exact ⟨rfl, K.out⟩
  rw [hr] at hx
  obtain ⟨rfl, hrd, hk⟩ := hx
  have HD := Lib.hid (HD.out.call hrd hk)
  have E7 := Lib.hid hr
  clear hk hr hrd y0 yl yb
  have yf := HD.out.fr.frozen 9
  have yc := HD.out.fr.cell 9
  have yl := HD.out.fr.lt
  simp only [List.getElem?_cons_zero, List.getElem?_cons_succ] at yc
  go_upto_region 9 with (fail)
  have HD := Lib.hid (HD.out.set 9 (.int .i64 n7))
  simp only [List.set_cons_zero, List.set_cons_succ] at HD
  generalize w7.setCell ⟨w1.heap.size, 9, none⟩ (.int .i64 n7) = wh at HD ⊢
  clear yf yc yl
  go_wp2_with (first | (refine wpList_loadBlk rfl 60 (.tmp 4) rfl w1.heap.size [.int .i64 n1, .int .i64 n2, .int .i64 n3, .int .i64 n4, .int .i64 n5, .int .i64 0, .slice none 0 0, .slice none 0 0, .slice none 0 0, .int .i64 n7, .bool (n6 == 1)] _ HD.out.fr rfl Try.underlying60 rfl infoFrame ?_) | (refine wpList_storeBlk rfl 60 (.tmp 2) (.tmp 28) rfl (w.heap.size + 1) _ [.int .i64 n1, .int .i64 n2, .int .i64 n3, .int .i64 n4, .int .i64 n5, .int .i64 0, .slice none 0 0, .slice none 0 0, .slice none 0 0, .int .i64 n7, .bool (n6 == 1)] HD.out.res rfl rfl rfl infoFrame (by simp [Value.oneCell']) ?_; intro w9 hb9 hk9))
  have q0 := hb9.cell 0
  have q1 := hb9.cell 1
  have q2 := hb9.cell 2
  have q3 := hb9.cell 3
  have q4 := hb9.cell 4
  have q5 := hb9.cell 5
  have q6 := hb9.cell 6
  have q7 := hb9.cell 7
  have q8 := hb9.cell 8
  have q9 := hb9.cell 9
  have q10 := hb9.cell 10
  simp only [List.getElem?_cons_zero, List.getElem?_cons_succ] at q0 q1 q2 q3 q4 q5 q6 q7 q8 q9 q10
  refine bodyPost_ret (v := .agg #[.int .i64 n1, .int .i64 n2, .int .i64 n3, .int .i64 n4, .int .i64 n5, .int .i64 0, .slice none 0 0, .slice none 0 0, .slice none 0 0, .int .i64 n7, .bool (n6 == 1)]) (by simp [results, Try.results83, go_sem, q0, q1, q2, q3, q4, q5, q6, q7, q8, q9, q10]) rfl ?_
  simp only [Rd.head, E1.out, E2.out, E3.out, E4.out, E5.out, E6.out, E7.out, Except.bind]
  exact ⟨rfl, HD.out.rd.kept1 HD.out.res (by decide) (by decide) hk9, HD.out.kept.then hk9 (by simp)⟩
end Go.Proofs.Ytdjidnccockmmaa
