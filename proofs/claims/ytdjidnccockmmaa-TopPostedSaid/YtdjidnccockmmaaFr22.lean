/- Frames: how many entries; a frame cut to so much as is gone through. -/
import Derived.Test.YtdjidnccockmmaaFr14
namespace Go.Proofs.Ytdjidnccockmmaa
set_option linter.unusedSimpArgs false
set_option linter.unusedVariables false
open Go.ChangeShapes Go.WideShapes Go.ChangeAt Go.RowKit
open Go.RowKit (wrap32 wrap64)
set_option maxHeartbeats 4000000

set_option maxRecDepth 100000 in
theorem size_any (F : Fr) (A1 A2 A3 : Option Addr) (c1 c2 c3 : Nat) (w : World) (h1 : F.items.length ≤ 1048576) (h2 : F.sums.length ≤ 1048576) (h3 : F.trips.length ≤ 1048576) :
    Calls Try.prog 38 #[.agg (frC F A1 A2 A3 c1 c2 c3).toArray] w fun x w' => x = .returned (.int .i64 ((F.items.length + F.sums.length + F.trips.length : Nat) : Int)) ∧ Kept [] w w' := by
  have K0 := Lib.hid ((Kept.refl [] w).alloc (.cells (frC F A1 A2 A3 c1 c2 c3).toArray 60))
  go_enter Try.func38, Try.ntmps38
  go_wp2_with fail
  go_ret
  exact ⟨ret_int (by simp), K0.out⟩

/-- A prefix reads, too. -/
theorem Reads.pre {w : World} {A : Option Addr} {xs ys : List Value} (h : Reads w A (xs ++ ys)) : Reads w A xs := by
  intro hx
  obtain ⟨b, off, e, hb, hc⟩ := h (by intro h0; simp at h0; exact hx h0.1)
  exact ⟨b, off, e, hb, fun j u hu => hc j u (by rw [List.getElem?_append_left (List.getElem?_eq_some_iff.1 hu).1]; exact hu)⟩
theorem Reads.take {α : Type} {w : World} {A : Option Addr} {l : List α} {f : α → List Value} (h : Reads w A (l.flatMap f)) (k : Nat) : Reads w A ((l.take k).flatMap f) := by
  rw [← List.take_append_drop k l, List.flatMap_append] at h
  exact h.pre
/-- A frame cut to so much as is gone through. -/
def fewF (F : Fr) : Fr := { F with items := F.items.take 60, sums := F.sums.take 40, trips := F.trips.take 40 }
theorem FrIn.few {w : World} {F : Fr} {A1 A2 A3 : Option Addr} (h : FrIn w F A1 A2 A3) : FrIn w (fewF F) A1 A2 A3 :=
  ⟨h.items.take 60, h.sums.take 40, h.trips.take 40, Nat.le_trans (List.length_take_le' _ _) h.li, Nat.le_trans (List.length_take_le' _ _) h.ls, Nat.le_trans (List.length_take_le' _ _) h.lt⟩
theorem take_gt {α : Type} {l : List α} {k : Nat} (h : k < l.length) : (l.take k).length = k := by simp; omega
theorem take_ngt {α : Type} {l : List α} {k : Nat} (h : ¬ k < l.length) : (l.take k).length = l.length := by simp; omega

set_option maxRecDepth 100000 in
theorem fewVec_any (n : Int) (l : List (Int × Int)) (A : Option Addr) (c : Nat) (w : World) (hr : Reads w A (l.flatMap readV)) (hl : l.length ≤ maxLen) (hc : l.length ≤ c) :
    Calls Try.prog 44 #[.agg #[.int .i64 n, .slice A l.length c]] w fun x w' => x = .returned (.agg #[.int .i64 n, .slice A (l.take 60).length c]) ∧ Kept [] w w' := by
  unfold maxLen at hl
  by_cases h : 60 < l.length
  · obtain ⟨b, off, rfl, _⟩ := read_at hr (k := 0) (by omega)
    clear hr
    have h60 : 60 ≤ c := by omega
    have E := Lib.hid (take_gt h)
    go_enter Try.func44, Try.ntmps44
    go_wp2_with fail
    refine bodyPost_ret (v := .agg #[.int .i64 n, .slice (some ⟨b, off, none⟩) 60 c]) (by simp [results, Try.results44, go_sem]) rfl ?_
    rw [E.out]
    exact ⟨rfl, (((Kept.refl [] w).alloc _)).alloc _⟩
  · clear hr
    have E := Lib.hid (take_ngt h)
    go_enter Try.func44, Try.ntmps44
    go_wp2_with fail
    refine bodyPost_ret (v := .agg #[.int .i64 n, .slice A l.length c]) (by simp [results, Try.results44, go_sem]) rfl ?_
    rw [E.out]
    exact ⟨rfl, (((Kept.refl [] w).alloc _)).alloc _⟩

set_option maxRecDepth 100000 in
theorem few_any (F : Fr) (A1 A2 A3 : Option Addr) (c1 c2 c3 : Nat) (w : World) (hF : FrIn w F A1 A2 A3) (h1 : F.items.length ≤ c1) (h2 : F.sums.length ≤ c2) (h3 : F.trips.length ≤ c3) :
    Calls Try.prog 32 #[.agg (frC F A1 A2 A3 c1 c2 c3).toArray] w fun x w' => x = .returned (.agg (frC (fewF F) A1 A2 A3 c1 c2 c3).toArray) ∧ Kept [] w w' := by
  have HB := Lib.hid ((Blk.new w 60 (frC F A1 A2 A3 c1 c2 c3)).alloc (.cells #[.int .i64 0, .int .i64 0, .int .i64 0, .int .i64 0, .int .i64 0, .int .i64 0, .slice none 0 0, .slice none 0 0, .slice none 0 0, .int .i64 0, .bool false] 60))
  have HR := Lib.hid (Blk.new1F w (.cells (frC F A1 A2 A3 c1 c2 c3).toArray 60) 60 [.int .i64 0, .int .i64 0, .int .i64 0, .int .i64 0, .int .i64 0, .int .i64 0, .slice none 0 0, .slice none 0 0, .slice none 0 0, .int .i64 0, .bool false])
  have K0 := Lib.hid (((Kept.refl [] w).alloc (.cells (frC F A1 A2 A3 c1 c2 c3).toArray 60)).alloc (.cells #[.int .i64 0, .int .i64 0, .int .i64 0, .int .i64 0, .int .i64 0, .int .i64 0, .slice none 0 0, .slice none 0 0, .slice none 0 0, .int .i64 0, .bool false] 60))
  have HF := Lib.hid (hF.items.kept0 K0.out)
  have LI := Lib.hid hF.li
  have hs := hF.ls
  have ht := hF.lt
  have HS := Lib.hid hF.sums
  have HT := Lib.hid hF.trips
  have H1 := Lib.hid h1
  unfold maxLen at hs ht
  clear hF h1
  go_enter Try.func32, Try.ntmps32
  go_wp2_with fail
  refine (fewVec_any F.vn F.items A1 c1 _ HF.out LI.out H1.out).mono ?_
  rintro x w1 ⟨rfl, hk⟩
  have K1 := Lib.hid (K0.out.trans hk)
  replace HB := Lib.hid (HB.out.kept hk (by simp))
  replace HR := Lib.hid (HR.out.kept hk (by simp))
  clear hk
  generalize hn1 : (F.items.take 60).length = n1
  have N1 := Lib.hid hn1
  have d5 := HB.out.cell 5
  have d6 := HB.out.cell 6
  have f5 := HB.out.frozen 5
  have f6 := HB.out.frozen 6
  have yl := HB.out.lt
  simp only [List.getElem?_cons_zero, List.getElem?_cons_succ] at d5 d6
  clear hn1
  go_upto_region 2 with (fail)
  have K2 := Lib.hid ((K1.out.setCell (p := ⟨w.heap.size, 5, none⟩) (.inr (Nat.le_refl _)) (.int .i64 F.vn)).setCell (p := ⟨w.heap.size, 6, none⟩) (.inr (Nat.le_refl _)) (.slice A1 n1 c1))
  replace HR := Lib.hid ((HR.out.far (p := ⟨w.heap.size, 5, none⟩) (Nat.succ_ne_self _) (.int .i64 F.vn)).far (p := ⟨w.heap.size, 6, none⟩) (Nat.succ_ne_self _) (.slice A1 n1 c1))
  replace HB := Lib.hid ((HB.out.set 5 (.int .i64 F.vn)).set 6 (.slice A1 n1 c1))
  simp only [List.set_cons_zero, List.set_cons_succ] at HB
  generalize (w1.setCell ⟨w.heap.size, 5, none⟩ (.int .i64 F.vn)).setCell ⟨w.heap.size, 6, none⟩ (.slice A1 n1 c1) = w2 at K2 HR HB ⊢
  clear d5 d6 f5 f6 yl K1
  by_cases hg7 : 40 < F.sums.length
  · obtain ⟨b7, o7, rfl, _⟩ := sum_at HS.out (k := 0) (by omega)
    have hc7 : 40 ≤ c2 := by omega
    have N7 := Lib.hid (take_gt hg7)
    have d7 := HB.out.cell 7
    have f7 := HB.out.frozen 7
    have yl := HB.out.lt
    simp only [List.getElem?_cons_zero, List.getElem?_cons_succ] at d7
    go_upto_region 4 with (fail)
    replace K2 := Lib.hid (K2.out.setCell (p := ⟨w.heap.size, 7, none⟩) (.inr (Nat.le_refl _)) (.slice (some ⟨b7, o7, none⟩) 40 c2))
    replace HR := Lib.hid (HR.out.far (p := ⟨w.heap.size, 7, none⟩) (Nat.succ_ne_self _) (.slice (some ⟨b7, o7, none⟩) 40 c2))
    replace HB := Lib.hid (HB.out.set 7 (.slice (some ⟨b7, o7, none⟩) 40 c2))
    simp only [List.set_cons_zero, List.set_cons_succ] at HB
    generalize World.setCell _ ⟨w.heap.size, 7, none⟩ (.slice (some ⟨b7, o7, none⟩) 40 c2) = w3 at K2 HR HB ⊢
    clear d7 f7 yl hc7
    by_cases hg8 : 40 < F.trips.length
    · obtain ⟨b8, o8, rfl, _⟩ := trip_at HT.out (k := 0) (by omega)
      have hc8 : 40 ≤ c3 := by omega
      have N8 := Lib.hid (take_gt hg8)
      have d8 := HB.out.cell 8
      have f8 := HB.out.frozen 8
      have yl := HB.out.lt
      simp only [List.getElem?_cons_zero, List.getElem?_cons_succ] at d8
      go_upto_region 6 with (fail)
      replace K2 := Lib.hid (K2.out.setCell (p := ⟨w.heap.size, 8, none⟩) (.inr (Nat.le_refl _)) (.slice (some ⟨b8, o8, none⟩) 40 c3))
      replace HR := Lib.hid (HR.out.far (p := ⟨w.heap.size, 8, none⟩) (Nat.succ_ne_self _) (.slice (some ⟨b8, o8, none⟩) 40 c3))
      replace HB := Lib.hid (HB.out.set 8 (.slice (some ⟨b8, o8, none⟩) 40 c3))
      simp only [List.set_cons_zero, List.set_cons_succ] at HB
      generalize World.setCell _ ⟨w.heap.size, 8, none⟩ (.slice (some ⟨b8, o8, none⟩) 40 c3) = w3 at K2 HR HB ⊢
      clear d8 f8 yl hc8
      go_wp2_with (first | (refine wpList_loadBlk rfl 60 (.tmp 1) rfl w.heap.size [.int .i64 F.kind, .int .i64 F.src, .int .i64 F.dst, .int .i64 F.seq, .int .i64 F.round, .int .i64 F.vn, .slice A1 n1 c1, .slice (some ⟨b7, o7, none⟩) 40 c2, .slice (some ⟨b8, o8, none⟩) 40 c3, .int .i64 F.n, .bool F.over] _ HB.out rfl Try.underlying60 rfl infoFrame ?_) | (refine wpList_storeBlk rfl 60 (.tmp 2) (.tmp 23) rfl (w.heap.size + 1) _ [.int .i64 F.kind, .int .i64 F.src, .int .i64 F.dst, .int .i64 F.seq, .int .i64 F.round, .int .i64 F.vn, .slice A1 n1 c1, .slice (some ⟨b7, o7, none⟩) 40 c2, .slice (some ⟨b8, o8, none⟩) 40 c3, .int .i64 F.n, .bool F.over] HR.out rfl rfl rfl infoFrame (by simp [Value.oneCell']) ?_; intro w6 hb6 hk6))
      have g0 := hb6.cell 0
      have g1 := hb6.cell 1
      have g2 := hb6.cell 2
      have g3 := hb6.cell 3
      have g4 := hb6.cell 4
      have g5 := hb6.cell 5
      have g6 := hb6.cell 6
      have g7 := hb6.cell 7
      have g8 := hb6.cell 8
      have g9 := hb6.cell 9
      have g10 := hb6.cell 10
      simp only [List.getElem?_cons_zero, List.getElem?_cons_succ] at g0 g1 g2 g3 g4 g5 g6 g7 g8 g9 g10
      refine bodyPost_ret (v := .agg [.int .i64 F.kind, .int .i64 F.src, .int .i64 F.dst, .int .i64 F.seq, .int .i64 F.round, .int .i64 F.vn, .slice A1 n1 c1, .slice (some ⟨b7, o7, none⟩) 40 c2, .slice (some ⟨b8, o8, none⟩) 40 c3, .int .i64 F.n, .bool F.over].toArray) (by simp [results, Try.results32, go_sem, g0, g1, g2, g3, g4, g5, g6, g7, g8, g9, g10]) rfl ?_
      refine ⟨?_, K2.out.then hk6 (by simp)⟩
      have e : frC (fewF F) A1 (some ⟨b7, o7, none⟩) (some ⟨b8, o8, none⟩) c1 c2 c3 = [.int .i64 F.kind, .int .i64 F.src, .int .i64 F.dst, .int .i64 F.seq, .int .i64 F.round, .int .i64 F.vn, .slice A1 n1 c1, .slice (some ⟨b7, o7, none⟩) 40 c2, .slice (some ⟨b8, o8, none⟩) 40 c3, .int .i64 F.n, .bool F.over] := by
        show ([.int .i64 F.kind, .int .i64 F.src, .int .i64 F.dst, .int .i64 F.seq, .int .i64 F.round, .int .i64 F.vn, .slice A1 (F.items.take 60).length c1, .slice (some ⟨b7, o7, none⟩) (F.sums.take 40).length c2, .slice (some ⟨b8, o8, none⟩) (F.trips.take 40).length c3, .int .i64 F.n, .bool F.over] : List Value) = _
        rw [N1.out, N7.out, N8.out]
      rw [e]
    · have N8 := Lib.hid (take_ngt hg8)
      have d8 := HB.out.cell 8
      have yl := HB.out.lt
      simp only [List.getElem?_cons_zero, List.getElem?_cons_succ] at d8
      go_upto_region 6 with (fail)
      clear d8 yl
      go_wp2_with (first | (refine wpList_loadBlk rfl 60 (.tmp 1) rfl w.heap.size [.int .i64 F.kind, .int .i64 F.src, .int .i64 F.dst, .int .i64 F.seq, .int .i64 F.round, .int .i64 F.vn, .slice A1 n1 c1, .slice (some ⟨b7, o7, none⟩) 40 c2, .slice A3 F.trips.length c3, .int .i64 F.n, .bool F.over] _ HB.out rfl Try.underlying60 rfl infoFrame ?_) | (refine wpList_storeBlk rfl 60 (.tmp 2) (.tmp 23) rfl (w.heap.size + 1) _ [.int .i64 F.kind, .int .i64 F.src, .int .i64 F.dst, .int .i64 F.seq, .int .i64 F.round, .int .i64 F.vn, .slice A1 n1 c1, .slice (some ⟨b7, o7, none⟩) 40 c2, .slice A3 F.trips.length c3, .int .i64 F.n, .bool F.over] HR.out rfl rfl rfl infoFrame (by simp [Value.oneCell']) ?_; intro w6 hb6 hk6))
      have g0 := hb6.cell 0
      have g1 := hb6.cell 1
      have g2 := hb6.cell 2
      have g3 := hb6.cell 3
      have g4 := hb6.cell 4
      have g5 := hb6.cell 5
      have g6 := hb6.cell 6
      have g7 := hb6.cell 7
      have g8 := hb6.cell 8
      have g9 := hb6.cell 9
      have g10 := hb6.cell 10
      simp only [List.getElem?_cons_zero, List.getElem?_cons_succ] at g0 g1 g2 g3 g4 g5 g6 g7 g8 g9 g10
      refine bodyPost_ret (v := .agg [.int .i64 F.kind, .int .i64 F.src, .int .i64 F.dst, .int .i64 F.seq, .int .i64 F.round, .int .i64 F.vn, .slice A1 n1 c1, .slice (some ⟨b7, o7, none⟩) 40 c2, .slice A3 F.trips.length c3, .int .i64 F.n, .bool F.over].toArray) (by simp [results, Try.results32, go_sem, g0, g1, g2, g3, g4, g5, g6, g7, g8, g9, g10]) rfl ?_
      refine ⟨?_, K2.out.then hk6 (by simp)⟩
      have e : frC (fewF F) A1 (some ⟨b7, o7, none⟩) A3 c1 c2 c3 = [.int .i64 F.kind, .int .i64 F.src, .int .i64 F.dst, .int .i64 F.seq, .int .i64 F.round, .int .i64 F.vn, .slice A1 n1 c1, .slice (some ⟨b7, o7, none⟩) 40 c2, .slice A3 F.trips.length c3, .int .i64 F.n, .bool F.over] := by
        show ([.int .i64 F.kind, .int .i64 F.src, .int .i64 F.dst, .int .i64 F.seq, .int .i64 F.round, .int .i64 F.vn, .slice A1 (F.items.take 60).length c1, .slice (some ⟨b7, o7, none⟩) (F.sums.take 40).length c2, .slice A3 (F.trips.take 40).length c3, .int .i64 F.n, .bool F.over] : List Value) = _
        rw [N1.out, N7.out, N8.out]
      rw [e]
  · have N7 := Lib.hid (take_ngt hg7)
    have d7 := HB.out.cell 7
    have yl := HB.out.lt
    simp only [List.getElem?_cons_zero, List.getElem?_cons_succ] at d7
    go_upto_region 4 with (fail)
    clear d7 yl
    by_cases hg8 : 40 < F.trips.length
    · obtain ⟨b8, o8, rfl, _⟩ := trip_at HT.out (k := 0) (by omega)
      have hc8 : 40 ≤ c3 := by omega
      have N8 := Lib.hid (take_gt hg8)
      have d8 := HB.out.cell 8
      have f8 := HB.out.frozen 8
      have yl := HB.out.lt
      simp only [List.getElem?_cons_zero, List.getElem?_cons_succ] at d8
      go_upto_region 6 with (fail)
      replace K2 := Lib.hid (K2.out.setCell (p := ⟨w.heap.size, 8, none⟩) (.inr (Nat.le_refl _)) (.slice (some ⟨b8, o8, none⟩) 40 c3))
      replace HR := Lib.hid (HR.out.far (p := ⟨w.heap.size, 8, none⟩) (Nat.succ_ne_self _) (.slice (some ⟨b8, o8, none⟩) 40 c3))
      replace HB := Lib.hid (HB.out.set 8 (.slice (some ⟨b8, o8, none⟩) 40 c3))
      simp only [List.set_cons_zero, List.set_cons_succ] at HB
      generalize World.setCell _ ⟨w.heap.size, 8, none⟩ (.slice (some ⟨b8, o8, none⟩) 40 c3) = w3 at K2 HR HB ⊢
      clear d8 f8 yl hc8
      go_wp2_with (first | (refine wpList_loadBlk rfl 60 (.tmp 1) rfl w.heap.size [.int .i64 F.kind, .int .i64 F.src, .int .i64 F.dst, .int .i64 F.seq, .int .i64 F.round, .int .i64 F.vn, .slice A1 n1 c1, .slice A2 F.sums.length c2, .slice (some ⟨b8, o8, none⟩) 40 c3, .int .i64 F.n, .bool F.over] _ HB.out rfl Try.underlying60 rfl infoFrame ?_) | (refine wpList_storeBlk rfl 60 (.tmp 2) (.tmp 23) rfl (w.heap.size + 1) _ [.int .i64 F.kind, .int .i64 F.src, .int .i64 F.dst, .int .i64 F.seq, .int .i64 F.round, .int .i64 F.vn, .slice A1 n1 c1, .slice A2 F.sums.length c2, .slice (some ⟨b8, o8, none⟩) 40 c3, .int .i64 F.n, .bool F.over] HR.out rfl rfl rfl infoFrame (by simp [Value.oneCell']) ?_; intro w6 hb6 hk6))
      have g0 := hb6.cell 0
      have g1 := hb6.cell 1
      have g2 := hb6.cell 2
      have g3 := hb6.cell 3
      have g4 := hb6.cell 4
      have g5 := hb6.cell 5
      have g6 := hb6.cell 6
      have g7 := hb6.cell 7
      have g8 := hb6.cell 8
      have g9 := hb6.cell 9
      have g10 := hb6.cell 10
      simp only [List.getElem?_cons_zero, List.getElem?_cons_succ] at g0 g1 g2 g3 g4 g5 g6 g7 g8 g9 g10
      refine bodyPost_ret (v := .agg [.int .i64 F.kind, .int .i64 F.src, .int .i64 F.dst, .int .i64 F.seq, .int .i64 F.round, .int .i64 F.vn, .slice A1 n1 c1, .slice A2 F.sums.length c2, .slice (some ⟨b8, o8, none⟩) 40 c3, .int .i64 F.n, .bool F.over].toArray) (by simp [results, Try.results32, go_sem, g0, g1, g2, g3, g4, g5, g6, g7, g8, g9, g10]) rfl ?_
      refine ⟨?_, K2.out.then hk6 (by simp)⟩
      have e : frC (fewF F) A1 A2 (some ⟨b8, o8, none⟩) c1 c2 c3 = [.int .i64 F.kind, .int .i64 F.src, .int .i64 F.dst, .int .i64 F.seq, .int .i64 F.round, .int .i64 F.vn, .slice A1 n1 c1, .slice A2 F.sums.length c2, .slice (some ⟨b8, o8, none⟩) 40 c3, .int .i64 F.n, .bool F.over] := by
        show ([.int .i64 F.kind, .int .i64 F.src, .int .i64 F.dst, .int .i64 F.seq, .int .i64 F.round, .int .i64 F.vn, .slice A1 (F.items.take 60).length c1, .slice A2 (F.sums.take 40).length c2, .slice (some ⟨b8, o8, none⟩) (F.trips.take 40).length c3, .int .i64 F.n, .bool F.over] : List Value) = _
        rw [N1.out, N7.out, N8.out]
      rw [e]
    · have N8 := Lib.hid (take_ngt hg8)
      have d8 := HB.out.cell 8
      have yl := HB.out.lt
      simp only [List.getElem?_cons_zero, List.getElem?_cons_succ] at d8
      go_upto_region 6 with (fail)
      clear d8 yl
      go_wp2_with (first | (refine wpList_loadBlk rfl 60 (.tmp 1) rfl w.heap.size [.int .i64 F.kind, .int .i64 F.src, .int .i64 F.dst, .int .i64 F.seq, .int .i64 F.round, .int .i64 F.vn, .slice A1 n1 c1, .slice A2 F.sums.length c2, .slice A3 F.trips.length c3, .int .i64 F.n, .bool F.over] _ HB.out rfl Try.underlying60 rfl infoFrame ?_) | (refine wpList_storeBlk rfl 60 (.tmp 2) (.tmp 23) rfl (w.heap.size + 1) _ [.int .i64 F.kind, .int .i64 F.src, .int .i64 F.dst, .int .i64 F.seq, .int .i64 F.round, .int .i64 F.vn, .slice A1 n1 c1, .slice A2 F.sums.length c2, .slice A3 F.trips.length c3, .int .i64 F.n, .bool F.over] HR.out rfl rfl rfl infoFrame (by simp [Value.oneCell']) ?_; intro w6 hb6 hk6))
      have g0 := hb6.cell 0
      have g1 := hb6.cell 1
      have g2 := hb6.cell 2
      have g3 := hb6.cell 3
      have g4 := hb6.cell 4
      have g5 := hb6.cell 5
      have g6 := hb6.cell 6
      have g7 := hb6.cell 7
      have g8 := hb6.cell 8
      have g9 := hb6.cell 9
      have g10 := hb6.cell 10
      simp only [List.getElem?_cons_zero, List.getElem?_cons_succ] at g0 g1 g2 g3 g4 g5 g6 g7 g8 g9 g10
      refine bodyPost_ret (v := .agg [.int .i64 F.kind, .int .i64 F.src, .int .i64 F.dst, .int .i64 F.seq, .int .i64 F.round, .int .i64 F.vn, .slice A1 n1 c1, .slice A2 F.sums.length c2, .slice A3 F.trips.length c3, .int .i64 F.n, .bool F.over].toArray) (by simp [results, Try.results32, go_sem, g0, g1, g2, g3, g4, g5, g6, g7, g8, g9, g10]) rfl ?_
      refine ⟨?_, K2.out.then hk6 (by simp)⟩
      have e : frC (fewF F) A1 A2 A3 c1 c2 c3 = [.int .i64 F.kind, .int .i64 F.src, .int .i64 F.dst, .int .i64 F.seq, .int .i64 F.round, .int .i64 F.vn, .slice A1 n1 c1, .slice A2 F.sums.length c2, .slice A3 F.trips.length c3, .int .i64 F.n, .bool F.over] := by
        show ([.int .i64 F.kind, .int .i64 F.src, .int .i64 F.dst, .int .i64 F.seq, .int .i64 F.round, .int .i64 F.vn, .slice A1 (F.items.take 60).length c1, .slice A2 (F.sums.take 40).length c2, .slice A3 (F.trips.take 40).length c3, .int .i64 F.n, .bool F.over] : List Value) = _
        rw [N1.out, N7.out, N8.out]
      rw [e]
end Go.Proofs.Ytdjidnccockmmaa
