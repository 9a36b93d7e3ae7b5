/- 'TopPosted' returns true for every room, frames, and places. Conditions: none. -/
import Derived.Test.YtdjidnccockmmaaPa
import Derived.Deep.LoopGhost
/- The box: Take. -/
namespace Go.Proofs.Ytdjidnccockmmaa
set_option linter.unusedSimpArgs false
set_option linter.unusedVariables false
open Go.ChangeShapes Go.WideShapes Go.ChangeAt Go.RowKit
open Go.RowKit (wrap32 wrap64)
set_option maxHeartbeats 8000000

theorem Blk.keptM {w w' : World} {base m1 m2 g d1 d2 : Nat} {T : List TypeId} {t : TypeId} {cs : List Value} {l1 l2 : List (Int × Value × Nat)} (h : Blk w g t cs) (k : KeptM base T m1 m2 w w') (ht : t ∉ T) (h1 : MapB w m1 l1 d1) (h2 : MapB w m2 l2 d2) : Blk w' g t cs :=
  (k.block g h.lt (.inr ⟨h1.ne_blk h, h2.ne_blk h, fun cs' t' fr hc => by unfold Blk at h; rw [h] at hc; injection hc with hc; injection hc with _ e1 _; subst e1; exact ht⟩)).trans h
theorem OwnF.keptM {w w' : World} {base base' m1 m2 d1 d2 : Nat} {T : List TypeId} {F : Fr} {v1 v2 v3 : Value} {l1 l2 : List (Int × Value × Nat)} (h : OwnF w base' F v1 v2 v3) (k : KeptM base T m1 m2 w w') (t1 : 99 ∉ T) (t2 : 103 ∉ T) (t3 : 105 ∉ T) (h1 : MapB w m1 l1 d1) (h2 : MapB w m2 l2 d2) : OwnF w' base' F v1 v2 v3 :=
  ⟨own_keptM h.o1 k t1 h1 h2, own_keptM h.o2 k t2 h1 h2, own_keptM h.o3 k t3 h1 h2⟩
section
variable {w : World} {base p m1 m2 room : Nat} {row : List Int} {sent taken : Nat} {Fs : Int → Fr} {v : Value} {l1 l2 : List (Int × Value × Nat)} {c1 c2 : Nat}
theorem BxC.bump (h : BxC w base p m1 m2 room row sent taken Fs v l1 l2 c1 c2) (ht : taken < sent) :
    BxC (w.setCell ⟨p, 5, none⟩ (.int .i64 ((taken : Int) + 1))) base p m1 m2 room row sent (taken + 1) Fs v l1 l2 c1 c2 ∧ KeptB base [130] w (w.setCell ⟨p, 5, none⟩ (.int .i64 ((taken : Int) + 1))) := by
  have f : KeptB base [130] w (w.setCell ⟨p, 5, none⟩ (.int .i64 ((taken : Int) + 1))) := (KeptB.refl _ _ w).set h.blk h.hp (by decide) 5 _
  have hb := h.blk.set 5 (.int .i64 ((taken : Int) + 1))
  refine ⟨⟨by simpa [bxC] using hb, own_keptB h.rowO f (by decide), h.by_.keptB f, h.often.keptB f, fun n hn => ?_, h.cnt, h.new, h.hp, h.h1, h.h2, h.ne, h.fit, h.rm, h.sn, ht, h.inn⟩, f⟩
  obtain ⟨v1, v2, v3, e, o⟩ := h.frs n hn
  exact ⟨v1, v2, v3, e, o.keptB f (by decide) (by decide) (by decide)⟩
set_option maxRecDepth 100000 in
theorem btake_any (h : BxC w base p m1 m2 room row sent taken Fs v l1 l2 c1 c2) (q : Nat) (hq : q < row.length) (hs : (Fs row[q]).seq = row[q]) (hle : row[q] ≤ taken)
    (b1 : (Fs row[q]).items.length ≤ 1048576) (b2 : (Fs row[q]).sums.length ≤ 1048576) (b3 : (Fs row[q]).trips.length ≤ 1048576) :
    Calls Try.prog 49 #[.pointer (some ⟨p, 0, none⟩), .int .i64 q] w fun e w' =>
      (row[q] < taken ∧ e = .returned (.tuple #[.agg #[.int .i64 0, .int .i64 0, .int .i64 0, .int .i64 0, .int .i64 0, .int .i64 0, .slice none 0 0, .slice none 0 0, .slice none 0 0, .int .i64 0, .bool false], .bool false, .int .i64 0]) ∧ KeptM base bxT m1 m2 w w' ∧ ∃ v' l1' l2' c1' c2', BxC w' base p m1 m2 room (row.eraseIdx q) sent taken Fs v' l1' l2' c1' c2') ∨
      (row[q] = taken ∧ ∃ v1 v2 v3, e = .returned (.tuple #[.agg (lsC (Fs row[q]) v1 v2 v3).toArray, .bool true, .int .i64 0]) ∧ OwnF w' base (Fs row[q]) v1 v2 v3 ∧ KeptM base bxT m1 m2 w w' ∧ ∃ v' l1' l2' c1' c2', BxC w' base p m1 m2 room (row.eraseIdx q) sent (taken + 1) Fs v' l1' l2' c1' c2') := by
  have H := Lib.hid (h.kept0 ((Kept.refl [] w).alloc (.cells #[.int .i64 0, .int .i64 0, .int .i64 0, .int .i64 0, .int .i64 0, .int .i64 0, .slice none 0 0, .slice none 0 0, .slice none 0 0, .int .i64 0, .bool false] 60)))
  have HR := Lib.hid (Blk.new w 60 [.int .i64 0, .int .i64 0, .int .i64 0, .int .i64 0, .int .i64 0, .int .i64 0, .slice none 0 0, .slice none 0 0, .slice none 0 0, .int .i64 0, .bool false])
  have K := Lib.hid ((Kept.refl [] w).alloc (.cells #[.int .i64 0, .int .i64 0, .int .i64 0, .int .i64 0, .int .i64 0, .int .i64 0, .slice none 0 0, .slice none 0 0, .slice none 0 0, .int .i64 0, .bool false] 60))
  have HBW := Lib.hid (show base ≤ w.heap.size from Nat.le_trans h.hp (Nat.le_of_lt h.blk.lt))
  have hin := h.inn row[q] (List.getElem_mem hq)
  have htk := Nat.le_trans h.tk h.sn
  clear h
  go_enter Try.func49, Try.ntmps49
  go_wp2_with fail
  refine (place_any H.out q).mono ?_
  rintro _ w1 ⟨rfl, rfl⟩
  rw [show atE row.length q = 0 from if_pos ⟨by omega, by omega⟩]
  generalize w.alloc (.cells #[.int .i64 0, .int .i64 0, .int .i64 0, .int .i64 0, .int .i64 0, .int .i64 0, .slice none 0 0, .slice none 0 0, .slice none 0 0, .int .i64 0, .bool false] 60) = wa at *
  obtain ⟨g, cap, rfl, hc, hm, hcell⟩ := row_at H.out.rowO (by omega)
  have hx := hcell q hq
  clear hcell
  have hfit := H.out.fit
  have y1 := H.out.blk.cell 1
  have y5 := H.out.blk.cell 5
  simp only [List.getElem?_cons_zero, List.getElem?_cons_succ] at y1 y5
  unfold maxLen at hm
  have gt : ¬ (taken : Int) < row[q] := by omega
  go_wp2_with fail
  go_quiet (fail)
  have H := Lib.hid (H.out.kept0 ((Kept.refl [] _).drewN nq))
  have HR := Lib.hid (HR.out.kept ((Kept.refl [] _).drewN nq) (by simp))
  have K := Lib.hid (K.out.trans ((Kept.refl [] _).drewN nq))
  clear hx y1 y5
  generalize World.drewN wa nq = wb at *
  go_wp2_with fail
  refine (out_any H.out q hq).mono ?_
  rintro _ w2 ⟨v1, v2, v3, rfl, ho, hkm, v', l1', l2', d1, d2, hb⟩
  have HR := Lib.hid (HR.out.keptM hkm (by decide) H.out.by_ H.out.often)
  have KM := Lib.hid ((KeptM.of_kept0 (base := base) (T := bxT) (m1 := m1) (m2 := m2) K.out).trans hkm)
  have H := Lib.hid hb
  have O := Lib.hid ho
  clear hb ho hkm gt hc hm
  obtain ⟨B1, C1, rfl⟩ := own_n O.out.o1
  obtain ⟨B2, C2, rfl⟩ := own_n O.out.o2
  obtain ⟨B3, C3, rfl⟩ := own_n O.out.o3
  have HN := Lib.hid (Blk.new w2 60 [.int .i64 0, .int .i64 0, .int .i64 0, .int .i64 0, .int .i64 0, .int .i64 0, .slice none 0 0, .slice none 0 0, .slice none 0 0, .int .i64 0, .bool false])
  go_upto_region 5 with (first | (refine wpList_storeBlk rfl 60 (.tmp 8) (.tmp 32) rfl w2.heap.size _ (lsC (Fs row[q]) (.slice B1 (Fs row[q]).items.length C1) (.slice B2 (Fs row[q]).sums.length C2) (.slice B3 (Fs row[q]).trips.length C3)) HN.out rfl rfl rfl infoFrame (by simp [Value.oneCell']) ?_; intro w3 hb3 hk3))
  have f3 : KeptB w2.heap.size [60] w2 w3 := ((KeptB.refl _ _ w2).alloc _).step (L := [w2.heap.size]) hk3 (fun m hm => by simp at hm; subst hm; exact ⟨Nat.le_refl _, _, _, _, HN.out, by simp⟩)
  have H := Lib.hid (H.out.keptB f3 (by decide) (by decide) (by decide) (by decide) (by decide))
  have HR := Lib.hid (HR.out.keptBlt f3 HR.out.lt)
  have O := Lib.hid (O.out.keptB f3 (by decide) (by decide) (by decide))
  have KM := Lib.hid (KM.out.trans (.of_kept0 ((Kept.refl [] w2).thenB f3 (Nat.le_refl _))))
  have HN := Lib.hid hb3
  clear hb3 hk3 f3
  have y5 := H.out.blk.cell 5
  have x3 := HN.out.cell 3
  simp only [List.getElem?_cons_zero, List.getElem?_cons_succ] at y5 x3
  rw [hs] at x3
  by_cases hlt : row[q] < (taken : Int)
  · go_quiet (fail)
    have H := Lib.hid (H.out.kept0 ((Kept.refl [] _).drewN nq))
    have HR := Lib.hid (HR.out.kept ((Kept.refl [] _).drewN nq) (by simp))
    have KM := Lib.hid (KM.out.trans (.of_kept0 ((Kept.refl [] _).drewN nq)))
    clear x3 y5
    generalize World.drewN w3 nq = w4 at *
    go_wp2_with (first | (refine wpList_storeBlk rfl 60 (.tmp 4) (.tmp 40) rfl w.heap.size _ [.int .i64 0, .int .i64 0, .int .i64 0, .int .i64 0, .int .i64 0, .int .i64 0, .slice none 0 0, .slice none 0 0, .slice none 0 0, .int .i64 0, .bool false] HR.out rfl rfl rfl infoFrame (by simp [Value.oneCell']) ?_; intro w8 hb8 hk8))
    have g0 := hb8.cell 0
    have g1 := hb8.cell 1
    have g2 := hb8.cell 2
    have g3 := hb8.cell 3
    have g4 := hb8.cell 4
    have g5 := hb8.cell 5
    have g6 := hb8.cell 6
    have g7 := hb8.cell 7
    have g8 := hb8.cell 8
    have g9 := hb8.cell 9
    have g10 := hb8.cell 10
    simp only [List.getElem?_cons_zero, List.getElem?_cons_succ] at g0 g1 g2 g3 g4 g5 g6 g7 g8 g9 g10
    refine bodyPost_ret (v := .tuple #[.agg #[.int .i64 0, .int .i64 0, .int .i64 0, .int .i64 0, .int .i64 0, .int .i64 0, .slice none 0 0, .slice none 0 0, .slice none 0 0, .int .i64 0, .bool false], .bool false, .int .i64 0]) (by simp [results, Try.results49, go_sem, g0, g1, g2, g3, g4, g5, g6, g7, g8, g9, g10]) rfl ?_
    have f8 : KeptB base [60] w4 w8 := (KeptB.refl _ _ w4).step (L := [w.heap.size]) hk8 (fun m hm => by simp at hm; subst hm; exact ⟨HBW.out, _, _, _, HR.out, by simp⟩)
    exact .inl ⟨hlt, rfl, KM.out.thenNew hk8 (Nat.le_refl _), _, _, _, _, _, H.out.keptB f8 (by decide) (by decide) (by decide) (by decide) (by decide)⟩
  · have heq : row[q] = (taken : Int) := by omega
    have hts : taken < sent := by omega
    have hlt' : ¬ (taken : Int) < (taken : Int) := by omega
    go_quiet (fail)
    have H := Lib.hid (H.out.kept0 ((Kept.refl [] _).drewN nq))
    have HR := Lib.hid (HR.out.kept ((Kept.refl [] _).drewN nq) (by simp))
    have HN := Lib.hid (HN.out.kept ((Kept.refl [] _).drewN nq) (by simp))
    have O := Lib.hid (O.out.keptB (.of_kept0 (base := 0) (T := []) ((Kept.refl [] _).drewN nq)) (by simp) (by simp) (by simp))
    have KM := Lib.hid (KM.out.trans (.of_kept0 ((Kept.refl [] _).drewN nq)))
    clear x3 y5
    generalize World.drewN w3 nq = w4 at *
    have y5 := H.out.blk.cell 5
    have yf := H.out.blk.frozen 5
    have yl := H.out.blk.lt
    simp only [List.getElem?_cons_zero, List.getElem?_cons_succ] at y5
    go_upto_region 8 with (fail)
    have hbp := H.out.bump hts
    have f5 := hbp.2
    have H := Lib.hid hbp.1
    have HR := Lib.hid (HR.out.keptB f5 (by decide))
    have HN := Lib.hid (HN.out.keptB f5 (by decide))
    have O := Lib.hid (O.out.keptB f5 (by decide) (by decide) (by decide))
    have KM := Lib.hid (KM.out.thenB (f5.mono (by decide)))
    clear hbp f5 y5 yf yl
    generalize w4.setCell ⟨p, 5, none⟩ (.int .i64 ((taken : Int) + 1)) = w5 at *
    have HEQ := Lib.hid heq
    clear heq hs hle hlt hlt' hts hin htk hfit
    have HR5 := Lib.hid HR.out
    go_wp2_with (first | (refine wpList_loadBlk rfl 60 (.tmp 8) rfl w2.heap.size (lsC (Fs row[q]) (.slice B1 (Fs row[q]).items.length C1) (.slice B2 (Fs row[q]).sums.length C2) (.slice B3 (Fs row[q]).trips.length C3)) _ HN.out rfl Try.underlying60 rfl infoFrame ?_))
    refine (own_any (Fs row[q]) B1 B2 B3 C1 C2 C3 _ (Reads.of_own O.out.o1) (Reads.of_own O.out.o2) (Reads.of_own O.out.o3) b1 b2 b3).mono ?_
    rintro _ w6 ⟨u1, u2, u3, rfl, ho6, hk6⟩
    have H := Lib.hid (H.out.kept0 hk6)
    have HR := Lib.hid (HR.out.kept hk6 (by simp))
    have KM := Lib.hid (KM.out.trans (.of_kept0 hk6))
    have hb5 : base ≤ w5.heap.size := Nat.le_trans HBW.out (Nat.le_of_lt HR5.out.lt)
    have O := Lib.hid (⟨own_le ho6.o1 hb5, own_le ho6.o2 hb5, own_le ho6.o3 hb5⟩ : OwnF w6 base (Fs row[q]) u1 u2 u3)
    clear ho6 hk6 hb5
    obtain ⟨D1, E1, rfl⟩ := own_n O.out.o1
    obtain ⟨D2, E2, rfl⟩ := own_n O.out.o2
    obtain ⟨D3, E3, rfl⟩ := own_n O.out.o3
    go_wp2_with (first | (refine wpList_storeBlk rfl 60 (.tmp 4) (.tmp 49) rfl w.heap.size _ (lsC (Fs row[q]) (.slice D1 (Fs row[q]).items.length E1) (.slice D2 (Fs row[q]).sums.length E2) (.slice D3 (Fs row[q]).trips.length E3)) HR.out rfl rfl rfl infoFrame (by simp [Value.oneCell']) ?_; intro w8 hb8 hk8))
    have g0 := hb8.cell 0
    have g1 := hb8.cell 1
    have g2 := hb8.cell 2
    have g3 := hb8.cell 3
    have g4 := hb8.cell 4
    have g5 := hb8.cell 5
    have g6 := hb8.cell 6
    have g7 := hb8.cell 7
    have g8 := hb8.cell 8
    have g9 := hb8.cell 9
    have g10 := hb8.cell 10
    simp only [List.getElem?_cons_zero, List.getElem?_cons_succ] at g0 g1 g2 g3 g4 g5 g6 g7 g8 g9 g10
    refine bodyPost_ret (v := .tuple #[.agg (lsC (Fs row[q]) (.slice D1 (Fs row[q]).items.length E1) (.slice D2 (Fs row[q]).sums.length E2) (.slice D3 (Fs row[q]).trips.length E3)).toArray, .bool true, .int .i64 0]) (by simp [results, Try.results49, go_sem, g0, g1, g2, g3, g4, g5, g6, g7, g8, g9, g10]) rfl ?_
    have f8 : KeptB base [60] w6 w8 := (KeptB.refl _ _ w6).step (L := [w.heap.size]) hk8 (fun m hm => by simp at hm; subst hm; exact ⟨HBW.out, _, _, _, HR.out, by simp⟩)
    exact .inr ⟨HEQ.out, _, _, _, rfl, O.out.keptB f8 (by decide) (by decide) (by decide), KM.out.thenNew hk8 (Nat.le_refl _), _, _, _, _, _, H.out.keptB f8 (by decide) (by decide) (by decide) (by decide) (by decide)⟩
end
end Go.Proofs.Ytdjidnccockmmaa

/- The box: Oldest. -/
namespace Go.Proofs.Ytdjidnccockmmaa
set_option linter.unusedSimpArgs false
set_option linter.unusedVariables false
open Go.ChangeShapes Go.WideShapes Go.ChangeAt Go.RowKit
open Go.RowKit (wrap32 wrap64)
set_option maxHeartbeats 8000000

theorem foldl_min : ∀ (l : List Int) (a : Int), l.foldl min a ≤ a ∧ (∀ x ∈ l, l.foldl min a ≤ x) ∧ (l.foldl min a = a ∨ l.foldl min a ∈ l)
  | [], a => ⟨Int.le_refl _, by simp, .inl rfl⟩
  | x :: l, a => by
    obtain ⟨h1, h2, h3⟩ := foldl_min l (min a x)
    simp only [List.foldl_cons]
    refine ⟨by omega, fun y hy => ?_, ?_⟩
    · rcases List.mem_cons.1 hy with rfl | hy
      · omega
      · exact h2 y hy
    · rcases h3 with h3 | h3
      · rw [h3]
        by_cases h : a ≤ x
        · exact .inl (by omega)
        · exact .inr (by rw [show min a x = x by omega]; simp)
      · exact .inr (List.mem_cons_of_mem _ h3)
theorem min_mem {l : List Int} (h : 0 < l.length) : Go.Lib.minOf l ∈ l := by
  rcases l with _ | ⟨x, l⟩
  · simp at h
  · have := (foldl_min (x :: l) x).2.2
    rcases this with e | e
    · unfold Go.Lib.minOf
      rw [show (x :: l).headD 0 = x from rfl, e]
      simp
    · exact e
theorem min_le {l : List Int} {x : Int} (h : x ∈ l) : Go.Lib.minOf l ≤ x := (foldl_min l _).2.1 x h
section
variable {w : World} {base p m1 m2 room : Nat} {row : List Int} {sent taken : Nat} {Fs : Int → Fr} {v : Value} {l1 l2 : List (Int × Value × Nat)} {c1 c2 : Nat}
theorem oldest_any (h : BxC w base p m1 m2 room row sent taken Fs v l1 l2 c1 c2) (h0 : 0 < row.length) :
    Calls Try.prog 50 #[.pointer (some ⟨p, 0, none⟩)] w fun e w' => ∃ q : Nat, e = .returned (.int .i64 q) ∧ row[q]? = some (Go.Lib.minOf row) ∧ Kept [] w w' := by
  have H := Lib.hid h
  clear h
  have hl0 : ¬ row.length = 0 := by omega
  obtain ⟨g, cap, rfl, hc, hm, _⟩ := row_at H.out.rowO (by omega)
  have y1 := H.out.blk.cell 1
  simp only [List.getElem?_cons_zero, List.getElem?_cons_succ] at y1
  go_enter Try.func50, Try.ntmps50
  go_wp2_with fail
  refine (len_any H.out).mono ?_
  rintro _ w1 ⟨rfl, rfl⟩
  have hl1 : ¬ (row.length : Int) = 0 := by omega
  go_wp2_with fail
  refine (min_any row row.length base _ _ rfl H.out.rowO h0).mono ?_
  rintro _ w2 ⟨rfl, rfl⟩
  have hmem : Go.Lib.minOf row ∈ row := min_mem h0
  have H := Lib.hid (H.out.kept0 ((Kept.refl [] w2).alloc (.cells #[.int .i64 (Go.Lib.minOf row)] 3)))
  have HB := Lib.hid (Blk.new w2 3 [.int .i64 (Go.Lib.minOf row)])
  clear y1
  have y1 := H.out.blk.cell 1
  simp only [List.getElem?_cons_zero, List.getElem?_cons_succ] at y1
  go_wp2_with fail
  refine (index_any row (Go.Lib.minOf row) row.length base _ _ _ rfl H.out.rowO HB.out hmem).mono ?_
  rintro _ w3 ⟨j, rfl, hj, rfl⟩
  go_wp2_with fail
  go_ret
  exact ⟨j, rfl, hj, (Kept.refl [] w2).alloc _⟩
end
end Go.Proofs.Ytdjidnccockmmaa

/- The box among the frames that were sent: what its calls come to. -/
namespace Go.Proofs.Ytdjidnccockmmaa
set_option linter.unusedSimpArgs false
set_option linter.unusedVariables false
open Go.ChangeShapes Go.WideShapes Go.ChangeAt Go.RowKit
open Go.RowKit (wrap32 wrap64)
set_option maxHeartbeats 4000000

/-- A frame, and where its lists lie. -/
structure FX where
  F : Fr
  A1 : Option Addr
  A2 : Option Addr
  A3 : Option Addr
  c1 : Nat
  c2 : Nat
  c3 : Nat
instance : Inhabited FX := ⟨⟨⟨0, 0, 0, 0, 0, 0, [], [], [], 0, false⟩, none, none, none, 0, 0, 0⟩⟩
def frX (r : FX) : List Value := frC r.F r.A1 r.A2 r.A3 r.c1 r.c2 r.c3
theorem Kept.thenM {base m1 m2 : Nat} {T : List TypeId} {a b c : World} (h : Kept [] a b) (k : KeptM base T m1 m2 b c) (hb : a.heap.size ≤ base) : Kept [] a c :=
  ⟨k.os.trans h.os, k.tape.trans h.tape, k.output.trans h.output, Nat.le_trans h.size k.size,
   fun i hi _ => (k.block i (Nat.lt_of_lt_of_le hi h.size) (.inl (by omega))).trans (h.block i hi (by simp))⟩
/-- The law's state: frames that were sent, in want; the box has each that is not taken yet. -/
structure PoS (w0 w : World) (p m1 m2 room : Nat) (want : List FX) (row : List Int) (taken : Nat) (vw : Value) : Prop where
  kept : Kept [] w0 w
  box : ∃ Fs v l1 l2 c1 c2, BxC w w0.heap.size p m1 m2 room row want.length taken Fs v l1 l2 c1 c2 ∧ ∀ (n : Nat) (h : n < want.length), Fs n = want[n].F
  wo : w.ownsRow w0.heap.size 60 11 vw want.length (want.flatMap frX)
  fr : ∀ r ∈ want, FrIn w0 r.F r.A1 r.A2 r.A3 ∧ r.F.Short
  sq : ∀ (n : Nat) (h : n < want.length), want[n].F.seq = n
  all : ∀ n : Nat, taken ≤ n → n < want.length → (n : Int) ∈ row
section
variable {w0 w : World} {p m1 m2 room : Nat} {want : List FX} {row : List Int} {taken : Nat} {vw : Value}
theorem PoS.kept0 (h : PoS w0 w p m1 m2 room want row taken vw) {w' : World} (k : Kept [] w w') : PoS w0 w' p m1 m2 room want row taken vw := by
  obtain ⟨Fs, v, l1, l2, c1, c2, hb, hF⟩ := h.box
  exact ⟨h.kept.trans k, ⟨Fs, v, l1, l2, c1, c2, hb.kept0 k, hF⟩, own_kept0 h.wo k, h.fr, h.sq, h.all⟩
theorem po_full (h : PoS w0 w p m1 m2 room want row taken vw) : row.length ≤ 64 := by
  obtain ⟨Fs, v, l1, l2, c1, c2, hb, _⟩ := h.box
  exact hb.fit
theorem po_len (h : PoS w0 w p m1 m2 room want row taken vw) :
    Calls Try.prog 48 #[.pointer (some ⟨p, 0, none⟩)] w fun e w' => e = .returned (.int .i64 row.length) ∧ w' = w := by
  obtain ⟨Fs, v, l1, l2, c1, c2, hb, _⟩ := h.box
  exact len_any hb
theorem po_double (h : PoS w0 w p m1 m2 room want row taken vw) (k : Int) :
    Calls Try.prog 46 #[.pointer (some ⟨p, 0, none⟩), .int .i64 k] w fun e w' => (∃ r : Int, e = .returned (.int .i64 r)) ∧ ∃ row', PoS w0 w' p m1 m2 room want row' taken vw := by
  obtain ⟨Fs, v, l1, l2, c1, c2, hb, hF⟩ := h.box
  refine (double_any hb k).mono ?_
  rintro e w' ⟨r, rfl, hk, row', v', l2', c2', hrow, hb'⟩
  refine ⟨⟨r, rfl⟩, row', h.kept.thenM hk (Nat.le_refl _), ⟨Fs, v', l1, l2', c1, c2', hb', hF⟩, own_keptM h.wo hk (by decide) hb.by_ hb.often, h.fr, h.sq, fun n h1 h2 => ?_⟩
  rcases hrow with rfl | ⟨m, _, rfl⟩
  · exact h.all n h1 h2
  · exact List.mem_append_left _ (h.all n h1 h2)
theorem po_move (h : PoS w0 w p m1 m2 room want row taken vw) (k : Int) :
    Calls Try.prog 47 #[.pointer (some ⟨p, 0, none⟩), .int .i64 k] w fun e w' => (∃ r : Int, e = .returned (.int .i64 r)) ∧ ∃ row', PoS w0 w' p m1 m2 room want row' taken vw := by
  obtain ⟨Fs, v, l1, l2, c1, c2, hb, hF⟩ := h.box
  refine (move_any hb k).mono ?_
  rintro e w' ⟨r, rfl, hk, row', v', hrow, hb'⟩
  exact ⟨⟨r, rfl⟩, row', h.kept.thenM hk (Nat.le_refl _), ⟨Fs, v', l1, l2, c1, c2, hb', hF⟩, own_keptM h.wo hk (by decide) hb.by_ hb.often, h.fr, h.sq, fun n h1 h2 => hrow.mem_iff.2 (h.all n h1 h2)⟩
/-- A frame has been sent, and is not in want yet. -/
structure PoT (w0 w : World) (p m1 m2 room : Nat) (want : List FX) (row : List Int) (F : Fr) (vw : Value) : Prop where
  kept : Kept [] w0 w
  box : ∃ Fs v l1 l2 c1 c2, BxC w w0.heap.size p m1 m2 room row (want.length + 1) 0 Fs v l1 l2 c1 c2 ∧ (∀ (n : Nat) (h : n < want.length), Fs n = want[n].F) ∧ Fs want.length = { F with seq := want.length }
  wo : w.ownsRow w0.heap.size 60 11 vw want.length (want.flatMap frX)
  fr : ∀ r ∈ want, FrIn w0 r.F r.A1 r.A2 r.A3 ∧ r.F.Short
  sq : ∀ (n : Nat) (h : n < want.length), want[n].F.seq = n
  all : ∀ n : Nat, n ≤ want.length → (n : Int) ∈ row
theorem po_send (h : PoS w0 w p m1 m2 room want row 0 vw) (F : Fr) (A1 A2 A3 : Option Addr) (k1 k2 k3 : Nat) (h1 : Reads w A1 (F.items.flatMap readV)) (h2 : Reads w A2 (F.sums.flatMap sumV)) (h3 : Reads w A3 (F.trips.flatMap tripV)) (hs : F.Short) (hn : want.length < 1048576) :
    Calls Try.prog 45 #[.pointer (some ⟨p, 0, none⟩), .agg (frC F A1 A2 A3 k1 k2 k3).toArray] w fun e w' =>
      (e = .returned (.int .i64 9) ∧ Kept [] w w') ∨ (e = .returned (.int .i64 0) ∧ (∃ row', PoT w0 w' p m1 m2 room want row' F vw) ∧ ∀ g t cs, Blk w g t cs → t ∉ bxT → Blk w' g t cs) := by
  obtain ⟨Fs, v, l1, l2, c1, c2, hb, hF⟩ := h.box
  refine (send_any hb F A1 A2 A3 k1 k2 k3 h1 h2 h3 hs.items hs.sums hs.trips hn).mono ?_
  rintro e w' (⟨_, rfl, hk⟩ | ⟨_, rfl, hk, v', l1', l2', c1', c2', hb'⟩)
  · exact .inl ⟨rfl, hk⟩
  · refine .inr ⟨rfl, ⟨row ++ [(want.length : Int)], h.kept.thenM hk (Nat.le_refl _), ⟨_, v', l1', l2', c1', c2', hb', fun n hn => ?_, ?_⟩, own_keptM h.wo hk (by decide) hb.by_ hb.often, h.fr, h.sq, fun n hn => ?_⟩, fun g t cs hB ht => hB.keptM hk ht hb.by_ hb.often⟩
    · unfold moreF
      rw [if_neg (by omega)]
      exact hF n hn
    · unfold moreF
      rw [if_pos rfl]
    · by_cases hq : n = want.length
      · subst hq; simp
      · exact List.mem_append_left _ (h.all n (Nat.zero_le _) (by omega))
theorem PoT.kept0 {F : Fr} (h : PoT w0 w p m1 m2 room want row F vw) {w' : World} (k : Kept [] w w') : PoT w0 w' p m1 m2 room want row F vw := by
  obtain ⟨Fs, v, l1, l2, c1, c2, hb, hF⟩ := h.box
  exact ⟨h.kept.trans k, ⟨Fs, v, l1, l2, c1, c2, hb.kept0 k, hF⟩, own_kept0 h.wo k, h.fr, h.sq, h.all⟩
theorem own_blt {w : World} {base n : Nat} {e : TypeId} {size : Nat} {v : Value} {xs : List Value} (h : w.ownsRow base e size v n xs) : v.ownBlock ≠ some w.heap.size := by
  rcases h.2 with ⟨rfl, _⟩ | ⟨g, cap, cur, rfl, _, hg, _⟩
  · simp [Value.ownBlock]
  · have := (Array.getElem?_eq_some_iff.1 hg).1
    simp [Value.ownBlock]
    omega
theorem PoT.set {F : Fr} (h : PoT w0 w p m1 m2 room want row F vw) {g : Nat} {cs : List Value} (hB : Blk w g 60 cs) (hg : w0.heap.size ≤ g) (hv : vw.ownBlock ≠ some g) (i : Nat) (u : Value) : PoT w0 (w.setCell ⟨g, i, none⟩ u) p m1 m2 room want row F vw := by
  obtain ⟨Fs, v, l1, l2, c1, c2, hb, hF⟩ := h.box
  have f : KeptB w0.heap.size [60] w (w.setCell ⟨g, i, none⟩ u) := (KeptB.refl _ _ w).set hB hg (by decide) i u
  exact ⟨h.kept.thenB f (Nat.le_refl _), ⟨Fs, v, l1, l2, c1, c2, hb.keptB f (by decide) (by decide) (by decide) (by decide) (by decide), hF⟩, own_kept h.wo ((Kept.refl [g] w).setCell (.inl (by simp)) u) (fun b hb hm => by simp at hm; subst hm; exact hv hb), h.fr, h.sq, h.all⟩
theorem PoT.app {F : Fr} (h : PoT w0 w p m1 m2 room want row F vw) (x : FX) (hx : x.F = { F with seq := (want.length : Int) }) (hf : FrIn w0 x.F x.A1 x.A2 x.A3) (hs : x.F.Short) {w' : World} {vw' : Value}
    (ho : w'.ownsRow w0.heap.size 60 11 vw' (want.length + 1) (want.flatMap frX ++ frX x)) (hk : Kept vw.ownBlock.toList w w') : PoS w0 w' p m1 m2 room (want ++ [x]) row 0 vw' := by
  obtain ⟨Fs, v, l1, l2, c1, c2, hb, hF, hl⟩ := h.box
  have f : KeptB w0.heap.size [60] w w' := (KeptB.refl _ _ w).app hk h.wo (by decide)
  have hll : (want ++ [x]).length = want.length + 1 := by simp
  refine ⟨h.kept.thenB f (Nat.le_refl _), ⟨Fs, v, l1, l2, c1, c2, by rw [hll]; exact hb.keptB f (by decide) (by decide) (by decide) (by decide) (by decide), fun n hn => ?_⟩, by rw [hll]; simpa using ho, fun r hr => ?_, fun n hn => ?_, fun n _ hn => h.all n (by omega)⟩
  · by_cases hq : n < want.length
    · rw [List.getElem_append_left hq]; exact hF n hq
    · obtain rfl : n = want.length := by omega
      simp [hl, hx]
  · rcases List.mem_append.1 hr with hr | hr
    · exact h.fr r hr
    · simp at hr; subst hr; exact ⟨hf, hs⟩
  · by_cases hq : n < want.length
    · rw [List.getElem_append_left hq]; exact h.sq n hq
    · obtain rfl : n = want.length := by omega
      simp [hx]
theorem PoS.start {w : World} {p m1 m2 room : Nat} {Fs : Int → Fr} (hb : BxC w w0.heap.size p m1 m2 room [] 0 0 Fs (.slice none 0 0) [] [] 0 0) (hk : Kept [] w0 w) : PoS w0 w p m1 m2 room [] [] 0 (.slice none 0 0) :=
  ⟨hk, ⟨Fs, _, _, _, _, _, hb, fun n h => absurd h (by simp)⟩, World.ownsRow_nil _ _ _ _, by simp, fun n h => absurd h (by simp), fun n _ h => absurd h (by simp)⟩
/-- Its oldest is taken. -/
theorem po_oldest (h : PoS w0 w p m1 m2 room want row taken vw) (h0 : 0 < row.length) :
    Calls Try.prog 50 #[.pointer (some ⟨p, 0, none⟩)] w fun e w' => ∃ q : Nat, e = .returned (.int .i64 q) ∧ row[q]? = some (Go.Lib.minOf row) ∧ Kept [] w w' := by
  obtain ⟨Fs, v, l1, l2, c1, c2, hb, _⟩ := h.box
  exact oldest_any hb h0
theorem po_take (h : PoS w0 w p m1 m2 room want row taken vw) (q : Nat) (hq : row[q]? = some (Go.Lib.minOf row)) :
    Calls Try.prog 49 #[.pointer (some ⟨p, 0, none⟩), .int .i64 q] w fun e w' =>
      (e = .returned (.tuple #[.agg #[.int .i64 0, .int .i64 0, .int .i64 0, .int .i64 0, .int .i64 0, .int .i64 0, .slice none 0 0, .slice none 0 0, .slice none 0 0, .int .i64 0, .bool false], .bool false, .int .i64 0]) ∧ ∃ row', row'.length + 1 = row.length ∧ PoS w0 w' p m1 m2 room want row' taken vw) ∨
      (∃ (ht : taken < want.length), ∃ v1 v2 v3, e = .returned (.tuple #[.agg (lsC want[taken].F v1 v2 v3).toArray, .bool true, .int .i64 0]) ∧ OwnF w' w0.heap.size want[taken].F v1 v2 v3 ∧ ∃ row', row'.length + 1 = row.length ∧ PoS w0 w' p m1 m2 room want row' (taken + 1) vw) := by
  obtain ⟨Fs, v, l1, l2, c1, c2, hb, hF⟩ := h.box
  obtain ⟨hql, hqe⟩ := List.getElem?_eq_some_iff.1 hq
  have hmem : row[q] ∈ row := List.getElem_mem hql
  have hin := hb.inn _ hmem
  obtain ⟨n, hn⟩ : ∃ n : Nat, row[q] = n := ⟨row[q].toNat, by omega⟩
  have hnl : n < want.length := by omega
  have hFn : Fs row[q] = want[n].F := by rw [hn]; exact hF n hnl
  have hsq : (Fs row[q]).seq = row[q] := by rw [hFn, h.sq n hnl, hn]
  have hS := (h.fr want[n] (List.getElem_mem hnl)).2
  have hle : row[q] ≤ taken := by
    by_cases ht : taken < want.length
    · rw [hqe]; exact min_le (h.all taken (Nat.le_refl _) ht)
    · omega
  have hll : (row.eraseIdx q).length + 1 = row.length := by rw [List.length_eraseIdx, if_pos hql]; omega
  refine (btake_any hb q hql hsq hle (by rw [hFn]; exact hS.items) (by rw [hFn]; exact hS.sums) (by rw [hFn]; exact hS.trips)).mono ?_
  rintro e w' (⟨hlt, rfl, hk, v', l1', l2', c1', c2', hb'⟩ | ⟨heq, v1, v2, v3, rfl, ho, hk, v', l1', l2', c1', c2', hb'⟩)
  · refine .inl ⟨rfl, _, hll, h.kept.thenM hk (Nat.le_refl _), ⟨Fs, v', l1', l2', c1', c2', hb', hF⟩, own_keptM h.wo hk (by decide) hb.by_ hb.often, h.fr, h.sq, fun m h1 h2 => ?_⟩
    have := (erase_perm row q hql).mem_iff.2 (h.all m h1 h2)
    rcases List.mem_cons.1 this with e | e
    · omega
    · exact e
  · obtain rfl : n = taken := by omega
    rw [hFn] at ho ⊢
    refine .inr ⟨hnl, v1, v2, v3, rfl, ho, _, hll, h.kept.thenM hk (Nat.le_refl _), ⟨Fs, v', l1', l2', c1', c2', hb', hF⟩, own_keptM h.wo hk (by decide) hb.by_ hb.often, h.fr, h.sq, fun m h1 h2 => ?_⟩
    have := (erase_perm row q hql).mem_iff.2 (h.all m (by omega) h2)
    rcases List.mem_cons.1 this with e | e
    · omega
    · exact e
theorem PoS.done (h : PoS w0 w p m1 m2 room want [] taken vw) : taken = want.length := by
  obtain ⟨Fs, v, l1, l2, c1, c2, hb, _⟩ := h.box
  have h1 := hb.tk
  rcases Nat.lt_or_ge taken want.length with h2 | h2
  · have := h.all taken (Nat.le_refl _) h2; simp at this
  · omega
end
end Go.Proofs.Ytdjidnccockmmaa

/- Frames in a list: how they come in, how one is loaded. -/
namespace Go.Proofs.Ytdjidnccockmmaa
set_option linter.unusedSimpArgs false
set_option linter.unusedVariables false
open Go.ChangeShapes Go.WideShapes Go.ChangeAt Go.RowKit
set_option maxHeartbeats 4000000
set_option maxRecDepth 100000

/-- What is known of a frame that comes in. -/
def FX.okIn (W : World) (r : FX) : Prop := FrIn W r.F r.A1 r.A2 r.A3 ∧ r.F.items.length ≤ r.c1 ∧ r.F.sums.length ≤ r.c2 ∧ r.F.trips.length ≤ r.c3 ∧ r.F.In
section
variable {H : Type} {enc : TypeId × Value → H} {W : World} {base : Nat}
theorem elem_frame {n : Nat} {cs : List Value} {x : DataW H × List MemPlace} (hF : DataW.trod enc Try.prog W 0 (fun _ => true) true n 60 cs = some x) : ∃ r : FX, cs = frX r ∧ r.okIn W := by
  obtain ⟨xs, m, _, _, hl, hxl, hf⟩ := DataW.trod_struct sFrame hF
  rw [cFrame] at hl
  match cs, hl with
  | [u0, u1, u2, u3, u4, u5, u6, u7, u8, u9, u10], _ =>
    obtain ⟨_, _, g0⟩ := field_trod hf hxl (fat fFrame 0 rfl) cKind
    obtain ⟨_, _, g1⟩ := field_trod hf hxl (fat fFrame 1 rfl) cInt
    obtain ⟨_, _, g2⟩ := field_trod hf hxl (fat fFrame 2 rfl) cInt
    obtain ⟨_, _, g3⟩ := field_trod hf hxl (fat fFrame 3 rfl) cInt
    obtain ⟨_, _, g4⟩ := field_trod hf hxl (fat fFrame 4 rfl) cInt
    obtain ⟨_, _, g5⟩ := field_trod hf hxl (fat fFrame 5 rfl) cVec
    obtain ⟨_, _, g7⟩ := field_trod hf hxl (fat fFrame 6 rfl) cSums
    obtain ⟨_, _, g8⟩ := field_trod hf hxl (fat fFrame 7 rfl) cTrips
    obtain ⟨_, _, g9⟩ := field_trod hf hxl (fat fFrame 8 rfl) cInt64
    obtain ⟨_, _, g10⟩ := field_trod hf hxl (fat fFrame 9 rfl) cBool
    obtain ⟨kind, rfl, _⟩ := trod_i64 Try.underlying53 g0
    obtain ⟨src, rfl, _⟩ := trod_i64 Try.underlying3 g1
    obtain ⟨dst, rfl, _⟩ := trod_i64 Try.underlying3 g2
    obtain ⟨seq, rfl, _⟩ := trod_i64 Try.underlying3 g3
    obtain ⟨round, rfl, _⟩ := trod_i64 Try.underlying3 g4
    obtain ⟨n, rfl, wn⟩ := trod_i64 Try.underlying2 g9
    obtain ⟨b, hb, _⟩ := DataW.trod_bool Try.underlying4 g10
    obtain rfl : u10 = .bool b := by have hb' : [u10] = [Value.bool b] := hb; simpa using hb'
    obtain ⟨ys, m', _, _, _, hyl, hg⟩ := DataW.trod_struct sVec g5
    obtain ⟨_, _, k0⟩ := field_trod hg hyl (fat fVec 0 rfl) cInt
    obtain ⟨_, _, k1⟩ := field_trod hg hyl (fat fVec 1 rfl) cItems
    obtain ⟨vn, rfl, _⟩ := trod_i64 Try.underlying3 k0
    have s6 := slice_form Try.underlying54 k1
    have s7 := slice_form Try.underlying57 g7
    have s8 := slice_form Try.underlying58 g8
    obtain ⟨A1, c1, items, rfl, h1, m1, r1, o1, _⟩ := open_recsE (H := H) (enc := enc) readV (fun r => In64 r.1 ∧ In64 r.2) 2 (by decide) cItem (fun _ => rfl) (fun _ _ _ hx => elem_item hx) Try.underlying54 s6 (by obtain ⟨_, _, _, rfl⟩ := s6; exact ⟨m', k1⟩)
    obtain ⟨A2, c2, sums, rfl, h2, m2, r2, o2, _⟩ := open_recsE (H := H) (enc := enc) sumV (fun r => In64 r.1 ∧ In64 r.2.1 ∧ Lt64 r.2.2) 3 (by decide) cSum (fun _ => rfl) (fun _ _ _ hx => elem_sum hx) Try.underlying57 s7 (by obtain ⟨_, _, _, rfl⟩ := s7; exact ⟨m, g7⟩)
    obtain ⟨A3, c3, trips, rfl, h3, m3, r3, o3, _⟩ := open_recsE (H := H) (enc := enc) tripV (fun r => In64 r.1 ∧ In64 r.2.1 ∧ In64 r.2.2) 3 (by decide) cTriple (fun _ => rfl) (fun _ _ _ hx => elem_trip hx) Try.underlying58 s8 (by obtain ⟨_, _, _, rfl⟩ := s8; exact ⟨m, g8⟩)
    exact ⟨⟨⟨kind, src, dst, seq, round, vn, items, sums, trips, n, b⟩, A1, A2, A3, c1, c2, c3⟩, rfl, ⟨⟨r1, r2, r3, Nat.le_trans h1 m1, Nat.le_trans h2 m2, Nat.le_trans h3 m3⟩, h1, h2, h3, wn, fun r hr => (o1 r hr).2, fun r hr => (o2 r hr).2, fun r hr => (o3 r hr).2.2⟩⟩
theorem open_frames {v : Value} {d : DataW H} {ps : List MemPlace} (hok : Value.okWide Try.prog W .any base 72 v) (h : DataW.Trod enc Try.prog W 0 (fun _ => true) true 72 v d ps) :
    ∃ A c, ∃ l : List FX, v = .slice A l.length c ∧ l.length ≤ c ∧ c ≤ maxLen ∧ Reads W A (l.flatMap frX) ∧ (∀ r ∈ l, r.okIn W) ∧ (A = none → c = 0) := by
  exact open_recs (H := H) (enc := enc) frX (FX.okIn W) 11 (by decide) cFrame (fun _ => rfl) (fun _ _ _ hx => elem_frame hx) Try.underlying72 hok h
end
theorem frames_at {w : World} {A : Option Addr} {l : List FX} (h : Reads w A (l.flatMap frX)) {k : Nat} (hk : k < l.length) :
    ∃ b off, A = some ⟨b, off, none⟩ ∧ ∀ (j : Nat) (u : Value), (frX l[k])[j]? = some u → w.cell? ⟨b, off + k * 11 + j, none⟩ = some u := by
  have e0 := flatMap_get l frX 11 (fun _ _ => rfl) k 0 hk (by decide)
  obtain ⟨b, off, e, hb, hc⟩ := h (by intro h0; rw [h0] at e0; simp [frX] at e0)
  refine ⟨b, off, e, fun j u hu => ?_⟩
  have hj : j < 11 := (List.getElem?_eq_some_iff.1 hu).1
  have := hc (k * 11 + j) u (by rw [flatMap_get l frX 11 (fun _ _ => rfl) k j hk hj]; exact hu)
  rw [← Nat.add_assoc] at this
  exact this
end Go.Proofs.Ytdjidnccockmmaa

namespace Go.Proofs.Ytdjidnccockmmaa
set_option linter.unusedSimpArgs false
set_option linter.unusedVariables false
open Go.ChangeShapes Go.WideShapes Go.ChangeAt Go.RowKit
open Go.RowKit (wrap32 wrap64)
set_option maxHeartbeats 8000000

theorem infoFr : Info Try.prog 60 (.agg #[.int .i64 0, .int .i64 0, .int .i64 0, .int .i64 0, .int .i64 0, .int .i64 0, .slice none 0 0, .slice none 0 0, .slice none 0 0, .int .i64 0, .bool false]) 11 136 := by unfold Info; kernel_rfl
/-- A frame whose vector is cut to so much as is gone through. -/
def cutF (F : Fr) : Fr := { F with items := F.items.take 60 }
theorem FrIn.cut {w : World} {F : Fr} {A1 A2 A3 : Option Addr} (h : FrIn w F A1 A2 A3) : FrIn w (cutF F) A1 A2 A3 :=
  ⟨h.items.take 60, h.sums, h.trips, Nat.le_trans (List.length_take_le' _ _) h.li, h.ls, h.lt⟩
theorem Fr.In.cut {F : Fr} (h : F.In) : (cutF F).In' := ⟨h.n, fun r hr => h.items r (List.mem_of_mem_take hr), h.sums, h.trips⟩
theorem right_short {F : Fr} (h : F.In') (hw : F.wrong = 0) : F.Short := by
  obtain ⟨_, h1, h2, h3, h4⟩ := (okFr_iff F).2 ⟨hw, h⟩
  have := h2.1
  have := h3.1
  have := h4.1
  exact ⟨by omega, by omega, by omega⟩

section
variable {P : Program} {md : Region.Mode} {ops : Array Oper} {Q : Exit → Act → World → Prop} {S : World → Prop}
/-- A struct is loaded, first of a region that draws. -/
theorem tkLoad {i d : Nat} {oi : Oper} {fuel : Nat} {listed : Array Bool} {T : Array Value} {D : List Deferred} {w : World} (ty : TypeId) (x : Operand) (b o : Nat) (cs : List Value) (de : TypeDesc) (hi : ops[i]? = some oi) (hd : oi.dst = some d)
    (hs : Region.noSelect ops = true) (hf : Region.free md ops listed i = true) (hr : (Region.ready md ops listed).contains i = true)
    (hQ : ∀ c a w, Q (.panic c) (a.put oi.dst (.agg cs.toArray)) w → Q (.panic c) a w) (hw : Region.wanted oi (yielded ops T) = true) (hop : oi.op = .load ty x) (hx : Act.eval ⟨T, D⟩ x = .pointer (some ⟨b, o, none⟩)) (hc : ∀ w, S w → w.rangeAt b o cs)
    (hu : P.underlying ty = some de) (hde : de.isRow = true) (hin : (P.info? ty).map (·.size) = some cs.length) (hS : S w)
    (h : wpAnyH P md ops Q S fuel (listed.setIfInBounds i true) ⟨T.setIfInBounds d (.agg cs.toArray), D⟩ w) : wpAnyH P md ops Q S (fuel + 1) listed ⟨T, D⟩ w :=
  tkYes hi hd hs hf hr hQ hw (fun w hw => by
    unfold execOp
    simp only [hop, hx, run_loadAt_mid w b o ty cs de (hc w hw) hu hde hin, Sem.run_bind, Sem.run_pure, Result.andThen_ok]) hS h
end
theorem Blk.cell2 {w : World} {g : Nat} {t : TypeId} {cs : List Value} (h : Blk w g t cs) : w.rangeAt g 0 cs := fun j v hv => by rw [Nat.zero_add, h.cell]; exact hv
theorem po_sent {w0 w : World} {p m1 m2 room taken : Nat} {want : List FX} {row : List Int} {vw : Value} (h : PoS w0 w p m1 m2 room want row taken vw) : want.length ≤ 1048576 := by
  obtain ⟨_, _, _, _, _, _, hb, _⟩ := h.box
  exact hb.sn
theorem Kept.cell_lt {w w' : World} (k : Kept [] w w') {b o : Nat} {u : Value} (h : w.cell? ⟨b, o, none⟩ = some u) : w'.cell? ⟨b, o, none⟩ = some u :=
  (k.cell (World.block_lt_of_cell? _ _ h) (by simp)).trans h
theorem PoS.keptSet {w0 w : World} {p m1 m2 room taken : Nat} {want : List FX} {row : List Int} {vw : Value} (h : PoS w0 w p m1 m2 room want row taken vw) : w0.heap.size ≤ w.heap.size := h.kept.size

set_option maxRecDepth 100000 in
theorem topPosted_walk (rm : Nat) (l : List FX) (at_ : List UInt8) (A B : Option Addr) (c d : Nat) (w : World) (hroom : rm < 256) (hl : l.length ≤ maxLen) (hr : Reads w A (l.flatMap frX)) (hok : ∀ r ∈ l, r.okIn w) (hb : at_.length ≤ maxLen) (hrb : Reads w B (at_.map byteV)) :
    Calls Try.prog 10 #[.int .u8 (rm : Int), .slice A l.length c, .slice B at_.length d] w fun e w' => e = .returned (.bool true) ∧ Kept [] w w' := by
  unfold maxLen at hl hb
  have HR := Lib.hid hr
  have HB := Lib.hid hrb
  have HK := Lib.hid hok
  clear hr hrb hok
  go_enter Try.func10, Try.ntmps10
  go_wp2_with fail
  refine (show Calls Try.prog 43 #[.int .i64 ((rm : Int) % 64 + 1)] w _ from by
    have := new_ok (rm % 64 + 1) (fun _ => zeroF) w (by omega) (by omega)
    simpa using this).mono ?_
  rintro _ w1 ⟨p, rfl, ⟨m1, m2, hbx⟩, hk⟩
  have HP := Lib.hid (PoS.start hbx hk)
  clear hbx hk
  generalize hroomq : rm % 64 + 1 = room at HP
  clear hroomq hroom
  go_upto_block 0 with (fail)
  go_cut [9] (fun v wx => ∃ want row, Hid (PoS w wx p m1 m2 room want row 0 v))
  case first =>
    go_wp2_with fail
    go_loopw [9, 11] (fun v i wr => ∃ (k : Nat) (want : List FX) (row : List Int), k ≤ l.length ∧ want.length ≤ k ∧ k ≤ 12 ∧ i = .int .i64 k ∧ Hid (PoS w wr p m1 m2 room want row 0 v)) (fun _ i _ => 12 - (intOf i).toNat)
    case atStart => exact ⟨0, [], [], by omega, by simp, by omega, rfl, HP⟩
    case round =>
      clear HP
      obtain ⟨k, want, row, hk, hwk, hk12, rfl, HP⟩ := hrel
      by_cases hkl : ¬ k < l.length
      · go_wp2_with fail
        go_meet
        exact ⟨_, _, HP⟩
      by_cases hkt : ¬ k < 12
      · have hkl' : k < l.length := by omega
        go_wp2_with fail
        go_meet
        exact ⟨_, _, HP⟩
      have hkl' : k < l.length := by omega
      have hkt' : k < 12 := by omega
      clear hkl hkt
      go_upto_block 1 with (fail)
      go_cut [9] (fun v wx => ∃ want' row', want'.length ≤ k + 1 ∧ Hid (PoS w wx p m1 m2 room want' row' 0 v))
      case first =>
        obtain ⟨v, hv⟩ : ∃ v, v = u9 := ⟨_, rfl⟩
        subst hv
        obtain ⟨Aw, cw, rfl⟩ := own_n HP.out.wo
        obtain ⟨b, off, rfl, hcell⟩ := frames_at (HR.out.kept0 HP.out.kept) hkl'
        have hin := HK.out l[k] (List.getElem_mem hkl')
        obtain ⟨x, hx⟩ : ∃ x, x = l[k] := ⟨_, rfl⟩
        rw [← hx] at hcell hin
        clear hx
        obtain ⟨F, A1, A2, A3, c1, c2, c3⟩ := x
        obtain ⟨hF, f1, f2, f3, hI⟩ := hin
        dsimp only at hF f1 f2 f3 hI
        have HFI := Lib.hid hF
        have L1 := Lib.hid f1
        have HI := Lib.hid hI
        have HC := Lib.hid (show ∀ (j : Nat) (u : Value), (frC F A1 A2 A3 c1 c2 c3)[j]? = some u → wr.cell? ⟨b, off + k * 11 + j, none⟩ = some u from hcell)
        clear hcell hF f1 f2 f3 hI
        have NW := Lib.hid (own_blt HP.out.wo)
        have HX := Lib.hid (Blk.new wr 60 [.int .i64 0, .int .i64 0, .int .i64 0, .int .i64 0, .int .i64 0, .int .i64 0, .slice none 0 0, .slice none 0 0, .slice none 0 0, .int .i64 0, .bool false])
        have HC2 := Lib.hid (show ∀ (j : Nat) (u : Value), (frC F A1 A2 A3 c1 c2 c3)[j]? = some u → (wr.alloc (.cells #[.int .i64 0, .int .i64 0, .int .i64 0, .int .i64 0, .int .i64 0, .int .i64 0, .slice none 0 0, .slice none 0 0, .slice none 0 0, .int .i64 0, .bool false] 60)).cell? ⟨b, off + k * 11 + j, none⟩ = some u from fun j u hu => Kept.cell_lt ((Kept.refl [] wr).alloc _) (HC.out j u hu))
        go_upto_region 10 with (first | (refine wpList_load_mid rfl 60 (.tmp 47) rfl b (off + k * 11) rfl (frC F A1 A2 A3 c1 c2 c3) _ HC.out Try.underlying60 rfl infoFrame ?_) | (refine wpList_load_mid rfl 60 (.tmp 47) rfl b (off + k * 11) rfl (frC F A1 A2 A3 c1 c2 c3) _ HC2.out Try.underlying60 rfl infoFrame ?_) | (refine wpList_storeBlk rfl 60 (.tmp 12) (.tmp 48) rfl wr.heap.size _ (frC F A1 A2 A3 c1 c2 c3) HX.out rfl rfl rfl infoFrame (by simp [Value.oneCell']) ?_; intro w2 hb2 hk2))
        have K := Lib.hid (show Kept [] wr w2 from ((Kept.refl [] wr).alloc _).then hk2 (fun m hm => by simp at hm; subst hm; exact .inr (Nat.le_refl _)))
        replace HX := Lib.hid hb2
        have HGE := Lib.hid (Nat.le_refl wr.heap.size)
        have HGW := Lib.hid HP.out.keptSet
        clear hb2 hk2 HC HC2
        generalize hgq : wr.heap.size = g at NW HX HGW ⊢
        rw [hgq] at HGE
        have HGQ := Lib.hid (show wr.heap.size ≤ g from by rw [hgq]; exact Nat.le_refl _)
        clear hgq HGE
        have d5 := HX.out.cell 5
        have d6 := HX.out.cell 6
        have yl := HX.out.lt
        simp only [List.getElem?_cons_zero, List.getElem?_cons_succ] at d5 d6
        go_wp2_with fail
        refine (fewVec_any F.vn F.items A1 c1 _ (HFI.out.items.kept0 (HP.out.kept.trans K.out)) HFI.out.li L1.out).mono ?_
        rintro _ w3 ⟨rfl, hk⟩
        replace K := Lib.hid (K.out.trans hk)
        replace HX := Lib.hid (HX.out.kept hk (by simp))
        clear hk d5 d6 yl
        generalize hn1 : (F.items.take 60).length = n1
        have N1 := Lib.hid hn1
        have d5 := HX.out.cell 5
        have d6 := HX.out.cell 6
        have f5 := HX.out.frozen 5
        have f6 := HX.out.frozen 6
        have yl := HX.out.lt
        simp only [List.getElem?_cons_zero, List.getElem?_cons_succ] at d5 d6
        clear hn1
        go_upto_region 11 with (fail)
        replace K := Lib.hid ((K.out.setCell (p := ⟨g, 5, none⟩) (.inr HGQ.out) (.int .i64 F.vn)).setCell (p := ⟨g, 6, none⟩) (.inr HGQ.out) (.slice A1 n1 c1))
        replace HX := Lib.hid ((HX.out.set 5 (.int .i64 F.vn)).set 6 (.slice A1 n1 c1))
        simp only [List.set_cons_zero, List.set_cons_succ] at HX
        generalize (w3.setCell ⟨g, 5, none⟩ (.int .i64 F.vn)).setCell ⟨g, 6, none⟩ (.slice A1 n1 c1) = w4 at K HX ⊢
        clear d5 d6 f5 f6 yl
        have hn1 := N1.out
        subst hn1
        clear N1
        replace HX := Lib.hid (show Blk w4 g 60 (frC (cutF F) A1 A2 A3 c1 c2 c3) from HX.out)
        have HG := Lib.hid HFI.out.cut
        have HGI := Lib.hid HI.out.cut
        clear HFI HI L1
        generalize cutF F = G at HX HG HGI
        by_cases hw : G.wrong = 0
        case neg =>
          have hne : (G.wrong != 0) = true := by rw [bne_iff_ne]; exact hw
          have HW := Lib.hid hw
          clear hw
          go_wp2_with (first | (refine wpList_loadBlk rfl 60 (.tmp 12) rfl g (frC G A1 A2 A3 c1 c2 c3) _ HX.out rfl Try.underlying60 rfl infoFrame ?_))
          refine (frameEncode_bad G A1 A2 A3 c1 c2 c3 _ (HG.out.kept0 (HP.out.kept.trans K.out)) HW.out).mono ?_
          rintro _ w5 ⟨rfl, hk⟩
          replace K := Lib.hid (K.out.trans hk)
          clear hk
          go_wp2_with fail
          go_meet
          exact ⟨want, row, by omega, Lib.hid (HP.out.kept0 K.out)⟩
        have HSH := Lib.hid (right_short HGI.out hw)
        have HW := Lib.hid hw
        have hd0 := (enc_dec HGI.out hw).2
        have hbl := bytes_length G
        clear hw
        go_wp2_with (first | (refine wpList_loadBlk rfl 60 (.tmp 12) rfl g (frC G A1 A2 A3 c1 c2 c3) _ HX.out rfl Try.underlying60 rfl infoFrame ?_))
        refine (frameEncode_ok G A1 A2 A3 c1 c2 c3 _ (HG.out.kept0 (HP.out.kept.trans K.out)) HW.out HSH.out).mono ?_
        rintro _ w5 ⟨v5, rfl, ho, hk⟩
        obtain ⟨bs, hbs⟩ : ∃ bs, bs = G.bytes := ⟨_, rfl⟩
        rw [← hbs] at ho hd0 hbl
        obtain ⟨Ab, cb, rfl⟩ := own_n ho
        have HBL := Lib.hid (show bs.length ≤ 1073741824 from by have := HSH.out.items; have := HSH.out.sums; have := HSH.out.trips; omega)
        have HD := Lib.hid hd0
        have RB := Lib.hid (Reads.of_own ho)
        replace K := Lib.hid (K.out.trans hk)
        replace HX := Lib.hid (HX.out.kept hk (by simp))
        clear hk ho hd0 hbl hbs
        go_wp2_with fail
        refine (decode_any bs Ab cb _ RB.out HBL.out).mono ?_
        intro x w6 hx
        rw [HD.out] at hx
        obtain ⟨⟨B1, B2, B3, e1, e2, e3, rfl, hf, _, _, _⟩, hk⟩ := hx.good
        replace K := Lib.hid (K.out.trans hk)
        replace HX := Lib.hid (HX.out.kept hk (by simp))
        have HFU := Lib.hid hf
        clear hx hk hf
        go_upto_region 14 with (fail)
        have HY := Lib.hid ((Blk.new w6 60 (frC G B1 B2 B3 e1 e2 e3)).alloc (.cells #[.int .i64 0, .int .i64 0] 40))
        have HZ := Lib.hid (Blk.new1F w6 (.cells (frC G B1 B2 B3 e1 e2 e3).toArray 60) 40 [.int .i64 0, .int .i64 0])
        have hk : Kept [] w6 ((w6.alloc (.cells (frC G B1 B2 B3 e1 e2 e3).toArray 60)).alloc (.cells #[.int .i64 0, .int .i64 0] 40)) := ((Kept.refl [] w6).alloc _).alloc _
        replace K := Lib.hid (K.out.trans hk)
        replace HX := Lib.hid (HX.out.kept hk (by simp))
        replace HFU := Lib.hid (HFU.out.kept0 hk)
        clear hk
        obtain ⟨w7, hv⟩ : ∃ w7, w7 = ((w6.alloc (.cells (frC G B1 B2 B3 e1 e2 e3).toArray 60)).alloc (.cells #[.int .i64 0, .int .i64 0] 40)) := ⟨_, rfl⟩
        rw [← hv] at HY HZ K HX HFU
        show Code.wp _ _ _ _ ((w6.alloc (.cells (frC G B1 B2 B3 e1 e2 e3).toArray 60)).alloc (.cells #[.int .i64 0, .int .i64 0] 40))
        rw [← hv]
        clear hv
        generalize w6.heap.size + 1 = h5 at HZ ⊢
        generalize w6.heap.size = g5 at HY ⊢
        have z0 := HZ.out.cell 0
        simp only [List.getElem?_cons_zero, List.getElem?_cons_succ] at z0
        go_upto_region 16 with (fail)
        clear z0 HZ
        go_wp2_with (first | (refine wpList_loadBlk rfl 60 (.tmp 15) rfl g5 (frC G B1 B2 B3 e1 e2 e3) _ HY.out rfl Try.underlying60 rfl infoFrame ?_))
        refine (po_send (HP.out.kept0 K.out) G B1 B2 B3 e1 e2 e3 HFU.out.items HFU.out.sums HFU.out.trips HSH.out (by omega)).mono ?_
        rintro _ w8 (⟨rfl, hk⟩ | ⟨rfl, ⟨row8, ht⟩, hkeep⟩)
        · have HP := Lib.hid (HP.out.kept0 (K.out.trans hk))
          clear hk K HX HY HFU HG HGI HSH HW HBL HD RB NW HGW HGQ
          go_wp2_with fail
          go_loopw [17] (fun i wr' => ∃ (j : Nat) (row9 : List Int), j ≤ at_.length ∧ i = .int .i64 j ∧ Hid (PoS w wr' p m1 m2 room (want) row9 0 (.slice Aw want.length cw))) (fun i _ => at_.length - (intOf i).toNat)
          case atStart => exact ⟨0, _, by omega, rfl, HP⟩
          case round =>
            clear HP
            obtain ⟨j, row9, hj, rfl, HP⟩ := hrel
            by_cases hjl : ¬ j < at_.length
            · go_wp2_with fail
              go_meet
              exact ⟨_, _, (by omega), HP⟩
            by_cases hj4 : ¬ j < 4
            · have hjl' : j < at_.length := by omega
              go_wp2_with fail
              go_meet
              exact ⟨_, _, (by omega), HP⟩
            have hjl' : j < at_.length := by omega
            have hj4' : j < 4 := by omega
            clear hjl hj4
            obtain ⟨bb, oo, rfl, hcb⟩ := byteV_at (HB.out.kept0 HP.out.kept) hjl'
            go_wp2_with fail
            refine (po_double HP.out _).mono ?_
            rintro _ wd ⟨⟨r1, rfl⟩, row2, hp2⟩
            clear hcb HP
            have HP := Lib.hid hp2
            obtain ⟨bb2, oo2, hbe, hcb⟩ := byteV_at (HB.out.kept0 HP.out.kept) hjl'
            cases hbe
            clear hp2
            go_wp2_with fail
            refine (po_move HP.out _).mono ?_
            rintro _ we ⟨⟨r2, rfl⟩, row3, hp3⟩
            have HP3 := Lib.hid hp3
            clear hp3 hcb HP
            go_wp2_with fail
            go_roundw
            case rel => exact ⟨j + 1, row3, by omega, by go_num, HP3⟩
            case measure => simp [intOf]; omega
        · have HT := Lib.hid ht
          replace HX := Lib.hid (hkeep g _ _ HX.out (by decide))
          clear ht hkeep K HY HFU HBL HD RB HW HP
          have yf := HX.out.frozen 3
          have yc := HX.out.cell 3
          have yl := HX.out.lt
          simp only [List.getElem?_cons_zero, List.getElem?_cons_succ] at yc
          go_upto_region 18 with (fail)
          replace HT := Lib.hid (HT.out.set HX.out HGW.out NW.out 3 (.int .i64 (want.length : Int)))
          replace HX := Lib.hid (show Blk (w8.setCell ⟨g, 3, none⟩ (.int .i64 (want.length : Int))) g 60 (frC { G with seq := (want.length : Int) } A1 A2 A3 c1 c2 c3) from HX.out.set 3 _)
          generalize w8.setCell ⟨g, 3, none⟩ (.int .i64 (want.length : Int)) = w9 at HT HX ⊢
          clear yf yc yl
          have HGN := Lib.hid (show FrIn w { G with seq := (want.length : Int) } A1 A2 A3 from ⟨HG.out.items, HG.out.sums, HG.out.trips, HG.out.li, HG.out.ls, HG.out.lt⟩)
          have HSN := Lib.hid (show Fr.Short { G with seq := (want.length : Int) } from ⟨HSH.out.items, HSH.out.sums, HSH.out.trips⟩)
          have hsz := HT.out.kept.size
          go_upto_region 19 with (first | (refine wpList_loadBlk rfl 60 (.tmp 12) rfl g (frC { G with seq := (want.length : Int) } A1 A2 A3 c1 c2 c3) _ HX.out rfl Try.underlying60 rfl infoFrame ?_) | (at_builtin; refine wpList_app _ rfl (.tmp 75) (.tmp 77) _ rfl 60 (.agg #[.int .i64 0, .int .i64 0, .int .i64 0, .int .i64 0, .int .i64 0, .int .i64 0, .slice none 0 0, .slice none 0 0, .slice none 0 0, .int .i64 0, .bool false]) 11 136 Try.underlying72 infoFr rfl (by decide) w.heap.size (.slice Aw want.length cw) _ _ rfl (HT.out.wo.alloc _) (some ⟨_, 0, none⟩) 1 1 (frX ⟨{ G with seq := (want.length : Int) }, A1, A2, A3, c1, c2, c3⟩) rfl rfl (Reads.of_blk (Blk.new _ _ _) (fun _ _ h => h)) (by simp [frX, Value.oneCell']) (by omega) (by unfold maxLen; omega) (by simp; omega) ?_; intro va wa howna hka hba; have HPa := Lib.hid ((HT.out.kept0 ((Kept.refl [] _).alloc _)).app ⟨{ G with seq := (want.length : Int) }, A1, A2, A3, c1, c2, c3⟩ rfl HGN.out HSN.out howna hka); clear howna hka hba))
          have HP := HPa
          clear HPa HT HX HGN HSN HG HGI HSH NW HGW HGQ hsz
          go_wp2_with fail
          go_loopw [17] (fun i wr' => ∃ (j : Nat) (row9 : List Int), j ≤ at_.length ∧ i = .int .i64 j ∧ Hid (PoS w wr' p m1 m2 room (want ++ [⟨{ G with seq := (want.length : Int) }, A1, A2, A3, c1, c2, c3⟩]) row9 0 va)) (fun i _ => at_.length - (intOf i).toNat)
          case atStart => exact ⟨0, _, by omega, rfl, HP⟩
          case round =>
            clear HP
            obtain ⟨j, row9, hj, rfl, HP⟩ := hrel
            by_cases hjl : ¬ j < at_.length
            · go_wp2_with fail
              go_meet
              exact ⟨_, _, (by simp; omega), HP⟩
            by_cases hj4 : ¬ j < 4
            · have hjl' : j < at_.length := by omega
              go_wp2_with fail
              go_meet
              exact ⟨_, _, (by simp; omega), HP⟩
            have hjl' : j < at_.length := by omega
            have hj4' : j < 4 := by omega
            clear hjl hj4
            obtain ⟨bb, oo, rfl, hcb⟩ := byteV_at (HB.out.kept0 HP.out.kept) hjl'
            go_wp2_with fail
            refine (po_double HP.out _).mono ?_
            rintro _ wd ⟨⟨r1, rfl⟩, row2, hp2⟩
            clear hcb HP
            have HP := Lib.hid hp2
            obtain ⟨bb2, oo2, hbe, hcb⟩ := byteV_at (HB.out.kept0 HP.out.kept) hjl'
            cases hbe
            clear hp2
            go_wp2_with fail
            refine (po_move HP.out _).mono ?_
            rintro _ we ⟨⟨r2, rfl⟩, row3, hp3⟩
            have HP3 := Lib.hid hp3
            clear hp3 hcb HP
            go_wp2_with fail
            go_roundw
            case rel => exact ⟨j + 1, row3, by omega, by go_num, HP3⟩
            case measure => simp [intOf]; omega
      case rest =>
        obtain ⟨want', row', hwk', HP'⟩ := hcut
        go_wp2_with fail
        go_roundw
        case rel => exact ⟨k + 1, want', row', by omega, hwk', by omega, by go_num, HP'⟩
        case measure => simp [intOf]; omega
  case rest =>
    clear HP
    obtain ⟨want, row, HP⟩ := hcut
    obtain ⟨Aw, cw, rfl⟩ := own_n HP.out.wo
    go_wp2_with fail
    go_loopg [10] row.length (fun gk g wr => ∃ (n : Nat) (row' : List Int), g = .int .i64 n ∧ Hid (row'.length = gk) ∧ Hid (PoS w wr p m1 m2 room want row' n (.slice Aw want.length cw)))
    case atStart => exact ⟨0, row, rfl, Lib.hid rfl, HP⟩
    case round =>
      clear HP
      obtain ⟨n, row', rfl, HN, HP⟩ := hrel
      go_wp2_with fail
      refine (po_len HP.out).mono ?_
      rintro _ w2 ⟨rfl, rfl⟩
      by_cases h0 : row'.length = 0
      · obtain rfl : row' = [] := List.eq_nil_of_length_eq_zero h0
        clear h0
        have hn := HP.out.done
        subst hn
        have HF := Lib.hid (FrIn.zero w2)
        go_wp2_with fail
        refine (frameRight_any zeroF none none none 0 0 0 _ HF.out).mono ?_
        rintro _ w3 ⟨rfl, hk⟩
        have K := Lib.hid (HP.out.kept.trans hk)
        clear hk HP HN HF
        rw [show zeroF.wrong = 8 from by decide]
        go_wp2_with fail
        go_ret
        exact ⟨rfl, K.out⟩
      have h0' : 0 < row'.length := by omega
      clear h0
      go_wp2_with fail
      refine (po_oldest HP.out h0').mono ?_
      rintro _ w3 ⟨q, rfl, hq, hk⟩
      have HQ := Lib.hid hq
      replace HP := Lib.hid (HP.out.kept0 hk)
      clear hk hq
      go_wp2_with fail
      refine (po_take HP.out q HQ.out).mono ?_
      rintro _ w4 (⟨rfl, row2, hl2, hp2⟩ | ⟨ht, v1, v2, v3, rfl, ho, row2, hl2, hp2⟩)
      · have HP := Lib.hid hp2
        have HL := Lib.hid hl2
        clear hl2 hp2 HQ
        go_upto_region 26 with (fail)
        replace HP := Lib.hid (HP.out.kept0 ((Kept.refl [] w4).alloc (.cells #[.int .i64 0, .int .i64 0, .int .i64 0, .int .i64 0, .int .i64 0, .int .i64 0, .slice none 0 0, .slice none 0 0, .slice none 0 0, .int .i64 0, .bool false] 60)))
        generalize (w4.alloc (.cells #[.int .i64 0, .int .i64 0, .int .i64 0, .int .i64 0, .int .i64 0, .int .i64 0, .slice none 0 0, .slice none 0 0, .slice none 0 0, .int .i64 0, .bool false] 60)) = w5 at HP ⊢
        go_quiet (fail)
        replace HP := Lib.hid (HP.out.kept0 ((Kept.refl [] w5).drewN nq))
        generalize World.drewN w5 nq = w6 at *
        go_wp2_with fail
        go_roundg row2.length
        case rel => exact ⟨n, row2, rfl, Lib.hid rfl, HP⟩
        case measure => have := HN.out; have := HL.out; omega
      · have hfw := hp2.fr want[n] (List.getElem_mem ht)
        obtain ⟨b, off, rfl, hcw⟩ := frames_at (Reads.of_own hp2.wo) ht
        obtain ⟨X, hX⟩ : ∃ X, X = want[n] := ⟨_, rfl⟩
        rw [← hX] at ho hfw hcw ⊢
        clear hX
        obtain ⟨F, A1, A2, A3, c1, c2, c3⟩ := X
        dsimp only at ho hfw ⊢
        obtain ⟨B1, e1, rfl⟩ := own_n ho.o1
        obtain ⟨B2, e2, rfl⟩ := own_n ho.o2
        obtain ⟨B3, e3, rfl⟩ := own_n ho.o3
        have HF2 := Lib.hid hfw.1
        have HF1 := Lib.hid (show FrIn w4 F B1 B2 B3 from ⟨Reads.of_own ho.o1, Reads.of_own ho.o2, Reads.of_own ho.o3, hfw.1.li, hfw.1.ls, hfw.1.lt⟩)
        have HW := Lib.hid (show w4.rangeAt b (off + n * 11) (frC F A1 A2 A3 c1 c2 c3) from hcw)
        have HP := Lib.hid hp2
        have HL := Lib.hid hl2
        have HT := Lib.hid ht
        clear hl2 hp2 HQ hfw hcw ho ht
        go_upto_region 26 with (fail)
        have hk : Kept [] w4 (w4.alloc (.cells (frC F B1 B2 B3 e1 e2 e3).toArray 60)) := (Kept.refl [] w4).alloc _
        have HX := Lib.hid (Blk.new w4 60 (frC F B1 B2 B3 e1 e2 e3))
        replace HP := Lib.hid (HP.out.kept0 hk)
        replace HF1 := Lib.hid (HF1.out.kept0 hk)
        replace HW := Lib.hid (show (w4.alloc (.cells (frC F B1 B2 B3 e1 e2 e3).toArray 60)).rangeAt b (off + n * 11) (frC F A1 A2 A3 c1 c2 c3) from fun j u hu => Kept.cell_lt hk (HW.out j u hu))
        clear hk
        obtain ⟨w5, hv⟩ : ∃ w5, w5 = (w4.alloc (.cells (frC F B1 B2 B3 e1 e2 e3).toArray 60)) := ⟨_, rfl⟩
        rw [← hv] at HX HP HF1 HW
        show Code.wp _ _ _ _ (w4.alloc (.cells (frC F B1 B2 B3 e1 e2 e3).toArray 60))
        rw [← hv]
        clear hv
        generalize w4.heap.size = g at HX ⊢
        have hT1 := HT.out
        have hT2 : (n : Int) < (want.length : Int) := by omega
        have hT3 := po_sent HP.out
        refine wp_region_held_drew (S := (fun w' => Blk w' g 60 (frC F B1 B2 B3 e1 e2 e3) ∧ w'.rangeAt b (off + n * 11) (frC F A1 A2 A3 c1 c2 c3))) (by kernel_rfl) ?_ (fun hHeld => ?_)
        · exact ⟨HX.out, HW.out⟩
        replace HP := Lib.hid (HP.out.kept0 ((Kept.refl [] _).drew))
        replace HX := Lib.hid (HX.out.drew)
        replace HF1 := Lib.hid (HF1.out.kept0 ((Kept.refl [] _).drew))
        replace HW := Lib.hid (show w5.drew.rangeAt b (off + n * 11) (frC F A1 A2 A3 c1 c2 c3) from HW.out)
        refine tkYes (i := 0) (v := ?_) rfl rfl (by kernel_rfl) (by kernel_rfl) (by kernel_rfl) (fun _ _ _ h => h) (by rfl) ?_ (by assumption) ?_
        rotate_left
        · (intro w' hSw; (try dsimp only at hSw); go_simp; try with_reducible rfl)
        try simp only [Act.put, List.setIfInBounds_toArray, List.set_cons_zero, List.set_cons_succ]
        refine tkYes (i := 1) (v := ?_) rfl rfl (by kernel_rfl) (by kernel_rfl) (by kernel_rfl) (fun _ _ _ h => h) (by rfl) ?_ (by assumption) ?_
        rotate_left
        · (intro w' hSw; (try dsimp only at hSw); go_simp; try with_reducible rfl)
        try simp only [Act.put, List.setIfInBounds_toArray, List.set_cons_zero, List.set_cons_succ]
        refine tkYes (i := 2) (v := ?_) rfl rfl (by kernel_rfl) (by kernel_rfl) (by kernel_rfl) (fun _ _ _ h => h) (by rfl) ?_ (by assumption) ?_
        rotate_left
        · (intro w' hSw; (try dsimp only at hSw); go_simp; try with_reducible rfl)
        try simp only [Act.put, List.setIfInBounds_toArray, List.set_cons_zero, List.set_cons_succ]
        refine tkYes (i := 3) (v := ?_) rfl rfl (by kernel_rfl) (by kernel_rfl) (by kernel_rfl) (fun _ _ _ h => h) (by rfl) ?_ (by assumption) ?_
        rotate_left
        · (intro w' hSw; (try dsimp only at hSw); go_simp; try with_reducible rfl)
        try simp only [Act.put, List.setIfInBounds_toArray, List.set_cons_zero, List.set_cons_succ]
        refine tkYes (i := 4) (v := ?_) rfl rfl (by kernel_rfl) (by kernel_rfl) (by kernel_rfl) (fun _ _ _ h => h) (by rfl) ?_ (by assumption) ?_
        rotate_left
        · (intro w' hSw; (try dsimp only at hSw); go_simp; try with_reducible rfl)
        try simp only [Act.put, List.setIfInBounds_toArray, List.set_cons_zero, List.set_cons_succ]
        refine tkYes (i := 5) (v := .bool false) rfl rfl (by kernel_rfl) (by kernel_rfl) (by kernel_rfl) (fun _ _ _ h => h) (by rfl) ?_ (by assumption) ?_
        skip
        · (intro w' hSw; (try dsimp only at hSw); go_simp; try (simp; done))
        try simp only [Act.put, List.setIfInBounds_toArray, List.set_cons_zero, List.set_cons_succ]
        refine tkYes (i := 6) (v := ?_) rfl rfl (by kernel_rfl) (by kernel_rfl) (by kernel_rfl) (fun _ _ _ h => h) (by rfl) ?_ (by assumption) ?_
        rotate_left
        · (intro w' hSw; (try dsimp only at hSw); go_simp; try with_reducible rfl)
        try simp only [Act.put, List.setIfInBounds_toArray, List.set_cons_zero, List.set_cons_succ]
        refine tkLoad (i := 7) 60 (.tmp 18) g (0) (frC F B1 B2 B3 e1 e2 e3) _ rfl rfl (by kernel_rfl) (by kernel_rfl) (by kernel_rfl) (fun _ _ _ h => h) (by rfl) rfl rfl (fun w hw => hw.1.cell2) Try.underlying60 rfl infoFrame (by assumption) ?_
        try simp only [Act.put, List.setIfInBounds_toArray, List.set_cons_zero, List.set_cons_succ]
        refine tkYes (i := 8) (v := ?_) rfl rfl (by kernel_rfl) (by kernel_rfl) (by kernel_rfl) (fun _ _ _ h => h) (by rfl) ?_ (by assumption) ?_
        rotate_left
        · (intro w' hSw; (try dsimp only at hSw); go_simp; try with_reducible rfl)
        try simp only [Act.put, List.setIfInBounds_toArray, List.set_cons_zero, List.set_cons_succ]
        refine tkYes (i := 9) (v := ?_) rfl rfl (by kernel_rfl) (by kernel_rfl) (by kernel_rfl) (fun _ _ _ h => h) (by rfl) ?_ (by assumption) ?_
        rotate_left
        · (intro w' hSw; (try dsimp only at hSw); go_simp; try with_reducible rfl)
        try simp only [Act.put, List.setIfInBounds_toArray, List.set_cons_zero, List.set_cons_succ]
        refine tkYes (i := 10) (v := .pointer (some ⟨b, off + n * 11, none⟩)) rfl rfl (by kernel_rfl) (by kernel_rfl) (by kernel_rfl) (fun _ _ _ h => h) (by rfl) ?_ (by assumption) ?_
        skip
        · (intro w' hSw; (try dsimp only at hSw); go_simp; try (simp; done))
        try simp only [Act.put, List.setIfInBounds_toArray, List.set_cons_zero, List.set_cons_succ]
        refine tkLoad (i := 11) 60 (.tmp 126) b (off + n * 11) (frC F A1 A2 A3 c1 c2 c3) _ rfl rfl (by kernel_rfl) (by kernel_rfl) (by kernel_rfl) (fun _ _ _ h => h) (by rfl) rfl rfl (fun w hw => hw.2) Try.underlying60 rfl infoFrame (by assumption) ?_
        try simp only [Act.put, List.setIfInBounds_toArray, List.set_cons_zero, List.set_cons_succ]
        refine wpAnyH_ready (rs := [12]) (by kernel_rfl) (by simp) ?_
        refine AllReadyH.cons rfl (fun K hK => ?_) AllReadyH.nil
        go_simp
        refine (frameSame_any F F B1 B2 B3 A1 A2 A3 e1 e2 e3 c1 c2 c3 _ HF1.out (HF2.out.kept0 HP.out.kept)).mono ?_
        rintro _ w6 ⟨rfl, hk⟩
        rw [show decide (F = F) = true from decide_eq_true rfl]
        replace HP := Lib.hid (HP.out.kept0 hk)
        replace HX := Lib.hid (HX.out.kept hk (by simp))
        replace HW := Lib.hid (show w6.rangeAt b (off + n * 11) (frC F A1 A2 A3 c1 c2 c3) from fun j u hu => Kept.cell_lt hk (HW.out j u hu))
        clear hk
        go_wp2_with fail
        refine hK.out _ _ ?_ (fun hHeld => ?_)
        · exact ⟨HX.out, HW.out⟩
        clear hK K
        try simp only [Act.put, List.setIfInBounds_toArray, List.set_cons_zero, List.set_cons_succ]
        refine tkYes (i := 13) (v := ?_) rfl rfl (by kernel_rfl) (by kernel_rfl) (by kernel_rfl) (fun _ _ _ h => h) (by rfl) ?_ (by assumption) ?_
        rotate_left
        · (intro w' hSw; (try dsimp only at hSw); go_simp; try with_reducible rfl)
        try simp only [Act.put, List.setIfInBounds_toArray, List.set_cons_zero, List.set_cons_succ]
        refine tkYes (i := 14) (v := ?_) rfl rfl (by kernel_rfl) (by kernel_rfl) (by kernel_rfl) (fun _ _ _ h => h) (by rfl) ?_ (by assumption) ?_
        rotate_left
        · (intro w' hSw; (try dsimp only at hSw); go_simp; try with_reducible rfl)
        try simp only [Act.put, List.setIfInBounds_toArray, List.set_cons_zero, List.set_cons_succ]
        refine tkYes (i := 15) (v := ?_) rfl rfl (by kernel_rfl) (by kernel_rfl) (by kernel_rfl) (fun _ _ _ h => h) (by rfl) ?_ (by assumption) ?_
        rotate_left
        · (intro w' hSw; (try dsimp only at hSw); go_simp; try with_reducible rfl)
        try simp only [Act.put, List.setIfInBounds_toArray, List.set_cons_zero, List.set_cons_succ]
        refine wpAnyH_done (by kernel_rfl) ?_ _
        go_wp2_with fail
        go_roundg row2.length
        case rel => exact ⟨n + 1, row2, by go_num, Lib.hid rfl, HP⟩
        case measure => have := HN.out; have := HL.out; omega

set_option maxRecDepth 100000 in
theorem topPosted_lifted (os : Os) (started : os.Started) (H : Type) (enc : TypeId × Value → H) :
    ReturnsInHanded {} Try.checked os 10 .any (Rows.topPostedSpec.pre6 enc Try.prog Try.f10 Rows.topPostedRow.domain false) (Rows.topPostedSpec.post enc Try.prog Try.f10 false true false false) := by
  refine returnsInHanded_of_change (C := Try.checked) own started (by kernel_rfl) Try.func10
    (ChangeSpec.witness6 (enc := enc) (C := Try.checked) false ⟨#[], #[.int .u8 0, .slice none 0 0, .slice none 0 0], []⟩ 8 (by kernel_rfl) (by kernel_rfl) (by kernel_rfl) (by kernel_rfl)) ?_
  intro W base args ds gs before hval0 hW hcnd _
  have hval : ∀ (j : Nat) t v, Try.f10.params[j]? = some t → args[j]? = some v → Value.okWide Try.prog W .any base t v := hval0
  have hW' := hW
  obtain ⟨p, q, hA0, hV, rfl, hfz, hnd⟩ := hW
  have hA : DataW.TrodAll enc Try.prog W 0 (fun _ => true) true Try.f10.params.toList args.toList ds p := hA0
  rw [Try.params10] at hA hval
  obtain ⟨v0, vs0, d0, ds0, p0, q0, hargs, rfl, rfl, h0, r0⟩ := trodAll_cons hA
  obtain ⟨v1, vs1, d1, ds1, p1, q1, rfl, rfl, rfl, h1, r1⟩ := trodAll_cons r0
  obtain ⟨v2, vs2, d2, ds2, p2, q2, rfl, rfl, rfl, h2, r2⟩ := trodAll_cons r1
  obtain ⟨rfl, rfl, rfl⟩ := trodAll_nil r2
  obtain rfl : args = #[v0, v1, v2] := by cases args; simp_all
  obtain ⟨rfl, rfl⟩ := trodVars_none hV
  obtain ⟨a1, rfl, rfl, rfl, w1⟩ := open_int Try.underlying5 (hval 0 5 v0 rfl rfl) h0
  obtain ⟨a, rfl, ha⟩ := wf_u8 w1
  obtain ⟨A, c, l, rfl, hl, hm, hr, hok, _⟩ := open_frames (hval 1 72 v1 rfl rfl) h1
  obtain ⟨B, d, q, rfl, hl2, hm2, hrb, _⟩ := open_bytes Try.underlying25 Try.underlying5 cellsU8 (hval 2 25 v2 rfl rfl) h2
  refine (topPosted_walk a l q A B c d W ha (by omega) hr hok (by omega) hrb).mono fun e W' ⟨he, hk⟩ => ?_
  exact ⟨_, he, post_true rfl Try.underlying4 rfl rfl rfl rfl laidOut (by decide +kernel) hW' hk⟩

theorem topPosted_holds : Rows.TopPostedSaid :=
  OpenClaim.holds_of_wide 10 Try.f10 rfl rfl rfl rfl rfl rfl rfl ⟨rfl, rfl, rfl, rfl, rfl⟩ rfl rfl rfl rfl rfl (by kernel_rfl) Try.func10 (by kernel_rfl)
    (of_decide_eq_true (by kernel_rfl)) (by unfold Func.isWrapper; first | (rw [if_pos (by decide +kernel)]; kernel_rfl) | (rw [if_neg (by decide +kernel)]; exact ⟨rfl, rfl⟩))
    (fun os started H enc _ => topPosted_lifted os started H enc)
end Go.Proofs.Ytdjidnccockmmaa
