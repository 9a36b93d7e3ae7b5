/- Frames: the walk of Decode. -/
import Derived.Test.YtdjidnccockmmaaFr17
namespace Go.Proofs.Ytdjidnccockmmaa
set_option linter.unusedSimpArgs false
set_option linter.unusedVariables false
open Go.ChangeShapes Go.WideShapes Go.ChangeAt Go.RowKit
open Go.RowKit (wrap32 wrap64)
set_option maxHeartbeats 4000000

/-- What any bytes are as a frame, or what is wrong first, and where. -/
def decodeP (b : List UInt8) : Except (Int × Int) Fr := (Rd.head ⟨b, 0, 0, 0⟩).bind fun x => (Rd.lists x.1 x.2).bind fun y => .ok y.1
/-- How Decode ends. -/
def DecPost (w : World) (r : Except (Int × Int) Fr) (x : Ending) (w' : World) : Prop :=
  match r with
  | .ok F => (∃ v1 v2 v3, x = .returned (.tuple #[.agg (lsC F v1 v2 v3).toArray, .agg #[.int .i64 0, .int .i64 0]]) ∧ w'.ownsRow w.heap.size 99 2 v1 F.items.length (F.items.flatMap readV) ∧
      w'.ownsRow w.heap.size 103 3 v2 F.sums.length (F.sums.flatMap sumV) ∧ w'.ownsRow w.heap.size 105 3 v3 F.trips.length (F.trips.flatMap tripV)) ∧ Kept [] w w'
  | .error (e, a) => x = .returned (.tuple #[.agg zeroC.toArray, .agg #[.int .i64 e, .int .i64 a]]) ∧ Kept [] w w'
theorem head_nil {R R' : Rd} {F : Fr} (h : R.head = .ok (F, R')) : F.items = [] ∧ F.sums = [] ∧ F.trips = [] := by
  unfold Rd.head at h
  rcases h1 : R.rd 1 1 7 8 with _ | x1
  · rw [h1] at h; cases h
  rw [h1] at h; simp only [Except.bind] at h
  rcases h2 : x1.2.rd 1 0 63 3 with _ | x2
  · rw [h2] at h; cases h
  rw [h2] at h; simp only [] at h
  rcases h3 : x2.2.rd 1 0 63 3 with _ | x3
  · rw [h3] at h; cases h
  rw [h3] at h; simp only [] at h
  rcases h4 : x3.2.rd 4 0 2147483647 3 with _ | x4
  · rw [h4] at h; cases h
  rw [h4] at h; simp only [] at h
  rcases h5 : x4.2.rd 4 0 8192 3 with _ | x5
  · rw [h5] at h; cases h
  rw [h5] at h; simp only [] at h
  rcases h6 : x5.2.rd 1 0 1 7 with _ | x6
  · rw [h6] at h; cases h
  rw [h6] at h; simp only [] at h
  rcases h7 : x6.2.word with _ | x7
  · rw [h7] at h; cases h
  rw [h7] at h; simp only [] at h
  injection h with h
  injection h with h _
  subst h
  exact ⟨rfl, rfl, rfl⟩

set_option maxRecDepth 100000 in
theorem decode_any (b : List UInt8) (A : Option Addr) (c : Nat) (w : World) (hr : Reads w A (b.map byteV)) (hl : b.length ≤ 1073741824) :
    Calls Try.prog 40 #[.slice A b.length c] w (DecPost w (decodeP b)) := by
  have HR := Lib.hid (hr.kept0 (((Kept.refl [] w).alloc (.cells zeroC.toArray 60)).alloc (.cells #[.int .i64 0, .int .i64 0] 40)))
  have K0 := Lib.hid (((Kept.refl [] w).alloc (.cells zeroC.toArray 60)).alloc (.cells #[.int .i64 0, .int .i64 0] 40))
  have HG := Lib.hid ((Blk.new w 60 zeroC).alloc (.cells #[.int .i64 0, .int .i64 0] 40))
  have HH := Lib.hid (Blk.new1F w (.cells zeroC.toArray 60) 40 [.int .i64 0, .int .i64 0])
  clear hr
  go_enter_defers Try.func40, Try.ntmps40
  go_wp2_with fail
  refine (open_any b A c _ HR.out hl).mono ?_
  rintro e w1 ⟨p, rfl, hp, hrd, hk⟩
  have K1 := Lib.hid (K0.out.trans hk)
  have HG := Lib.hid (HG.out.kept hk (by simp))
  have HH := Lib.hid (HH.out.kept hk (by simp))
  have HRD := Lib.hid hrd
  have HP := Lib.hid (show w.heap.size ≤ p by simp at hp; omega)
  clear hp hrd hk K0 HR
  go_upto_region 3 with (fail)
  have HB := Lib.hid (Blk.new w1 120 [.pointer (some ⟨p, 0, none⟩)])
  have K1 := Lib.hid (K1.out.alloc (.cells #[.pointer (some ⟨p, 0, none⟩)] 120))
  have HG := Lib.hid (HG.out.alloc (.cells #[.pointer (some ⟨p, 0, none⟩)] 120))
  have HH := Lib.hid (HH.out.alloc (.cells #[.pointer (some ⟨p, 0, none⟩)] 120))
  have HRD := Lib.hid (HRD.out.kept0 ((Kept.refl [] w1).alloc (.cells #[.pointer (some ⟨p, 0, none⟩)] 120)))
  obtain ⟨q, hq⟩ : ∃ q, q = w1.heap.size := ⟨_, rfl⟩
  rw [← hq] at HB ⊢
  generalize w1.alloc (.cells #[.pointer (some ⟨p, 0, none⟩)] 120) = w2 at HB K1 HG HH HRD ⊢
  clear hq
  have y0 := HB.out.cell 0
  simp only [List.getElem?_cons_zero] at y0
  go_wp2_with fail
  refine (head_any p _ _ HRD.out).mono ?_
  intro x w3 hx
  rcases hr : Rd.head ⟨b, 0, 0, 0⟩ with ⟨e, a⟩ | ⟨F, R1⟩
  · rw [hr] at hx
    obtain ⟨rfl, hk⟩ := hx
    have E := Lib.hid (show decodeP b = .error (e, a) by simp only [decodeP, hr, Except.bind])
    have HG := Lib.hid (HG.out.kept hk (rd_ne HRD.out HG.out (by decide)))
    have HH := Lib.hid (HH.out.kept hk (rd_ne HRD.out HH.out (by decide)))
    have K := Lib.hid (K1.out.then hk (by have := HP.out; simp; omega))
    clear hk hr y0
    go_wp2_with fail
    refine leaves_cons (f := 82) (args := #[.pointer (some ⟨w.heap.size, 0, none⟩), .pointer (some ⟨w.heap.size + 1, 0, none⟩)]) (by simp) (by simp [go_sem]) ?_
    refine (dcaught_bad w.heap.size (w.heap.size + 1) e a _ _ [] _ HG.out rfl HH.out rfl).mono ?_
    rintro x u' w'' ⟨rfl, rfl, hg, hh, hk⟩
    simp only [settle, Leaves, List.dropWhile_nil]
    have g0 := hg.cell 0
    have g1 := hg.cell 1
    have g2 := hg.cell 2
    have g3 := hg.cell 3
    have g4 := hg.cell 4
    have g5 := hg.cell 5
    have g6 := hg.cell 6
    have g7 := hg.cell 7
    have g8 := hg.cell 8
    have g9 := hg.cell 9
    have g10 := hg.cell 10
    have z0 := hh.cell 0
    have z1 := hh.cell 1
    simp only [List.getElem?_cons_zero, List.getElem?_cons_succ] at g0 g1 g2 g3 g4 g5 g6 g7 g8 g9 g10 z0 z1
    refine ⟨.tuple #[.agg zeroC.toArray, .agg #[.int .i64 e, .int .i64 a]], by simp [results, Try.results40, go_sem, g0, g1, g2, g3, g4, g5, g6, g7, g8, g9, g10, z0, z1], ?_⟩
    rw [E.out]
    exact ⟨rfl, K.out.then hk (by simp)⟩
  rw [hr] at hx
  obtain ⟨hxe, hrd, hk⟩ := hx
  obtain ⟨hn1, hn2, hn3⟩ := head_nil hr
  have hfc : frC F none none none 0 0 0 = lsC F (.slice none 0 0) (.slice none 0 0) (.slice none 0 0) := by simp [hn1, hn2, hn3]
  have hxe : x = .returned (.agg (lsC F (.slice none 0 0) (.slice none 0 0) (.slice none 0 0)).toArray) := by rw [hxe, ← hfc]
  subst hxe
  have HG := Lib.hid (HG.out.kept hk (rd_ne HRD.out HG.out (by decide)))
  have HH := Lib.hid (HH.out.kept hk (rd_ne HRD.out HH.out (by decide)))
  have HB := Lib.hid (HB.out.kept hk (rd_ne HRD.out HB.out (by decide)))
  have K := Lib.hid (K1.out.then hk (by have := HP.out; simp; omega))
  have HRD := Lib.hid hrd
  have E := Lib.hid (show decodeP b = (Rd.lists F R1).bind fun y => .ok y.1 by simp only [decodeP, hr, Except.bind])
  have N1 := Lib.hid hn1
  have N2 := Lib.hid hn2
  have N3 := Lib.hid hn3
  clear hn1 hn2 hn3 hk hr hrd hfc y0 K1
  go_upto_region 4 with (first | (refine wpList_storeBlk rfl 60 (.tmp 2) (.tmp 10) rfl w.heap.size _ (lsC F (.slice none 0 0) (.slice none 0 0) (.slice none 0 0)) HG.out rfl rfl rfl infoFrame (by simp [Value.oneCell']) ?_; intro w4 hb4 hk4))
  have HH := Lib.hid (HH.out.kept hk4 (by simp))
  have HB := Lib.hid (HB.out.kept hk4 (by have := HB.out.ne HG.out (by decide); simpa using this))
  have K := Lib.hid (K.out.then hk4 (by simp))
  have HRD := Lib.hid (HRD.out.kept1 HG.out (by decide) (by decide) hk4)
  have HG := Lib.hid hb4
  clear hb4 hk4
  have y0 := HB.out.cell 0
  simp only [List.getElem?_cons_zero] at y0
  go_wp2_with fail
  refine (lists_any w.heap.size p w.heap.size R1 F _ HRD.out HG.out HP.out (Nat.le_refl _) K.out.size N1.out N2.out N3.out).mono ?_
  intro x w5 hx
  rcases hr : Rd.lists F R1 with ⟨e, a⟩ | ⟨F', R2⟩
  · rw [hr] at hx
    obtain ⟨rfl, hk, cs, hcs, hg5⟩ := hx
    have E := Lib.hid (show decodeP b = .error (e, a) from E.out.trans (by rw [hr]; rfl))
    have HH := Lib.hid (HH.out.keptB hk (by decide))
    have HG := Lib.hid hg5
    have HCS := Lib.hid hcs
    have K := Lib.hid (K.out.thenB hk (Nat.le_refl _))
    clear hk hr hcs hg5 y0
    go_wp2_with fail
    refine leaves_cons (f := 82) (args := #[.pointer (some ⟨w.heap.size, 0, none⟩), .pointer (some ⟨w.heap.size + 1, 0, none⟩)]) (by simp) (by simp [go_sem]) ?_
    refine (dcaught_bad w.heap.size (w.heap.size + 1) e a _ _ [] _ HG.out HCS.out HH.out rfl).mono ?_
    rintro x u' w'' ⟨rfl, rfl, hg, hh, hk⟩
    simp only [settle, Leaves, List.dropWhile_nil]
    have g0 := hg.cell 0
    have g1 := hg.cell 1
    have g2 := hg.cell 2
    have g3 := hg.cell 3
    have g4 := hg.cell 4
    have g5 := hg.cell 5
    have g6 := hg.cell 6
    have g7 := hg.cell 7
    have g8 := hg.cell 8
    have g9 := hg.cell 9
    have g10 := hg.cell 10
    have z0 := hh.cell 0
    have z1 := hh.cell 1
    simp only [List.getElem?_cons_zero, List.getElem?_cons_succ] at g0 g1 g2 g3 g4 g5 g6 g7 g8 g9 g10 z0 z1
    refine ⟨.tuple #[.agg zeroC.toArray, .agg #[.int .i64 e, .int .i64 a]], by simp [results, Try.results40, go_sem, g0, g1, g2, g3, g4, g5, g6, g7, g8, g9, g10, z0, z1], ?_⟩
    rw [E.out]
    exact ⟨rfl, K.out.then hk (by simp)⟩
  rw [hr] at hx
  obtain ⟨rfl, v1, v2, v3, LS⟩ := hx
  have E := Lib.hid (show decodeP b = .ok F' from E.out.trans (by rw [hr]; rfl))
  obtain ⟨B1, N1', C1, rfl⟩ := own_sl LS.o1
  obtain ⟨B2, N2', C2, rfl⟩ := own_sl LS.o2
  obtain ⟨B3, N3', C3, rfl⟩ := own_sl LS.o3
  have HH := Lib.hid (HH.out.keptB LS.kept (by decide))
  have K := Lib.hid (K.out.thenB LS.kept (Nat.le_refl _))
  have HG := Lib.hid LS.fr
  have LS := Lib.hid LS
  clear hr y0
  go_wp2_with (first | (refine wpList_loadBlk rfl 60 (.tmp 2) rfl w.heap.size (lsC F' (.slice B1 N1' C1) (.slice B2 N2' C2) (.slice B3 N3' C3)) _ HG.out rfl Try.underlying60 rfl infoFrame ?_) | (refine wpList_storeBlk rfl 60 (.tmp 2) (.tmp 13) rfl w.heap.size _ (lsC F' (.slice B1 N1' C1) (.slice B2 N2' C2) (.slice B3 N3' C3)) HG.out rfl rfl rfl infoFrame (by simp [Value.oneCell']) ?_; intro w6 hb6 hk6; have HH6 := Lib.hid (HH.out.kept hk6 (by simp))) | (refine wpList_storeBlk rfl 40 (.tmp 3) (.tmp 14) rfl (w.heap.size + 1) _ [.int .i64 0, .int .i64 0] HH6.out rfl rfl rfl infoFault (by simp [Value.oneCell']) ?_; intro w7 hb7 hk7))
  have hb6 := hb6.kept hk7 (by simp)
  refine leaves_cons (f := 82) (args := #[.pointer (some ⟨w.heap.size, 0, none⟩), .pointer (some ⟨w.heap.size + 1, 0, none⟩)]) (by simp) (by simp [go_sem]) ?_
  refine (dcaught_idle _ _ _).mono ?_
  rintro x u' w'' ⟨rfl, rfl, rfl⟩
  have g0 := hb6.cell 0
  have g1 := hb6.cell 1
  have g2 := hb6.cell 2
  have g3 := hb6.cell 3
  have g4 := hb6.cell 4
  have g5 := hb6.cell 5
  have g6 := hb6.cell 6
  have g7 := hb6.cell 7
  have g8 := hb6.cell 8
  have g9 := hb6.cell 9
  have g10 := hb6.cell 10
  have z0 := hb7.cell 0
  have z1 := hb7.cell 1
  simp only [List.getElem?_cons_zero, List.getElem?_cons_succ] at g0 g1 g2 g3 g4 g5 g6 g7 g8 g9 g10 z0 z1
  refine ⟨.tuple #[.agg (lsC F' (.slice B1 N1' C1) (.slice B2 N2' C2) (.slice B3 N3' C3)).toArray, .agg #[.int .i64 0, .int .i64 0]], by simp [results, Try.results40, go_sem, g0, g1, g2, g3, g4, g5, g6, g7, g8, g9, g10, z0, z1], ?_⟩
  rw [E.out]
  have f6 : KeptB w.heap.size [60, 40] w5 w7 := by
    refine ((KeptB.refl _ _ w5).step (L := [w.heap.size]) hk6 (fun m hm => ?_)).step (L := [w.heap.size + 1]) hk7 (fun m hm => ?_)
    · simp at hm; subst hm; exact ⟨Nat.le_refl _, _, _, _, HG.out, by simp⟩
    · simp at hm; subst hm; exact ⟨Nat.le_succ _, _, _, _, HH6.out, by simp⟩
  exact ⟨⟨_, _, _, rfl, own_keptB LS.out.o1 f6 (by decide), own_keptB LS.out.o2 f6 (by decide), own_keptB LS.out.o3 f6 (by decide)⟩, K.out.thenB f6 (Nat.le_refl _)⟩
end Go.Proofs.Ytdjidnccockmmaa
