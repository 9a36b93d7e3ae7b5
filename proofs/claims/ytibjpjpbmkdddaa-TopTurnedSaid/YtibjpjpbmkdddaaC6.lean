/- slices.Equal of like rows, csr.Same of like matrices, SameItems of like items. -/
import Derived.Test.YtibjpjpbmkdddaaC5
namespace Go.Proofs.Ytibjpjpbmkdddaa
set_option linter.unusedSimpArgs false
set_option linter.unusedVariables false
open Go.ChangeShapes Go.WideShapes Go.ChangeAt Go.RowKit
open Go.RowKit (wrap32 wrap64)
set_option maxHeartbeats 8000000

theorem equalI_true (xs : List Int) (A B : Option Addr) (c d : Nat) (w : World) (hl : xs.length ≤ 1048576) (hr : Reads w A (xs.map vI)) (hs : Reads w B (xs.map vI)) :
    Calls Try.prog 56 #[.slice A xs.length c, .slice B xs.length d] w fun e w' => e = .returned (.bool true) ∧ Kept [] w w' := by
  have HR := Lib.hid hr
  have HS := Lib.hid hs
  have K0 := Lib.hid (Kept.refl [] w)
  clear hr hs
  go_enter Try.func56, Try.ntmps56
  go_wp2_with fail
  go_loopw [13] (fun i wr => ∃ k : Nat, k ≤ xs.length ∧ i = .int .i64 k ∧ Hid (Kept [] w wr)) (fun i _ => xs.length - (intOf i).toNat)
  case atStart => exact ⟨0, Nat.zero_le _, rfl, K0⟩
  case round =>
    clear K0
    obtain ⟨k, hk, rfl, K0⟩ := hrel
    by_cases hlt : k < xs.length
    · obtain ⟨b, off, rfl, hb, hc⟩ := ints_at (HR.out.kept0 K0.out) hlt
      obtain ⟨b', off', rfl, hb', hc'⟩ := ints_at (HS.out.kept0 K0.out) hlt
      have c0 := hc k hlt
      have c1 := hc' k hlt
      obtain ⟨q, hq⟩ : ∃ q, q = xs[k] := ⟨_, rfl⟩
      rw [← hq] at c0 c1
      clear hq hc hc'
      go_wp2_with fail
      go_quiet (fail)
      go_wp2_with fail
      go_roundw
      case rel => exact ⟨k + 1, by omega, by go_num, Lib.hid (K0.out.drewN _)⟩
      case measure => simp [intOf]; omega
    · obtain rfl : k = xs.length := by omega
      go_wp2_with fail
      go_ret
      exact ⟨rfl, K0.out⟩

theorem equalJ_true (xs : List Int) (A B : Option Addr) (c d : Nat) (w : World) (hl : xs.length ≤ 1048576) (hr : Reads w A (xs.map vI)) (hs : Reads w B (xs.map vI)) :
    Calls Try.prog 57 #[.slice A xs.length c, .slice B xs.length d] w fun e w' => e = .returned (.bool true) ∧ Kept [] w w' := by
  have HR := Lib.hid hr
  have HS := Lib.hid hs
  have K0 := Lib.hid (Kept.refl [] w)
  clear hr hs
  go_enter Try.func57, Try.ntmps57
  go_wp2_with fail
  go_loopw [13] (fun i wr => ∃ k : Nat, k ≤ xs.length ∧ i = .int .i64 k ∧ Hid (Kept [] w wr)) (fun i _ => xs.length - (intOf i).toNat)
  case atStart => exact ⟨0, Nat.zero_le _, rfl, K0⟩
  case round =>
    clear K0
    obtain ⟨k, hk, rfl, K0⟩ := hrel
    by_cases hlt : k < xs.length
    · obtain ⟨b, off, rfl, hb, hc⟩ := ints_at (HR.out.kept0 K0.out) hlt
      obtain ⟨b', off', rfl, hb', hc'⟩ := ints_at (HS.out.kept0 K0.out) hlt
      have c0 := hc k hlt
      have c1 := hc' k hlt
      obtain ⟨q, hq⟩ : ∃ q, q = xs[k] := ⟨_, rfl⟩
      rw [← hq] at c0 c1
      clear hq hc hc'
      go_wp2_with fail
      go_quiet (fail)
      go_wp2_with fail
      go_roundw
      case rel => exact ⟨k + 1, by omega, by go_num, Lib.hid (K0.out.drewN _)⟩
      case measure => simp [intOf]; omega
    · obtain rfl : k = xs.length := by omega
      go_wp2_with fail
      go_ret
      exact ⟨rfl, K0.out⟩

set_option maxRecDepth 100000 in
theorem same_true (n base base' : Nat) (l : List Ed) (v1 v2 v3 u1 u2 u3 : Value) (w : World) (hn : n ≤ 4096) (hl : l.length ≤ 65536) (hm : MtAt w base v1 v2 v3 n l) (hm' : MtAt w base' u1 u2 u3 n l) :
    Calls Try.prog 15 #[.agg #[.int .i64 n, .int .i64 n, v1, v2, v3], .agg #[.int .i64 n, .int .i64 n, u1, u2, u3]] w fun e w' => e = .returned (.bool true) ∧ Kept [] w w' := by
  obtain ⟨b1, c1, A2, c2, A3, c3, rfl, rfl, rfl, _, _⟩ := hm.form
  obtain ⟨e1, d1, B2, d2, B3, d3, rfl, rfl, rfl, _, _⟩ := hm'.form
  have HX := Lib.hid ((Blk.new w 44 [.int .i64 n, .int .i64 n, .slice (some ⟨b1, 0, none⟩) (n + 1) c1, .slice A2 l.length c2, .slice A3 l.length c3]).alloc (.cells #[.int .i64 n, .int .i64 n, .slice (some ⟨e1, 0, none⟩) (n + 1) d1, .slice B2 l.length d2, .slice B3 l.length d3] 44))
  have HY := Lib.hid (Blk.new1F w (.cells #[.int .i64 n, .int .i64 n, .slice (some ⟨b1, 0, none⟩) (n + 1) c1, .slice A2 l.length c2, .slice A3 l.length c3] 44) 44 [.int .i64 n, .int .i64 n, .slice (some ⟨e1, 0, none⟩) (n + 1) d1, .slice B2 l.length d2, .slice B3 l.length d3])
  have K0 := Lib.hid (((Kept.refl [] w).alloc (.cells #[.int .i64 n, .int .i64 n, .slice (some ⟨b1, 0, none⟩) (n + 1) c1, .slice A2 l.length c2, .slice A3 l.length c3] 44)).alloc (.cells #[.int .i64 n, .int .i64 n, .slice (some ⟨e1, 0, none⟩) (n + 1) d1, .slice B2 l.length d2, .slice B3 l.length d3] 44))
  have HM := Lib.hid (hm.kept0 K0.out)
  have HM' := Lib.hid (hm'.kept0 K0.out)
  have hls : (startP n l).length = n + 1 := by simp [startP, stL]
  have HE1 := Lib.hid (fun wx h h' => by
    have := equalI_true (startP n l) (some ⟨b1, 0, none⟩) (some ⟨e1, 0, none⟩) c1 d1 wx (by omega) (Reads.of_own (MtAt.o1 h)) (Reads.of_own (MtAt.o1 h'))
    rwa [hls] at this : ∀ wx : World, MtAt wx base (.slice (some ⟨b1, 0, none⟩) (n + 1) c1) (.slice A2 l.length c2) (.slice A3 l.length c3) n l → MtAt wx base' (.slice (some ⟨e1, 0, none⟩) (n + 1) d1) (.slice B2 l.length d2) (.slice B3 l.length d3) n l → Calls Try.prog 56 #[.slice (some ⟨b1, 0, none⟩) (n + 1) c1, .slice (some ⟨e1, 0, none⟩) (n + 1) d1] wx fun e w' => e = .returned (.bool true) ∧ Kept [] wx w')
  have HE2 := Lib.hid (fun wx h h' => by
    have e2 : colV l = (l.map (fun e => e.2.1)).map vI := by simp [colV]
    have := equalI_true (l.map (fun e => e.2.1)) A2 B2 c2 d2 wx (by simp; omega) (e2 ▸ Reads.of_own (MtAt.o2 h)) (e2 ▸ Reads.of_own (MtAt.o2 h'))
    rwa [List.length_map] at this : ∀ wx : World, MtAt wx base (.slice (some ⟨b1, 0, none⟩) (n + 1) c1) (.slice A2 l.length c2) (.slice A3 l.length c3) n l → MtAt wx base' (.slice (some ⟨e1, 0, none⟩) (n + 1) d1) (.slice B2 l.length d2) (.slice B3 l.length d3) n l → Calls Try.prog 56 #[.slice A2 l.length c2, .slice B2 l.length d2] wx fun e w' => e = .returned (.bool true) ∧ Kept [] wx w')
  have HE3 := Lib.hid (fun wx h h' => by
    have e2 : valV l = (l.map (fun e => e.2.2)).map vI := by simp [valV]
    have := equalJ_true (l.map (fun e => e.2.2)) A3 B3 c3 d3 wx (by simp; omega) (e2 ▸ Reads.of_own (MtAt.o3 h)) (e2 ▸ Reads.of_own (MtAt.o3 h'))
    rwa [List.length_map] at this : ∀ wx : World, MtAt wx base (.slice (some ⟨b1, 0, none⟩) (n + 1) c1) (.slice A2 l.length c2) (.slice A3 l.length c3) n l → MtAt wx base' (.slice (some ⟨e1, 0, none⟩) (n + 1) d1) (.slice B2 l.length d2) (.slice B3 l.length d3) n l → Calls Try.prog 57 #[.slice A3 l.length c3, .slice B3 l.length d3] wx fun e w' => e = .returned (.bool true) ∧ Kept [] wx w')
  clear hm hm' hls
  go_enter Try.func15, Try.ntmps15
  go_upto_region 1 with (fail)
  generalize ((w.alloc (.cells #[.int .i64 n, .int .i64 n, .slice (some ⟨b1, 0, none⟩) (n + 1) c1, .slice A2 l.length c2, .slice A3 l.length c3] 44)).alloc (.cells #[.int .i64 n, .int .i64 n, .slice (some ⟨e1, 0, none⟩) (n + 1) d1, .slice B2 l.length d2, .slice B3 l.length d3] 44)) = w1 at *
  generalize w.heap.size + 1 = g2 at HY ⊢
  generalize w.heap.size = g1 at HX ⊢
  have x0 := HX.out.cell 0
  have x1 := HX.out.cell 1
  have x2 := HX.out.cell 2
  have x3 := HX.out.cell 3
  have x4 := HX.out.cell 4
  have y0 := HY.out.cell 0
  have y1 := HY.out.cell 1
  have y2 := HY.out.cell 2
  have y3 := HY.out.cell 3
  have y4 := HY.out.cell 4
  simp only [List.getElem?_cons_zero, List.getElem?_cons_succ] at x0 x1 x2 x3 x4 y0 y1 y2 y3 y4
  go_wp2_with fail
  refine (HE1.out w1 HM.out HM'.out).mono ?_
  rintro _ w2 ⟨rfl, hk⟩
  replace HX := Lib.hid (HX.out.kept hk (by simp))
  replace HY := Lib.hid (HY.out.kept hk (by simp))
  replace HM := Lib.hid (HM.out.kept0 hk)
  replace HM' := Lib.hid (HM'.out.kept0 hk)
  replace K0 := Lib.hid (K0.out.trans hk)
  clear hk x0 x1 x2 x3 x4 y0 y1 y2 y3 y4
  have x0 := HX.out.cell 0
  have x1 := HX.out.cell 1
  have x2 := HX.out.cell 2
  have x3 := HX.out.cell 3
  have x4 := HX.out.cell 4
  have y0 := HY.out.cell 0
  have y1 := HY.out.cell 1
  have y2 := HY.out.cell 2
  have y3 := HY.out.cell 3
  have y4 := HY.out.cell 4
  simp only [List.getElem?_cons_zero, List.getElem?_cons_succ] at x0 x1 x2 x3 x4 y0 y1 y2 y3 y4
  go_wp2_with fail
  refine (HE2.out w2 HM.out HM'.out).mono ?_
  rintro _ w3 ⟨rfl, hk⟩
  replace HX := Lib.hid (HX.out.kept hk (by simp))
  replace HY := Lib.hid (HY.out.kept hk (by simp))
  replace HM := Lib.hid (HM.out.kept0 hk)
  replace HM' := Lib.hid (HM'.out.kept0 hk)
  replace K0 := Lib.hid (K0.out.trans hk)
  clear hk x0 x1 x2 x3 x4 y0 y1 y2 y3 y4
  have x0 := HX.out.cell 0
  have x1 := HX.out.cell 1
  have x2 := HX.out.cell 2
  have x3 := HX.out.cell 3
  have x4 := HX.out.cell 4
  have y0 := HY.out.cell 0
  have y1 := HY.out.cell 1
  have y2 := HY.out.cell 2
  have y3 := HY.out.cell 3
  have y4 := HY.out.cell 4
  simp only [List.getElem?_cons_zero, List.getElem?_cons_succ] at x0 x1 x2 x3 x4 y0 y1 y2 y3 y4
  go_wp2_with fail
  refine (HE3.out w3 HM.out HM'.out).mono ?_
  rintro _ w4 ⟨rfl, hk⟩
  replace HX := Lib.hid (HX.out.kept hk (by simp))
  replace HY := Lib.hid (HY.out.kept hk (by simp))
  replace HM := Lib.hid (HM.out.kept0 hk)
  replace HM' := Lib.hid (HM'.out.kept0 hk)
  replace K0 := Lib.hid (K0.out.trans hk)
  clear hk x0 x1 x2 x3 x4 y0 y1 y2 y3 y4
  go_wp2_with fail
  go_ret
  exact ⟨rfl, K0.out⟩

theorem fieldsItem : Try.prog.underlying 102 = some (.struct (Try.prog.fieldsOf 102)) := by kernel_rfl
theorem stoodItem : Try.prog.stoodInHeld 102 = false := by kernel_rfl
theorem guardItem : Try.prog.eqGuardType Try.prog.depth 102 = false := by kernel_rfl
theorem neqItem (a b : Int) (w : World) : (binOp .neq 102 (.agg #[.int .i64 a, .int .i64 b]) (.agg #[.int .i64 a, .int .i64 b])).run Try.prog w = .ok (.bool false) w := by
  have u1 := Try.underlying3
  have u2 := Try.underlying2
  have a1 := Try.isAgg3
  have a2 := Try.isAgg2
  have z1 := Try.sizeOf3
  have z2 := Try.sizeOf2
  rw [run_neq_struct, show (10000 : Nat) = 9999 + 1 from rfl, run_equalIn_agg w 9999 102 _ _ fieldsItem stoodItem]
  simp only [Program.fieldsOf, Try.underlying102]
  go_simp
theorem item_at {w : World} {A : Option Addr} {l : List Ed} (h : Reads w A (l.flatMap itV)) {k : Nat} (hk : k < l.length) :
    ∃ b off, A = some ⟨b, off, none⟩ ∧ b < w.heap.size ∧ w.cell? ⟨b, off + k * 2, none⟩ = some (.int .i64 l[k].2.1) ∧ w.cell? ⟨b, off + k * 2 + 1, none⟩ = some (.int .i64 l[k].2.2) := by
  obtain ⟨b, off, e, hb, hc⟩ := rec_cell (m := 2) (fun _ _ => rfl) (by decide) h hk
  exact ⟨b, off, e, hb, hc 0 _ rfl, hc 1 _ rfl⟩
set_option maxRecDepth 100000 in
theorem sameItems_true (l : List Ed) (A B : Option Addr) (c d : Nat) (w : World) (hl : l.length ≤ 1048576) (hr : Reads w A (l.flatMap itV)) (hs : Reads w B (l.flatMap itV)) :
    Calls Try.prog 18 #[.slice A l.length c, .slice B l.length d] w fun e w' => e = .returned (.bool true) ∧ Kept [] w w' := by
  have HR := Lib.hid hr
  have HS := Lib.hid hs
  have K0 := Lib.hid (Kept.refl [] w)
  clear hr hs
  go_enter Try.func18, Try.ntmps18
  go_wp2_with fail
  go_loopw [5] (fun i wr => ∃ k : Nat, k ≤ l.length ∧ i = .int .i64 k ∧ Hid (Kept [] w wr)) (fun i _ => l.length - (intOf i).toNat)
  case atStart => exact ⟨0, Nat.zero_le _, rfl, K0⟩
  case round =>
    clear K0
    obtain ⟨k, hk, rfl, K0⟩ := hrel
    by_cases hlt : k < l.length
    · obtain ⟨b, off, rfl, hb, c0, c1⟩ := item_at (HR.out.kept0 K0.out) hlt
      obtain ⟨b', off', rfl, hb', p0, p1⟩ := item_at (HS.out.kept0 K0.out) hlt
      have F3 := guardItem
      have F4 := neqItem l[k].2.1 l[k].2.2
      obtain ⟨q, hq⟩ : ∃ q, q = l[k] := ⟨_, rfl⟩
      rw [← hq] at c0 c1 p0 p1 F4
      clear hq
      obtain ⟨q1, q2, q3⟩ := q
      dsimp only at c0 c1 p0 p1 F4
      go_wp2_with fail
      go_quiet (fail)
      go_wp2_with fail
      go_roundw
      case rel => exact ⟨k + 1, by omega, by go_num, Lib.hid (K0.out.drewN _)⟩
      case measure => simp [intOf]; omega
    · obtain rfl : k = l.length := by omega
      go_wp2_with fail
      go_ret
      exact ⟨rfl, K0.out⟩
end Go.Proofs.Ytibjpjpbmkdddaa
