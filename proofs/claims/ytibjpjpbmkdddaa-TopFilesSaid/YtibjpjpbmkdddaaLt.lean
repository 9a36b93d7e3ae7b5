/- Loader: the walk of Encode. -/
import Derived.Test.YtibjpjpbmkdddaaLs
import Derived.Test.YtibjpjpbmkdddaaLr
import Derived.Lib.SlBytesConst
namespace Go.Proofs.Ytibjpjpbmkdddaa
set_option linter.unusedSimpArgs false
set_option linter.unusedVariables false
open Go.ChangeShapes Go.WideShapes Go.ChangeAt Go.RowKit
open Go.RowKit (wrap32 wrap64)
set_option maxHeartbeats 8000000

def kindOf (l : List Ed) : Int := if l.any neOne = true then 1 else 0
/-- What is wrong with a graph that is written. -/
noncomputable def encW (n : Int) (l : List Ed) : Int := if rightP n l ≠ 0 then rightP n l else if risesE l = false then 6 else 0
def encB (n : Int) (l : List Ed) : List UInt8 := rawB (kindOf l, n, l)
def hdrB (k n : Int) (m : Nat) : List UInt8 := frt1 ++ [b8 k] ++ fours [n, (m : Int)]
theorem rawB_hdr (k n : Int) (l : List Ed) : rawB (k, n, l) = hdrB k n l.length ++ l.flatMap (edgeB k) := by simp [rawB, hdrB, fours2]
theorem edgeB_length (k : Int) (e : Ed) : (edgeB k e).length ≤ 12 := by unfold edgeB; split <;> simp [fours_length]
theorem edgesB_length (k : Int) (l : List Ed) : (l.flatMap (edgeB k)).length ≤ 12 * l.length := by
  induction l with
  | nil => simp
  | cons e l ih => have := edgeB_length k e; simp only [List.flatMap_cons, List.length_append, List.length_cons]; omega
theorem right_zero {n : Int} {l : List Ed} (h : rightP n l = 0) : (0 ≤ n ∧ n ≤ 4096) ∧ l.length ≤ 65536 ∧ l.any (outE n) = false ∧ l.any badW = false := by
  unfold rightP at h
  (repeat' split at h) <;> first | (exfalso; omega) | (refine ⟨by omega, by omega, ?_, ?_⟩ <;> simp_all)
theorem hdr_length (k n : Int) (m : Nat) : (hdrB k n m).length = 13 := by simp [hdrB, fours_length]
theorem cat_len (k n : Int) (m : Nat) (l : List Ed) (j : Nat) (hj : j ≤ l.length) (hl : l.length ≤ 65536) : (hdrB k n m ++ (l.take j).flatMap (edgeB k)).length ≤ 1000000 := by
  have h1 := edgesB_length k (l.take j)
  rw [List.length_append, hdr_length]
  rw [List.length_take] at h1
  omega
theorem frt1_V : frt1.map byteV = [.int .u8 70, .int .u8 82, .int .u8 84, .int .u8 49] := by simp [byteV]
theorem frm1_V : frm1.map byteV = [.int .u8 70, .int .u8 82, .int .u8 77, .int .u8 49] := by simp [byteV]
theorem b8_V0 : [b8 0].map byteV = [.int .u8 0] := by simp [byteV_b8']
theorem b8_V1 : [b8 1].map byteV = [.int .u8 1] := by simp [byteV_b8']
theorem reads_marked (w : World) (C : List Value) (t : TypeId) (lo hi : Nat) : Reads (w.alloc (.cells C.toArray t (lo, hi))) (some ⟨w.heap.size, 0, none⟩) C :=
  fun _ => ⟨_, _, rfl, by simp, fun j u hu => by rw [Nat.zero_add, World.cell?_alloc_mark]; simpa using hu⟩
theorem encode_bad (n : Int) (l : List Ed) (A : Option Addr) (c : Nat) (w : World) (hA : Reads w A (l.flatMap edV)) (hl : l.length ≤ maxLen) (h : encW n l ≠ 0) :
    Calls Try.prog 23 #[.agg #[.int .i64 n, .slice A l.length c]] w fun x w' => x = .returned (.tuple #[.slice none 0 0, .int .i64 (encW n l)]) ∧ Kept [] w w' := by
  have HX := Lib.hid (Blk.new w 24 (grV n A l.length c))
  have K0 := Lib.hid ((Kept.refl [] w).alloc (.cells (grV n A l.length c).toArray 24))
  have HA := Lib.hid hA
  clear hA
  by_cases h1 : rightP n l = 0
  · have hr : risesE l = false := by
      unfold encW at h
      rw [if_neg (by simpa using h1)] at h
      cases hz : risesE l
      · rfl
      · rw [hz] at h; simp at h
    have E0 := Lib.hid (show encW n l = 6 by unfold encW; rw [if_neg (by simpa using h1), if_pos hr])
    have E1 := Lib.hid h1
    have E2 := Lib.hid hr
    clear h1 hr h
    go_enter Try.func23, Try.ntmps23
    go_wp2_with fail
    refine (right_any n l A c _ hl (HA.out.kept0 K0.out)).mono ?_
    rintro x w1 ⟨rfl, hk⟩
    rw [E1.out]
    replace K0 := Lib.hid (K0.out.trans hk)
    replace HX := Lib.hid (HX.out.kept hk (by simp))
    clear hk
    generalize hg : w.heap.size = g at HX ⊢
    clear hg
    have x1 := HX.out.cell 1
    simp only [List.getElem?_cons_zero, List.getElem?_cons_succ] at x1
    go_wp2_with fail
    refine (rises_any l A c _ hl (HA.out.kept0 K0.out)).mono ?_
    rintro x w2 ⟨rfl, hk⟩
    rw [E2.out]
    replace K0 := Lib.hid (K0.out.trans hk)
    clear hk x1
    go_wp2_with fail
    refine bodyPost_ret (v := .tuple #[.slice none 0 0, .int .i64 6]) (by simp [results, Try.results23, go_sem]) rfl ?_
    rw [E0.out]
    exact ⟨rfl, K0.out⟩
  · have E0 := Lib.hid (show encW n l = rightP n l by unfold encW; rw [if_pos (by simpa using h1)])
    obtain ⟨e, he⟩ : ∃ e, e = rightP n l := ⟨_, rfl⟩
    rw [← he] at h1
    have E1 := Lib.hid he
    clear he h
    go_enter Try.func23, Try.ntmps23
    go_wp2_with fail
    refine (right_any n l A c _ hl (HA.out.kept0 K0.out)).mono ?_
    rintro x w1 ⟨rfl, hk⟩
    rw [← E1.out]
    replace K0 := Lib.hid (K0.out.trans hk)
    clear hk
    go_wp2_with fail
    refine bodyPost_ret (v := .tuple #[.slice none 0 0, .int .i64 e]) (by simp [results, Try.results23, go_sem]) rfl ?_
    rw [E0.out, ← E1.out]
    exact ⟨rfl, K0.out⟩
set_option maxRecDepth 100000 in
theorem encode_ok0 (n : Int) (l : List Ed) (A : Option Addr) (c : Nat) (w : World) (hA : Reads w A (l.flatMap edV)) (h : encW n l = 0) (hz : l.any neOne = false) :
    Calls Try.prog 23 #[.agg #[.int .i64 n, .slice A l.length c]] w fun x w' => ∃ v, x = .returned (.tuple #[v, .int .i64 0]) ∧ OwnB w' w.heap.size v (rawB (0, n, l)) ∧ Kept [] w w' := by
  have h1 : rightP n l = 0 := by
    unfold encW at h
    by_cases h0 : rightP n l = 0
    · exact h0
    · rw [if_pos h0] at h; exact absurd h h0
  have h2 : risesE l = true := by
    unfold encW at h
    rw [if_neg (by simpa using h1)] at h
    cases hq : risesE l
    · rw [hq] at h; simp at h
    · rfl
  obtain ⟨hn, hl, _, _⟩ := right_zero h1
  have HL := Lib.hid hl
  have hl' : l.length ≤ maxLen := by unfold maxLen; omega
  have HX := Lib.hid (Blk.new w 24 (grV n A l.length c))
  have K0 := Lib.hid ((Kept.refl [] w).alloc (.cells (grV n A l.length c).toArray 24))
  have HA := Lib.hid hA
  have E1 := Lib.hid h1
  have E2 := Lib.hid h2
  have EZ := Lib.hid hz
  clear hA h1 h2 hz h hn
  go_enter Try.func23, Try.ntmps23
  go_wp2_with fail
  refine (right_any n l A c _ hl' (HA.out.kept0 K0.out)).mono ?_
  rintro x w1 ⟨rfl, hk⟩
  rw [E1.out]
  replace K0 := Lib.hid (K0.out.trans hk)
  replace HX := Lib.hid (HX.out.kept hk (by simp))
  clear hk
  obtain ⟨g, hg⟩ : ∃ g, g = w.heap.size := ⟨_, rfl⟩
  rw [← hg] at HX ⊢
  clear hg
  have x1 := HX.out.cell 1
  simp only [List.getElem?_cons_zero, List.getElem?_cons_succ] at x1
  go_wp2_with fail
  refine (rises_any l A c _ hl' (HA.out.kept0 K0.out)).mono ?_
  rintro x w2 ⟨rfl, hk⟩
  rw [E2.out]
  replace K0 := Lib.hid (K0.out.trans hk)
  replace HX := Lib.hid (HX.out.kept hk (by simp))
  clear hk x1
  have x1 := HX.out.cell 1
  simp only [List.getElem?_cons_zero, List.getElem?_cons_succ] at x1
  go_wp2_with fail
  refine (containsNE l A c _ hl' (HA.out.kept0 K0.out)).mono ?_
  rintro x w3 ⟨rfl, hk⟩
  rw [EZ.out]
  replace K0 := Lib.hid (K0.out.trans hk)
  replace HX := Lib.hid (HX.out.kept hk (by simp))
  clear hk x1
  have x0 := HX.out.cell 0
  have x1 := HX.out.cell 1
  have xl := HX.out.lt
  simp only [List.getElem?_cons_zero, List.getElem?_cons_succ] at x0 x1
  have CV : (convert 31 31 (.slice (some ⟨w3.heap.size, 0, none⟩) 4 4)).run Try.prog (w3.alloc (.cells #[.int .u8 70, .int .u8 82, .int .u8 84, .int .u8 49] 5)) = .ok (.slice (some ⟨w3.heap.size, 0, none⟩) 4 4) (w3.alloc (.cells #[.int .u8 70, .int .u8 82, .int .u8 84, .int .u8 49] 5 (4, 5))) := Lib.run_convert_bytes_const w3 31 5 #[.int .u8 70, .int .u8 82, .int .u8 84, .int .u8 49] 4 4 Try.underlying31 Try.underlying5
  go_upto_region 9 with (fail)
  have kA : Kept [] w3 (((w3.alloc (.cells #[.int .u8 70, .int .u8 82, .int .u8 84, .int .u8 49] 5 (4, 5))).alloc (.cells #[.int .u8 0] 5)).alloc (.cells #[.int .i64 n, .int .i64 l.length] 3)) := (((Kept.refl [] w3).alloc _).alloc _).alloc _
  have HB4 := Lib.hid ((reads_marked w3 [.int .u8 70, .int .u8 82, .int .u8 84, .int .u8 49] 5 4 5).kept0 (((Kept.refl [] _).alloc (.cells #[.int .u8 0] 5)).alloc (.cells #[.int .i64 n, .int .i64 l.length] 3)))
  have HB1 := Lib.hid ((Blk.new1F w3 (.cells #[.int .u8 70, .int .u8 82, .int .u8 84, .int .u8 49] 5 (4, 5)) 5 [.int .u8 0]).alloc (.cells #[.int .i64 n, .int .i64 l.length] 3))
  have HB2 := Lib.hid (show Blk (((w3.alloc (.cells #[.int .u8 70, .int .u8 82, .int .u8 84, .int .u8 49] 5 (4, 5))).alloc (.cells #[.int .u8 0] 5)).alloc (.cells #[.int .i64 n, .int .i64 l.length] 3)) (w3.heap.size + 1 + 1) 3 [.int .i64 n, .int .i64 l.length] from Blk.new2 w3 _ _ 3 [.int .i64 n, .int .i64 l.length])
  replace K0 := Lib.hid (K0.out.trans kA)
  have HXA := Lib.hid (HX.out.kept kA (by simp))
  clear kA
  go_wp2_with fail
  refine (lfour_any [n, (l.length : Int)] (some ⟨_, 0, none⟩) 2 2 _ rfl (by decide) (Reads.of_blk HB2.out (fun _ _ h => h))).mono ?_
  rintro x w6 ⟨v, rfl, ho, hk⟩
  obtain ⟨A6, c6, rfl⟩ := own_n ho
  have H0 := Lib.hid (show Reads w6 (some ⟨w3.heap.size, 0, none⟩) (frt1.map byteV) by rw [frt1_V]; exact HB4.out.kept0 hk)
  have H1 := Lib.hid (show Reads w6 (some ⟨w3.heap.size + 1, 0, none⟩) ([b8 0].map byteV) by rw [b8_V0]; exact Reads.of_blk (HB1.out.kept hk (by simp)) (fun _ _ h => h))
  have H2 := Lib.hid (Reads.of_own ho)
  replace K0 := Lib.hid (K0.out.trans hk)
  replace HX := Lib.hid (HXA.out.kept hk (by simp))
  clear hk ho HB4 HB1 HB2 x0 x1 xl HXA CV
  generalize w3.heap.size + 1 = q1 at H1 ⊢
  generalize w3.heap.size = q4 at H0 ⊢
  have hL8 : (fours [n, (l.length : Int)]).length = 8 := by rw [fours_length]; rfl
  have kB : Kept [] w6 (w6.alloc (.cells #[.slice (some ⟨q4, 0, none⟩) 4 4, .slice (some ⟨q1, 0, none⟩) 1 1, .slice A6 (fours [n, (l.length : Int)]).length c6] 31)) := (Kept.refl [] w6).alloc _
  have HB3 := Lib.hid (Blk.new w6 31 [.slice (some ⟨q4, 0, none⟩) 4 4, .slice (some ⟨q1, 0, none⟩) 1 1, .slice A6 (fours [n, (l.length : Int)]).length c6])
  replace H0 := Lib.hid (H0.out.kept0 kB)
  replace H1 := Lib.hid (H1.out.kept0 kB)
  replace H2 := Lib.hid (H2.out.kept0 kB)
  replace K0 := Lib.hid (K0.out.trans kB)
  replace HX := Lib.hid (HX.out.kept kB (by simp))
  have HL8 := Lib.hid hL8
  clear kB hL8
  go_wp2_with fail
  refine (concatB_any frt1 [b8 0] (fours [n, (l.length : Int)]) (some ⟨q4, 0, none⟩) (some ⟨q1, 0, none⟩) A6 4 1 c6 _ _ (by rw [HL8.out]; decide) H0.out H1.out H2.out HB3.out).mono ?_
  rintro x w8 ⟨v, rfl, ho, hk⟩
  have HO := Lib.hid (show OwnB w8 w.heap.size v (hdrB 0 n l.length) from own_le (base' := w.heap.size) ho K0.out.size)
  replace K0 := Lib.hid (K0.out.trans hk)
  obtain ⟨A8, N8, c8, rfl⟩ := own_slice ho
  replace HX := Lib.hid (HX.out.kept hk (by simp))
  clear hk ho H0 H1 H2 HB3
  have x1 := HX.out.cell 1
  have xl := HX.out.lt
  simp only [List.getElem?_cons_zero, List.getElem?_cons_succ] at x1
  go_wp2_with fail
  clear x1 xl
  go_loopw [6, 37] (fun v i wr => ∃ k : Nat, k ≤ l.length ∧ i = .int .i64 k ∧ Hid (OwnB wr w.heap.size v (hdrB 0 n l.length ++ (l.take k).flatMap (edgeB 0))) ∧ Hid (Kept [] w wr)) (fun _ i _ => l.length - (intOf i).toNat)
  case atStart => exact ⟨0, Nat.zero_le _, rfl, Lib.hid (by simpa using HO.out), K0⟩
  case round =>
    clear HO K0
    obtain ⟨k, hk, rfl, HO, K0⟩ := hrel
    obtain ⟨v, hv⟩ : ∃ v, v = u6 := ⟨_, rfl⟩
    subst hv
    by_cases hlt : k < l.length
    · obtain ⟨b, off, rfl, hbl, e0, e1, e2⟩ := edge_at (HA.out.kept0 K0.out) hlt
      obtain ⟨A3, N3, c3, rfl⟩ := own_slice HO.out
      have HCL := Lib.hid (cat_len 0 n l.length l k hk HL.out)
      have HST := Lib.hid (flatB_take (edgeB 0) hlt)
      generalize hcur : hdrB 0 n l.length ++ (l.take k).flatMap (edgeB 0) = cur at HO HCL
      have HCU := Lib.hid hcur
      clear hcur
      generalize hE : l[k] = E at *
      clear hE
      have kC : Kept [] wr ((wr.alloc (.cells #[.int .i64 E.1, .int .i64 E.2.1, .int .i64 E.2.2] 28)).alloc (.cells #[.int .i64 E.1, .int .i64 E.2.1] 3)) := ((Kept.refl [] wr).alloc _).alloc _
      have HB := Lib.hid (Blk.new1F wr (.cells #[.int .i64 E.1, .int .i64 E.2.1, .int .i64 E.2.2] 28) 3 [.int .i64 E.1, .int .i64 E.2.1])
      have HE := Lib.hid ((Blk.new wr 28 [.int .i64 E.1, .int .i64 E.2.1, .int .i64 E.2.2]).alloc (.cells #[.int .i64 E.1, .int .i64 E.2.1] 3))
      replace HO := Lib.hid (HO.out.kept0 kC)
      replace K0 := Lib.hid (K0.out.trans kC)
      clear kC
      go_wp2_with fail
      refine (lfour_any [E.1, E.2.1] (some ⟨_, 0, none⟩) 2 2 _ rfl (by decide) (Reads.of_blk HB.out (fun _ _ h => h))).mono ?_
      rintro x wa ⟨va, rfl, ho, hk⟩
      obtain ⟨A7, c7, rfl⟩ := own_n ho
      have HR := Lib.hid (Reads.of_own ho)
      replace HE := Lib.hid (HE.out.kept hk (by simp))
      replace HO := Lib.hid (HO.out.kept0 hk)
      replace K0 := Lib.hid (K0.out.trans hk)
      have HF := Lib.hid (show (fours [E.1, E.2.1]).length = 8 by rw [fours_length]; rfl)
      have B1 := Lib.hid (show (cur.length + (fours [E.1, E.2.1]).length) * 1 ≤ 140737488355328 by have := HCL.out; rw [HF.out]; omega)
      have B2 := Lib.hid (show cur.length + (fours [E.1, E.2.1]).length ≤ maxLen by have := HCL.out; rw [HF.out]; unfold maxLen; omega)
      clear hk ho e0 e1 e2 hbl HB
      have e0 := HE.out.cell 0
      have e1 := HE.out.cell 1
      have e2 := HE.out.cell 2
      have el := HE.out.lt
      simp only [List.getElem?_cons_zero, List.getElem?_cons_succ] at e0 e1 e2
      go_wp2_with (first | (at_builtin; refine wpList_app _ rfl (.tmp 41) (.tmp 47) _ rfl 5 (.int .u8 0) 1 1 Try.underlying31 infoU8 rfl (by decide) w.heap.size (.slice A3 N3 c3) _ _ rfl HO.out A7 (fours [E.1, E.2.1]).length c7 ((fours [E.1, E.2.1]).map byteV) rfl (by simp) HR.out (bytes_ones _) B1.out B2.out K0.out.size ?_; intro vp wp howna hka hba; have HOp := Lib.hid (OwnB.app howna rfl); have Kp := Lib.hid (K0.out.app hka HO.out); have HEp := Lib.hid (HE.out.kept hka (by have := own_ne_blk HO.out HE.out (by decide); cases hvv : (Value.slice A3 N3 c3).ownBlock with | none => simp | some q => (rw [hvv] at this; simpa [eq_comm] using this))); clear howna hka hba e0 e1 e2 el; have e0 := HEp.out.cell 0; have e1 := HEp.out.cell 1; have e2 := HEp.out.cell 2; have el := HEp.out.lt; simp only [List.getElem?_cons_zero, List.getElem?_cons_succ] at e0 e1 e2))
      go_roundw
      case rel => exact ⟨k + 1, by omega, by go_num, Lib.hid (by have h := HOp.out; rw [← HCU.out, List.append_assoc] at h; rw [HST.out, edgeB, if_neg (by decide)]; exact h), Kp⟩
      case measure => simp [intOf]; omega
    · go_wp2_with fail
      have : k = l.length := by omega
      subst this
      rw [List.take_length] at HO
      refine bodyPost_ret (v := .tuple #[v, .int .i64 0]) (by simp [results, Try.results23, go_sem]) rfl ?_
      exact ⟨_, rfl, by rw [rawB_hdr]; exact HO.out, K0.out⟩
set_option maxRecDepth 100000 in
theorem encode_ok1 (n : Int) (l : List Ed) (A : Option Addr) (c : Nat) (w : World) (hA : Reads w A (l.flatMap edV)) (h : encW n l = 0) (hz : l.any neOne = true) :
    Calls Try.prog 23 #[.agg #[.int .i64 n, .slice A l.length c]] w fun x w' => ∃ v, x = .returned (.tuple #[v, .int .i64 0]) ∧ OwnB w' w.heap.size v (rawB (1, n, l)) ∧ Kept [] w w' := by
  have h1 : rightP n l = 0 := by
    unfold encW at h
    by_cases h0 : rightP n l = 0
    · exact h0
    · rw [if_pos h0] at h; exact absurd h h0
  have h2 : risesE l = true := by
    unfold encW at h
    rw [if_neg (by simpa using h1)] at h
    cases hq : risesE l
    · rw [hq] at h; simp at h
    · rfl
  obtain ⟨hn, hl, _, _⟩ := right_zero h1
  have HL := Lib.hid hl
  have hl' : l.length ≤ maxLen := by unfold maxLen; omega
  have HX := Lib.hid (Blk.new w 24 (grV n A l.length c))
  have K0 := Lib.hid ((Kept.refl [] w).alloc (.cells (grV n A l.length c).toArray 24))
  have HA := Lib.hid hA
  have E1 := Lib.hid h1
  have E2 := Lib.hid h2
  have EZ := Lib.hid hz
  clear hA h1 h2 hz h hn
  go_enter Try.func23, Try.ntmps23
  go_wp2_with fail
  refine (right_any n l A c _ hl' (HA.out.kept0 K0.out)).mono ?_
  rintro x w1 ⟨rfl, hk⟩
  rw [E1.out]
  replace K0 := Lib.hid (K0.out.trans hk)
  replace HX := Lib.hid (HX.out.kept hk (by simp))
  clear hk
  obtain ⟨g, hg⟩ : ∃ g, g = w.heap.size := ⟨_, rfl⟩
  rw [← hg] at HX ⊢
  clear hg
  have x1 := HX.out.cell 1
  simp only [List.getElem?_cons_zero, List.getElem?_cons_succ] at x1
  go_wp2_with fail
  refine (rises_any l A c _ hl' (HA.out.kept0 K0.out)).mono ?_
  rintro x w2 ⟨rfl, hk⟩
  rw [E2.out]
  replace K0 := Lib.hid (K0.out.trans hk)
  replace HX := Lib.hid (HX.out.kept hk (by simp))
  clear hk x1
  have x1 := HX.out.cell 1
  simp only [List.getElem?_cons_zero, List.getElem?_cons_succ] at x1
  go_wp2_with fail
  refine (containsNE l A c _ hl' (HA.out.kept0 K0.out)).mono ?_
  rintro x w3 ⟨rfl, hk⟩
  rw [EZ.out]
  replace K0 := Lib.hid (K0.out.trans hk)
  replace HX := Lib.hid (HX.out.kept hk (by simp))
  clear hk x1
  have x0 := HX.out.cell 0
  have x1 := HX.out.cell 1
  have xl := HX.out.lt
  simp only [List.getElem?_cons_zero, List.getElem?_cons_succ] at x0 x1
  have CV : (convert 31 31 (.slice (some ⟨w3.heap.size, 0, none⟩) 4 4)).run Try.prog (w3.alloc (.cells #[.int .u8 70, .int .u8 82, .int .u8 84, .int .u8 49] 5)) = .ok (.slice (some ⟨w3.heap.size, 0, none⟩) 4 4) (w3.alloc (.cells #[.int .u8 70, .int .u8 82, .int .u8 84, .int .u8 49] 5 (4, 5))) := Lib.run_convert_bytes_const w3 31 5 #[.int .u8 70, .int .u8 82, .int .u8 84, .int .u8 49] 4 4 Try.underlying31 Try.underlying5
  go_upto_region 9 with (fail)
  have kA : Kept [] w3 (((w3.alloc (.cells #[.int .u8 70, .int .u8 82, .int .u8 84, .int .u8 49] 5 (4, 5))).alloc (.cells #[.int .u8 1] 5)).alloc (.cells #[.int .i64 n, .int .i64 l.length] 3)) := (((Kept.refl [] w3).alloc _).alloc _).alloc _
  have HB4 := Lib.hid ((reads_marked w3 [.int .u8 70, .int .u8 82, .int .u8 84, .int .u8 49] 5 4 5).kept0 (((Kept.refl [] _).alloc (.cells #[.int .u8 1] 5)).alloc (.cells #[.int .i64 n, .int .i64 l.length] 3)))
  have HB1 := Lib.hid ((Blk.new1F w3 (.cells #[.int .u8 70, .int .u8 82, .int .u8 84, .int .u8 49] 5 (4, 5)) 5 [.int .u8 1]).alloc (.cells #[.int .i64 n, .int .i64 l.length] 3))
  have HB2 := Lib.hid (show Blk (((w3.alloc (.cells #[.int .u8 70, .int .u8 82, .int .u8 84, .int .u8 49] 5 (4, 5))).alloc (.cells #[.int .u8 1] 5)).alloc (.cells #[.int .i64 n, .int .i64 l.length] 3)) (w3.heap.size + 1 + 1) 3 [.int .i64 n, .int .i64 l.length] from Blk.new2 w3 _ _ 3 [.int .i64 n, .int .i64 l.length])
  replace K0 := Lib.hid (K0.out.trans kA)
  have HXA := Lib.hid (HX.out.kept kA (by simp))
  clear kA
  go_wp2_with fail
  refine (lfour_any [n, (l.length : Int)] (some ⟨_, 0, none⟩) 2 2 _ rfl (by decide) (Reads.of_blk HB2.out (fun _ _ h => h))).mono ?_
  rintro x w6 ⟨v, rfl, ho, hk⟩
  obtain ⟨A6, c6, rfl⟩ := own_n ho
  have H0 := Lib.hid (show Reads w6 (some ⟨w3.heap.size, 0, none⟩) (frt1.map byteV) by rw [frt1_V]; exact HB4.out.kept0 hk)
  have H1 := Lib.hid (show Reads w6 (some ⟨w3.heap.size + 1, 0, none⟩) ([b8 1].map byteV) by rw [b8_V1]; exact Reads.of_blk (HB1.out.kept hk (by simp)) (fun _ _ h => h))
  have H2 := Lib.hid (Reads.of_own ho)
  replace K0 := Lib.hid (K0.out.trans hk)
  replace HX := Lib.hid (HXA.out.kept hk (by simp))
  clear hk ho HB4 HB1 HB2 x0 x1 xl HXA CV
  generalize w3.heap.size + 1 = q1 at H1 ⊢
  generalize w3.heap.size = q4 at H0 ⊢
  have hL8 : (fours [n, (l.length : Int)]).length = 8 := by rw [fours_length]; rfl
  have kB : Kept [] w6 (w6.alloc (.cells #[.slice (some ⟨q4, 0, none⟩) 4 4, .slice (some ⟨q1, 0, none⟩) 1 1, .slice A6 (fours [n, (l.length : Int)]).length c6] 31)) := (Kept.refl [] w6).alloc _
  have HB3 := Lib.hid (Blk.new w6 31 [.slice (some ⟨q4, 0, none⟩) 4 4, .slice (some ⟨q1, 0, none⟩) 1 1, .slice A6 (fours [n, (l.length : Int)]).length c6])
  replace H0 := Lib.hid (H0.out.kept0 kB)
  replace H1 := Lib.hid (H1.out.kept0 kB)
  replace H2 := Lib.hid (H2.out.kept0 kB)
  replace K0 := Lib.hid (K0.out.trans kB)
  replace HX := Lib.hid (HX.out.kept kB (by simp))
  have HL8 := Lib.hid hL8
  clear kB hL8
  go_wp2_with fail
  refine (concatB_any frt1 [b8 1] (fours [n, (l.length : Int)]) (some ⟨q4, 0, none⟩) (some ⟨q1, 0, none⟩) A6 4 1 c6 _ _ (by rw [HL8.out]; decide) H0.out H1.out H2.out HB3.out).mono ?_
  rintro x w8 ⟨v, rfl, ho, hk⟩
  have HO := Lib.hid (show OwnB w8 w.heap.size v (hdrB 1 n l.length) from own_le (base' := w.heap.size) ho K0.out.size)
  replace K0 := Lib.hid (K0.out.trans hk)
  obtain ⟨A8, N8, c8, rfl⟩ := own_slice ho
  replace HX := Lib.hid (HX.out.kept hk (by simp))
  clear hk ho H0 H1 H2 HB3
  have x1 := HX.out.cell 1
  have xl := HX.out.lt
  simp only [List.getElem?_cons_zero, List.getElem?_cons_succ] at x1
  go_wp2_with fail
  clear x1 xl
  go_loopw [6, 37] (fun v i wr => ∃ k : Nat, k ≤ l.length ∧ i = .int .i64 k ∧ Hid (OwnB wr w.heap.size v (hdrB 1 n l.length ++ (l.take k).flatMap (edgeB 1))) ∧ Hid (Kept [] w wr)) (fun _ i _ => l.length - (intOf i).toNat)
  case atStart => exact ⟨0, Nat.zero_le _, rfl, Lib.hid (by simpa using HO.out), K0⟩
  case round =>
    clear HO K0
    obtain ⟨k, hk, rfl, HO, K0⟩ := hrel
    obtain ⟨v, hv⟩ : ∃ v, v = u6 := ⟨_, rfl⟩
    subst hv
    by_cases hlt : k < l.length
    · obtain ⟨b, off, rfl, hbl, e0, e1, e2⟩ := edge_at (HA.out.kept0 K0.out) hlt
      obtain ⟨A3, N3, c3, rfl⟩ := own_slice HO.out
      have HCL := Lib.hid (cat_len 1 n l.length l k hk HL.out)
      have HST := Lib.hid (flatB_take (edgeB 1) hlt)
      generalize hcur : hdrB 1 n l.length ++ (l.take k).flatMap (edgeB 1) = cur at HO HCL
      have HCU := Lib.hid hcur
      clear hcur
      generalize hE : l[k] = E at *
      clear hE
      have kC : Kept [] wr ((wr.alloc (.cells #[.int .i64 E.1, .int .i64 E.2.1, .int .i64 E.2.2] 28)).alloc (.cells #[.int .i64 E.1, .int .i64 E.2.1] 3)) := ((Kept.refl [] wr).alloc _).alloc _
      have HB := Lib.hid (Blk.new1F wr (.cells #[.int .i64 E.1, .int .i64 E.2.1, .int .i64 E.2.2] 28) 3 [.int .i64 E.1, .int .i64 E.2.1])
      have HE := Lib.hid ((Blk.new wr 28 [.int .i64 E.1, .int .i64 E.2.1, .int .i64 E.2.2]).alloc (.cells #[.int .i64 E.1, .int .i64 E.2.1] 3))
      replace HO := Lib.hid (HO.out.kept0 kC)
      replace K0 := Lib.hid (K0.out.trans kC)
      clear kC
      go_wp2_with fail
      refine (lfour_any [E.1, E.2.1] (some ⟨_, 0, none⟩) 2 2 _ rfl (by decide) (Reads.of_blk HB.out (fun _ _ h => h))).mono ?_
      rintro x wa ⟨va, rfl, ho, hk⟩
      obtain ⟨A7, c7, rfl⟩ := own_n ho
      have HR := Lib.hid (Reads.of_own ho)
      replace HE := Lib.hid (HE.out.kept hk (by simp))
      replace HO := Lib.hid (HO.out.kept0 hk)
      replace K0 := Lib.hid (K0.out.trans hk)
      have HF := Lib.hid (show (fours [E.1, E.2.1]).length = 8 by rw [fours_length]; rfl)
      have B1 := Lib.hid (show (cur.length + (fours [E.1, E.2.1]).length) * 1 ≤ 140737488355328 by have := HCL.out; rw [HF.out]; omega)
      have B2 := Lib.hid (show cur.length + (fours [E.1, E.2.1]).length ≤ maxLen by have := HCL.out; rw [HF.out]; unfold maxLen; omega)
      clear hk ho e0 e1 e2 hbl HB
      have e0 := HE.out.cell 0
      have e1 := HE.out.cell 1
      have e2 := HE.out.cell 2
      have el := HE.out.lt
      simp only [List.getElem?_cons_zero, List.getElem?_cons_succ] at e0 e1 e2
      go_upto_region 15 with (first | (at_builtin; refine wpList_app _ rfl (.tmp 41) (.tmp 47) _ rfl 5 (.int .u8 0) 1 1 Try.underlying31 infoU8 rfl (by decide) w.heap.size (.slice A3 N3 c3) _ _ rfl HO.out A7 (fours [E.1, E.2.1]).length c7 ((fours [E.1, E.2.1]).map byteV) rfl (by simp) HR.out (bytes_ones _) B1.out B2.out K0.out.size ?_; intro vp wp howna hka hba; have HOp := Lib.hid (OwnB.app howna rfl); have Kp := Lib.hid (K0.out.app hka HO.out); have HEp := Lib.hid (HE.out.kept hka (by have := own_ne_blk HO.out HE.out (by decide); cases hvv : (Value.slice A3 N3 c3).ownBlock with | none => simp | some q => (rw [hvv] at this; simpa [eq_comm] using this))); clear howna hka hba e0 e1 e2 el; have e0 := HEp.out.cell 0; have e1 := HEp.out.cell 1; have e2 := HEp.out.cell 2; have el := HEp.out.lt; simp only [List.getElem?_cons_zero, List.getElem?_cons_succ] at e0 e1 e2))
      obtain ⟨A8, N8, c8, rfl⟩ := own_slice HOp.out
      have kD : Kept [] wp (wp.alloc (.cells #[.int .i64 E.2.2] 3)) := (Kept.refl [] wp).alloc _
      have HB := Lib.hid (Blk.new wp 3 [.int .i64 E.2.2])
      replace HO := Lib.hid (HOp.out.kept0 kD)
      replace K0 := Lib.hid (Kp.out.trans kD)
      replace HE := Lib.hid (HEp.out.kept kD (by simp))
      clear kD HOp Kp HEp HR B1 B2
      go_wp2_with fail
      refine (lfour_any [E.2.2] (some ⟨_, 0, none⟩) 1 1 _ rfl (by decide) (Reads.of_blk HB.out (fun _ _ h => h))).mono ?_
      rintro x wb ⟨vb, rfl, ho, hk⟩
      obtain ⟨A9, c9, rfl⟩ := own_n ho
      have HR := Lib.hid (Reads.of_own ho)
      replace HE := Lib.hid (HE.out.kept hk (by simp))
      replace HO := Lib.hid (HO.out.kept0 hk)
      replace K0 := Lib.hid (K0.out.trans hk)
      have HF1 := Lib.hid (show (fours [E.2.2]).length = 4 by rw [fours_length]; rfl)
      have B1 := Lib.hid (show ((cur ++ fours [E.1, E.2.1]).length + (fours [E.2.2]).length) * 1 ≤ 140737488355328 by have := HCL.out; rw [HF1.out, List.length_append, HF.out]; omega)
      have B2 := Lib.hid (show (cur ++ fours [E.1, E.2.1]).length + (fours [E.2.2]).length ≤ maxLen by have := HCL.out; rw [HF1.out, List.length_append, HF.out]; unfold maxLen; omega)
      clear hk ho e0 e1 e2 el HB
      have e0 := HE.out.cell 0
      have e1 := HE.out.cell 1
      have e2 := HE.out.cell 2
      have el := HE.out.lt
      simp only [List.getElem?_cons_zero, List.getElem?_cons_succ] at e0 e1 e2
      go_wp2_with (first | (at_builtin; refine wpList_app _ rfl (.tmp 51) (.tmp 55) _ rfl 5 (.int .u8 0) 1 1 Try.underlying31 infoU8 rfl (by decide) w.heap.size (.slice A8 N8 c8) _ _ rfl HO.out A9 (fours [E.2.2]).length c9 ((fours [E.2.2]).map byteV) rfl (by simp) HR.out (bytes_ones _) B1.out B2.out K0.out.size ?_; intro vq wq howna hka hba; have HOq := Lib.hid (OwnB.app howna rfl); have Kq := Lib.hid (K0.out.app hka HO.out); have HEq := Lib.hid (HE.out.kept hka (by have := own_ne_blk HO.out HE.out (by decide); cases hvv : (Value.slice A8 N8 c8).ownBlock with | none => simp | some q => (rw [hvv] at this; simpa [eq_comm] using this))); clear howna hka hba e0 e1 e2 el; have e0 := HEq.out.cell 0; have e1 := HEq.out.cell 1; have e2 := HEq.out.cell 2; have el := HEq.out.lt; simp only [List.getElem?_cons_zero, List.getElem?_cons_succ] at e0 e1 e2))
      go_roundw
      case rel => exact ⟨k + 1, by omega, by go_num, Lib.hid (by have h := HOq.out; rw [← HCU.out] at h; rw [HST.out, edgeB, if_pos rfl, fours3]; simpa [fours2, List.append_assoc] using h), Kq⟩
      case measure => simp [intOf]; omega
    · go_wp2_with fail
      have : k = l.length := by omega
      subst this
      rw [List.take_length] at HO
      refine bodyPost_ret (v := .tuple #[v, .int .i64 0]) (by simp [results, Try.results23, go_sem]) rfl ?_
      exact ⟨_, rfl, by rw [rawB_hdr]; exact HO.out, K0.out⟩
end Go.Proofs.Ytibjpjpbmkdddaa
