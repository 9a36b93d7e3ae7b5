/- Loader: what must be whatever is asked. -/
import Derived.Test.YtfnhfmffkjljnaaGreatLv
import Derived.Test.YtfnhfmffkjljnaaGreatE20
namespace Go.Proofs.YtfnhfmffkjljnaaGreat
set_option linter.unusedSimpArgs false
set_option linter.unusedVariables false
open Go.ChangeShapes Go.WideShapes Go.ChangeAt Go.RowKit
open Go.RowKit (wrap32 wrap64)
set_option maxHeartbeats 8000000

abbrev E1L : List Ed := [(0, 1, 1)]
abbrev M1L : List Ed := [(1, 2, -7)]
abbrev mgc : List UInt8 := [70, 82, 84, 50, 32, 97, 110, 100, 32, 109, 111, 114, 101, 32, 116, 104, 97, 110, 32, 116, 104, 97, 116]
theorem mgc_V : mgc.map byteV = [.int .u8 70, .int .u8 82, .int .u8 84, .int .u8 50, .int .u8 32, .int .u8 97, .int .u8 110, .int .u8 100, .int .u8 32, .int .u8 109, .int .u8 111, .int .u8 114, .int .u8 101, .int .u8 32, .int .u8 116, .int .u8 104, .int .u8 97, .int .u8 110, .int .u8 32, .int .u8 116, .int .u8 104, .int .u8 97, .int .u8 116] := by simp [byteV]
theorem rises_one (e : Ed) : risesE [e] = true := risesE_true (fun i h => by simp at h)
theorem E1_encW : encW 2 E1L = 0 := by
  unfold encW
  rw [show rightP 2 E1L = 0 by decide, rises_one]
  decide
theorem E1_len : (encB 2 E1L).length = 21 := by
  unfold encB
  rw [rawB_hdr, List.length_append, hdr_length, show kindOf E1L = 0 by decide]
  simp [edgeB, fours_length]
theorem E1_in : ∀ e ∈ E1L, In64 e.2.2 := by intro e he; simp at he; subst he; unfold In64; decide
theorem dec_nil : decG [] = .error (2, 0) := by
  have h := decG_cut (okRaw_enc (encW_zero E1_encW).1) (k := 0) (by have := E1_len; unfold encB at this; omega)
  exact h
theorem canonB_nil : canonB [] = false := by unfold canonB; rw [dec_nil]
theorem dec_mgc : decG mgc = .error (1, 0) := by
  have h : (Rd.mk mgc 0 0 0).mark frt1 = .error (1, 0) := by
    obtain ⟨a1, a2⟩ := take_full (b := mgc) (pos := 0) (k := 4) (by decide)
    unfold Rd.mark
    have a1' : (Rd.mk mgc 0 0 0).after 4 = ⟨mgc, 4, 0, 0⟩ := a1
    have a2' : (Rd.mk mgc 0 0 0).got 4 = [70, 82, 84, 50] := a2
    rw [a1', a2', if_neg (by simp), if_neg (by decide)]
  unfold decG Rd.graphE
  rw [h]
  rfl
theorem mat_full {u : Raw} (h : okMat u) : decM (matB u) = .ok u := by unfold decM; rw [mat_E, good_mat.efull h]; rfl
theorem M1_ok : okMat (2, 3, M1L) := by
  refine ⟨by decide, by decide, by decide, ⟨⟨by decide, by decide, ?_⟩, by decide⟩, trivial⟩
  unfold In64'
  decide
theorem M1_encW : encMW 2 3 M1L = 0 := by
  unfold encMW
  rw [if_neg (by decide), if_neg (by decide), if_neg (by decide), rises_one, if_neg (by decide)]
theorem M1_len : (matB (2, 3, M1L)).length = 32 := by rw [matB_hdr, List.length_append, hdrM_length]; simp [tripB_length]
set_option maxRecDepth 100000 in
theorem live6_any (w : World) : Calls Tryz.prog 8 #[] w fun e w' => e = .returned (.bool true) ∧ Kept [] w w' := by
  go_enter Tryz.func8, Tryz.ntmps8
  go_upto_region 2 with (fail)
  have HE := Lib.hid ((Blk.new w 52 [.int .i64 0, .int .i64 1, .int .i64 1]).alloc (.cells #[.int .i64 2, .slice (some ⟨w.heap.size, 0, none⟩) 1 1] 24))
  have HB := Lib.hid (Blk.new1F w (.cells #[.int .i64 0, .int .i64 1, .int .i64 1] 52) 24 [.int .i64 2, .slice (some ⟨w.heap.size, 0, none⟩) 1 1])
  have K0 := Lib.hid (((Kept.refl [] w).alloc (.cells #[.int .i64 0, .int .i64 1, .int .i64 1] 52)).alloc (.cells #[.int .i64 2, .slice (some ⟨w.heap.size, 0, none⟩) 1 1] 24))
  generalize (w.alloc (.cells #[.int .i64 0, .int .i64 1, .int .i64 1] 52)).alloc (.cells #[.int .i64 2, .slice (some ⟨w.heap.size, 0, none⟩) 1 1] 24) = w1 at *
  generalize w.heap.size + 1 = g1 at HB ⊢
  generalize w.heap.size = gE at HE HB ⊢
  have HR := Lib.hid (show Reads w1 (some ⟨gE, 0, none⟩) (E1L.flatMap edV) from Reads.of_blk HE.out (fun _ _ h => h))
  clear HE
  have x0 := HB.out.cell 0
  have x1 := HB.out.cell 1
  have xl := HB.out.lt
  simp only [List.getElem?_cons_zero, List.getElem?_cons_succ] at x0 x1
  go_wp2_with fail
  refine (encode_any 2 E1L (some ⟨gE, 0, none⟩) 1 _ HR.out (by decide)).mono ?_
  rintro x w2 ⟨⟨v, rfl, hb⟩, hk⟩
  rw [if_pos E1_encW] at hb
  rw [E1_encW]
  obtain ⟨Ab, cb, rfl⟩ := own_n hb
  have RB := Lib.hid (Reads.of_own hb)
  replace HB := Lib.hid (HB.out.kept hk (by simp))
  replace HR := Lib.hid (HR.out.kept0 hk)
  replace K0 := Lib.hid (K0.out.trans hk)
  have HL := Lib.hid E1_len
  have HDE := Lib.hid (decG_enc E1_encW)
  have HCN := Lib.hid (canonB_enc E1_encW)
  clear hk hb x0 x1 xl
  generalize encB 2 E1L = bs at *
  go_wp2_with fail
  refine (decode_any bs Ab cb _ RB.out (by rw [HL.out]; decide)).mono ?_
  intro x w3 hx
  rw [HDE.out] at hx
  obtain ⟨⟨v, rfl, ho⟩, hk⟩ := hx
  obtain ⟨Ah, ch, hv⟩ := own_n ho
  have hv1 : v = .slice Ah 1 ch := hv
  clear hv
  subst hv1
  have RH := Lib.hid (Reads.of_own ho)
  replace HB := Lib.hid (HB.out.kept hk (by simp))
  replace HR := Lib.hid (HR.out.kept0 hk)
  replace RB := Lib.hid (RB.out.kept0 hk)
  replace K0 := Lib.hid (K0.out.trans hk)
  clear hk ho
  have kT : Kept [] w3 ((w3.alloc (.cells #[.int .i64 2, .slice Ah 1 ch] 24)).alloc (.cells #[.int .i64 0, .int .i64 0] 33)) := ((Kept.refl [] w3).alloc _).alloc _
  have H4 := Lib.hid ((Blk.new w3 24 [.int .i64 2, .slice Ah 1 ch]).alloc (.cells #[.int .i64 0, .int .i64 0] 33))
  have H5 := Lib.hid (Blk.new1F w3 (.cells #[.int .i64 2, .slice Ah 1 ch] 24) 33 [.int .i64 0, .int .i64 0])
  replace HB := Lib.hid (HB.out.kept kT (by simp))
  replace HR := Lib.hid (HR.out.kept0 kT)
  replace RB := Lib.hid (RB.out.kept0 kT)
  replace RH := Lib.hid (RH.out.kept0 kT)
  replace K0 := Lib.hid (K0.out.trans kT)
  clear kT
  go_upto_region 4 with (fail)
  generalize (w3.alloc (.cells #[.int .i64 2, .slice Ah 1 ch] 24)).alloc (.cells #[.int .i64 0, .int .i64 0] 33) = wn4 at *
  generalize w3.heap.size + 1 = f5 at H5 ⊢
  generalize w3.heap.size = h4 at H4 ⊢
  go_wp2_with fail
  refine (decode_any [] none 0 _ (Reads.nil _ _) (by decide)).mono ?_
  intro x w5 hx
  rw [dec_nil] at hx
  obtain ⟨rfl, hk⟩ := hx
  replace HB := Lib.hid (HB.out.kept hk (by simp))
  replace H4 := Lib.hid (H4.out.kept hk (by simp))
  replace H5 := Lib.hid (H5.out.kept hk (by simp))
  replace HR := Lib.hid (HR.out.kept0 hk)
  replace RB := Lib.hid (RB.out.kept0 hk)
  replace RH := Lib.hid (RH.out.kept0 hk)
  replace K0 := Lib.hid (K0.out.trans hk)
  clear hk
  have kT : Kept [] w5 ((w5.alloc (.cells #[.int .i64 0, .slice none 0 0] 24)).alloc (.cells #[.int .i64 2, .int .i64 0] 33)) := ((Kept.refl [] w5).alloc _).alloc _
  have H6 := Lib.hid ((Blk.new w5 24 [.int .i64 0, .slice none 0 0]).alloc (.cells #[.int .i64 2, .int .i64 0] 33))
  have H7 := Lib.hid (Blk.new1F w5 (.cells #[.int .i64 0, .slice none 0 0] 24) 33 [.int .i64 2, .int .i64 0])
  replace HB := Lib.hid (HB.out.kept kT (by simp))
  replace H4 := Lib.hid (H4.out.kept kT (by simp))
  replace H5 := Lib.hid (H5.out.kept kT (by simp))
  replace HR := Lib.hid (HR.out.kept0 kT)
  replace RB := Lib.hid (RB.out.kept0 kT)
  replace RH := Lib.hid (RH.out.kept0 kT)
  replace K0 := Lib.hid (K0.out.trans kT)
  clear kT
  go_upto_region 5 with (fail)
  generalize (w5.alloc (.cells #[.int .i64 0, .slice none 0 0] 24)).alloc (.cells #[.int .i64 2, .int .i64 0] 33) = wn5 at *
  generalize w5.heap.size + 1 = f7 at H7 ⊢
  generalize w5.heap.size = h6 at H6 ⊢
  have CV : (convert 26 26 (.slice (some ⟨wn5.heap.size, 0, none⟩) 23 23)).run Tryz.prog (wn5.alloc (.cells #[.int .u8 70, .int .u8 82, .int .u8 84, .int .u8 50, .int .u8 32, .int .u8 97, .int .u8 110, .int .u8 100, .int .u8 32, .int .u8 109, .int .u8 111, .int .u8 114, .int .u8 101, .int .u8 32, .int .u8 116, .int .u8 104, .int .u8 97, .int .u8 110, .int .u8 32, .int .u8 116, .int .u8 104, .int .u8 97, .int .u8 116] 5)) = .ok (.slice (some ⟨wn5.heap.size, 0, none⟩) 23 23) (wn5.alloc (.cells #[.int .u8 70, .int .u8 82, .int .u8 84, .int .u8 50, .int .u8 32, .int .u8 97, .int .u8 110, .int .u8 100, .int .u8 32, .int .u8 109, .int .u8 111, .int .u8 114, .int .u8 101, .int .u8 32, .int .u8 116, .int .u8 104, .int .u8 97, .int .u8 110, .int .u8 32, .int .u8 116, .int .u8 104, .int .u8 97, .int .u8 116] 5 (23, 24))) := Lib.run_convert_bytes_const wn5 26 5 #[.int .u8 70, .int .u8 82, .int .u8 84, .int .u8 50, .int .u8 32, .int .u8 97, .int .u8 110, .int .u8 100, .int .u8 32, .int .u8 109, .int .u8 111, .int .u8 114, .int .u8 101, .int .u8 32, .int .u8 116, .int .u8 104, .int .u8 97, .int .u8 110, .int .u8 32, .int .u8 116, .int .u8 104, .int .u8 97, .int .u8 116] 23 23 Tryz.underlying26 Tryz.underlying5
  have kA : Kept [] wn5 (wn5.alloc (.cells #[.int .u8 70, .int .u8 82, .int .u8 84, .int .u8 50, .int .u8 32, .int .u8 97, .int .u8 110, .int .u8 100, .int .u8 32, .int .u8 109, .int .u8 111, .int .u8 114, .int .u8 101, .int .u8 32, .int .u8 116, .int .u8 104, .int .u8 97, .int .u8 110, .int .u8 32, .int .u8 116, .int .u8 104, .int .u8 97, .int .u8 116] 5 (23, 24))) := (Kept.refl [] wn5).alloc _
  have RM := Lib.hid (show Reads (wn5.alloc (.cells #[.int .u8 70, .int .u8 82, .int .u8 84, .int .u8 50, .int .u8 32, .int .u8 97, .int .u8 110, .int .u8 100, .int .u8 32, .int .u8 109, .int .u8 111, .int .u8 114, .int .u8 101, .int .u8 32, .int .u8 116, .int .u8 104, .int .u8 97, .int .u8 110, .int .u8 32, .int .u8 116, .int .u8 104, .int .u8 97, .int .u8 116] 5 (23, 24))) (some ⟨wn5.heap.size, 0, none⟩) (mgc.map byteV) by rw [mgc_V]; exact reads_marked wn5 _ 5 23 24)
  replace HB := Lib.hid (HB.out.kept kA (by simp))
  replace H4 := Lib.hid (H4.out.kept kA (by simp))
  replace H5 := Lib.hid (H5.out.kept kA (by simp))
  replace H6 := Lib.hid (H6.out.kept kA (by simp))
  replace H7 := Lib.hid (H7.out.kept kA (by simp))
  replace HR := Lib.hid (HR.out.kept0 kA)
  replace RB := Lib.hid (RB.out.kept0 kA)
  replace RH := Lib.hid (RH.out.kept0 kA)
  replace K0 := Lib.hid (K0.out.trans kA)
  clear kA
  go_wp2_with fail
  refine (decode_any mgc (some ⟨wn5.heap.size, 0, none⟩) 23 _ RM.out (by decide)).mono ?_
  intro x w7 hx
  rw [dec_mgc] at hx
  obtain ⟨rfl, hk⟩ := hx
  replace HB := Lib.hid (HB.out.kept hk (by simp))
  replace H4 := Lib.hid (H4.out.kept hk (by simp))
  replace H5 := Lib.hid (H5.out.kept hk (by simp))
  replace H6 := Lib.hid (H6.out.kept hk (by simp))
  replace H7 := Lib.hid (H7.out.kept hk (by simp))
  replace HR := Lib.hid (HR.out.kept0 hk)
  replace RB := Lib.hid (RB.out.kept0 hk)
  replace RH := Lib.hid (RH.out.kept0 hk)
  replace K0 := Lib.hid (K0.out.trans hk)
  clear hk RM CV
  have kT : Kept [] w7 ((w7.alloc (.cells #[.int .i64 0, .slice none 0 0] 24)).alloc (.cells #[.int .i64 1, .int .i64 0] 33)) := ((Kept.refl [] w7).alloc _).alloc _
  have H8 := Lib.hid ((Blk.new w7 24 [.int .i64 0, .slice none 0 0]).alloc (.cells #[.int .i64 1, .int .i64 0] 33))
  have H9 := Lib.hid (Blk.new1F w7 (.cells #[.int .i64 0, .slice none 0 0] 24) 33 [.int .i64 1, .int .i64 0])
  replace HB := Lib.hid (HB.out.kept kT (by simp))
  replace H4 := Lib.hid (H4.out.kept kT (by simp))
  replace H5 := Lib.hid (H5.out.kept kT (by simp))
  replace H6 := Lib.hid (H6.out.kept kT (by simp))
  replace H7 := Lib.hid (H7.out.kept kT (by simp))
  replace HR := Lib.hid (HR.out.kept0 kT)
  replace RB := Lib.hid (RB.out.kept0 kT)
  replace RH := Lib.hid (RH.out.kept0 kT)
  replace K0 := Lib.hid (K0.out.trans kT)
  clear kT
  go_upto_region 6 with (fail)
  generalize (w7.alloc (.cells #[.int .i64 0, .slice none 0 0] 24)).alloc (.cells #[.int .i64 1, .int .i64 0] 33) = wn6 at *
  generalize w7.heap.size + 1 = f9 at H9 ⊢
  generalize w7.heap.size = h8 at H8 ⊢
  have HT := Lib.hid (Blk.new wn6 54 [.int .i64 1, .int .i64 2, .int .i64 (-7)])
  have kA : Kept [] wn6 (wn6.alloc (.cells #[.int .i64 1, .int .i64 2, .int .i64 (-7)] 54)) := (Kept.refl [] wn6).alloc _
  replace HB := Lib.hid (HB.out.kept kA (by simp))
  replace H4 := Lib.hid (H4.out.kept kA (by simp))
  replace H5 := Lib.hid (H5.out.kept kA (by simp))
  replace H6 := Lib.hid (H6.out.kept kA (by simp))
  replace H7 := Lib.hid (H7.out.kept kA (by simp))
  replace H8 := Lib.hid (H8.out.kept kA (by simp))
  replace H9 := Lib.hid (H9.out.kept kA (by simp))
  replace HR := Lib.hid (HR.out.kept0 kA)
  replace RB := Lib.hid (RB.out.kept0 kA)
  replace RH := Lib.hid (RH.out.kept0 kA)
  replace K0 := Lib.hid (K0.out.trans kA)
  clear kA
  go_wp2_with fail
  refine (encodeM_any 2 3 M1L (some ⟨wn6.heap.size, 0, none⟩) 1 _ (Reads.of_blk HT.out (fun _ _ h => h)) (by decide)).mono ?_
  intro x w8 hx
  unfold EncMPost at hx
  rw [if_pos M1_encW] at hx
  obtain ⟨⟨v, rfl, hb⟩, hk⟩ := hx
  obtain ⟨Am, cm, rfl⟩ := own_n hb
  have RMM := Lib.hid (Reads.of_own hb)
  replace HB := Lib.hid (HB.out.kept hk (by simp))
  replace H4 := Lib.hid (H4.out.kept hk (by simp))
  replace H5 := Lib.hid (H5.out.kept hk (by simp))
  replace H6 := Lib.hid (H6.out.kept hk (by simp))
  replace H7 := Lib.hid (H7.out.kept hk (by simp))
  replace H8 := Lib.hid (H8.out.kept hk (by simp))
  replace H9 := Lib.hid (H9.out.kept hk (by simp))
  replace HR := Lib.hid (HR.out.kept0 hk)
  replace RB := Lib.hid (RB.out.kept0 hk)
  replace RH := Lib.hid (RH.out.kept0 hk)
  replace K0 := Lib.hid (K0.out.trans hk)
  have HML := Lib.hid M1_len
  have HMD := Lib.hid (mat_full M1_ok)
  clear hk hb HT
  generalize matB (2, 3, M1L) = ms at *
  go_wp2_with fail
  refine (decodeM_any ms Am cm _ RMM.out (by rw [HML.out]; decide)).mono ?_
  intro x w9 hx
  rw [HMD.out] at hx
  obtain ⟨⟨v, rfl, ho⟩, hk⟩ := hx
  obtain ⟨At, ct, hv⟩ := own_n ho
  have hv1 : v = .slice At 1 ct := hv
  clear hv
  subst hv1
  have RT := Lib.hid (Reads.of_own ho)
  replace HB := Lib.hid (HB.out.kept hk (by simp))
  replace H4 := Lib.hid (H4.out.kept hk (by simp))
  replace H5 := Lib.hid (H5.out.kept hk (by simp))
  replace H6 := Lib.hid (H6.out.kept hk (by simp))
  replace H7 := Lib.hid (H7.out.kept hk (by simp))
  replace H8 := Lib.hid (H8.out.kept hk (by simp))
  replace H9 := Lib.hid (H9.out.kept hk (by simp))
  replace HR := Lib.hid (HR.out.kept0 hk)
  replace RB := Lib.hid (RB.out.kept0 hk)
  replace RH := Lib.hid (RH.out.kept0 hk)
  replace K0 := Lib.hid (K0.out.trans hk)
  have H15 := Lib.hid (Blk.new w9 33 [.int .i64 0, .int .i64 0])
  have kA : Kept [] w9 (w9.alloc (.cells #[.int .i64 0, .int .i64 0] 33)) := (Kept.refl [] w9).alloc _
  replace HB := Lib.hid (HB.out.kept kA (by simp))
  replace H4 := Lib.hid (H4.out.kept kA (by simp))
  replace H5 := Lib.hid (H5.out.kept kA (by simp))
  replace H6 := Lib.hid (H6.out.kept kA (by simp))
  replace H7 := Lib.hid (H7.out.kept kA (by simp))
  replace H8 := Lib.hid (H8.out.kept kA (by simp))
  replace H9 := Lib.hid (H9.out.kept kA (by simp))
  replace HR := Lib.hid (HR.out.kept0 kA)
  replace RB := Lib.hid (RB.out.kept0 kA)
  replace RH := Lib.hid (RH.out.kept0 kA)
  replace RT := Lib.hid (RT.out.kept0 kA)
  replace K0 := Lib.hid (K0.out.trans kA)
  clear kA hk ho RMM HML HMD
  go_upto_region 8 with (fail)
  generalize w9.alloc (.cells #[.int .i64 0, .int .i64 0] 33) = w10 at *
  generalize w9.heap.size = f15 at H15 ⊢
  have hbq : ((bs.length : Int) == 21) = true := by rw [HL.out]; decide
  have hbq2 : (bs.length : Int) = 21 ↔ True := by rw [HL.out]; decide
  clear hbq2
  have QF := guardFault
  have Q0 := fun w => eqlFault (0, 0) (0, 0) w
  have Q1 := fun w => eqlFault (2, 0) (2, 0) w
  have Q2 := fun w => eqlFault (1, 0) (1, 0) w
  simp only [decide_true] at Q0 Q1 Q2
  have y0 := HB.out.cell 0
  have y1 := HB.out.cell 1
  have yl := HB.out.lt
  have z0 := H4.out.cell 0
  have z1 := H4.out.cell 1
  have zl := H4.out.lt
  have s0 := H5.out.cell 0
  have s1 := H5.out.cell 1
  have sl := H5.out.lt
  have t0 := H7.out.cell 0
  have t1 := H7.out.cell 1
  have tl := H7.out.lt
  have u0 := H9.out.cell 0
  have u1 := H9.out.cell 1
  have ul := H9.out.lt
  have v0 := H15.out.cell 0
  have v1 := H15.out.cell 1
  have vl := H15.out.lt
  simp only [List.getElem?_cons_zero, List.getElem?_cons_succ] at y0 y1 z0 z1 s0 s1 t0 t1 u0 u1 v0 v1
  go_wp2_with fail
  refine (refSame_any 2 2 E1L E1L (some ⟨gE, 0, none⟩) Ah 1 ch _ (by decide) (by decide) HR.out RH.out).mono ?_
  rintro x w11 ⟨rfl, hk⟩
  rw [show (decide ((2 : Int) = 2) && decide (E1L = E1L)) = true from by simp]
  replace HB := Lib.hid (HB.out.kept hk (by simp))
  replace H4 := Lib.hid (H4.out.kept hk (by simp))
  replace H5 := Lib.hid (H5.out.kept hk (by simp))
  replace H6 := Lib.hid (H6.out.kept hk (by simp))
  replace H7 := Lib.hid (H7.out.kept hk (by simp))
  replace H8 := Lib.hid (H8.out.kept hk (by simp))
  replace H9 := Lib.hid (H9.out.kept hk (by simp))
  replace H15 := Lib.hid (H15.out.kept hk (by simp))
  replace HR := Lib.hid (HR.out.kept0 hk)
  replace RB := Lib.hid (RB.out.kept0 hk)
  replace RH := Lib.hid (RH.out.kept0 hk)
  replace RT := Lib.hid (RT.out.kept0 hk)
  replace K0 := Lib.hid (K0.out.trans hk)
  clear hk y0 y1 yl z0 z1 zl s0 s1 sl t0 t1 tl u0 u1 ul v0 v1 vl
  have y0 := HB.out.cell 0
  have y1 := HB.out.cell 1
  have yl := HB.out.lt
  have z0 := H4.out.cell 0
  have z1 := H4.out.cell 1
  have zl := H4.out.lt
  have s0 := H5.out.cell 0
  have s1 := H5.out.cell 1
  have sl := H5.out.lt
  have t0 := H7.out.cell 0
  have t1 := H7.out.cell 1
  have tl := H7.out.lt
  have u0 := H9.out.cell 0
  have u1 := H9.out.cell 1
  have ul := H9.out.lt
  have v0 := H15.out.cell 0
  have v1 := H15.out.cell 1
  have vl := H15.out.lt
  simp only [List.getElem?_cons_zero, List.getElem?_cons_succ] at y0 y1 z0 z1 s0 s1 t0 t1 u0 u1 v0 v1
  go_wp2_with fail
  refine (canon6_any bs Ab cb _ RB.out (by rw [HL.out]; decide)).mono ?_
  rintro x w12 ⟨rfl, hk⟩
  rw [HCN.out]
  replace HB := Lib.hid (HB.out.kept hk (by simp))
  replace H4 := Lib.hid (H4.out.kept hk (by simp))
  replace H5 := Lib.hid (H5.out.kept hk (by simp))
  replace H6 := Lib.hid (H6.out.kept hk (by simp))
  replace H7 := Lib.hid (H7.out.kept hk (by simp))
  replace H8 := Lib.hid (H8.out.kept hk (by simp))
  replace H9 := Lib.hid (H9.out.kept hk (by simp))
  replace H15 := Lib.hid (H15.out.kept hk (by simp))
  replace HR := Lib.hid (HR.out.kept0 hk)
  replace RB := Lib.hid (RB.out.kept0 hk)
  replace RH := Lib.hid (RH.out.kept0 hk)
  replace RT := Lib.hid (RT.out.kept0 hk)
  replace K0 := Lib.hid (K0.out.trans hk)
  clear hk y0 y1 yl z0 z1 zl s0 s1 sl t0 t1 tl u0 u1 ul v0 v1 vl
  have y0 := HB.out.cell 0
  have y1 := HB.out.cell 1
  have yl := HB.out.lt
  have z0 := H4.out.cell 0
  have z1 := H4.out.cell 1
  have zl := H4.out.lt
  have s0 := H5.out.cell 0
  have s1 := H5.out.cell 1
  have sl := H5.out.lt
  have t0 := H7.out.cell 0
  have t1 := H7.out.cell 1
  have tl := H7.out.lt
  have u0 := H9.out.cell 0
  have u1 := H9.out.cell 1
  have ul := H9.out.lt
  have v0 := H15.out.cell 0
  have v1 := H15.out.cell 1
  have vl := H15.out.lt
  simp only [List.getElem?_cons_zero, List.getElem?_cons_succ] at y0 y1 z0 z1 s0 s1 t0 t1 u0 u1 v0 v1
  go_wp2_with fail
  refine (canon6_any [] none 0 _ (Reads.nil _ _) (by decide)).mono ?_
  rintro x w13 ⟨rfl, hk⟩
  rw [canonB_nil]
  replace HB := Lib.hid (HB.out.kept hk (by simp))
  replace H4 := Lib.hid (H4.out.kept hk (by simp))
  replace H5 := Lib.hid (H5.out.kept hk (by simp))
  replace H6 := Lib.hid (H6.out.kept hk (by simp))
  replace H7 := Lib.hid (H7.out.kept hk (by simp))
  replace H8 := Lib.hid (H8.out.kept hk (by simp))
  replace H9 := Lib.hid (H9.out.kept hk (by simp))
  replace H15 := Lib.hid (H15.out.kept hk (by simp))
  replace HR := Lib.hid (HR.out.kept0 hk)
  replace RB := Lib.hid (RB.out.kept0 hk)
  replace RH := Lib.hid (RH.out.kept0 hk)
  replace RT := Lib.hid (RT.out.kept0 hk)
  replace K0 := Lib.hid (K0.out.trans hk)
  clear hk y0 y1 yl z0 z1 zl s0 s1 sl t0 t1 tl u0 u1 ul v0 v1 vl
  have y0 := HB.out.cell 0
  have y1 := HB.out.cell 1
  have yl := HB.out.lt
  have z0 := H4.out.cell 0
  have z1 := H4.out.cell 1
  have zl := H4.out.lt
  have s0 := H5.out.cell 0
  have s1 := H5.out.cell 1
  have sl := H5.out.lt
  have t0 := H7.out.cell 0
  have t1 := H7.out.cell 1
  have tl := H7.out.lt
  have u0 := H9.out.cell 0
  have u1 := H9.out.cell 1
  have ul := H9.out.lt
  have v0 := H15.out.cell 0
  have v1 := H15.out.cell 1
  have vl := H15.out.lt
  simp only [List.getElem?_cons_zero, List.getElem?_cons_succ] at y0 y1 z0 z1 s0 s1 t0 t1 u0 u1 v0 v1
  obtain ⟨bt, ot, rfl, lt, c0, c1, c2⟩ := edge_at (l := M1L) RT.out (k := 0) (by decide)
  simp only [List.getElem_cons_zero, Nat.zero_mul, Nat.add_zero] at c0 c1 c2
  go_wp2_with fail
  go_ret
  exact ⟨rfl, K0.out⟩
end Go.Proofs.YtfnhfmffkjljnaaGreat
