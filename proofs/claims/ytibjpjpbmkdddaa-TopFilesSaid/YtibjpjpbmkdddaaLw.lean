/- Loader: what must be whatever is asked. -/
import Derived.Test.YtibjpjpbmkdddaaLv
import Derived.Test.YtibjpjpbmkdddaaE20
namespace Go.Proofs.Ytibjpjpbmkdddaa
set_option linter.unusedSimpArgs false
set_option linter.unusedVariables false
open Go.ChangeShapes Go.WideShapes Go.ChangeAt Go.RowKit
open Go.RowKit (wrap32 wrap64)
set_option maxHeartbeats 8000000

abbrev E1L : List Ed := [(0, 1, 1)]
abbrev M1L : List Ed := [(1, 2, -7)]
abbrev mgc : List UInt8 := [70, 82, 84, 50, 32, 97, 110, 100, 32, 109, 111, 114, 101, 32, 116, 104, 97, 110, 32, 116, 104, 97, 116]
theorem mgc_V : mgc.map byteV = [.int .u8 70, .int .u8 82, .int .u8 84, .int .u8 50, .int .u8 32, .int .u8 97, .int .u8 110, .int .u8 100, .int .u8 32, .int .u8 109, .int .u8 111, .int .u8 114, .int .u8 101, .int .u8 32, .int .u8 116, .int .u8 104, .int .u8 97, .int .u8 110, .int .u8 32, .int .u8 116, .int .u8 104, .int .u8 97, .int .u8 116] := by simp [byteV]
theorem rises_one (e : Ed) : risesE [e] = true := risesE_true (fun i h => by simp at h)
theorem E1_encW : encW 2 E1L = 0 := by
  unfold encW
  rw [show rightP 2 E1L = 0 by decide, rises_one]
  decide
theorem E1_len : (encB 2 E1L).length = 21 := by
  unfold encB
  rw [rawB_hdr, List.length_append, hdr_length, show kindOf E1L = 0 by decide]
  simp [edgeB, fours_length]
theorem E1_in : ∀ e ∈ E1L, In64 e.2.2 := by intro e he; simp at he; subst he; unfold In64; decide
theorem dec_nil : decG [] = .error (2, 0) := by
  have h := decG_cut (okRaw_enc (encW_zero E1_encW).1) (k := 0) (by have := E1_len; unfold encB at this; omega)
  exact h
theorem canonB_nil : canonB [] = false := by unfold canonB; rw [dec_nil]
theorem dec_mgc : decG mgc = .error (1, 0) := by
  have h : (Rd.mk mgc 0 0 0).mark frt1 = .error (1, 0) := by
    obtain ⟨a1, a2⟩ := take_full (b := mgc) (pos := 0) (k := 4) (by decide)
    unfold Rd.mark
    have a1' : (Rd.mk mgc 0 0 0).after 4 = ⟨mgc, 4, 0, 0⟩ := a1
    have a2' : (Rd.mk mgc 0 0 0).got 4 = [70, 82, 84, 50] := a2
    rw [a1', a2', if_neg (by simp), if_neg (by decide)]
  unfold decG Rd.graphE
  rw [h]
  rfl
theorem mat_full {u : Raw} (h : okMat u) : decM (matB u) = .ok u := by unfold decM; rw [mat_E, good_mat.efull h]; rfl
theorem M1_ok : okMat (2, 3, M1L) := by
  refine ⟨by decide, by decide, by decide, ⟨⟨by decide, by decide, ?_⟩, by decide⟩, trivial⟩
  unfold In64'
  decide
theorem M1_encW : encMW 2 3 M1L = 0 := by
  unfold encMW
  rw [if_neg (by decide), if_neg (by decide), if_neg (by decide), rises_one, if_neg (by decide)]
theorem M1_len : (matB (2, 3, M1L)).length = 32 := by rw [matB_hdr, List.length_append, hdrM_length]; simp [tripB_length]
end Go.Proofs.Ytibjpjpbmkdddaa
