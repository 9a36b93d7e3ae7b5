/- 'LoaderMatrices' returns true for every rows, columns, triples, and bytes. Conditions: none. -/
import Derived.Test.YtibjpjpbmkdddaaLw
import Derived.Test.YtibjpjpbmkdddaaLz
namespace Go.Proofs.Ytibjpjpbmkdddaa
set_option linter.unusedSimpArgs false
set_option linter.unusedVariables false
open Go.ChangeShapes Go.WideShapes Go.ChangeAt Go.RowKit
open Go.RowKit (wrap32 wrap64)
set_option maxHeartbeats 8000000
theorem okRun_of (m c : Int) : ∀ (l : List Ed) (last : Ed), (∀ t ∈ l, okT0 m c t) → RisesL (last :: l) → okRun m c last l
  | [], _, _, _ => trivial
  | t :: l, last, h, hr => by
    have h2 := List.pairwise_cons.1 hr
    exact ⟨⟨h t (by simp), h2.1 t (by simp)⟩, okRun_of m c l t (fun x hx => h x (by simp [hx])) h2.2⟩
theorem okRun_in (m c : Int) : ∀ (l : List Ed) (last : Ed), okRun m c last l → (∀ t ∈ l, okT0 m c t) ∧ ∀ i (h : i + 1 < l.length), keyLt (keyOf l[i]) (keyOf l[i + 1]) = true
  | [], _, _ => ⟨by simp, fun i h => by simp at h⟩
  | t :: l, last, hr => by
    obtain ⟨h1, h2⟩ := okRun_in m c l t hr.2
    refine ⟨fun x hx => ?_, fun i h => ?_⟩
    · rcases List.mem_cons.1 hx with rfl | hx
      · exact hr.1.1
      · exact h1 x hx
    · cases i with
      | zero =>
        cases l with
        | nil => simp at h
        | cons z l => exact hr.2.1.2
      | succ i => have := h2 i (by simp at h; omega); simpa using this
theorem okMat_enc {m c : Int} {l : List Ed} (h : encMW m c l = 0) (hv : ∀ t ∈ l, In64 t.2.2) : okMat (m, c, l) := by
  unfold encMW at h
  by_cases h1 : m < 0 ∨ c < 0
  · rw [if_pos h1] at h; cases h
  rw [if_neg h1] at h
  by_cases h2 : 4096 < m ∨ 4096 < c ∨ 65536 < l.length
  · rw [if_pos h2] at h; cases h
  rw [if_neg h2] at h
  cases h3 : l.any (badT m c)
  case true => rw [h3] at h; simp at h
  rw [if_neg (by rw [h3]; decide)] at h
  cases h4 : risesE l
  case false => rw [h4] at h; simp at h
  rw [List.any_eq_false] at h3
  have hb : ∀ t ∈ l, okT0 m c t := fun t ht => by
    have := h3 t ht
    simp [badT] at this
    exact ⟨by omega, by omega, hv t ht⟩
  refine ⟨by show 0 ≤ m ∧ m ≤ 4096; omega, by show 0 ≤ c ∧ c ≤ 4096; omega, ⟨Int.natCast_nonneg _, by show (l.length : Int) ≤ 65536; omega⟩, okRun_of m c l _ hb ?_⟩
  refine List.Pairwise.cons (fun t ht => ?_) (rises_L h4)
  have := (hb t ht).1.1
  simp [keyLt]
  omega
theorem encM_zero {m c : Int} {l : List Ed} (h : okMat (m, c, l)) : encMW m c l = 0 := by
  obtain ⟨h1, h2, h3, h4⟩ := h
  obtain ⟨h5, h6⟩ := okRun_in m c l _ h4
  have h1' : 0 ≤ m ∧ m ≤ 4096 := h1
  have h2' : 0 ≤ c ∧ c ≤ 4096 := h2
  have h3' : (l.length : Int) ≤ 65536 := h3.2
  have a1 : l.any (badT m c) = false := by
    rw [List.any_eq_false]
    intro t ht
    obtain ⟨b1, b2, _⟩ := h5 t ht
    simp [badT]
    omega
  unfold encMW
  rw [if_neg (by omega), if_neg (by omega), if_neg (by rw [a1]; decide), risesE_true h6, if_neg (by decide)]
theorem decM_ok {b : List UInt8} {m c : Int} {l : List Ed} (h : decM b = .ok (m, c, l)) : okMat (m, c, l) ∧ matB (m, c, l) = b := by
  unfold decM at h
  rcases hr : (Rd.mk b 0 0 0).matE with ⟨e', a'⟩ | ⟨u, R⟩
  · rw [hr] at h; cases h
  · rw [hr] at h
    injection h with h
    subst h
    exact decM_in hr
theorem decM_bad {b : List UInt8} {e a : Int} (h : decM b = .error (e, a)) : e ≠ 0 ∧ 0 ≤ a ∧ a ≤ b.length := by
  unfold decM at h
  rcases hr : (Rd.mk b 0 0 0).matE with ⟨e', a'⟩ | x
  · rw [hr] at h
    injection h with h
    injection h with h1 h2
    subst h1 h2
    rw [mat_E] at hr
    exact good_mat.ebad hr
  · rw [hr] at h; cases h
theorem matB_len {m c : Int} {l : List Ed} (h : l.length ≤ 65536) : (matB (m, c, l)).length ≤ 1073741824 := by
  rw [matB_hdr, List.length_append, hdrM_length, flatB_length tripB 16 tripB_length]
  omega



end Go.Proofs.Ytibjpjpbmkdddaa
