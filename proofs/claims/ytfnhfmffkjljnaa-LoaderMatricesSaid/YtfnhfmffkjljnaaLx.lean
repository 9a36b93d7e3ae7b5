/- 'LoaderMatrices' returns true for every rows, columns, triples, and bytes. Conditions: none. -/
import Derived.Test.YtfnhfmffkjljnaaLw
import Derived.Test.YtfnhfmffkjljnaaLz
namespace Go.Proofs.Ytfnhfmffkjljnaa
set_option linter.unusedSimpArgs false
set_option linter.unusedVariables false
open Go.ChangeShapes Go.WideShapes Go.ChangeAt Go.RowKit
open Go.RowKit (wrap32 wrap64)
set_option maxHeartbeats 8000000
theorem okRun_of (m c : Int) : ∀ (l : List Ed) (last : Ed), (∀ t ∈ l, okT0 m c t) → RisesL (last :: l) → okRun m c last l
  | [], _, _, _ => trivial
  | t :: l, last, h, hr => by
    have h2 := List.pairwise_cons.1 hr
    exact ⟨⟨h t (by simp), h2.1 t (by simp)⟩, okRun_of m c l t (fun x hx => h x (by simp [hx])) h2.2⟩
theorem okRun_in (m c : Int) : ∀ (l : List Ed) (last : Ed), okRun m c last l → (∀ t ∈ l, okT0 m c t) ∧ ∀ i (h : i + 1 < l.length), keyLt (keyOf l[i]) (keyOf l[i + 1]) = true
  | [], _, _ => ⟨by simp, fun i h => by simp at h⟩
  | t :: l, last, hr => by
    obtain ⟨h1, h2⟩ := okRun_in m c l t hr.2
    refine ⟨fun x hx => ?_, fun i h => ?_⟩
    · rcases List.mem_cons.1 hx with rfl | hx
      · exact hr.1.1
      · exact h1 x hx
    · cases i with
      | zero =>
        cases l with
        | nil => simp at h
        | cons z l => exact hr.2.1.2
      | succ i => have := h2 i (by simp at h; omega); simpa using this
theorem okMat_enc {m c : Int} {l : List Ed} (h : encMW m c l = 0) (hv : ∀ t ∈ l, In64 t.2.2) : okMat (m, c, l) := by
  unfold encMW at h
  by_cases h1 : m < 0 ∨ c < 0
  · rw [if_pos h1] at h; cases h
  rw [if_neg h1] at h
  by_cases h2 : 4096 < m ∨ 4096 < c ∨ 65536 < l.length
  · rw [if_pos h2] at h; cases h
  rw [if_neg h2] at h
  cases h3 : l.any (badT m c)
  case true => rw [h3] at h; simp at h
  rw [if_neg (by rw [h3]; decide)] at h
  cases h4 : risesE l
  case false => rw [h4] at h; simp at h
  rw [List.any_eq_false] at h3
  have hb : ∀ t ∈ l, okT0 m c t := fun t ht => by
    have := h3 t ht
    simp [badT] at this
    exact ⟨by omega, by omega, hv t ht⟩
  refine ⟨by show 0 ≤ m ∧ m ≤ 4096; omega, by show 0 ≤ c ∧ c ≤ 4096; omega, ⟨Int.natCast_nonneg _, by show (l.length : Int) ≤ 65536; omega⟩, okRun_of m c l _ hb ?_⟩
  refine List.Pairwise.cons (fun t ht => ?_) (rises_L h4)
  have := (hb t ht).1.1
  simp [keyLt]
  omega
theorem encM_zero {m c : Int} {l : List Ed} (h : okMat (m, c, l)) : encMW m c l = 0 := by
  obtain ⟨h1, h2, h3, h4⟩ := h
  obtain ⟨h5, h6⟩ := okRun_in m c l _ h4
  have h1' : 0 ≤ m ∧ m ≤ 4096 := h1
  have h2' : 0 ≤ c ∧ c ≤ 4096 := h2
  have h3' : (l.length : Int) ≤ 65536 := h3.2
  have a1 : l.any (badT m c) = false := by
    rw [List.any_eq_false]
    intro t ht
    obtain ⟨b1, b2, _⟩ := h5 t ht
    simp [badT]
    omega
  unfold encMW
  rw [if_neg (by omega), if_neg (by omega), if_neg (by rw [a1]; decide), risesE_true h6, if_neg (by decide)]
theorem decM_ok {b : List UInt8} {m c : Int} {l : List Ed} (h : decM b = .ok (m, c, l)) : okMat (m, c, l) ∧ matB (m, c, l) = b := by
  unfold decM at h
  rcases hr : (Rd.mk b 0 0 0).matE with ⟨e', a'⟩ | ⟨u, R⟩
  · rw [hr] at h; cases h
  · rw [hr] at h
    injection h with h
    subst h
    exact decM_in hr
theorem decM_bad {b : List UInt8} {e a : Int} (h : decM b = .error (e, a)) : e ≠ 0 ∧ 0 ≤ a ∧ a ≤ b.length := by
  unfold decM at h
  rcases hr : (Rd.mk b 0 0 0).matE with ⟨e', a'⟩ | x
  · rw [hr] at h
    injection h with h
    injection h with h1 h2
    subst h1 h2
    rw [mat_E] at hr
    exact good_mat.ebad hr
  · rw [hr] at h; cases h
theorem matB_len {m c : Int} {l : List Ed} (h : l.length ≤ 65536) : (matB (m, c, l)).length ≤ 1073741824 := by
  rw [matB_hdr, List.length_append, hdrM_length, flatB_length tripB 16 tripB_length]
  omega

set_option maxRecDepth 100000 in
theorem loaderMatrices_walk (x y : Int) (l : List Ed) (A : Option Addr) (ca : Nat) (b : List UInt8) (B : Option Addr) (cb : Nat) (w : World) (hA : Reads w A (l.flatMap edV)) (hv : ∀ t ∈ l, In64 t.2.2) (hl : l.length ≤ maxLen) (hB : Reads w B (b.map byteV)) (hb : b.length ≤ maxLen) :
    Calls Try.prog 8 #[.agg #[.int .i64 x, .int .i64 y], .slice A l.length ca, .slice B b.length cb] w fun e w' => e = .returned (.bool true) ∧ Kept [] w w' := by
  have HX := Lib.hid (Blk.new w 43 [.int .i64 x, .int .i64 y])
  have K0 := Lib.hid ((Kept.refl [] w).alloc (.cells #[.int .i64 x, .int .i64 y] 43))
  have HA := Lib.hid hA
  have HB := Lib.hid hB
  have HV := Lib.hid hv
  have hl9 := hl
  have hb9 := hb
  unfold maxLen at hl9 hb9
  clear hA hB hv
  by_cases h1 : 100 < l.length
  · have h1' : (100 : Int) < (l.length : Int) := by omega
    go_enter Try.func8, Try.ntmps8
    go_wp2_with fail
    refine (live6_any _).mono ?_
    rintro z w3 ⟨rfl, hk⟩
    replace K0 := Lib.hid (K0.out.trans hk)
    clear hk
    go_wp2_with fail
    go_ret
    exact ⟨rfl, K0.out⟩
  have h1' : ¬ (100 : Int) < (l.length : Int) := by omega
  by_cases h2 : 3000 < b.length
  · have h2' : (3000 : Int) < (b.length : Int) := by omega
    go_enter Try.func8, Try.ntmps8
    go_wp2_with fail
    refine (live6_any _).mono ?_
    rintro z w3 ⟨rfl, hk⟩
    replace K0 := Lib.hid (K0.out.trans hk)
    clear hk
    go_wp2_with fail
    go_ret
    exact ⟨rfl, K0.out⟩
  have h2' : ¬ (3000 : Int) < (b.length : Int) := by omega
  have HBL := Lib.hid (show b.length ≤ 1073741824 by omega)
  go_enter Try.func8, Try.ntmps8
  go_wp2_with fail
  refine (encodeM_any x y l A ca _ (HA.out.kept0 K0.out) hl).mono ?_
  intro z w2 hz
  unfold EncMPost at hz
  by_cases hw : encMW x y l = 0
  · rw [if_pos hw] at hz
    obtain ⟨⟨v, rfl, hb2⟩, hk⟩ := hz
    obtain ⟨A2, c2, rfl⟩ := own_n hb2
    have HOK := Lib.hid (okMat_enc hw HV.out)
    have HR := Lib.hid (Reads.of_own hb2)
    have HLM := Lib.hid (show (matB (x, y, l)).length ≤ 1073741824 from matB_len (by omega))
    have HDM := Lib.hid (mat_full HOK.out)
    replace K0 := Lib.hid (K0.out.trans hk)
    replace HX := Lib.hid (HX.out.kept hk (by simp))
    clear hk hb2 hw
    generalize matB (x, y, l) = ms at *
    go_wp2_with fail
    refine (decodeM_any ms A2 c2 _ HR.out HLM.out).mono ?_
    intro z w3 hz
    rw [HDM.out] at hz
    obtain ⟨⟨v, rfl, ho⟩, hk⟩ := hz
    obtain ⟨A3, c3, rfl⟩ := own_n ho
    have kd : Kept [] w3 (w3.alloc (.cells #[.int .i64 0, .int .i64 0] 49)) := (Kept.refl [] w3).alloc _
    have HR3 := Lib.hid ((Reads.of_own ho).kept0 kd)
    have HF := Lib.hid (Blk.new w3 49 [.int .i64 0, .int .i64 0])
    replace HX := Lib.hid ((HX.out.kept hk (by simp)).kept kd (by simp))
    replace K0 := Lib.hid ((K0.out.trans hk).trans kd)
    clear hk ho kd HR HLM HDM
    go_upto_region 6 with (fail)
    generalize w3.alloc (.cells #[.int .i64 0, .int .i64 0] 49) = w4 at *
    generalize w3.heap.size = gf at HF ⊢
    obtain ⟨g, hg⟩ : ∃ g, g = w.heap.size := ⟨_, rfl⟩
    rw [← hg] at HX ⊢
    clear hg
    have x0 := HX.out.cell 0
    have x1 := HX.out.cell 1
    have xl := HX.out.lt
    simp only [List.getElem?_cons_zero, List.getElem?_cons_succ] at x0 x1
    have f0 := HF.out.cell 0
    have f1 := HF.out.cell 1
    have fl := HF.out.lt
    simp only [List.getElem?_cons_zero, List.getElem?_cons_succ] at f0 f1
    go_wp2_with fail
    refine (sameT_any l l A3 A c3 ca _ hl hl HR3.out (HA.out.kept0 K0.out)).mono ?_
    rintro z w5 ⟨rfl, hk⟩
    rw [show decide (l = l) = true from decide_eq_true rfl]
    replace K0 := Lib.hid (K0.out.trans hk)
    clear hk HR3 HF HX x0 x1 xl f0 f1 fl
    rcases hd : decM b with ⟨e, a⟩ | ⟨m2, c2, l2⟩
    · have HE := Lib.hid hd
      obtain ⟨he, ha0, ha1⟩ := decM_bad hd
      clear hd
      go_wp2_with fail
      refine (decodeM_any b B cb _ (HB.out.kept0 K0.out) HBL.out).mono ?_
      intro z w6 hz
      rw [HE.out] at hz
      obtain ⟨rfl, hk⟩ := hz
      replace K0 := Lib.hid (K0.out.trans hk)
      have HF := Lib.hid (Blk.new w6 49 [.int .i64 e, .int .i64 a])
      have kd : Kept [] w6 (w6.alloc (.cells #[.int .i64 e, .int .i64 a] 49)) := (Kept.refl [] w6).alloc _
      replace K0 := Lib.hid (K0.out.trans kd)
      clear hk kd
      go_upto_region 10 with (fail)
      generalize w6.alloc (.cells #[.int .i64 e, .int .i64 a] 49) = w7 at *
      generalize w6.heap.size = gf at HF ⊢
      go_wp2_with fail
      refine (live6_any _).mono ?_
      rintro z w8 ⟨rfl, hk⟩
      replace K0 := Lib.hid (K0.out.trans hk)
      replace HF := Lib.hid (HF.out.kept hk (by simp))
      clear hk
      have f0 := HF.out.cell 0
      have f1 := HF.out.cell 1
      have fl := HF.out.lt
      simp only [List.getElem?_cons_zero, List.getElem?_cons_succ] at f0 f1
      go_wp2_with fail
      go_ret
      exact ⟨rfl, K0.out⟩
    · obtain ⟨hok, hbytes⟩ := decM_ok hd
      have HE := Lib.hid hd
      have HEN := Lib.hid (encM_zero hok)
      have HBY := Lib.hid hbytes
      have HML := Lib.hid (show l2.length ≤ maxLen by have h3 : (l2.length : Int) ≤ 65536 := hok.2.2.1.2; unfold maxLen; omega)
      clear hd hok hbytes
      go_wp2_with fail
      refine (decodeM_any b B cb _ (HB.out.kept0 K0.out) HBL.out).mono ?_
      intro z w6 hz
      rw [HE.out] at hz
      obtain ⟨⟨v, rfl, ho⟩, hk⟩ := hz
      obtain ⟨A6, c6, rfl⟩ := own_n ho
      have HR := Lib.hid ((Reads.of_own ho).kept0 ((Kept.refl [] w6).alloc (.cells #[.int .i64 0, .int .i64 0] 49)))
      replace K0 := Lib.hid ((K0.out.trans hk).trans ((Kept.refl [] w6).alloc (.cells #[.int .i64 0, .int .i64 0] 49)))
      clear hk ho
      go_wp2_with fail
      refine (encodeM_any m2 c2 l2 A6 c6 _ HR.out HML.out).mono ?_
      intro z w7 hz
      unfold EncMPost at hz
      rw [if_pos HEN.out] at hz
      obtain ⟨⟨v, rfl, hb2⟩, hk⟩ := hz
      rw [HBY.out] at hb2
      obtain ⟨A7, c7, rfl⟩ := own_n hb2
      have HR7 := Lib.hid (Reads.of_own hb2)
      replace K0 := Lib.hid (K0.out.trans hk)
      clear hk hb2
      go_wp2_with fail
      refine (live6_any _).mono ?_
      rintro z w8 ⟨rfl, hk⟩
      replace K0 := Lib.hid (K0.out.trans hk)
      replace HR7 := Lib.hid (HR7.out.kept0 hk)
      clear hk
      go_wp2_with fail
      refine (sameBytes_any b b A7 B c7 cb _ HR7.out (HB.out.kept0 K0.out) hb hb).mono ?_
      rintro z w9 ⟨rfl, nq, hnq⟩
      have hk : Kept [] w8 w9 := hnq ▸ (Kept.refl [] _).drewN nq
      rw [show decide (b = b) = true from decide_eq_true rfl]
      replace K0 := Lib.hid (K0.out.trans hk)
      clear hk hnq
      go_wp2_with fail
      go_ret
      exact ⟨rfl, K0.out⟩
  · rw [if_neg hw] at hz
    obtain ⟨rfl, hk⟩ := hz
    replace K0 := Lib.hid (K0.out.trans hk)
    obtain ⟨ez, hez⟩ : ∃ ez, ez = encMW x y l := ⟨_, rfl⟩
    rw [← hez] at hw ⊢
    clear hk hez HX
    rcases hd : decM b with ⟨e, a⟩ | ⟨m2, c2, l2⟩
    · have HE := Lib.hid hd
      obtain ⟨he, ha0, ha1⟩ := decM_bad hd
      clear hd
      go_wp2_with fail
      refine (decodeM_any b B cb _ (HB.out.kept0 K0.out) HBL.out).mono ?_
      intro z w6 hz
      rw [HE.out] at hz
      obtain ⟨rfl, hk⟩ := hz
      replace K0 := Lib.hid (K0.out.trans hk)
      have HF := Lib.hid (Blk.new w6 49 [.int .i64 e, .int .i64 a])
      have kd : Kept [] w6 (w6.alloc (.cells #[.int .i64 e, .int .i64 a] 49)) := (Kept.refl [] w6).alloc _
      replace K0 := Lib.hid (K0.out.trans kd)
      clear hk kd
      go_upto_region 10 with (fail)
      generalize w6.alloc (.cells #[.int .i64 e, .int .i64 a] 49) = w7 at *
      generalize w6.heap.size = gf at HF ⊢
      go_wp2_with fail
      refine (live6_any _).mono ?_
      rintro z w8 ⟨rfl, hk⟩
      replace K0 := Lib.hid (K0.out.trans hk)
      replace HF := Lib.hid (HF.out.kept hk (by simp))
      clear hk
      have f0 := HF.out.cell 0
      have f1 := HF.out.cell 1
      have fl := HF.out.lt
      simp only [List.getElem?_cons_zero, List.getElem?_cons_succ] at f0 f1
      go_wp2_with fail
      go_ret
      exact ⟨rfl, K0.out⟩
    · obtain ⟨hok, hbytes⟩ := decM_ok hd
      have HE := Lib.hid hd
      have HEN := Lib.hid (encM_zero hok)
      have HBY := Lib.hid hbytes
      have HML := Lib.hid (show l2.length ≤ maxLen by have h3 : (l2.length : Int) ≤ 65536 := hok.2.2.1.2; unfold maxLen; omega)
      clear hd hok hbytes
      go_wp2_with fail
      refine (decodeM_any b B cb _ (HB.out.kept0 K0.out) HBL.out).mono ?_
      intro z w6 hz
      rw [HE.out] at hz
      obtain ⟨⟨v, rfl, ho⟩, hk⟩ := hz
      obtain ⟨A6, c6, rfl⟩ := own_n ho
      have HR := Lib.hid ((Reads.of_own ho).kept0 ((Kept.refl [] w6).alloc (.cells #[.int .i64 0, .int .i64 0] 49)))
      replace K0 := Lib.hid ((K0.out.trans hk).trans ((Kept.refl [] w6).alloc (.cells #[.int .i64 0, .int .i64 0] 49)))
      clear hk ho
      go_wp2_with fail
      refine (encodeM_any m2 c2 l2 A6 c6 _ HR.out HML.out).mono ?_
      intro z w7 hz
      unfold EncMPost at hz
      rw [if_pos HEN.out] at hz
      obtain ⟨⟨v, rfl, hb2⟩, hk⟩ := hz
      rw [HBY.out] at hb2
      obtain ⟨A7, c7, rfl⟩ := own_n hb2
      have HR7 := Lib.hid (Reads.of_own hb2)
      replace K0 := Lib.hid (K0.out.trans hk)
      clear hk hb2
      go_wp2_with fail
      refine (live6_any _).mono ?_
      rintro z w8 ⟨rfl, hk⟩
      replace K0 := Lib.hid (K0.out.trans hk)
      replace HR7 := Lib.hid (HR7.out.kept0 hk)
      clear hk
      go_wp2_with fail
      refine (sameBytes_any b b A7 B c7 cb _ HR7.out (HB.out.kept0 K0.out) hb hb).mono ?_
      rintro z w9 ⟨rfl, nq, hnq⟩
      have hk : Kept [] w8 w9 := hnq ▸ (Kept.refl [] _).drewN nq
      rw [show decide (b = b) = true from decide_eq_true rfl]
      replace K0 := Lib.hid (K0.out.trans hk)
      clear hk hnq
      go_wp2_with fail
      go_ret
      exact ⟨rfl, K0.out⟩

set_option maxRecDepth 100000 in
theorem loaderMatrices_lifted (os : Os) (started : os.Started) (H : Type) (enc : TypeId × Value → H) :
    ReturnsInHanded {} Try.checked os 8 .any (Rows.loaderMatricesSpec.pre6 enc Try.prog Try.f8 Rows.loaderMatricesRow.domain false) (Rows.loaderMatricesSpec.post enc Try.prog Try.f8 false true false false) := by
  refine returnsInHanded_of_change (C := Try.checked) own started (by kernel_rfl) Try.func8
    (ChangeSpec.witness6 (enc := enc) (C := Try.checked) false ⟨#[], #[.agg #[.int .i64 0, .int .i64 0], .slice none 0 0, .slice none 0 0], []⟩ 8 (by kernel_rfl) (by kernel_rfl) (by kernel_rfl) (by kernel_rfl)) ?_
  intro W base args ds gs before hval0 hW hcnd _
  have hval : ∀ (j : Nat) t v, Try.f8.params[j]? = some t → args[j]? = some v → Value.okWide Try.prog W .any base t v := hval0
  have hW' := hW
  obtain ⟨p, q, hA0, hV, rfl, hfz, hnd⟩ := hW
  have hA : DataW.TrodAll enc Try.prog W 0 (fun _ => true) true Try.f8.params.toList args.toList ds p := hA0
  rw [Try.params8] at hA hval
  obtain ⟨v0, vs0, d0, ds0, p0, q0, hargs, rfl, rfl, h0, r0⟩ := trodAll_cons hA
  obtain ⟨v1, vs1, d1, ds1, p1, q1, rfl, rfl, rfl, h1, r1⟩ := trodAll_cons r0
  obtain ⟨v2, vs2, d2, ds2, p2, q2, rfl, rfl, rfl, h2, r2⟩ := trodAll_cons r1
  obtain ⟨rfl, rfl, rfl⟩ := trodAll_nil r2
  obtain rfl : args = #[v0, v1, v2] := by cases args; simp_all
  obtain ⟨rfl, rfl⟩ := trodVars_none hV
  obtain ⟨a, a', rfl, ⟨_, _, _, ha⟩, ⟨_, _, _, ha'⟩⟩ := open_arr2 Try.underlying43 cInt (by kernel_rfl) (hval 0 43 v0 rfl rfl) h0
  obtain ⟨x, rfl, _⟩ := trod_i64 Try.underlying3 ha
  obtain ⟨y, rfl, _⟩ := trod_i64 Try.underlying3 ha'
  obtain ⟨A, ca, l, rfl, l1, l2, hAr, hv, _⟩ := open_recs edV (fun r => In64 r.1 ∧ In64 r.2.1 ∧ In64 r.2.2) 3 (by decide) cTriple (fun _ => rfl) (fun _ _ _ hx => elem_trip hx) Try.underlying44 (hval 1 44 v1 rfl rfl) h1
  obtain ⟨B, cb, b, rfl, l3, l4, hBr, _⟩ := open_bytes Try.underlying45 Try.underlying5 (by kernel_rfl) (hval 2 45 v2 rfl rfl) h2
  refine (loaderMatrices_walk x y l A ca b B cb W hAr (fun t ht => (hv t ht).2.2) (Nat.le_trans l1 l2) hBr (Nat.le_trans l3 l4)).mono fun e W' ⟨he, hk⟩ => ?_
  exact ⟨_, he, post_true rfl Try.underlying4 rfl rfl rfl rfl laidOut (by decide +kernel) hW' hk⟩

theorem loaderMatrices_holds : Rows.LoaderMatricesSaid :=
  OpenClaim.holds_of_wide 8 Try.f8 rfl rfl rfl rfl rfl rfl rfl ⟨rfl, rfl, rfl, rfl, rfl⟩ rfl rfl rfl rfl rfl (by kernel_rfl) Try.func8 (by kernel_rfl)
    (of_decide_eq_true (by kernel_rfl)) (by unfold Func.isWrapper; first | (rw [if_pos (by decide +kernel)]; kernel_rfl) | (rw [if_neg (by decide +kernel)]; exact ⟨rfl, rfl⟩))
    (fun os started H enc _ => loaderMatrices_lifted os started H enc)
end Go.Proofs.Ytfnhfmffkjljnaa
