/- 'LoaderBack' returns true for every graph, and bytes. Conditions: none. -/
import Derived.Test.YtfnhfmffkjljnaaGreatLw
import Derived.Test.YtfnhfmffkjljnaaGreatLz
namespace Go.Proofs.YtfnhfmffkjljnaaGreat
set_option linter.unusedSimpArgs false
set_option linter.unusedVariables false
open Go.ChangeShapes Go.WideShapes Go.ChangeAt Go.RowKit
open Go.RowKit (wrap32 wrap64)
set_option maxHeartbeats 8000000

set_option maxRecDepth 100000 in
theorem loaderBack_walk (n : Int) (l : List Ed) (A : Option Addr) (c : Nat) (b : List UInt8) (B : Option Addr) (cb : Nat) (w : World) (hA : Reads w A (l.flatMap edV)) (hw : ∀ t ∈ l, In64 t.2.2) (hl : l.length ≤ maxLen) (hB : Reads w B (b.map byteV)) (hb : b.length ≤ maxLen) :
    Calls Tryz.prog 6 #[.agg #[.int .i64 n, .slice A l.length c], .slice B b.length cb] w fun e w' => e = .returned (.bool true) ∧ Kept [] w w' := by
  have HX := Lib.hid (Blk.new w 24 (grV n A l.length c))
  have K0 := Lib.hid ((Kept.refl [] w).alloc (.cells (grV n A l.length c).toArray 24))
  have HA := Lib.hid hA
  have HW := Lib.hid hw
  have HB := Lib.hid hB
  have hl9 := hl
  have hb9 := hb
  unfold maxLen at hl9 hb9
  clear hA hw hB
  by_cases h1 : 100 < l.length
  · have h1' : (100 : Int) < (l.length : Int) := by omega
    go_enter Tryz.func6, Tryz.ntmps6
    go_wp2_with fail
    refine (live6_any _).mono ?_
    rintro z wl ⟨rfl, hk⟩
    replace K0 := Lib.hid (K0.out.trans hk)
    clear hk
    go_wp2_with fail
    go_ret
    exact ⟨rfl, K0.out⟩
  have h1' : ¬ (100 : Int) < (l.length : Int) := by omega
  by_cases h2 : 4000 < b.length
  · have h2' : (4000 : Int) < (b.length : Int) := by omega
    go_enter Tryz.func6, Tryz.ntmps6
    go_wp2_with fail
    refine (live6_any _).mono ?_
    rintro z wl ⟨rfl, hk⟩
    replace K0 := Lib.hid (K0.out.trans hk)
    clear hk
    go_wp2_with fail
    go_ret
    exact ⟨rfl, K0.out⟩
  have h2' : ¬ (4000 : Int) < (b.length : Int) := by omega
  have HBL := Lib.hid (show b.length ≤ 1073741824 by omega)
  go_enter Tryz.func6, Tryz.ntmps6
  go_wp2_with fail
  refine (refCanon_any n l A c _ (by omega) (HA.out.kept0 K0.out) HW.out).mono ?_
  rintro z w2 ⟨v, rfl, ho, hk⟩
  obtain ⟨A5, c5, rfl⟩ := own_n ho
  have HC := Lib.hid (canonP_in HW.out)
  have HCL := Lib.hid (show (canonP l).length ≤ maxLen by have := canonP_length l; unfold maxLen; omega)
  generalize canonP l = C at *
  have kd : Kept [] w2 (w2.alloc (.cells #[.int .i64 n, .slice A5 C.length c5] 24)) := (Kept.refl [] w2).alloc _
  have HG := Lib.hid (Blk.new w2 24 [.int .i64 n, .slice A5 C.length c5])
  have HR := Lib.hid ((Reads.of_own ho).kept0 kd)
  replace K0 := Lib.hid ((K0.out.trans hk).trans kd)
  clear kd hk ho HX h1' h2'
  go_upto_region 4 with (fail)
  generalize w2.alloc (.cells #[.int .i64 n, .slice A5 C.length c5] 24) = w3 at *
  generalize w2.heap.size = g5 at HG ⊢
  have x0 := HG.out.cell 0
  have x1 := HG.out.cell 1
  have xl := HG.out.lt
  simp only [List.getElem?_cons_zero, List.getElem?_cons_succ] at x0 x1
  go_wp2_with fail
  refine (encode_any n C A5 c5 _ HR.out HCL.out).mono ?_
  rintro z w4 ⟨⟨v, rfl, hb2⟩, hk⟩
  replace HG := Lib.hid (HG.out.kept hk (by simp))
  replace HR := Lib.hid (HR.out.kept0 hk)
  replace K0 := Lib.hid (K0.out.trans hk)
  clear hk x0 x1 xl
  by_cases hz : encW n C = 0
  · rw [if_pos hz] at hb2
    rw [hz]
    obtain ⟨A6, c6, rfl⟩ := own_n hb2
    have HR6 := Lib.hid (Reads.of_own hb2)
    have HD := Lib.hid (decG_enc hz)
    have HCN := Lib.hid (canonB_enc hz)
    have HLB := Lib.hid (show (encB n C).length ≤ 1073741824 by
      obtain ⟨_, h2, _, _⟩ := right_zero (encW_zero hz).1
      have := edgesB_length (kindOf C) C
      unfold encB
      rw [rawB_hdr, List.length_append, hdr_length]
      omega)
    clear hb2 hz
    generalize encB n C = bs at *
    go_wp2_with fail
    refine (decode_any bs A6 c6 _ HR6.out HLB.out).mono ?_
    intro z w5 hz
    rw [HD.out] at hz
    obtain ⟨⟨v, rfl, ho⟩, hk⟩ := hz
    obtain ⟨A7, c7, rfl⟩ := own_n ho
    have kd : Kept [] w5 ((w5.alloc (.cells #[.int .i64 n, .slice A7 C.length c7] 24)).alloc (.cells #[.int .i64 0, .int .i64 0] 33)) := ((Kept.refl [] w5).alloc _).alloc _
    have H8 := Lib.hid ((Blk.new w5 24 [.int .i64 n, .slice A7 C.length c7]).alloc (.cells #[.int .i64 0, .int .i64 0] 33))
    have H9 := Lib.hid (Blk.new1F w5 (.cells #[.int .i64 n, .slice A7 C.length c7] 24) 33 [.int .i64 0, .int .i64 0])
    have HR7 := Lib.hid ((Reads.of_own ho).kept0 kd)
    replace HG := Lib.hid ((HG.out.kept hk (by simp)).kept kd (by simp))
    replace HR := Lib.hid ((HR.out.kept0 hk).kept0 kd)
    replace HR6 := Lib.hid ((HR6.out.kept0 hk).kept0 kd)
    replace K0 := Lib.hid ((K0.out.trans hk).trans kd)
    clear kd hk ho
    go_upto_region 7 with (fail)
    generalize (w5.alloc (.cells #[.int .i64 n, .slice A7 C.length c7] 24)).alloc (.cells #[.int .i64 0, .int .i64 0] 33) = w6 at *
    generalize w5.heap.size + 1 = g9 at H9 ⊢
    generalize w5.heap.size = g8 at H8 ⊢
    have x0 := HG.out.cell 0
    have x1 := HG.out.cell 1
    have xl := HG.out.lt
    have y0 := H8.out.cell 0
    have y1 := H8.out.cell 1
    have yl := H8.out.lt
    have f0 := H9.out.cell 0
    have f1 := H9.out.cell 1
    have fl := H9.out.lt
    simp only [List.getElem?_cons_zero, List.getElem?_cons_succ] at x0 x1 y0 y1 f0 f1
    go_wp2_with fail
    refine (refSame_any n n C C A5 A7 c5 c7 _ HCL.out HCL.out HR.out HR7.out).mono ?_
    rintro z w7 ⟨rfl, hk⟩
    rw [show (decide (n = n) && decide (C = C)) = true from by simp]
    replace HR6 := Lib.hid (HR6.out.kept0 hk)
    replace K0 := Lib.hid (K0.out.trans hk)
    clear hk x0 x1 xl y0 y1 yl f0 f1 fl
    go_wp2_with fail
    refine (canon6_any bs A6 c6 _ HR6.out HLB.out).mono ?_
    rintro z w8 ⟨rfl, hk⟩
    rw [HCN.out]
    replace K0 := Lib.hid (K0.out.trans hk)
    clear hk
    cases hcb : canonB b
    · have HCB := Lib.hid hcb
      clear hcb
      go_wp2_with fail
      refine (canon6_any b B cb _ (HB.out.kept0 K0.out) HBL.out).mono ?_
      rintro z wc ⟨rfl, hk⟩
      rw [HCB.out]
      replace K0 := Lib.hid (K0.out.trans hk)
      clear hk
      go_wp2_with fail
      refine (live6_any _).mono ?_
      rintro z wl ⟨rfl, hk⟩
      replace K0 := Lib.hid (K0.out.trans hk)
      clear hk
      go_wp2_with fail
      go_ret
      exact ⟨rfl, K0.out⟩
    · obtain ⟨N2, l2, hd, hz, hbe⟩ : ∃ N2 l2, decG b = .ok (N2, l2) ∧ encW N2 l2 = 0 ∧ b = encB N2 l2 := by
        unfold canonB at hcb
        rcases hd : decG b with ⟨e, a⟩ | ⟨N2, l2⟩
        · rw [hd] at hcb; cases hcb
        · rw [hd] at hcb
          simp only [Bool.and_eq_true, decide_eq_true_eq] at hcb
          exact ⟨N2, l2, rfl, hcb.1, hcb.2⟩
      have HCB := Lib.hid hcb
      have HD := Lib.hid hd
      have HZ := Lib.hid hz
      have HE := Lib.hid hbe
      have HL2 := Lib.hid (show l2.length ≤ maxLen by have := (right_zero (encW_zero hz).1).2.1; unfold maxLen; omega)
      clear hcb hd hz hbe
      go_wp2_with fail
      refine (canon6_any b B cb _ (HB.out.kept0 K0.out) HBL.out).mono ?_
      rintro z wc ⟨rfl, hk⟩
      rw [HCB.out]
      replace K0 := Lib.hid (K0.out.trans hk)
      clear hk
      go_wp2_with fail
      refine (decode_any b B cb _ (HB.out.kept0 K0.out) HBL.out).mono ?_
      intro z wd hz
      rw [HD.out] at hz
      obtain ⟨⟨v, rfl, ho⟩, hk⟩ := hz
      obtain ⟨A8, c8, rfl⟩ := own_n ho
      have kd : Kept [] wd ((wd.alloc (.cells #[.int .i64 N2, .slice A8 l2.length c8] 24)).alloc (.cells #[.int .i64 0, .int .i64 0] 33)) := ((Kept.refl [] wd).alloc _).alloc _
      have HG := Lib.hid ((Blk.new wd 24 [.int .i64 N2, .slice A8 l2.length c8]).alloc (.cells #[.int .i64 0, .int .i64 0] 33))
      have HR := Lib.hid ((Reads.of_own ho).kept0 kd)
      replace K0 := Lib.hid ((K0.out.trans hk).trans kd)
      clear kd hk ho
      go_wp2_with fail
      refine (encode_any N2 l2 A8 c8 _ HR.out HL2.out).mono ?_
      rintro z we ⟨⟨v, rfl, hb2⟩, hk⟩
      rw [if_pos HZ.out, ← HE.out] at hb2
      rw [HZ.out]
      obtain ⟨A9, c9, rfl⟩ := own_n hb2
      have HR9 := Lib.hid (Reads.of_own hb2)
      replace K0 := Lib.hid (K0.out.trans hk)
      clear hk hb2
      go_wp2_with fail
      refine (live6_any _).mono ?_
      rintro z wl ⟨rfl, hk⟩
      replace K0 := Lib.hid (K0.out.trans hk)
      replace HR9 := Lib.hid (HR9.out.kept0 hk)
      clear hk
      go_wp2_with fail
      refine (sameBytes_any b b B A9 cb c9 _ (HB.out.kept0 K0.out) HR9.out hb hb).mono ?_
      rintro z wf ⟨rfl, nq, hnq⟩
      have hk : Kept [] wl wf := hnq ▸ (Kept.refl [] _).drewN nq
      rw [show decide (b = b) = true from decide_eq_true rfl]
      replace K0 := Lib.hid (K0.out.trans hk)
      clear hk hnq
      go_wp2_with fail
      go_ret
      exact ⟨rfl, K0.out⟩
  · rw [if_neg hz] at hb2
    obtain ⟨A6, c6, rfl⟩ := own_n hb2
    obtain ⟨ez, hez⟩ : ∃ ez, ez = encW n C := ⟨_, rfl⟩
    rw [← hez] at hz ⊢
    clear hez hb2
    cases hcb : canonB b
    · have HCB := Lib.hid hcb
      clear hcb
      go_wp2_with fail
      refine (canon6_any b B cb _ (HB.out.kept0 K0.out) HBL.out).mono ?_
      rintro z wc ⟨rfl, hk⟩
      rw [HCB.out]
      replace K0 := Lib.hid (K0.out.trans hk)
      clear hk
      go_wp2_with fail
      refine (live6_any _).mono ?_
      rintro z wl ⟨rfl, hk⟩
      replace K0 := Lib.hid (K0.out.trans hk)
      clear hk
      go_wp2_with fail
      go_ret
      exact ⟨rfl, K0.out⟩
    · obtain ⟨N2, l2, hd, hz, hbe⟩ : ∃ N2 l2, decG b = .ok (N2, l2) ∧ encW N2 l2 = 0 ∧ b = encB N2 l2 := by
        unfold canonB at hcb
        rcases hd : decG b with ⟨e, a⟩ | ⟨N2, l2⟩
        · rw [hd] at hcb; cases hcb
        · rw [hd] at hcb
          simp only [Bool.and_eq_true, decide_eq_true_eq] at hcb
          exact ⟨N2, l2, rfl, hcb.1, hcb.2⟩
      have HCB := Lib.hid hcb
      have HD := Lib.hid hd
      have HZ := Lib.hid hz
      have HE := Lib.hid hbe
      have HL2 := Lib.hid (show l2.length ≤ maxLen by have := (right_zero (encW_zero hz).1).2.1; unfold maxLen; omega)
      clear hcb hd hz hbe
      go_wp2_with fail
      refine (canon6_any b B cb _ (HB.out.kept0 K0.out) HBL.out).mono ?_
      rintro z wc ⟨rfl, hk⟩
      rw [HCB.out]
      replace K0 := Lib.hid (K0.out.trans hk)
      clear hk
      go_wp2_with fail
      refine (decode_any b B cb _ (HB.out.kept0 K0.out) HBL.out).mono ?_
      intro z wd hz
      rw [HD.out] at hz
      obtain ⟨⟨v, rfl, ho⟩, hk⟩ := hz
      obtain ⟨A8, c8, rfl⟩ := own_n ho
      have kd : Kept [] wd ((wd.alloc (.cells #[.int .i64 N2, .slice A8 l2.length c8] 24)).alloc (.cells #[.int .i64 0, .int .i64 0] 33)) := ((Kept.refl [] wd).alloc _).alloc _
      have HG := Lib.hid ((Blk.new wd 24 [.int .i64 N2, .slice A8 l2.length c8]).alloc (.cells #[.int .i64 0, .int .i64 0] 33))
      have HR := Lib.hid ((Reads.of_own ho).kept0 kd)
      replace K0 := Lib.hid ((K0.out.trans hk).trans kd)
      clear kd hk ho
      go_wp2_with fail
      refine (encode_any N2 l2 A8 c8 _ HR.out HL2.out).mono ?_
      rintro z we ⟨⟨v, rfl, hb2⟩, hk⟩
      rw [if_pos HZ.out, ← HE.out] at hb2
      rw [HZ.out]
      obtain ⟨A9, c9, rfl⟩ := own_n hb2
      have HR9 := Lib.hid (Reads.of_own hb2)
      replace K0 := Lib.hid (K0.out.trans hk)
      clear hk hb2
      go_wp2_with fail
      refine (live6_any _).mono ?_
      rintro z wl ⟨rfl, hk⟩
      replace K0 := Lib.hid (K0.out.trans hk)
      replace HR9 := Lib.hid (HR9.out.kept0 hk)
      clear hk
      go_wp2_with fail
      refine (sameBytes_any b b B A9 cb c9 _ (HB.out.kept0 K0.out) HR9.out hb hb).mono ?_
      rintro z wf ⟨rfl, nq, hnq⟩
      have hk : Kept [] wl wf := hnq ▸ (Kept.refl [] _).drewN nq
      rw [show decide (b = b) = true from decide_eq_true rfl]
      replace K0 := Lib.hid (K0.out.trans hk)
      clear hk hnq
      go_wp2_with fail
      go_ret
      exact ⟨rfl, K0.out⟩

set_option maxRecDepth 100000 in
theorem loaderBack_lifted (os : Os) (started : os.Started) (H : Type) (enc : TypeId × Value → H) :
    ReturnsInHanded {} Tryz.checked os 6 .any (Rows.loaderBackSpec.pre6 enc Tryz.prog Tryz.f6 Rows.loaderBackRow.domain false) (Rows.loaderBackSpec.post enc Tryz.prog Tryz.f6 false true false false) := by
  refine returnsInHanded_of_change (C := Tryz.checked) own started (by kernel_rfl) Tryz.func6
    (ChangeSpec.witness6 (enc := enc) (C := Tryz.checked) false ⟨#[], #[.agg #[.int .i64 0, .slice none 0 0], .slice none 0 0], []⟩ 8 (by kernel_rfl) (by kernel_rfl) (by kernel_rfl) (by kernel_rfl)) ?_
  intro W base args ds gs before hval0 hW hcnd _
  have hval : ∀ (j : Nat) t v, Tryz.f6.params[j]? = some t → args[j]? = some v → Value.okWide Tryz.prog W .any base t v := hval0
  have hW' := hW
  obtain ⟨p, q, hA0, hV, rfl, hfz, hnd⟩ := hW
  have hA : DataW.TrodAll enc Tryz.prog W 0 (fun _ => true) true Tryz.f6.params.toList args.toList ds p := hA0
  rw [Tryz.params6] at hA hval
  obtain ⟨v0, vs0, d0, ds0, p0, q0, hargs, rfl, rfl, h0, r0⟩ := trodAll_cons hA
  obtain ⟨v1, vs1, d1, ds1, p1, q1, rfl, rfl, rfl, h1, r1⟩ := trodAll_cons r0
  obtain ⟨rfl, rfl, rfl⟩ := trodAll_nil r1
  obtain rfl : args = #[v0, v1] := by cases args; simp_all
  obtain ⟨rfl, rfl⟩ := trodVars_none hV
  obtain ⟨n, A, c, l, rfl, l1, l2, hAr, hw, hn⟩ := open_graph (hval 0 24 v0 rfl rfl) h0
  obtain ⟨B, cb, b, rfl, l3, l4, hBr, _⟩ := open_bytes Tryz.underlying26 Tryz.underlying5 (by kernel_rfl) (hval 1 26 v1 rfl rfl) h1
  refine (loaderBack_walk n l A c b B cb W hAr hw (Nat.le_trans l1 l2) hBr (Nat.le_trans l3 l4)).mono fun e W' ⟨he, hk⟩ => ?_
  exact ⟨_, he, post_true rfl Tryz.underlying4 rfl rfl rfl rfl laidOut (by decide +kernel) hW' hk⟩

theorem loaderBack_holds : Rows.LoaderBackSaid :=
  OpenClaim.holds_of_wide 6 Tryz.f6 rfl rfl rfl rfl rfl rfl rfl ⟨rfl, rfl, rfl, rfl, rfl⟩ rfl rfl rfl rfl rfl (by kernel_rfl) Tryz.func6 (by kernel_rfl)
    (of_decide_eq_true (by kernel_rfl)) (by unfold Func.isWrapper; first | (rw [if_pos (by decide +kernel)]; kernel_rfl) | (rw [if_neg (by decide +kernel)]; exact ⟨rfl, rfl⟩))
    (fun os started H enc _ => loaderBack_lifted os started H enc)
end Go.Proofs.YtfnhfmffkjljnaaGreat
