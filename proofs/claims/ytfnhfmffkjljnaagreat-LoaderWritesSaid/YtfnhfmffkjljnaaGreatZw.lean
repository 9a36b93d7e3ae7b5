/- 'LoaderWrites' returns true for every graph. Conditions: none. -/
import Derived.Test.YtfnhfmffkjljnaaGreatLw
import Derived.Test.YtfnhfmffkjljnaaGreatLz
import Derived.Test.YtfnhfmffkjljnaaGreatZb
namespace Go.Proofs.YtfnhfmffkjljnaaGreat
set_option linter.unusedSimpArgs false
set_option linter.unusedVariables false
open Go.ChangeShapes Go.WideShapes Go.ChangeAt Go.RowKit
open Go.RowKit (wrap32 wrap64)
set_option maxHeartbeats 8000000

theorem encOut_len (n : Int) (l : List Ed) : (if encW n l = 0 then encB n l else []).length ≤ maxLen := by
  by_cases h : encW n l = 0
  · rw [if_pos h]; exact encB_len h
  · rw [if_neg h]; simp

set_option maxRecDepth 100000 in
theorem loaderWrites_walk (n : Int) (l : List Ed) (A : Option Addr) (c : Nat) (w : World) (hA : Reads w A (l.flatMap edV)) (hl : l.length ≤ maxLen) :
    Calls Tryz.prog 3 #[.agg #[.int .i64 n, .slice A l.length c]] w fun e w' => e = .returned (.bool true) ∧ Kept [] w w' := by
  have HX := Lib.hid (Blk.new w 24 (grV n A l.length c))
  have K0 := Lib.hid ((Kept.refl [] w).alloc (.cells (grV n A l.length c).toArray 24))
  have HA := Lib.hid hA
  have HL := Lib.hid hl
  clear hA
  by_cases h1 : 200 < l.length
  · have h1' : (200 : Int) < (l.length : Int) := by omega
    go_enter Tryz.func3, Tryz.ntmps3
    go_wp2_with fail
    refine (live6_any _).mono ?_
    rintro z wl ⟨rfl, hk⟩
    replace K0 := Lib.hid (K0.out.trans hk)
    clear hk
    go_wp2_with fail
    go_ret
    exact ⟨rfl, K0.out⟩
  have h1' : ¬ (200 : Int) < (l.length : Int) := by omega
  have HEN := Lib.hid (encOut_len n l)
  go_enter Tryz.func3, Tryz.ntmps3
  go_wp2_with fail
  refine (encode_any n l A c _ (HA.out.kept0 K0.out) HL.out).mono ?_
  rintro z w1 ⟨⟨v, rfl, hb1⟩, hk⟩
  obtain ⟨bs, hbs⟩ : ∃ bs, bs = (if encW n l = 0 then encB n l else []) := ⟨_, rfl⟩
  obtain ⟨ez, hez⟩ : ∃ ez, ez = encW n l := ⟨_, rfl⟩
  rw [← hbs] at hb1 HEN
  rw [← hez]
  have HBS := Lib.hid hbs
  have HEZ := Lib.hid hez
  clear hbs hez
  obtain ⟨A6, c6, rfl⟩ := own_n hb1
  have HR6 := Lib.hid (Reads.of_own hb1)
  replace HX := Lib.hid (HX.out.kept hk (by simp))
  replace K0 := Lib.hid (K0.out.trans hk)
  clear hk hb1 h1' h1
  generalize hg : w.heap.size = g at HX ⊢
  clear hg
  have x0 := HX.out.cell 0
  have x1 := HX.out.cell 1
  have xl := HX.out.lt
  simp only [List.getElem?_cons_zero, List.getElem?_cons_succ] at x0 x1
  go_wp2_with fail
  refine (rencode_any n l A c _ (HA.out.kept0 K0.out) HL.out).mono ?_
  rintro z w2 ⟨⟨v, rfl, hb2⟩, hk⟩
  rw [← HBS.out] at hb2
  rw [← HEZ.out]
  obtain ⟨A7, c7, rfl⟩ := own_n hb2
  have HR7 := Lib.hid (Reads.of_own hb2)
  replace HR6 := Lib.hid (HR6.out.kept0 hk)
  replace K0 := Lib.hid (K0.out.trans hk)
  clear hk hb2 x0 x1 xl HX
  go_wp2_with fail
  refine (live6_any _).mono ?_
  rintro z wl ⟨rfl, hk⟩
  replace K0 := Lib.hid (K0.out.trans hk)
  replace HR6 := Lib.hid (HR6.out.kept0 hk)
  replace HR7 := Lib.hid (HR7.out.kept0 hk)
  clear hk
  go_wp2_with fail
  refine (sameBytes_any bs bs A6 A7 c6 c7 _ HR6.out HR7.out HEN.out HEN.out).mono ?_
  rintro z wf ⟨rfl, nq, hnq⟩
  have hk : Kept [] wl wf := hnq ▸ (Kept.refl [] _).drewN nq
  rw [show decide (bs = bs) = true from decide_eq_true rfl]
  replace K0 := Lib.hid (K0.out.trans hk)
  clear hk hnq
  go_wp2_with fail
  go_ret
  exact ⟨rfl, K0.out⟩

set_option maxRecDepth 100000 in
theorem loaderWrites_lifted (os : Os) (started : os.Started) (H : Type) (enc : TypeId × Value → H) :
    ReturnsInHanded {} Tryz.checked os 3 .any (Rows.loaderWritesSpec.pre6 enc Tryz.prog Tryz.f3 Rows.loaderWritesRow.domain false) (Rows.loaderWritesSpec.post enc Tryz.prog Tryz.f3 false true false false) := by
  refine returnsInHanded_of_change (C := Tryz.checked) own started (by kernel_rfl) Tryz.func3
    (ChangeSpec.witness6 (enc := enc) (C := Tryz.checked) false ⟨#[], #[.agg #[.int .i64 0, .slice none 0 0]], []⟩ 8 (by kernel_rfl) (by kernel_rfl) (by kernel_rfl) (by kernel_rfl)) ?_
  intro W base args ds gs before hval0 hW hcnd _
  have hval : ∀ (j : Nat) t v, Tryz.f3.params[j]? = some t → args[j]? = some v → Value.okWide Tryz.prog W .any base t v := hval0
  have hW' := hW
  obtain ⟨p, q, hA0, hV, rfl, hfz, hnd⟩ := hW
  have hA : DataW.TrodAll enc Tryz.prog W 0 (fun _ => true) true Tryz.f3.params.toList args.toList ds p := hA0
  rw [Tryz.params3] at hA hval
  obtain ⟨v0, vs0, d0, ds0, p0, q0, hargs, rfl, rfl, h0, r0⟩ := trodAll_cons hA
  obtain ⟨rfl, rfl, rfl⟩ := trodAll_nil r0
  obtain rfl : args = #[v0] := by cases args; simp_all
  obtain ⟨rfl, rfl⟩ := trodVars_none hV
  obtain ⟨n, A, c, l, rfl, l1, l2, hAr, hw, hn⟩ := open_graph (hval 0 24 v0 rfl rfl) h0
  refine (loaderWrites_walk n l A c W hAr (Nat.le_trans l1 l2)).mono fun e W' ⟨he, hk⟩ => ?_
  exact ⟨_, he, post_true rfl Tryz.underlying4 rfl rfl rfl rfl laidOut (by decide +kernel) hW' hk⟩

theorem loaderWrites_holds : Rows.LoaderWritesSaid :=
  OpenClaim.holds_of_wide 3 Tryz.f3 rfl rfl rfl rfl rfl rfl rfl ⟨rfl, rfl, rfl, rfl, rfl⟩ rfl rfl rfl rfl rfl (by kernel_rfl) Tryz.func3 (by kernel_rfl)
    (of_decide_eq_true (by kernel_rfl)) (by unfold Func.isWrapper; first | (rw [if_pos (by decide +kernel)]; kernel_rfl) | (rw [if_neg (by decide +kernel)]; exact ⟨rfl, rfl⟩))
    (fun os started H enc _ => loaderWrites_lifted os started H enc)
end Go.Proofs.YtfnhfmffkjljnaaGreat
