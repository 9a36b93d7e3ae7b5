/- 'FrameCuts' returns true for every f, at, and more. Conditions: none. -/
import Derived.Test.YtdjidnccockmmaaLaw7
namespace Go.Proofs.Ytdjidnccockmmaa
set_option linter.unusedSimpArgs false
set_option linter.unusedVariables false
set_option linter.constructorNameAsVariable false
open Go.ChangeShapes Go.WideShapes Go.ChangeAt Go.RowKit
open Go.RowKit (wrap32 wrap64)
set_option maxHeartbeats 8000000

theorem wf_u16 {a : Int} (h : (Lit.int .u16 a).wf = true) : ∃ n : Nat, a = n ∧ n < 65536 := by
  simp [Lit.wf, IntKind.min, IntKind.max, IntKind.signed, IntKind.bits] at h
  exact ⟨a.toNat, by omega, by omega⟩
theorem map_take_reads {w : World} {A : Option Addr} {l : List UInt8} (h : Reads w A (l.map byteV)) (k : Nat) : Reads w A ((l.take k).map byteV) := by
  rw [← List.take_append_drop k l, List.map_append] at h
  exact h.pre

set_option maxRecDepth 100000 in
theorem frameCuts_walk (F : Fr) (at_ : Nat) (q : List UInt8) (A1 A2 A3 B : Option Addr) (c1 c2 c3 d : Nat) (w : World) (hF : FrIn w F A1 A2 A3) (h1 : F.items.length ≤ c1) (h2 : F.sums.length ≤ c2) (h3 : F.trips.length ≤ c3) (hI : F.In) (ha : at_ < 65536) (hl : q.length ≤ maxLen) (hr : Reads w B (q.map byteV)) :
    Calls Try.prog 11 #[.agg (frC F A1 A2 A3 c1 c2 c3).toArray, .int .u16 (at_ : Int), .slice B q.length d] w fun e w' => e = .returned (.bool true) ∧ Kept [] w w' := by
  unfold maxLen at hl
  have heq := fun (a b c d : Int) (wx : World) => eqFault a b c d wx
  have K0 := Lib.hid ((Kept.refl [] w).alloc (.cells (frC F A1 A2 A3 c1 c2 c3).toArray 60))
  have HB := Lib.hid hr
  have HFI := Lib.hid (hF.kept0 K0.out)
  have HF := Lib.hid hF.few
  have SH := Lib.hid (few_short F)
  have HI := Lib.hid hI.few
  clear hF hI hr
  go_enter Try.func11, Try.ntmps11
  go_wp2_with fail
  refine (few_any F A1 A2 A3 c1 c2 c3 _ HFI.out h1 h2 h3).mono ?_
  rintro x w1 ⟨rfl, hk⟩
  replace K0 := Lib.hid (K0.out.trans hk)
  clear HFI hk h1 h2 h3
  generalize fewF F = G at HF SH HI ⊢
  go_wp2_with fail
  refine (refEncode_any G A1 A2 A3 c1 c2 c3 _ (HF.out.kept0 K0.out) ⟨by have := SH.out.1; omega, by have := SH.out.2.1; omega, by have := SH.out.2.2; omega⟩).mono ?_
  rintro x wa ⟨⟨A4, d1, rfl, ld1, md1, rd1⟩, hk⟩
  replace K0 := Lib.hid (K0.out.trans hk)
  have R4 := Lib.hid rd1
  clear rd1 hk HF
  by_cases hw : G.wrong = 0
  case neg =>
    have hne : (G.wrong != 0) = true := by rw [bne_iff_ne]; exact hw
    clear hw HI
    go_wp2_with fail
    refine (live19_any _).mono ?_
    rintro x wb ⟨rfl, hk⟩
    have K := Lib.hid (K0.out.trans hk)
    clear hk
    go_wp2_with fail
    go_ret
    exact ⟨rfl, K.out⟩
  obtain ⟨he, hd⟩ := enc_dec HI.out hw
  have OK := Lib.hid ((okFr_iff G).2 ⟨hw, HI.out⟩)
  rw [he] at R4 ld1 ⊢
  rw [hw]
  clear hw he hd HI md1
  by_cases hq : 100 < q.length
  · go_wp2_with fail
    refine (live19_any _).mono ?_
    rintro x wb ⟨rfl, hk⟩
    have K := Lib.hid (K0.out.trans hk)
    clear hk
    go_wp2_with fail
    go_ret
    exact ⟨rfl, K.out⟩
  have hlen := bytes_length G
  have hn36 : 36 ≤ G.bytes.length := by omega
  have hn4 : G.bytes.length ≤ 4000 := by have := SH.out; omega
  clear hlen
  obtain ⟨n, hn⟩ : ∃ n, n = G.bytes.length := ⟨_, rfl⟩
  rw [← hn] at ld1 hn36 hn4 ⊢
  have HN := Lib.hid hn.symm
  clear hn
  have hmod : at_ % n < n := Nat.mod_lt _ (by omega)
  go_wp2_with fail
  refine (decode_n (G.bytes.take (at_ % n)) (at_ % n) A4 d1 _ (by rw [List.length_take, HN.out]; omega) (map_take_reads R4.out _) (by omega)).mono ?_
  intro x wb hx
  rw [dec_cut OK.out (by rw [HN.out]; exact hmod)] at hx
  obtain ⟨rfl, hk⟩ := hx
  replace K0 := Lib.hid (K0.out.trans hk)
  replace R4 := Lib.hid (R4.out.kept0 hk)
  clear hk
  generalize hkm : at_ % n = kk at hmod ⊢
  have HKM := Lib.hid hkm
  rw [show (at_ : Int) % (n : Int) = (kk : Int) by omega]
  clear hkm
  go_upto_region 6 with (fail)
  have HZ := Lib.hid (Blk.new1F wb (.cells (frC zeroF none none none 0 0 0).toArray 60) 40 [.int .i64 2, .int .i64 kk])
  have hk : Kept [] wb ((wb.alloc (.cells (frC zeroF none none none 0 0 0).toArray 60)).alloc (.cells #[.int .i64 2, .int .i64 kk] 40)) := ((Kept.refl [] wb).alloc _).alloc _
  replace K0 := Lib.hid (K0.out.trans hk)
  replace R4 := Lib.hid (R4.out.kept0 hk)
  clear hk
  obtain ⟨wc, hv⟩ : ∃ wc, wc = ((wb.alloc (.cells (frC zeroF none none none 0 0 0).toArray 60)).alloc (.cells #[.int .i64 2, .int .i64 kk] 40)) := ⟨_, rfl⟩
  rw [← hv] at HZ K0 R4
  show Code.wp _ _ _ _ ((wb.alloc (.cells (frC zeroF none none none 0 0 0).toArray 60)).alloc (.cells #[.int .i64 2, .int .i64 kk] 40))
  rw [← hv]
  clear hv
  generalize wb.heap.size + 1 = h5 at HZ ⊢
  generalize wb.heap.size = g5
  have HB2 := Lib.hid (HB.out.kept0 K0.out)
  go_wp2_with (first | (at_builtin; refine wpList_app _ rfl (.tmp 41) (.tmp 42) _ rfl 5 (.int .u8 0) 1 1 Try.underlying25 infoU8 rfl (by decide) wc.heap.size (.slice none 0 0) 0 [] rfl (World.ownsRow_nil _ _ _ _) A4 n d1 (G.bytes.map byteV) rfl (by simp [HN.out]) R4.out (by simp [byteV, Value.oneCell']) (by omega) (by unfold maxLen; omega) (Nat.le_refl _) ?_; intro v1 wd hown1 hk1 hb1; simp only [Nat.zero_add, List.nil_append] at hown1; have K1 := Lib.hid (show Kept [] wc wd from hk1); have O1 := Lib.hid hown1; have HB3 := Lib.hid (HB2.out.kept0 K1.out); clear hk1 hown1 hb1) | (at_builtin; refine wpList_app _ rfl (.tmp 44) (.tmp 45) _ rfl 5 (.int .u8 0) 1 1 Try.underlying25 infoU8 rfl (by decide) wc.heap.size v1 n _ rfl O1.out B q.length d (q.map byteV) rfl (by simp) HB3.out (by simp [byteV, Value.oneCell']) (by omega) (by unfold maxLen; omega) K1.out.size ?_; intro v2 we hown2 hk2 hb2; have K2 := Lib.hid (K1.out.app hk2 O1.out); obtain ⟨A6, d6, rfl, _, _, hr6, _⟩ := own_form hown2; have R6 := Lib.hid hr6; clear hown2 hk2 hb2 hr6))
  have HZ := Lib.hid (HZ.out.kept K2.out (by simp))
  replace K0 := Lib.hid (K0.out.trans K2.out)
  have R6 := Lib.hid (show Reads we A6 ((G.bytes ++ q).map byteV) by rw [List.map_append]; exact R6.out)
  refine (decode_n (G.bytes ++ q) (n + q.length) A6 d6 _ (by rw [List.length_append, HN.out]) R6.out (by omega)).mono ?_
  intro x wf hx
  by_cases hm : q = []
  · subst hm
    rw [List.append_nil, dec_full OK.out] at hx
    obtain ⟨⟨B1, B2, B3, e1, e2, e3, rfl, hf, _, _, _⟩, hk⟩ := hx.good
    replace K0 := Lib.hid (K0.out.trans hk)
    have HZ := Lib.hid (HZ.out.kept hk (by simp))
    clear hx hf hk R6 R4 HB
    go_upto_region 10 with (fail)
    have HW := Lib.hid (Blk.new1F wf (.cells (frC G B1 B2 B3 e1 e2 e3).toArray 60) 40 [.int .i64 0, .int .i64 0])
    have hk : Kept [] wf ((wf.alloc (.cells (frC G B1 B2 B3 e1 e2 e3).toArray 60)).alloc (.cells #[.int .i64 0, .int .i64 0] 40)) := ((Kept.refl [] wf).alloc _).alloc _
    replace K0 := Lib.hid (K0.out.trans hk)
    have HZ := Lib.hid (HZ.out.kept hk (by simp))
    clear hk
    obtain ⟨wg, hv⟩ : ∃ wg, wg = ((wf.alloc (.cells (frC G B1 B2 B3 e1 e2 e3).toArray 60)).alloc (.cells #[.int .i64 0, .int .i64 0] 40)) := ⟨_, rfl⟩
    rw [← hv] at HW K0 HZ
    show Code.wp _ _ _ _ ((wf.alloc (.cells (frC G B1 B2 B3 e1 e2 e3).toArray 60)).alloc (.cells #[.int .i64 0, .int .i64 0] 40))
    rw [← hv]
    clear hv
    generalize wf.heap.size + 1 = h6 at HW ⊢
    generalize wf.heap.size = g6
    go_wp2_with fail
    refine (live19_any _).mono ?_
    rintro x wh ⟨rfl, hk⟩
    replace K0 := Lib.hid (K0.out.trans hk)
    have HZ := Lib.hid (HZ.out.kept hk (by simp))
    have HW := Lib.hid (HW.out.kept hk (by simp))
    clear hk
    have z0 := HZ.out.cell 0
    have z1 := HZ.out.cell 1
    simp only [List.getElem?_cons_zero, List.getElem?_cons_succ] at z0 z1
    have v0 := HW.out.cell 0
    have v1 := HW.out.cell 1
    simp only [List.getElem?_cons_zero, List.getElem?_cons_succ] at v0 v1
    go_wp2_with fail
    go_ret
    exact ⟨ret_bool (by simp), K0.out⟩
  · have hq0 : ((q.length : Int) == 0) = false := by rw [beq_eq_false_iff_ne]; intro h0; exact hm (List.eq_nil_of_length_eq_zero (by omega))
    rw [dec_more OK.out hm, HN.out] at hx
    obtain ⟨rfl, hk⟩ := hx
    replace K0 := Lib.hid (K0.out.trans hk)
    have HZ := Lib.hid (HZ.out.kept hk (by simp))
    clear hk R6 R4 HB hm
    go_upto_region 10 with (fail)
    have HW := Lib.hid (Blk.new1F wf (.cells (frC zeroF none none none 0 0 0).toArray 60) 40 [.int .i64 4, .int .i64 n])
    have hk : Kept [] wf ((wf.alloc (.cells (frC zeroF none none none 0 0 0).toArray 60)).alloc (.cells #[.int .i64 4, .int .i64 n] 40)) := ((Kept.refl [] wf).alloc _).alloc _
    replace K0 := Lib.hid (K0.out.trans hk)
    have HZ := Lib.hid (HZ.out.kept hk (by simp))
    clear hk
    obtain ⟨wg, hv⟩ : ∃ wg, wg = ((wf.alloc (.cells (frC zeroF none none none 0 0 0).toArray 60)).alloc (.cells #[.int .i64 4, .int .i64 n] 40)) := ⟨_, rfl⟩
    rw [← hv] at HW K0 HZ
    show Code.wp _ _ _ _ ((wf.alloc (.cells (frC zeroF none none none 0 0 0).toArray 60)).alloc (.cells #[.int .i64 4, .int .i64 n] 40))
    rw [← hv]
    clear hv
    generalize wf.heap.size + 1 = h6 at HW ⊢
    generalize wf.heap.size = g6
    go_wp2_with fail
    refine (live19_any _).mono ?_
    rintro x wh ⟨rfl, hk⟩
    replace K0 := Lib.hid (K0.out.trans hk)
    have HZ := Lib.hid (HZ.out.kept hk (by simp))
    have HW := Lib.hid (HW.out.kept hk (by simp))
    clear hk
    have z0 := HZ.out.cell 0
    have z1 := HZ.out.cell 1
    simp only [List.getElem?_cons_zero, List.getElem?_cons_succ] at z0 z1
    have v0 := HW.out.cell 0
    have v1 := HW.out.cell 1
    simp only [List.getElem?_cons_zero, List.getElem?_cons_succ] at v0 v1
    go_wp2_with fail
    go_ret
    exact ⟨ret_bool (by simp), K0.out⟩

set_option maxRecDepth 100000 in
theorem frameCuts_lifted (os : Os) (started : os.Started) (H : Type) (enc : TypeId × Value → H) :
    ReturnsInHanded {} Try.checked os 11 .any (Rows.frameCutsSpec.pre6 enc Try.prog Try.f11 Rows.frameCutsRow.domain false) (Rows.frameCutsSpec.post enc Try.prog Try.f11 false true false false) := by
  refine returnsInHanded_of_change (C := Try.checked) own started (by kernel_rfl) Try.func11
    (ChangeSpec.witness6 (enc := enc) (C := Try.checked) false ⟨#[], #[.agg #[.int .i64 0, .int .i64 0, .int .i64 0, .int .i64 0, .int .i64 0, .int .i64 0, .slice none 0 0, .slice none 0 0, .slice none 0 0, .int .i64 0, .bool false], .int .u16 0, .slice none 0 0], []⟩ 8 (by kernel_rfl) (by kernel_rfl) (by kernel_rfl) (by kernel_rfl)) ?_
  intro W base args ds gs before hval0 hW hcnd _
  have hval : ∀ (j : Nat) t v, Try.f11.params[j]? = some t → args[j]? = some v → Value.okWide Try.prog W .any base t v := hval0
  have hW' := hW
  obtain ⟨p, q, hA0, hV, rfl, hfz, hnd⟩ := hW
  have hA : DataW.TrodAll enc Try.prog W 0 (fun _ => true) true Try.f11.params.toList args.toList ds p := hA0
  rw [Try.params11] at hA hval
  obtain ⟨v0, vs0, d0, ds0, p0, q0, hargs, rfl, rfl, h0, r0⟩ := trodAll_cons hA
  obtain ⟨v1, vs1, d1, ds1, p1, q1, rfl, rfl, rfl, h1, r1⟩ := trodAll_cons r0
  obtain ⟨v2, vs2, d2, ds2, p2, q2, rfl, rfl, rfl, h2, r2⟩ := trodAll_cons r1
  obtain ⟨rfl, rfl, rfl⟩ := trodAll_nil r2
  obtain rfl : args = #[v0, v1, v2] := by cases args; simp_all
  obtain ⟨rfl, rfl⟩ := trodVars_none hV
  obtain ⟨F, A1, A2, A3, c1, c2, c3, rfl, hF, f1, f2, f3, hI⟩ := open_frame (hval 0 60 v0 rfl rfl) h0
  obtain ⟨a1, rfl, rfl, rfl, w1⟩ := open_int Try.underlying81 (hval 1 81 v1 rfl rfl) h1
  obtain ⟨a, rfl, ha⟩ := wf_u16 w1
  obtain ⟨B, d, l, rfl, hl, hm, hr, _⟩ := open_bytes Try.underlying25 Try.underlying5 cellsU8 (hval 2 25 v2 rfl rfl) h2
  refine (frameCuts_walk F a l A1 A2 A3 B c1 c2 c3 d W hF f1 f2 f3 hI ha (by omega) hr).mono fun e W' ⟨he, hk⟩ => ?_
  exact ⟨_, he, post_true rfl Try.underlying4 rfl rfl rfl rfl laidOut (by decide +kernel) hW' hk⟩

theorem frameCuts_holds : Rows.FrameCutsSaid :=
  OpenClaim.holds_of_wide 11 Try.f11 rfl rfl rfl rfl rfl rfl rfl ⟨rfl, rfl, rfl, rfl, rfl⟩ rfl rfl rfl rfl rfl (by kernel_rfl) Try.func11 (by kernel_rfl)
    (of_decide_eq_true (by kernel_rfl)) (by unfold Func.isWrapper; first | (rw [if_pos (by decide +kernel)]; kernel_rfl) | (rw [if_neg (by decide +kernel)]; exact ⟨rfl, rfl⟩))
    (fun os started H enc _ => frameCuts_lifted os started H enc)
end Go.Proofs.Ytdjidnccockmmaa
