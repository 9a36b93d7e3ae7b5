/- 'OctetPuts' returns true for every three numbers: the program's bytes of a number are the reference's. Conditions: none. -/
import Derived.Test.YtdjidnccockmmaaOct12
import Derived.Test.YtdjidnccockmmaaShut
namespace Go.Proofs.Ytdjidnccockmmaa
open Go.ChangeShapes Go.WideShapes Go.ChangeAt Go.RowKit
set_option maxHeartbeats 1000000

theorem own : ownKnob Try.prog.godebug = none := by kernel_rfl
theorem laidOut : laidOutB Try.prog = true := by kernel_rfl

/-- Two slices of bytes that are the same. -/
theorem same_is (x : List UInt8) (n m : Nat) (A B : Option Addr) (c d : Nat) (w : World) (hn : x.length = n) (hm : x.length = m) (hx : Reads w A (x.map byteV)) (hy : Reads w B (x.map byteV)) (hlx : n ≤ maxLen) :
    Calls Try.prog 13 #[.slice A n c, .slice B m d] w fun e w' => e = .returned (.bool true) ∧ ∃ n, w' = w.drewN n := by
  have h := sameBytes_n x x n m A B c d w hn hm hx hy hlx (by omega)
  simpa using h

theorem octetPuts_walk (a b : Nat) (c : Int) (ha : a < 256) (hb : b < 4294967296) (w : World) :
    Calls Try.prog 3 #[.int .u8 (a : Int), .int .u32 (b : Int), .int .i64 c] w fun e w' => e = .returned (.bool true) ∧ Kept [] w w' := by
  have hA := Lib.hid ha
  have hB := Lib.hid hb
  clear ha hb
  go_enter Try.func3, Try.ntmps3
  go_wp2_with fail
  refine (live_any _).mono ?_
  rintro e w1 ⟨rfl, hk⟩
  have K := Lib.hid hk
  clear hk
  go_wp2_with fail
  refine (put8_any a _ hA.out).mono ?_
  rintro e w2 ⟨rfl, hblk, hk⟩
  have K := Lib.hid (K.out.trans hk)
  have HB := Lib.hid hblk
  clear hk hblk
  go_wp2_with fail
  refine (rput8_any a _ hA.out).mono ?_
  rintro e w3 ⟨v, rfl, ho, hk⟩
  obtain ⟨A, c1, rfl, _, _, hr, _⟩ := own_form ho
  have K := Lib.hid (K.out.trans hk)
  have HB := Lib.hid (HB.out.kept hk (by simp))
  have HR := Lib.hid hr
  clear hk hr ho
  go_wp2_with fail
  refine (same_is (le a 1) 1 1 _ _ _ _ _ rfl rfl (Reads.of_blk HB.out (fun _ _ h => h)) HR.out (by decide)).mono ?_
  rintro e w4 ⟨rfl, k, rfl⟩
  have K := Lib.hid (K.out.drewN k)
  clear HB HR
  go_wp2_with fail
  refine (put32_any b _ hB.out).mono ?_
  rintro e w2 ⟨rfl, hblk, hk⟩
  have K := Lib.hid (K.out.trans hk)
  have HB := Lib.hid hblk
  clear hk hblk
  go_wp2_with fail
  refine (rput32_any b _ hB.out).mono ?_
  rintro e w3 ⟨v, rfl, ho, hk⟩
  obtain ⟨A, c1, rfl, _, _, hr, _⟩ := own_form ho
  have K := Lib.hid (K.out.trans hk)
  have HB := Lib.hid (HB.out.kept hk (by simp))
  have HR := Lib.hid hr
  clear hk hr ho
  go_wp2_with fail
  refine (same_is (le b 4) 4 4 _ _ _ _ _ rfl rfl (Reads.of_blk HB.out (fun _ _ h => h)) HR.out (by decide)).mono ?_
  rintro e w4 ⟨rfl, k, rfl⟩
  have K := Lib.hid (K.out.drewN k)
  clear HB HR
  go_wp2_with fail
  refine (put64_any c _).mono ?_
  rintro e w2 ⟨rfl, hblk, hk⟩
  have K := Lib.hid (K.out.trans hk)
  have HB := Lib.hid hblk
  clear hk hblk
  go_wp2_with fail
  refine (rput64_any c _).mono ?_
  rintro e w3 ⟨v, rfl, ho, hk⟩
  obtain ⟨A, c1, rfl, _, _, hr, _⟩ := own_form ho
  have K := Lib.hid (K.out.trans hk)
  have HB := Lib.hid (HB.out.kept hk (by simp))
  have HR := Lib.hid hr
  clear hk hr ho
  go_wp2_with fail
  refine (same_is (le (u64of c) 8) 8 8 _ _ _ _ _ rfl rfl (Reads.of_blk HB.out (fun _ _ h => h)) HR.out (by decide)).mono ?_
  rintro e w4 ⟨rfl, k, rfl⟩
  have K := Lib.hid (K.out.drewN k)
  clear HB HR
  go_wp2_with fail
  go_ret
  exact ⟨rfl, K.out⟩

theorem wf_u8 {a : Int} (h : (Lit.int .u8 a).wf = true) : ∃ n : Nat, a = n ∧ n < 256 := by
  simp [Lit.wf, IntKind.min, IntKind.max, IntKind.signed, IntKind.bits] at h
  exact ⟨a.toNat, by omega, by omega⟩
theorem wf_u32 {a : Int} (h : (Lit.int .u32 a).wf = true) : ∃ n : Nat, a = n ∧ n < 4294967296 := by
  simp [Lit.wf, IntKind.min, IntKind.max, IntKind.signed, IntKind.bits] at h
  exact ⟨a.toNat, by omega, by omega⟩

set_option maxRecDepth 100000 in
theorem octetPuts_lifted (os : Os) (started : os.Started) (H : Type) (enc : TypeId × Value → H) :
    ReturnsInHanded {} Try.checked os 3 .any (Rows.octetPutsSpec.pre6 enc Try.prog Try.f3 Rows.octetPutsRow.domain false) (Rows.octetPutsSpec.post enc Try.prog Try.f3 false true false false) := by
  refine returnsInHanded_of_change (C := Try.checked) own started (by kernel_rfl) Try.func3
    (ChangeSpec.witness6 (enc := enc) (C := Try.checked) false ⟨#[], #[.int .u8 0, .int .u32 0, .int .i64 0], []⟩ 8 (by kernel_rfl) (by kernel_rfl) (by kernel_rfl) (by kernel_rfl)) ?_
  intro W base args ds gs before hval0 hW hcnd _
  have hval : ∀ (j : Nat) t v, Try.f3.params[j]? = some t → args[j]? = some v → Value.okWide Try.prog W .any base t v := hval0
  have hW' := hW
  obtain ⟨p, q, hA0, hV, rfl, hfz, hnd⟩ := hW
  have hA : DataW.TrodAll enc Try.prog W 0 (fun _ => true) true Try.f3.params.toList args.toList ds p := hA0
  rw [Try.params3] at hA hval
  obtain ⟨v0, vs0, d0, ds0, p0, q0, hargs, rfl, rfl, h0, r0⟩ := trodAll_cons hA
  obtain ⟨v1, vs1, d1, ds1, p1, q1, rfl, rfl, rfl, h1, r1⟩ := trodAll_cons r0
  obtain ⟨v2, vs2, d2, ds2, p2, q2, rfl, rfl, rfl, h2, r2⟩ := trodAll_cons r1
  obtain ⟨rfl, rfl, rfl⟩ := trodAll_nil r2
  obtain rfl : args = #[v0, v1, v2] := by cases args; simp_all
  obtain ⟨rfl, rfl⟩ := trodVars_none hV
  obtain ⟨a0, rfl, rfl, rfl, w0⟩ := open_int Try.underlying5 (hval 0 5 v0 rfl rfl) h0
  obtain ⟨a1, rfl, rfl, rfl, w1⟩ := open_int Try.underlying22 (hval 1 22 v1 rfl rfl) h1
  obtain ⟨a2, rfl, rfl, rfl, w2⟩ := open_int Try.underlying2 (hval 2 2 v2 rfl rfl) h2
  obtain ⟨a, rfl, ha⟩ := wf_u8 w0
  obtain ⟨b, rfl, hb⟩ := wf_u32 w1
  refine (octetPuts_walk a b a2 ha hb W).mono fun e W' ⟨he, hk⟩ => ?_
  exact ⟨_, he, post_true rfl Try.underlying4 rfl rfl rfl rfl laidOut (by decide +kernel) hW' hk⟩

theorem octetPuts_holds : Rows.OctetPutsSaid :=
  OpenClaim.holds_of_wide 3 Try.f3 rfl rfl rfl rfl rfl rfl rfl ⟨rfl, rfl, rfl, rfl, rfl⟩ rfl rfl rfl rfl rfl (by kernel_rfl) Try.func3 (by kernel_rfl)
    (of_decide_eq_true (by kernel_rfl)) (by unfold Func.isWrapper; first | (rw [if_pos (by decide +kernel)]; kernel_rfl) | (rw [if_neg (by decide +kernel)]; exact ⟨rfl, rfl⟩))
    (fun os started H enc _ => octetPuts_lifted os started H enc)
end Go.Proofs.Ytdjidnccockmmaa
