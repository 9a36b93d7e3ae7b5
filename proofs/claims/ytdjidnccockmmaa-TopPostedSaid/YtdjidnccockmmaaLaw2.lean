/- 'OctetReads' returns true for every bytes, and reads. Conditions: none. -/
import Derived.Test.YtdjidnccockmmaaOct15
import Derived.Test.YtdjidnccockmmaaOpen
import Derived.Test.YtdjidnccockmmaaLaw1
namespace Go.Proofs.Ytdjidnccockmmaa
open Go.ChangeShapes Go.WideShapes Go.ChangeAt Go.RowKit
open Go.RowKit (wrap32 wrap64)
set_option maxHeartbeats 2000000

/-- A read as the program has it. -/
def readV (r : Int × Int) : List Value := [.int .i64 r.1, .int .i64 r.2]
theorem read_at {w : World} {A : Option Addr} {l : List (Int × Int)} (h : Reads w A (l.flatMap readV)) {k : Nat} (hk : k < l.length) :
    ∃ b off, A = some ⟨b, off, none⟩ ∧ b < w.heap.size ∧ w.cell? ⟨b, off + k * 2, none⟩ = some (.int .i64 l[k].1) ∧ w.cell? ⟨b, off + k * 2 + 1, none⟩ = some (.int .i64 l[k].2) := by
  have e0 := flatMap_get l readV 2 (fun _ _ => rfl) k 0 hk (by decide)
  have e1 := flatMap_get l readV 2 (fun _ _ => rfl) k 1 hk (by decide)
  obtain ⟨b, off, e, hb, hc⟩ := h (by intro h0; rw [h0] at e0; simp [readV] at e0)
  exact ⟨b, off, e, hb, hc _ _ e0, hc _ _ e1⟩

theorem octetReads_walk (l : List UInt8) (q : List (Int × Int)) (A B : Option Addr) (c d : Nat) (w : World) (hl : l.length ≤ maxLen) (hr : Reads w A (l.map byteV)) (hrq : Reads w B (q.flatMap readV)) :
    Calls Try.prog 5 #[.slice A l.length c, .slice B q.length d] w fun e w' => e = .returned (.bool true) ∧ Kept [] w w' := by
  unfold maxLen at hl
  have HR := Lib.hid hr
  have HQ := Lib.hid hrq
  clear hr hrq
  by_cases h2 : 2000 < l.length
  · go_enter Try.func5, Try.ntmps5
    go_wp2_with fail
    refine (live_any _).mono ?_
    rintro e w1 ⟨rfl, hk⟩
    have K := Lib.hid hk
    clear hk
    go_wp2_with fail
    go_ret
    exact ⟨rfl, K.out⟩
  · go_enter Try.func5, Try.ntmps5
    go_wp2_with fail
    refine (open_any l A c _ HR.out (by omega)).mono ?_
    rintro e w1 ⟨p, rfl, hp, hrp, hk⟩
    have K1 := Lib.hid hk
    have HP := Lib.hid hrp
    have hsz1 := hk.size
    clear hk hrp
    go_wp2_with fail
    refine (ropen_any l A c _ (HR.out.kept0 K1.out) (by omega)).mono ?_
    rintro e w2 ⟨s, rfl, hs, hrs, hk⟩
    have K2 := Lib.hid (K1.out.trans hk)
    have HP := Lib.hid (HP.out.kept0 hk)
    have HS := Lib.hid hrs
    have hsz2 := hk.size
    clear hk hrs
    have hpl := HP.out.lt
    have hsl := HS.out.lt
    have hsw : s ≠ p := fun e => HP.out.ne HS.out (by decide) e.symm
    go_wp2_with fail
    have hX := Blk.new w2 47 [.pointer (some ⟨p, 0, none⟩), .pointer (some ⟨s, 0, none⟩)]
    have HX := Lib.hid hX
    clear hX
    have hXw : w.heap.size ≤ w2.heap.size := K2.out.size
    go_loopw [6] (fun i wr => ∃ (k : Nat) (R : Rd), k ≤ q.length ∧ k ≤ 40 ∧ i = .int .i64 k ∧ RdAt 87 wr p R ∧ RdAt 92 wr s R ∧ Blk wr w2.heap.size 47 [.pointer (some ⟨p, 0, none⟩), .pointer (some ⟨s, 0, none⟩)] ∧ Kept [] w wr) (fun i _ => 40 - (intOf i).toNat)
    case atStart => exact ⟨0, _, Nat.zero_le _, by omega, rfl, HP.out.kept0 ((Kept.refl _ _).alloc _), HS.out.kept0 ((Kept.refl _ _).alloc _), HX.out, K2.out.alloc _⟩
    case round =>
      obtain ⟨k, R, hk, hk40, rfl, hrp, hrs, hx, hkw⟩ := hrel
      have RP := Lib.hid hrp
      have RS := Lib.hid hrs
      have HXr := Lib.hid hx
      have KW := Lib.hid hkw
      have hx0 := hx.cell 0
      have hx1 := hx.cell 1
      simp only [List.getElem?_cons_zero, List.getElem?_cons_succ] at hx0 hx1
      clear hrp hrs hx hkw
      by_cases hlt : k < q.length
      · by_cases hlt40 : k < 40
        · obtain ⟨b, off, rfl, hbl, hq0', hq1'⟩ := read_at HQ.out hlt
          have hq0 := (KW.out.cell (p := ⟨b, off + k * 2, none⟩) hbl (by simp)).trans hq0'
          have hq1 := (KW.out.cell (p := ⟨b, off + k * 2 + 1, none⟩) hbl (by simp)).trans hq1'
          have hpr := RP.out.lt
          have hsr := RS.out.lt
          clear hq0' hq1'
          go_wp2_with fail
          go_region_held3 (fun w' => w'.cell? ⟨w2.heap.size, 0, none⟩ = some (.pointer (some ⟨p, 0, none⟩)) ∧ w'.cell? ⟨w2.heap.size, 1, none⟩ = some (.pointer (some ⟨s, 0, none⟩)) ∧ w'.cell? ⟨b, off + k * 2, none⟩ = some (.int .i64 q[k].1) ∧ w'.cell? ⟨b, off + k * 2 + 1, none⟩ = some (.int .i64 q[k].2)) (first | exact ⟨hx0, hx1, hq0, hq1⟩ | assumption) (first | (go_at_call 28; refine (read_any p s R q[k].1 q[k].2 _ (RP.out.kept0 ((Kept.refl [] wr).drew)) (RS.out.kept0 ((Kept.refl [] wr).drew))).mono ?_; rintro e w3 ⟨rfl, hp3, hs3, hk3⟩; have hS3 := And.intro ((hk3.cell (p := ⟨w2.heap.size, 0, none⟩) (by exact HXr.out.lt) (by simp; omega)).trans hx0) (And.intro ((hk3.cell (p := ⟨w2.heap.size, 1, none⟩) (by exact HXr.out.lt) (by simp; omega)).trans hx1) (And.intro ((hk3.cell (p := ⟨b, off + k * 2, none⟩) (by exact Nat.lt_of_lt_of_le hbl KW.out.size) (by simp; omega)).trans hq0) ((hk3.cell (p := ⟨b, off + k * 2 + 1, none⟩) (by exact Nat.lt_of_lt_of_le hbl KW.out.size) (by simp; omega)).trans hq1)))))
          have P3 := Lib.hid hp3
          have S3 := Lib.hid hs3
          have X3 := Lib.hid (HXr.out.drew.kept hk3 (by simp; omega))
          have KW3 := Lib.hid (KW.out.drew.then hk3 (by simp; omega))
          clear hp3 hs3 hk3 hS3 hx0 hx1 hq0 hq1
          go_wp2_with fail
          go_roundw
          case rel => exact ⟨k + 1, _, by omega, by omega, by go_num, P3.out, S3.out, X3.out, KW3.out⟩
          case measure => simp [intOf]; omega
        · clear hx0 hx1
          go_wp2_with fail
          refine (ofail_nil 3 1 _).mono ?_
          rintro e w4 ⟨rfl, rfl⟩
          go_wp2_with fail
          refine (live_any _).mono ?_
          rintro e w5 ⟨rfl, hk⟩
          have KW := Lib.hid (KW.out.trans hk)
          clear hk RP RS HXr
          go_wp2_with fail
          refine (u8_nil _).mono ?_
          rintro e w6 ⟨rfl, hk⟩
          have KW := Lib.hid (KW.out.trans hk)
          clear hk
          go_wp2_with fail
          refine (u32_nil _).mono ?_
          rintro e w6 ⟨rfl, hk⟩
          have KW := Lib.hid (KW.out.trans hk)
          clear hk
          go_wp2_with fail
          refine (i64_nil _).mono ?_
          rintro e w6 ⟨rfl, hk⟩
          have KW := Lib.hid (KW.out.trans hk)
          clear hk
          go_wp2_with fail
          refine (take_nil 1 _).mono ?_
          rintro e w6 ⟨rfl, hk⟩
          have KW := Lib.hid (KW.out.trans hk)
          clear hk
          go_wp2_with fail
          refine (at_nil _).mono ?_
          rintro e w7 ⟨rfl, rfl⟩
          go_wp2_with fail
          refine (left_nil _).mono ?_
          rintro e w8 ⟨rfl, rfl⟩
          go_wp2_with fail
          refine (end_nil _).mono ?_
          rintro e w9 ⟨rfl, k9, rfl⟩
          go_wp2_with fail
          refine (fault_nil _).mono ?_
          rintro e w10 ⟨rfl, hk⟩
          have KW := Lib.hid ((KW.out.drewN k9).trans hk)
          clear hk
          have F3 := guardFault
          have F4 := eqFault
          go_wp2_with fail
          go_ret
          exact ⟨rfl, KW.out⟩
      · clear hx0 hx1
        go_wp2_with fail
        refine (ofail_nil 3 1 _).mono ?_
        rintro e w4 ⟨rfl, rfl⟩
        go_wp2_with fail
        refine (live_any _).mono ?_
        rintro e w5 ⟨rfl, hk⟩
        have KW := Lib.hid (KW.out.trans hk)
        clear hk RP RS HXr
        go_wp2_with fail
        refine (u8_nil _).mono ?_
        rintro e w6 ⟨rfl, hk⟩
        have KW := Lib.hid (KW.out.trans hk)
        clear hk
        go_wp2_with fail
        refine (u32_nil _).mono ?_
        rintro e w6 ⟨rfl, hk⟩
        have KW := Lib.hid (KW.out.trans hk)
        clear hk
        go_wp2_with fail
        refine (i64_nil _).mono ?_
        rintro e w6 ⟨rfl, hk⟩
        have KW := Lib.hid (KW.out.trans hk)
        clear hk
        go_wp2_with fail
        refine (take_nil 1 _).mono ?_
        rintro e w6 ⟨rfl, hk⟩
        have KW := Lib.hid (KW.out.trans hk)
        clear hk
        go_wp2_with fail
        refine (at_nil _).mono ?_
        rintro e w7 ⟨rfl, rfl⟩
        go_wp2_with fail
        refine (left_nil _).mono ?_
        rintro e w8 ⟨rfl, rfl⟩
        go_wp2_with fail
        refine (end_nil _).mono ?_
        rintro e w9 ⟨rfl, k9, rfl⟩
        go_wp2_with fail
        refine (fault_nil _).mono ?_
        rintro e w10 ⟨rfl, hk⟩
        have KW := Lib.hid ((KW.out.drewN k9).trans hk)
        clear hk
        have F3 := guardFault
        have F4 := eqFault
        go_wp2_with fail
        go_ret
        exact ⟨rfl, KW.out⟩

theorem cellsU8 : Try.prog.cellsOf 5 = 1 := by kernel_rfl
theorem cellsRead : Try.prog.cellsOf 50 = 2 := by kernel_rfl
theorem cellsInt : Try.prog.cellsOf 3 = 1 := by kernel_rfl

set_option maxRecDepth 100000 in
theorem octetReads_lifted (os : Os) (started : os.Started) (H : Type) (enc : TypeId × Value → H) :
    ReturnsInHanded {} Try.checked os 5 .any (Rows.octetReadsSpec.pre6 enc Try.prog Try.f5 Rows.octetReadsRow.domain false) (Rows.octetReadsSpec.post enc Try.prog Try.f5 false true false false) := by
  refine returnsInHanded_of_change (C := Try.checked) own started (by kernel_rfl) Try.func5
    (ChangeSpec.witness6 (enc := enc) (C := Try.checked) false ⟨#[], #[.slice none 0 0, .slice none 0 0], []⟩ 8 (by kernel_rfl) (by kernel_rfl) (by kernel_rfl) (by kernel_rfl)) ?_
  intro W base args ds gs before hval0 hW hcnd _
  have hval : ∀ (j : Nat) t v, Try.f5.params[j]? = some t → args[j]? = some v → Value.okWide Try.prog W .any base t v := hval0
  have hW' := hW
  obtain ⟨p, q, hA0, hV, rfl, hfz, hnd⟩ := hW
  have hA : DataW.TrodAll enc Try.prog W 0 (fun _ => true) true Try.f5.params.toList args.toList ds p := hA0
  rw [Try.params5] at hA hval
  obtain ⟨v0, vs0, d0, ds0, p0, q0, hargs, rfl, rfl, h0, r0⟩ := trodAll_cons hA
  obtain ⟨v1, vs1, d1, ds1, p1, q1, rfl, rfl, rfl, h1, r1⟩ := trodAll_cons r0
  obtain ⟨rfl, rfl, rfl⟩ := trodAll_nil r1
  obtain rfl : args = #[v0, v1] := by cases args; simp_all
  obtain ⟨rfl, rfl⟩ := trodVars_none hV
  obtain ⟨A, c, l, rfl, hl, hm, hr, _⟩ := open_bytes Try.underlying25 Try.underlying5 cellsU8 (hval 0 25 v0 rfl rfl) h0
  obtain ⟨B, d, l2, rfl, _, _, hr2, _, _⟩ := open_recs readV (fun r => In64 r.1 ∧ In64 r.2) 2 (by decide) cellsRead (fun _ => rfl) (fun _ _ _ hx => elem_ints2 Try.underlying50 cellsRead rfl rfl rfl rfl Try.underlying3 Try.underlying3 cellsInt cellsInt hx) Try.underlying43 (hval 1 43 v1 rfl rfl) h1
  refine (octetReads_walk l l2 A B c d W (by omega) hr hr2).mono fun e W' ⟨he, hk⟩ => ?_
  exact ⟨_, he, post_true rfl Try.underlying4 rfl rfl rfl rfl laidOut (by decide +kernel) hW' hk⟩

theorem octetReads_holds : Rows.OctetReadsSaid :=
  OpenClaim.holds_of_wide 5 Try.f5 rfl rfl rfl rfl rfl rfl rfl ⟨rfl, rfl, rfl, rfl, rfl⟩ rfl rfl rfl rfl rfl (by kernel_rfl) Try.func5 (by kernel_rfl)
    (of_decide_eq_true (by kernel_rfl)) (by unfold Func.isWrapper; first | (rw [if_pos (by decide +kernel)]; kernel_rfl) | (rw [if_neg (by decide +kernel)]; exact ⟨rfl, rfl⟩))
    (fun os started H enc _ => octetReads_lifted os started H enc)
end Go.Proofs.Ytdjidnccockmmaa
