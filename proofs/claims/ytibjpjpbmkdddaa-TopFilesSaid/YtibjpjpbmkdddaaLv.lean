/- Loader: equality of bytes, of triples, of faults; what is written is read as it was; loader.Canon. -/
import Derived.Test.YtibjpjpbmkdddaaLu
import Derived.Test.YtibjpjpbmkdddaaLm
import Derived.Test.YtibjpjpbmkdddaaLn
import Derived.Test.YtibjpjpbmkdddaaE26
namespace Go.Proofs.Ytibjpjpbmkdddaa
set_option linter.unusedSimpArgs false
set_option linter.unusedVariables false
open Go.ChangeShapes Go.WideShapes Go.ChangeAt Go.RowKit
open Go.RowKit (wrap32 wrap64)
set_option maxHeartbeats 8000000
theorem equalB_any (l m : List UInt8) (A B : Option Addr) (c d : Nat) (w : World) (hl : l.length ≤ maxLen) (hm : m.length ≤ maxLen) (hr : Reads w A (l.map byteV)) (hrm : Reads w B (m.map byteV)) :
    Calls Try.prog 76 #[.slice A l.length c, .slice B m.length d] w fun e w' => e = .returned (.bool (decide (l = m))) ∧ Kept [] w w' := by
  unfold maxLen at hl hm
  have HR := Lib.hid hr
  have HM := Lib.hid hrm
  clear hr hrm
  by_cases hlen : l.length = m.length
  · go_enter Try.func76, Try.ntmps76
    go_wp2_with fail
    go_loopw [13] (fun i wr => ∃ k : Nat, k ≤ l.length ∧ i = .int .i64 k ∧ Hid (∀ j (hj : j < l.length), j < k → l[j] = m[j]'(by omega)) ∧ Hid (Kept [] w wr)) (fun i _ => l.length - (intOf i).toNat)
    case atStart => exact ⟨0, Nat.zero_le _, rfl, Lib.hid (fun j _ h => absurd h (Nat.not_lt_zero _)), Lib.hid (Kept.refl _ _)⟩
    case round =>
      obtain ⟨k, hk, rfl, HN, KW⟩ := hrel
      by_cases hlt : k < l.length
      · have hltm : k < m.length := by omega
        obtain ⟨b, off, rfl, h0⟩ := byteV_at (HR.out.kept0 KW.out) hlt
        obtain ⟨b2, off2, rfl, p0⟩ := byteV_at (HM.out.kept0 KW.out) hltm
        by_cases he : l[k] = m[k]
        · have hb : ((l[k].toNat : Int) != (m[k].toNat : Int)) = false := by simp [he]
          have HE := Lib.hid he
          clear he
          go_wp2_with fail
          go_quiet (fail)
          go_wp2_with fail
          go_roundw
          case rel =>
            refine ⟨k + 1, by omega, by go_num, Lib.hid (fun j hj hjk => ?_), Lib.hid (KW.out.drewN _)⟩
            rcases Nat.lt_succ_iff_lt_or_eq.1 hjk with h | rfl
            · exact HN.out j hj h
            · exact HE.out
          case measure => simp [intOf]; omega
        · have hb : ((l[k].toNat : Int) != (m[k].toNat : Int)) = true := by rw [bne_iff_ne]; exact fun e => he (UInt8.toNat_inj.1 (by omega))
          have HE := Lib.hid he
          clear he
          go_wp2_with fail
          go_quiet (fail)
          go_wp2_with fail
          go_ret
          refine ⟨ret_bool ?_, KW.out.drewN _⟩
          have : ¬ l = m := fun h => HE.out (by simp only [h])
          simp [this]
      · go_wp2_with fail
        go_ret
        refine ⟨ret_bool ?_, KW.out⟩
        have : l = m := list_same (by omega) (fun j hj => HN.out j hj (by omega))
        simp [this]
  · have hne : ¬ l = m := fun h => hlen (by rw [h])
    have HE := Lib.hid hne
    clear hne
    go_enter Try.func76, Try.ntmps76
    go_wp2_with fail
    go_ret
    exact ⟨ret_bool (decide_eq_false HE.out).symm, Kept.refl _ _⟩
theorem fieldsFault : Try.prog.underlying 36 = some (.struct (Try.prog.fieldsOf 36)) := by kernel_rfl
theorem stoodFault : Try.prog.stoodInHeld 36 = false := by kernel_rfl
theorem neqFault (x y : Int × Int) (w : World) : (binOp .neq 36 (.agg #[.int .i64 x.1, .int .i64 x.2]) (.agg #[.int .i64 y.1, .int .i64 y.2])).run Try.prog w = .ok (.bool (!decide (x = y))) w := by
  have u0 := Try.underlying32
  have a0 := Try.isAgg32
  have z0 := Try.sizeOf32
  have u1 := Try.underlying3
  have a1 := Try.isAgg3
  have z1 := Try.sizeOf3
  obtain ⟨a, b⟩ := x
  obtain ⟨d, e⟩ := y
  rw [run_neq_struct, show (10000 : Nat) = 9999 + 1 from rfl, run_equalIn_agg w 9999 36 _ _ fieldsFault stoodFault]
  simp only [Program.fieldsOf, Try.underlying36]
  go_simp
  by_cases h0 : a = d <;> by_cases h1 : b = e <;> simp [h0, h1]
theorem eqlFault (x y : Int × Int) (w : World) : (binOp .eql 36 (.agg #[.int .i64 x.1, .int .i64 x.2]) (.agg #[.int .i64 y.1, .int .i64 y.2])).run Try.prog w = .ok (.bool (decide (x = y))) w := by
  have u0 := Try.underlying32
  have a0 := Try.isAgg32
  have z0 := Try.sizeOf32
  have u1 := Try.underlying3
  have a1 := Try.isAgg3
  have z1 := Try.sizeOf3
  obtain ⟨a, b⟩ := x
  obtain ⟨d, e⟩ := y
  rw [run_eql_struct, show (10000 : Nat) = 9999 + 1 from rfl, run_equalIn_agg w 9999 36 _ _ fieldsFault stoodFault]
  simp only [Program.fieldsOf, Try.underlying36]
  go_simp
  by_cases h0 : a = d <;> by_cases h1 : b = e <;> simp [h0, h1]
theorem guardFault : Try.prog.eqGuardType Try.prog.depth 36 = false := by kernel_rfl
theorem fieldsTriple : Try.prog.underlying 30 = some (.struct (Try.prog.fieldsOf 30)) := by kernel_rfl
theorem stoodTriple : Try.prog.stoodInHeld 30 = false := by kernel_rfl
theorem guardTriple : Try.prog.eqGuardType Try.prog.depth 30 = false := by kernel_rfl
theorem neqTriple (x y : Int × Int × Int) (w : World) : (binOp .neq 30 (.agg #[.int .i64 x.1, .int .i64 x.2.1, .int .i64 x.2.2]) (.agg #[.int .i64 y.1, .int .i64 y.2.1, .int .i64 y.2.2])).run Try.prog w = .ok (.bool (!decide (x = y))) w := by
  have u1 := Try.underlying3
  have u2 := Try.underlying2
  have u3 := Try.underlying122
  have a1 := Try.isAgg3
  have a2 := Try.isAgg2
  have a3 := Try.isAgg122
  have z1 := Try.sizeOf3
  have z2 := Try.sizeOf2
  have z3 := Try.sizeOf122
  obtain ⟨a, b, c⟩ := x
  obtain ⟨d, e, f⟩ := y
  rw [run_neq_struct, show (10000 : Nat) = 9999 + 1 from rfl, run_equalIn_agg w 9999 30 _ _ fieldsTriple stoodTriple]
  simp only [Program.fieldsOf, Try.underlying30]
  go_simp
  by_cases h1 : a = d <;> by_cases h2 : b = e <;> by_cases h3 : c = f <;> simp [h1, h2, h3]
theorem sameT_any (l m : List Ed) (A B : Option Addr) (c d : Nat) (w : World) (hl : l.length ≤ maxLen) (hm : m.length ≤ maxLen) (hr : Reads w A (l.flatMap edV)) (hrm : Reads w B (m.flatMap edV)) :
    Calls Try.prog 10 #[.slice A l.length c, .slice B m.length d] w fun e w' => e = .returned (.bool (decide (l = m))) ∧ Kept [] w w' := by
  unfold maxLen at hl hm
  have HR := Lib.hid hr
  have HM := Lib.hid hrm
  clear hr hrm
  by_cases hlen : l.length = m.length
  · go_enter Try.func10, Try.ntmps10
    go_wp2_with fail
    go_loopw [5] (fun i wr => ∃ k : Nat, k ≤ l.length ∧ i = .int .i64 k ∧ Hid (∀ j (hj : j < l.length), j < k → l[j] = m[j]'(by omega)) ∧ Hid (Kept [] w wr)) (fun i _ => l.length - (intOf i).toNat)
    case atStart => exact ⟨0, Nat.zero_le _, rfl, Lib.hid (fun j _ h => absurd h (Nat.not_lt_zero _)), Lib.hid (Kept.refl _ _)⟩
    case round =>
      obtain ⟨k, hk, rfl, HN, KW⟩ := hrel
      by_cases hlt : k < l.length
      · have hltm : k < m.length := by omega
        obtain ⟨b, off, rfl, hbl, h0, h1, h2⟩ := edge_at (HR.out.kept0 KW.out) hlt
        obtain ⟨b2, off2, rfl, hbl2, p0, p1, p2⟩ := edge_at (HM.out.kept0 KW.out) hltm
        have F3 := guardTriple
        by_cases he : l[k] = m[k]
        · have F4 : ∀ w, (binOp .neq 30 (.agg #[.int .i64 l[k].1, .int .i64 l[k].2.1, .int .i64 l[k].2.2]) (.agg #[.int .i64 (m[k]'(by omega)).1, .int .i64 (m[k]'(by omega)).2.1, .int .i64 (m[k]'(by omega)).2.2])).run Try.prog w = .ok (.bool false) w := fun w => (neqTriple l[k] m[k] w).trans (by rw [he]; simp)
          have HE := Lib.hid he
          clear he
          go_wp2_with fail
          go_quiet (fail)
          go_wp2_with fail
          go_roundw
          case rel =>
            refine ⟨k + 1, by omega, by go_num, Lib.hid (fun j hj hjk => ?_), Lib.hid (KW.out.drewN _)⟩
            rcases Nat.lt_succ_iff_lt_or_eq.1 hjk with h | rfl
            · exact HN.out j hj h
            · exact HE.out
          case measure => simp [intOf]; omega
        · have F4 : ∀ w, (binOp .neq 30 (.agg #[.int .i64 l[k].1, .int .i64 l[k].2.1, .int .i64 l[k].2.2]) (.agg #[.int .i64 (m[k]'(by omega)).1, .int .i64 (m[k]'(by omega)).2.1, .int .i64 (m[k]'(by omega)).2.2])).run Try.prog w = .ok (.bool true) w := fun w => (neqTriple l[k] m[k] w).trans (by rw [decide_eq_false he]; rfl)
          have HE := Lib.hid he
          clear he
          go_wp2_with fail
          go_quiet (fail)
          go_wp2_with fail
          go_ret
          refine ⟨ret_bool ?_, KW.out.drewN _⟩
          have : ¬ l = m := fun h => HE.out (by simp only [h])
          simp [this]
      · go_wp2_with fail
        go_ret
        refine ⟨ret_bool ?_, KW.out⟩
        have : l = m := list_same (by omega) (fun j hj => HN.out j hj (by omega))
        simp [this]
  · have hne : ¬ l = m := fun h => hlen (by rw [h])
    have HE := Lib.hid hne
    clear hne
    go_enter Try.func10, Try.ntmps10
    go_wp2_with fail
    go_ret
    exact ⟨ret_bool (decide_eq_false HE.out).symm, Kept.refl _ _⟩

/-! What is written is read. -/
theorem rises_L {l : List Ed} (h : risesE l = true) : RisesL l := by
  have hc : ∀ i (h : i + 1 < l.length), keyLt (keyOf l[i]) (keyOf l[i + 1]) = true := by
    by_cases hq : ∀ i (h : i + 1 < l.length), keyLt (keyOf l[i]) (keyOf l[i + 1]) = true
    · exact hq
    · rw [risesE_false hq] at h; cases h
  clear h
  unfold RisesL
  induction l with
  | nil => exact List.Pairwise.nil
  | cons x l ih =>
    have h1 : ∀ i (h : i + 1 < l.length), keyLt (keyOf l[i]) (keyOf l[i + 1]) = true := fun i hi => by have := hc (i + 1) (by simp; omega); simpa using this
    have hp := ih h1
    refine List.Pairwise.cons (fun y hy => ?_) hp
    cases l with
    | nil => cases hy
    | cons z l =>
      have h0 : keyLt (keyOf x) (keyOf z) = true := by have := hc 0 (by simp); simpa using this
      rcases List.mem_cons.1 hy with rfl | hy
      · exact h0
      · exact keyLt_trans h0 ((List.pairwise_cons.1 hp).1 y hy)
theorem canon_rising {l : List Ed} (hw : ∀ e ∈ l, In64 e.2.2) (h : RisesL l) : canonP l = l :=
  risesL_ext (canonP_spec hw).1 h (fun x => ⟨(canonP_spec hw).2.1 x, fun hx => by
    obtain ⟨y, hy, hk, _⟩ := (canonP_spec hw).2.2 x hx
    have := risesL_one h ((canonP_spec hw).2.1 y hy) hx hk
    rw [← this]; exact hy⟩)
theorem kind_01 (l : List Ed) : (0 ≤ kindOf l ∧ kindOf l ≤ 1) := by unfold kindOf; split <;> decide
theorem okRaw_enc {n : Int} {l : List Ed} (h : rightP n l = 0) : okRaw (kindOf l, n, l) := by
  obtain ⟨h1, h2, h3, h4⟩ := right_zero h
  rw [List.any_eq_false] at h3 h4
  refine ⟨kind_01 l, h1, ⟨Int.natCast_nonneg _, by show (l.length : Int) ≤ 65536; omega⟩, fun e he => ?_⟩
  have a1 := h3 e he
  have a2 := h4 e he
  simp [outE, outV] at a1
  simp [badW] at a2
  refine ⟨by show 0 ≤ e.1 ∧ e.1 ≤ n - 1; omega, by show 0 ≤ e.2.1 ∧ e.2.1 ≤ n - 1; omega, ?_⟩
  show if kindOf l = 1 then 0 ≤ e.2.2 ∧ e.2.2 ≤ 2147483647 else e.2.2 = 1
  split
  · omega
  · rename_i hk
    unfold kindOf at hk
    cases hz : l.any neOne
    · rw [List.any_eq_false] at hz
      have := hz e he
      simpa [neOne] using this
    · rw [hz] at hk; simp at hk
theorem encW_zero {n : Int} {l : List Ed} (h : encW n l = 0) : rightP n l = 0 ∧ risesE l = true := by
  unfold encW at h
  by_cases h0 : rightP n l = 0
  · refine ⟨h0, ?_⟩
    rw [if_neg (by simpa using h0)] at h
    cases hq : risesE l
    · rw [hq] at h; simp at h
    · rfl
  · rw [if_pos h0] at h; exact absurd h h0
theorem graph_full {u : Raw} (h : okRaw u) : (Rd.mk (rawB u) 0 0 0).graphE = .ok (u, ⟨rawB u, (rawB u).length, 0, 0⟩) := by rw [graph_E]; exact good_graph.efull h
theorem decG_raw {u : Raw} (h : okRaw u) : decG (rawB u) = .ok (u.2.1, canonP u.2.2) := by unfold decG; rw [graph_full h]; rfl
theorem decG_enc {n : Int} {l : List Ed} (h : encW n l = 0) : decG (encB n l) = .ok (n, l) := by
  obtain ⟨h1, h2⟩ := encW_zero h
  have hr := okRaw_enc h1
  unfold encB
  rw [decG_raw hr, canon_rising (okRaw_in hr) (rises_L h2)]
theorem decG_more {u : Raw} (h : okRaw u) {more : List UInt8} (hm : more ≠ []) : decG (rawB u ++ more) = .error (4, (rawB u).length) := by unfold decG; rw [graph_E, good_graph.emore h hm]; rfl
theorem decG_cut {u : Raw} (h : okRaw u) {k : Nat} (hk : k < (rawB u).length) : decG ((rawB u).take k) = .error (2, k) := by unfold decG; rw [graph_E, good_graph.ecut h hk]; rfl
theorem decG_bad {b : List UInt8} {e a : Int} (h : decG b = .error (e, a)) : e ≠ 0 ∧ 0 ≤ a ∧ a ≤ b.length := by
  unfold decG at h
  rcases hr : (Rd.mk b 0 0 0).graphE with ⟨e', a'⟩ | x
  · rw [hr] at h
    injection h with h
    injection h with h1 h2
    subst h1 h2
    rw [graph_E] at hr
    exact good_graph.ebad hr
  · rw [hr] at h; cases h
theorem right_of {n : Int} {l : List Ed} (h1 : 0 ≤ n ∧ n ≤ 4096) (h2 : l.length ≤ 65536) (h3 : ∀ e ∈ l, (0 ≤ e.1 ∧ e.1 ≤ n - 1) ∧ (0 ≤ e.2.1 ∧ e.2.1 ≤ n - 1) ∧ (0 ≤ e.2.2 ∧ e.2.2 ≤ 2147483647)) : rightP n l = 0 := by
  have a1 : l.any (outE n) = false := by rw [List.any_eq_false]; intro e he; have := h3 e he; simp [outE, outV]; omega
  have a2 : l.any badW = false := by rw [List.any_eq_false]; intro e he; have := h3 e he; simp [badW]; omega
  unfold rightP
  rw [if_neg (by omega), if_neg (by omega), if_neg (by omega), if_neg (by rw [a1]; decide), if_neg (by rw [a2]; decide)]
theorem decG_good {b : List UInt8} {n : Int} {l : List Ed} (h : decG b = .ok (n, l)) : rightP n l = 0 ∧ RisesL l ∧ ∀ e ∈ l, In64 e.2.2 := by
  unfold decG at h
  rcases hr : (Rd.mk b 0 0 0).graphE with ⟨e', a'⟩ | ⟨⟨k, N, m⟩, R⟩
  · rw [hr] at h; cases h
  · rw [hr] at h
    injection h with h
    injection h with h1 h2
    obtain ⟨hk, _⟩ := decG_in hr
    have hin := okRaw_in hk
    subst h1 h2
    refine ⟨right_of hk.2.1 (Nat.le_trans (canonP_length m) (okRaw_len hk)) (fun e he => ?_), (canonP_spec hin).1, canonP_in hin⟩
    have := hk.2.2.2 e ((canonP_spec hin).2.1 e he)
    obtain ⟨a1, a2, a3⟩ := this
    refine ⟨a1, a2, ?_⟩
    split at a3
    · exact a3
    · rw [a3]; decide
/-- Are bytes just a graph's? -/
noncomputable def canonB (b : List UInt8) : Bool :=
  match decG b with
  | .error _ => false
  | .ok (n, l) => decide (encW n l = 0) && decide (b = encB n l)
theorem canonB_enc {n : Int} {l : List Ed} (h : encW n l = 0) : canonB (encB n l) = true := by unfold canonB; rw [decG_enc h]; simp [h]
theorem encode_any (n : Int) (l : List Ed) (A : Option Addr) (c : Nat) (w : World) (hA : Reads w A (l.flatMap edV)) (hl : l.length ≤ maxLen) :
    Calls Try.prog 23 #[.agg #[.int .i64 n, .slice A l.length c]] w fun x w' => (∃ v, x = .returned (.tuple #[v, .int .i64 (encW n l)]) ∧ OwnB w' w.heap.size v (if encW n l = 0 then encB n l else [])) ∧ Kept [] w w' := by
  by_cases h : encW n l = 0
  · rw [if_pos h, h]
    unfold encB
    cases hz : l.any neOne
    · rw [show kindOf l = 0 by unfold kindOf; rw [hz]; rfl]
      exact (encode_ok0 n l A c w hA h hz).mono fun x w' ⟨v, h1, h2, h3⟩ => ⟨⟨v, h1, h2⟩, h3⟩
    · rw [show kindOf l = 1 by unfold kindOf; rw [hz]; rfl]
      exact (encode_ok1 n l A c w hA h hz).mono fun x w' ⟨v, h1, h2, h3⟩ => ⟨⟨v, h1, h2⟩, h3⟩
  · rw [if_neg h]
    exact (encode_bad n l A c w hA hl h).mono fun x w' ⟨h1, h3⟩ => ⟨⟨_, h1, OwnB.nil _ _⟩, h3⟩
theorem encB_len {n : Int} {l : List Ed} (h : encW n l = 0) : (encB n l).length ≤ maxLen := by
  obtain ⟨_, h2, _, _⟩ := right_zero (encW_zero h).1
  have := edgesB_length (kindOf l) l
  unfold encB
  rw [rawB_hdr, List.length_append, hdr_length]
  unfold maxLen
  omega
set_option maxRecDepth 100000 in
theorem canon6_any (b : List UInt8) (A : Option Addr) (c : Nat) (w : World) (hr : Reads w A (b.map byteV)) (hl : b.length ≤ 1073741824) :
    Calls Try.prog 26 #[.slice A b.length c] w fun x w' => x = .returned (.bool (canonB b)) ∧ Kept [] w w' := by
  have HR := Lib.hid hr
  have hl2 : b.length ≤ maxLen := by unfold maxLen; omega
  clear hr
  rcases hd : decG b with ⟨e, a⟩ | ⟨n, l⟩
  · have he := (decG_bad hd).1
    have E1 := Lib.hid hd
    have E2 := Lib.hid (show canonB b = false by unfold canonB; rw [hd])
    clear hd
    go_enter Try.func26, Try.ntmps26
    go_wp2_with fail
    refine (decode_any b A c _ HR.out hl).mono ?_
    intro x w1 hx
    rw [E1.out] at hx
    obtain ⟨rfl, hk⟩ := hx
    have K0 := Lib.hid ((hk.alloc (.cells #[.int .i64 0, .slice none 0 0] 24)).alloc (.cells #[.int .i64 e, .int .i64 a] 36))
    clear hk
    go_wp2_with fail
    go_ret
    exact ⟨ret_bool E2.out.symm, K0.out⟩
  · obtain ⟨g1, g2, g3⟩ := decG_good hd
    have hll : l.length ≤ maxLen := by have := (right_zero g1).2.1; unfold maxLen; omega
    have E1 := Lib.hid hd
    have E2 := Lib.hid (show canonB b = (decide (encW n l = 0) && decide (b = encB n l)) by unfold canonB; rw [hd])
    clear hd g1 g2 g3
    go_enter Try.func26, Try.ntmps26
    go_wp2_with fail
    refine (decode_any b A c _ HR.out hl).mono ?_
    intro x w1 hx
    rw [E1.out] at hx
    obtain ⟨⟨v, rfl, ho⟩, hk⟩ := hx
    obtain ⟨A1, c1, rfl⟩ := own_n ho
    have kd : Kept [] w1 ((w1.alloc (.cells #[.int .i64 n, .slice A1 l.length c1] 24)).alloc (.cells #[.int .i64 0, .int .i64 0] 36)) := ((Kept.refl [] w1).alloc _).alloc _
    have HG := Lib.hid ((Blk.new w1 24 [.int .i64 n, .slice A1 l.length c1]).alloc (.cells #[.int .i64 0, .int .i64 0] 36))
    have HO := Lib.hid ((Reads.of_own ho).kept0 kd)
    have K0 := Lib.hid (hk.trans kd)
    clear kd hk ho
    go_wp2_with fail
    refine (encode_any n l A1 c1 _ HO.out hll).mono ?_
    rintro x w2 ⟨⟨v, rfl, hb⟩, hk⟩
    replace K0 := Lib.hid (K0.out.trans hk)
    by_cases hz : encW n l = 0
    · rw [if_pos hz] at hb
      obtain ⟨A2, c2, rfl⟩ := own_n hb
      have HB := Lib.hid (Reads.of_own hb)
      have HLB := Lib.hid (encB_len hz)
      have HZ := Lib.hid hz
      rw [hz]
      clear hk hb hz
      go_wp2_with fail
      refine (equalB_any b (encB n l) A A2 c c2 _ hl2 HLB.out (HR.out.kept0 K0.out) HB.out).mono ?_
      rintro x w3 ⟨rfl, hk⟩
      replace K0 := Lib.hid (K0.out.trans hk)
      have hq : canonB b = decide (b = encB n l) := by rw [E2.out, decide_eq_true HZ.out, Bool.true_and]
      rw [← hq]
      have EQ := Lib.hid hq
      clear hk hq
      go_wp2_with fail
      go_ret
      exact ⟨by first | rfl | simp, K0.out⟩
    · rw [if_neg hz] at hb
      obtain ⟨A2, c2, rfl⟩ := own_n hb
      have hq : canonB b = false := by rw [E2.out, decide_eq_false hz, Bool.false_and]
      have EQ := Lib.hid hq
      obtain ⟨ez, hez⟩ : ∃ ez, ez = encW n l := ⟨_, rfl⟩
      rw [← hez] at hz ⊢
      clear hk hb hq hez
      go_wp2_with fail
      go_ret
      exact ⟨ret_bool EQ.out.symm, K0.out⟩
end Go.Proofs.Ytibjpjpbmkdddaa
