/- Frames: are two lists of structs the same? The library's and the document's. -/
import Derived.Test.YtdjidnccockmmaaFr6
namespace Go.Proofs.Ytdjidnccockmmaa
set_option linter.unusedSimpArgs false
set_option linter.unusedVariables false
open Go.ChangeShapes Go.WideShapes Go.ChangeAt Go.RowKit
open Go.RowKit (wrap32 wrap64)
set_option maxHeartbeats 2000000

theorem list_same {α : Type} {l m : List α} (hl : l.length = m.length) (h : ∀ j (hj : j < l.length), l[j] = m[j]'(by omega)) : l = m :=
  List.ext_getElem hl (fun i h1 h2 => h i h1)

theorem fieldsItem : Try.prog.underlying 99 = some (.struct (Try.prog.fieldsOf 99)) := by kernel_rfl
theorem stoodItem : Try.prog.stoodInHeld 99 = false := by kernel_rfl
theorem guardItem : Try.prog.eqGuardType Try.prog.depth 99 = false := by kernel_rfl
theorem neqItem (x y : Int × Int) (w : World) : (binOp .neq 99 (.agg #[.int .i64 x.1, .int .i64 x.2]) (.agg #[.int .i64 y.1, .int .i64 y.2])).run Try.prog w = .ok (.bool (!decide (x = y))) w := by
  have u1 := Try.underlying3
  have u2 := Try.underlying2
  have u3 := Try.underlying84
  have a1 := Try.isAgg3
  have a2 := Try.isAgg2
  have a3 := Try.isAgg84
  have z1 := Try.sizeOf3
  have z2 := Try.sizeOf2
  have z3 := Try.sizeOf84
  obtain ⟨a, b⟩ := x
  obtain ⟨d, e⟩ := y
  rw [run_neq_struct, show (10000 : Nat) = 9999 + 1 from rfl, run_equalIn_agg w 9999 99 _ _ fieldsItem stoodItem]
  simp only [Program.fieldsOf, Try.underlying99]
  go_simp
  by_cases h1 : a = d <;> by_cases h2 : b = e <;> simp [h1, h2]

theorem fieldsSum : Try.prog.underlying 103 = some (.struct (Try.prog.fieldsOf 103)) := by kernel_rfl
theorem stoodSum : Try.prog.stoodInHeld 103 = false := by kernel_rfl
theorem guardSum : Try.prog.eqGuardType Try.prog.depth 103 = false := by kernel_rfl
theorem fieldsWide : Try.prog.underlying 101 = some (.struct (Try.prog.fieldsOf 101)) := by kernel_rfl
theorem stoodWide : Try.prog.stoodInHeld 101 = false := by kernel_rfl
theorem neqSum (x y : Int × Int × Nat) (w : World) : (binOp .neq 103 (.agg #[.int .i64 x.1, .int .i64 x.2.1, .int .u64 (x.2.2 : Int)]) (.agg #[.int .i64 y.1, .int .i64 y.2.1, .int .u64 (y.2.2 : Int)])).run Try.prog w = .ok (.bool (!decide (x = y))) w := by
  have u1 := Try.underlying3
  have u2 := Try.underlying2
  have u3 := Try.underlying84
  have a1 := Try.isAgg3
  have a2 := Try.isAgg2
  have a3 := Try.isAgg84
  have z1 := Try.sizeOf3
  have z2 := Try.sizeOf2
  have z3 := Try.sizeOf84
  have aw := Try.isAgg101
  have zw := Try.sizeOf101
  obtain ⟨a, b, c⟩ := x
  obtain ⟨d, e, f⟩ := y
  rw [run_neq_struct, show (10000 : Nat) = 9999 + 1 from rfl, run_equalIn_agg w 9999 103 _ _ fieldsSum stoodSum]
  simp only [Program.fieldsOf, Try.underlying103]
  go_simp
  by_cases h1 : a = d <;> by_cases h2 : b = e <;> by_cases h3 : c = f <;> simp [h1, h2, h3, Int.natCast_inj]

theorem fieldsTriple : Try.prog.underlying 105 = some (.struct (Try.prog.fieldsOf 105)) := by kernel_rfl
theorem stoodTriple : Try.prog.stoodInHeld 105 = false := by kernel_rfl
theorem guardTriple : Try.prog.eqGuardType Try.prog.depth 105 = false := by kernel_rfl
theorem neqTriple (x y : Int × Int × Int) (w : World) : (binOp .neq 105 (.agg #[.int .i64 x.1, .int .i64 x.2.1, .int .i64 x.2.2]) (.agg #[.int .i64 y.1, .int .i64 y.2.1, .int .i64 y.2.2])).run Try.prog w = .ok (.bool (!decide (x = y))) w := by
  have u1 := Try.underlying3
  have u2 := Try.underlying2
  have u3 := Try.underlying84
  have a1 := Try.isAgg3
  have a2 := Try.isAgg2
  have a3 := Try.isAgg84
  have z1 := Try.sizeOf3
  have z2 := Try.sizeOf2
  have z3 := Try.sizeOf84
  obtain ⟨a, b, c⟩ := x
  obtain ⟨d, e, f⟩ := y
  rw [run_neq_struct, show (10000 : Nat) = 9999 + 1 from rfl, run_equalIn_agg w 9999 105 _ _ fieldsTriple stoodTriple]
  simp only [Program.fieldsOf, Try.underlying105]
  go_simp
  by_cases h1 : a = d <;> by_cases h2 : b = e <;> by_cases h3 : c = f <;> simp [h1, h2, h3]

theorem equalItem_any (l m : List (Int × Int)) (A B : Option Addr) (c d : Nat) (w : World) (hl : l.length ≤ maxLen) (hm : m.length ≤ maxLen) (hr : Reads w A (l.flatMap readV)) (hrm : Reads w B (m.flatMap readV)) :
    Calls Try.prog 79 #[.slice A l.length c, .slice B m.length d] w fun e w' => e = .returned (.bool (decide (l = m))) ∧ Kept [] w w' := by
  unfold maxLen at hl hm
  have HR := Lib.hid hr
  have HM := Lib.hid hrm
  clear hr hrm
  by_cases hlen : l.length = m.length
  · go_enter Try.func79, Try.ntmps79
    go_wp2_with fail
    go_loopw [13] (fun i wr => ∃ k : Nat, k ≤ l.length ∧ i = .int .i64 k ∧ Hid (∀ j (hj : j < l.length), j < k → l[j] = m[j]'(by omega)) ∧ Hid (Kept [] w wr)) (fun i _ => l.length - (intOf i).toNat)
    case atStart => exact ⟨0, Nat.zero_le _, rfl, Lib.hid (fun j _ h => absurd h (Nat.not_lt_zero _)), Lib.hid (Kept.refl _ _)⟩
    case round =>
      obtain ⟨k, hk, rfl, HN, KW⟩ := hrel
      by_cases hlt : k < l.length
      · have hltm : k < m.length := by omega
        obtain ⟨b, off, rfl, hbl, h0, h1⟩ := read_at (HR.out.kept0 KW.out) hlt
        obtain ⟨b2, off2, rfl, hbl2, p0, p1⟩ := read_at (HM.out.kept0 KW.out) hltm
        have F3 := guardItem
        by_cases he : l[k] = m[k]
        · have F4 : ∀ w, (binOp .neq 99 (.agg #[.int .i64 l[k].1, .int .i64 l[k].2]) (.agg #[.int .i64 (m[k]'(by omega)).1, .int .i64 (m[k]'(by omega)).2])).run Try.prog w = .ok (.bool false) w := fun w => (neqItem l[k] m[k] w).trans (by rw [he]; simp)
          have HE := Lib.hid he
          clear he
          go_wp2_with fail
          go_quiet (fail)
          go_wp2_with fail
          go_roundw
          case rel =>
            refine ⟨k + 1, by omega, by go_num, Lib.hid (fun j hj hjk => ?_), Lib.hid (KW.out.drewN _)⟩
            rcases Nat.lt_succ_iff_lt_or_eq.1 hjk with h | rfl
            · exact HN.out j hj h
            · exact HE.out
          case measure => simp [intOf]; omega
        · have F4 : ∀ w, (binOp .neq 99 (.agg #[.int .i64 l[k].1, .int .i64 l[k].2]) (.agg #[.int .i64 (m[k]'(by omega)).1, .int .i64 (m[k]'(by omega)).2])).run Try.prog w = .ok (.bool true) w := fun w => (neqItem l[k] m[k] w).trans (by rw [decide_eq_false he]; rfl)
          have HE := Lib.hid he
          clear he
          go_wp2_with fail
          go_quiet (fail)
          go_wp2_with fail
          go_ret
          refine ⟨ret_bool ?_, KW.out.drewN _⟩
          have : ¬ l = m := fun h => HE.out (by simp only [h])
          simp [this]
      · go_wp2_with fail
        go_ret
        refine ⟨ret_bool ?_, KW.out⟩
        have : l = m := list_same (by omega) (fun j hj => HN.out j hj (by omega))
        simp [this]
  · have hne : ¬ l = m := fun h => hlen (by rw [h])
    have HE := Lib.hid hne
    clear hne
    go_enter Try.func79, Try.ntmps79
    go_wp2_with fail
    go_ret
    exact ⟨ret_bool (decide_eq_false HE.out).symm, Kept.refl _ _⟩

theorem equalSum_any (l m : List (Int × Int × Nat)) (A B : Option Addr) (c d : Nat) (w : World) (hl : l.length ≤ maxLen) (hm : m.length ≤ maxLen) (hr : Reads w A (l.flatMap sumV)) (hrm : Reads w B (m.flatMap sumV)) :
    Calls Try.prog 80 #[.slice A l.length c, .slice B m.length d] w fun e w' => e = .returned (.bool (decide (l = m))) ∧ Kept [] w w' := by
  unfold maxLen at hl hm
  have HR := Lib.hid hr
  have HM := Lib.hid hrm
  clear hr hrm
  by_cases hlen : l.length = m.length
  · go_enter Try.func80, Try.ntmps80
    go_wp2_with fail
    go_loopw [13] (fun i wr => ∃ k : Nat, k ≤ l.length ∧ i = .int .i64 k ∧ Hid (∀ j (hj : j < l.length), j < k → l[j] = m[j]'(by omega)) ∧ Hid (Kept [] w wr)) (fun i _ => l.length - (intOf i).toNat)
    case atStart => exact ⟨0, Nat.zero_le _, rfl, Lib.hid (fun j _ h => absurd h (Nat.not_lt_zero _)), Lib.hid (Kept.refl _ _)⟩
    case round =>
      obtain ⟨k, hk, rfl, HN, KW⟩ := hrel
      by_cases hlt : k < l.length
      · have hltm : k < m.length := by omega
        obtain ⟨b, off, rfl, hbl, h0, h1, h2⟩ := sum_at (HR.out.kept0 KW.out) hlt
        obtain ⟨b2, off2, rfl, hbl2, p0, p1, p2⟩ := sum_at (HM.out.kept0 KW.out) hltm
        have F3 := guardSum
        by_cases he : l[k] = m[k]
        · have F4 : ∀ w, (binOp .neq 103 (.agg #[.int .i64 l[k].1, .int .i64 l[k].2.1, .int .u64 (l[k].2.2 : Int)]) (.agg #[.int .i64 (m[k]'(by omega)).1, .int .i64 (m[k]'(by omega)).2.1, .int .u64 ((m[k]'(by omega)).2.2 : Int)])).run Try.prog w = .ok (.bool false) w := fun w => (neqSum l[k] m[k] w).trans (by rw [he]; simp)
          have HE := Lib.hid he
          clear he
          go_wp2_with fail
          go_quiet (fail)
          go_wp2_with fail
          go_roundw
          case rel =>
            refine ⟨k + 1, by omega, by go_num, Lib.hid (fun j hj hjk => ?_), Lib.hid (KW.out.drewN _)⟩
            rcases Nat.lt_succ_iff_lt_or_eq.1 hjk with h | rfl
            · exact HN.out j hj h
            · exact HE.out
          case measure => simp [intOf]; omega
        · have F4 : ∀ w, (binOp .neq 103 (.agg #[.int .i64 l[k].1, .int .i64 l[k].2.1, .int .u64 (l[k].2.2 : Int)]) (.agg #[.int .i64 (m[k]'(by omega)).1, .int .i64 (m[k]'(by omega)).2.1, .int .u64 ((m[k]'(by omega)).2.2 : Int)])).run Try.prog w = .ok (.bool true) w := fun w => (neqSum l[k] m[k] w).trans (by rw [decide_eq_false he]; rfl)
          have HE := Lib.hid he
          clear he
          go_wp2_with fail
          go_quiet (fail)
          go_wp2_with fail
          go_ret
          refine ⟨ret_bool ?_, KW.out.drewN _⟩
          have : ¬ l = m := fun h => HE.out (by simp only [h])
          simp [this]
      · go_wp2_with fail
        go_ret
        refine ⟨ret_bool ?_, KW.out⟩
        have : l = m := list_same (by omega) (fun j hj => HN.out j hj (by omega))
        simp [this]
  · have hne : ¬ l = m := fun h => hlen (by rw [h])
    have HE := Lib.hid hne
    clear hne
    go_enter Try.func80, Try.ntmps80
    go_wp2_with fail
    go_ret
    exact ⟨ret_bool (decide_eq_false HE.out).symm, Kept.refl _ _⟩

theorem equalTriple_any (l m : List (Int × Int × Int)) (A B : Option Addr) (c d : Nat) (w : World) (hl : l.length ≤ maxLen) (hm : m.length ≤ maxLen) (hr : Reads w A (l.flatMap tripV)) (hrm : Reads w B (m.flatMap tripV)) :
    Calls Try.prog 81 #[.slice A l.length c, .slice B m.length d] w fun e w' => e = .returned (.bool (decide (l = m))) ∧ Kept [] w w' := by
  unfold maxLen at hl hm
  have HR := Lib.hid hr
  have HM := Lib.hid hrm
  clear hr hrm
  by_cases hlen : l.length = m.length
  · go_enter Try.func81, Try.ntmps81
    go_wp2_with fail
    go_loopw [13] (fun i wr => ∃ k : Nat, k ≤ l.length ∧ i = .int .i64 k ∧ Hid (∀ j (hj : j < l.length), j < k → l[j] = m[j]'(by omega)) ∧ Hid (Kept [] w wr)) (fun i _ => l.length - (intOf i).toNat)
    case atStart => exact ⟨0, Nat.zero_le _, rfl, Lib.hid (fun j _ h => absurd h (Nat.not_lt_zero _)), Lib.hid (Kept.refl _ _)⟩
    case round =>
      obtain ⟨k, hk, rfl, HN, KW⟩ := hrel
      by_cases hlt : k < l.length
      · have hltm : k < m.length := by omega
        obtain ⟨b, off, rfl, hbl, h0, h1, h2⟩ := trip_at (HR.out.kept0 KW.out) hlt
        obtain ⟨b2, off2, rfl, hbl2, p0, p1, p2⟩ := trip_at (HM.out.kept0 KW.out) hltm
        have F3 := guardTriple
        by_cases he : l[k] = m[k]
        · have F4 : ∀ w, (binOp .neq 105 (.agg #[.int .i64 l[k].1, .int .i64 l[k].2.1, .int .i64 l[k].2.2]) (.agg #[.int .i64 (m[k]'(by omega)).1, .int .i64 (m[k]'(by omega)).2.1, .int .i64 (m[k]'(by omega)).2.2])).run Try.prog w = .ok (.bool false) w := fun w => (neqTriple l[k] m[k] w).trans (by rw [he]; simp)
          have HE := Lib.hid he
          clear he
          go_wp2_with fail
          go_quiet (fail)
          go_wp2_with fail
          go_roundw
          case rel =>
            refine ⟨k + 1, by omega, by go_num, Lib.hid (fun j hj hjk => ?_), Lib.hid (KW.out.drewN _)⟩
            rcases Nat.lt_succ_iff_lt_or_eq.1 hjk with h | rfl
            · exact HN.out j hj h
            · exact HE.out
          case measure => simp [intOf]; omega
        · have F4 : ∀ w, (binOp .neq 105 (.agg #[.int .i64 l[k].1, .int .i64 l[k].2.1, .int .i64 l[k].2.2]) (.agg #[.int .i64 (m[k]'(by omega)).1, .int .i64 (m[k]'(by omega)).2.1, .int .i64 (m[k]'(by omega)).2.2])).run Try.prog w = .ok (.bool true) w := fun w => (neqTriple l[k] m[k] w).trans (by rw [decide_eq_false he]; rfl)
          have HE := Lib.hid he
          clear he
          go_wp2_with fail
          go_quiet (fail)
          go_wp2_with fail
          go_ret
          refine ⟨ret_bool ?_, KW.out.drewN _⟩
          have : ¬ l = m := fun h => HE.out (by simp only [h])
          simp [this]
      · go_wp2_with fail
        go_ret
        refine ⟨ret_bool ?_, KW.out⟩
        have : l = m := list_same (by omega) (fun j hj => HN.out j hj (by omega))
        simp [this]
  · have hne : ¬ l = m := fun h => hlen (by rw [h])
    have HE := Lib.hid hne
    clear hne
    go_enter Try.func81, Try.ntmps81
    go_wp2_with fail
    go_ret
    exact ⟨ret_bool (decide_eq_false HE.out).symm, Kept.refl _ _⟩

theorem sameItems_any (l m : List (Int × Int)) (A B : Option Addr) (c d : Nat) (w : World) (hl : l.length ≤ maxLen) (hm : m.length ≤ maxLen) (hr : Reads w A (l.flatMap readV)) (hrm : Reads w B (m.flatMap readV)) :
    Calls Try.prog 112 #[.slice A l.length c, .slice B m.length d] w fun e w' => e = .returned (.bool (decide (l = m))) ∧ Kept [] w w' := by
  unfold maxLen at hl hm
  have HR := Lib.hid hr
  have HM := Lib.hid hrm
  clear hr hrm
  by_cases hlen : l.length = m.length
  · go_enter Try.func112, Try.ntmps112
    go_wp2_with fail
    go_loopw [5] (fun i wr => ∃ k : Nat, k ≤ l.length ∧ i = .int .i64 k ∧ Hid (∀ j (hj : j < l.length), j < k → l[j] = m[j]'(by omega)) ∧ Hid (Kept [] w wr)) (fun i _ => l.length - (intOf i).toNat)
    case atStart => exact ⟨0, Nat.zero_le _, rfl, Lib.hid (fun j _ h => absurd h (Nat.not_lt_zero _)), Lib.hid (Kept.refl _ _)⟩
    case round =>
      obtain ⟨k, hk, rfl, HN, KW⟩ := hrel
      by_cases hlt : k < l.length
      · have hltm : k < m.length := by omega
        obtain ⟨b, off, rfl, hbl, h0, h1⟩ := read_at (HR.out.kept0 KW.out) hlt
        obtain ⟨b2, off2, rfl, hbl2, p0, p1⟩ := read_at (HM.out.kept0 KW.out) hltm
        have F3 := guardItem
        by_cases he : l[k] = m[k]
        · have F4 : ∀ w, (binOp .neq 99 (.agg #[.int .i64 l[k].1, .int .i64 l[k].2]) (.agg #[.int .i64 (m[k]'(by omega)).1, .int .i64 (m[k]'(by omega)).2])).run Try.prog w = .ok (.bool false) w := fun w => (neqItem l[k] m[k] w).trans (by rw [he]; simp)
          have HE := Lib.hid he
          clear he
          go_wp2_with fail
          go_quiet (fail)
          go_wp2_with fail
          go_roundw
          case rel =>
            refine ⟨k + 1, by omega, by go_num, Lib.hid (fun j hj hjk => ?_), Lib.hid (KW.out.drewN _)⟩
            rcases Nat.lt_succ_iff_lt_or_eq.1 hjk with h | rfl
            · exact HN.out j hj h
            · exact HE.out
          case measure => simp [intOf]; omega
        · have F4 : ∀ w, (binOp .neq 99 (.agg #[.int .i64 l[k].1, .int .i64 l[k].2]) (.agg #[.int .i64 (m[k]'(by omega)).1, .int .i64 (m[k]'(by omega)).2])).run Try.prog w = .ok (.bool true) w := fun w => (neqItem l[k] m[k] w).trans (by rw [decide_eq_false he]; rfl)
          have HE := Lib.hid he
          clear he
          go_wp2_with fail
          go_quiet (fail)
          go_wp2_with fail
          go_ret
          refine ⟨ret_bool ?_, KW.out.drewN _⟩
          have : ¬ l = m := fun h => HE.out (by simp only [h])
          simp [this]
      · go_wp2_with fail
        go_ret
        refine ⟨ret_bool ?_, KW.out⟩
        have : l = m := list_same (by omega) (fun j hj => HN.out j hj (by omega))
        simp [this]
  · have hne : ¬ l = m := fun h => hlen (by rw [h])
    have HE := Lib.hid hne
    clear hne
    go_enter Try.func112, Try.ntmps112
    go_wp2_with fail
    go_ret
    exact ⟨ret_bool (decide_eq_false HE.out).symm, Kept.refl _ _⟩

theorem sameSums_any (l m : List (Int × Int × Nat)) (A B : Option Addr) (c d : Nat) (w : World) (hl : l.length ≤ maxLen) (hm : m.length ≤ maxLen) (hr : Reads w A (l.flatMap sumV)) (hrm : Reads w B (m.flatMap sumV)) :
    Calls Try.prog 87 #[.slice A l.length c, .slice B m.length d] w fun e w' => e = .returned (.bool (decide (l = m))) ∧ Kept [] w w' := by
  unfold maxLen at hl hm
  have HR := Lib.hid hr
  have HM := Lib.hid hrm
  clear hr hrm
  by_cases hlen : l.length = m.length
  · go_enter Try.func87, Try.ntmps87
    go_wp2_with fail
    go_loopw [5] (fun i wr => ∃ k : Nat, k ≤ l.length ∧ i = .int .i64 k ∧ Hid (∀ j (hj : j < l.length), j < k → l[j] = m[j]'(by omega)) ∧ Hid (Kept [] w wr)) (fun i _ => l.length - (intOf i).toNat)
    case atStart => exact ⟨0, Nat.zero_le _, rfl, Lib.hid (fun j _ h => absurd h (Nat.not_lt_zero _)), Lib.hid (Kept.refl _ _)⟩
    case round =>
      obtain ⟨k, hk, rfl, HN, KW⟩ := hrel
      by_cases hlt : k < l.length
      · have hltm : k < m.length := by omega
        obtain ⟨b, off, rfl, hbl, h0, h1, h2⟩ := sum_at (HR.out.kept0 KW.out) hlt
        obtain ⟨b2, off2, rfl, hbl2, p0, p1, p2⟩ := sum_at (HM.out.kept0 KW.out) hltm
        have F3 := guardSum
        by_cases he : l[k] = m[k]
        · have F4 : ∀ w, (binOp .neq 103 (.agg #[.int .i64 l[k].1, .int .i64 l[k].2.1, .int .u64 (l[k].2.2 : Int)]) (.agg #[.int .i64 (m[k]'(by omega)).1, .int .i64 (m[k]'(by omega)).2.1, .int .u64 ((m[k]'(by omega)).2.2 : Int)])).run Try.prog w = .ok (.bool false) w := fun w => (neqSum l[k] m[k] w).trans (by rw [he]; simp)
          have HE := Lib.hid he
          clear he
          go_wp2_with fail
          go_quiet (fail)
          go_wp2_with fail
          go_roundw
          case rel =>
            refine ⟨k + 1, by omega, by go_num, Lib.hid (fun j hj hjk => ?_), Lib.hid (KW.out.drewN _)⟩
            rcases Nat.lt_succ_iff_lt_or_eq.1 hjk with h | rfl
            · exact HN.out j hj h
            · exact HE.out
          case measure => simp [intOf]; omega
        · have F4 : ∀ w, (binOp .neq 103 (.agg #[.int .i64 l[k].1, .int .i64 l[k].2.1, .int .u64 (l[k].2.2 : Int)]) (.agg #[.int .i64 (m[k]'(by omega)).1, .int .i64 (m[k]'(by omega)).2.1, .int .u64 ((m[k]'(by omega)).2.2 : Int)])).run Try.prog w = .ok (.bool true) w := fun w => (neqSum l[k] m[k] w).trans (by rw [decide_eq_false he]; rfl)
          have HE := Lib.hid he
          clear he
          go_wp2_with fail
          go_quiet (fail)
          go_wp2_with fail
          go_ret
          refine ⟨ret_bool ?_, KW.out.drewN _⟩
          have : ¬ l = m := fun h => HE.out (by simp only [h])
          simp [this]
      · go_wp2_with fail
        go_ret
        refine ⟨ret_bool ?_, KW.out⟩
        have : l = m := list_same (by omega) (fun j hj => HN.out j hj (by omega))
        simp [this]
  · have hne : ¬ l = m := fun h => hlen (by rw [h])
    have HE := Lib.hid hne
    clear hne
    go_enter Try.func87, Try.ntmps87
    go_wp2_with fail
    go_ret
    exact ⟨ret_bool (decide_eq_false HE.out).symm, Kept.refl _ _⟩

theorem sameTriples_any (l m : List (Int × Int × Int)) (A B : Option Addr) (c d : Nat) (w : World) (hl : l.length ≤ maxLen) (hm : m.length ≤ maxLen) (hr : Reads w A (l.flatMap tripV)) (hrm : Reads w B (m.flatMap tripV)) :
    Calls Try.prog 88 #[.slice A l.length c, .slice B m.length d] w fun e w' => e = .returned (.bool (decide (l = m))) ∧ Kept [] w w' := by
  unfold maxLen at hl hm
  have HR := Lib.hid hr
  have HM := Lib.hid hrm
  clear hr hrm
  by_cases hlen : l.length = m.length
  · go_enter Try.func88, Try.ntmps88
    go_wp2_with fail
    go_loopw [5] (fun i wr => ∃ k : Nat, k ≤ l.length ∧ i = .int .i64 k ∧ Hid (∀ j (hj : j < l.length), j < k → l[j] = m[j]'(by omega)) ∧ Hid (Kept [] w wr)) (fun i _ => l.length - (intOf i).toNat)
    case atStart => exact ⟨0, Nat.zero_le _, rfl, Lib.hid (fun j _ h => absurd h (Nat.not_lt_zero _)), Lib.hid (Kept.refl _ _)⟩
    case round =>
      obtain ⟨k, hk, rfl, HN, KW⟩ := hrel
      by_cases hlt : k < l.length
      · have hltm : k < m.length := by omega
        obtain ⟨b, off, rfl, hbl, h0, h1, h2⟩ := trip_at (HR.out.kept0 KW.out) hlt
        obtain ⟨b2, off2, rfl, hbl2, p0, p1, p2⟩ := trip_at (HM.out.kept0 KW.out) hltm
        have F3 := guardTriple
        by_cases he : l[k] = m[k]
        · have F4 : ∀ w, (binOp .neq 105 (.agg #[.int .i64 l[k].1, .int .i64 l[k].2.1, .int .i64 l[k].2.2]) (.agg #[.int .i64 (m[k]'(by omega)).1, .int .i64 (m[k]'(by omega)).2.1, .int .i64 (m[k]'(by omega)).2.2])).run Try.prog w = .ok (.bool false) w := fun w => (neqTriple l[k] m[k] w).trans (by rw [he]; simp)
          have HE := Lib.hid he
          clear he
          go_wp2_with fail
          go_quiet (fail)
          go_wp2_with fail
          go_roundw
          case rel =>
            refine ⟨k + 1, by omega, by go_num, Lib.hid (fun j hj hjk => ?_), Lib.hid (KW.out.drewN _)⟩
            rcases Nat.lt_succ_iff_lt_or_eq.1 hjk with h | rfl
            · exact HN.out j hj h
            · exact HE.out
          case measure => simp [intOf]; omega
        · have F4 : ∀ w, (binOp .neq 105 (.agg #[.int .i64 l[k].1, .int .i64 l[k].2.1, .int .i64 l[k].2.2]) (.agg #[.int .i64 (m[k]'(by omega)).1, .int .i64 (m[k]'(by omega)).2.1, .int .i64 (m[k]'(by omega)).2.2])).run Try.prog w = .ok (.bool true) w := fun w => (neqTriple l[k] m[k] w).trans (by rw [decide_eq_false he]; rfl)
          have HE := Lib.hid he
          clear he
          go_wp2_with fail
          go_quiet (fail)
          go_wp2_with fail
          go_ret
          refine ⟨ret_bool ?_, KW.out.drewN _⟩
          have : ¬ l = m := fun h => HE.out (by simp only [h])
          simp [this]
      · go_wp2_with fail
        go_ret
        refine ⟨ret_bool ?_, KW.out⟩
        have : l = m := list_same (by omega) (fun j hj => HN.out j hj (by omega))
        simp [this]
  · have hne : ¬ l = m := fun h => hlen (by rw [h])
    have HE := Lib.hid hne
    clear hne
    go_enter Try.func88, Try.ntmps88
    go_wp2_with fail
    go_ret
    exact ⟨ret_bool (decide_eq_false HE.out).symm, Kept.refl _ _⟩
end Go.Proofs.Ytdjidnccockmmaa
