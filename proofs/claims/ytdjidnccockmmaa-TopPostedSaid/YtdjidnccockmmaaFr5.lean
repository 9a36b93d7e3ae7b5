/- Frames: what is wrong with one. -/
import Derived.Test.YtdjidnccockmmaaFr4
namespace Go.Proofs.Ytdjidnccockmmaa
set_option linter.unusedSimpArgs false
set_option linter.unusedVariables false
open Go.ChangeShapes Go.WideShapes Go.ChangeAt Go.RowKit
open Go.RowKit (wrap32 wrap64)
set_option maxHeartbeats 4000000

/-- A frame, in plain words. -/
structure Fr where
  kind : Int
  src : Int
  dst : Int
  seq : Int
  round : Int
  vn : Int
  items : List (Int × Int)
  sums : List (Int × Int × Nat)
  trips : List (Int × Int × Int)
  n : Int
  over : Bool

/-- Do sums' places rise, from behind one on? -/
def risesS : Int → List (Int × Int × Nat) → Bool
  | _, [] => true
  | last, x :: l => decide (last < x.1) && risesS x.1 l
theorem risesS_drop (last : Int) {l : List (Int × Int × Nat)} {k : Nat} (hk : k < l.length) : risesS last (l.drop k) = (decide (last < l[k].1) && risesS l[k].1 (l.drop (k + 1))) := by
  rw [List.drop_eq_getElem_cons hk]; rfl
/-- Are the numbers of its head in bounds? -/
def Fr.headOk (F : Fr) : Bool := inR F.src 63 && inR F.dst 63 && inR F.seq 2147483647 && inR F.round 8192
/-- What is wrong with a frame (0: nothing). -/
def Fr.wrong (F : Fr) : Int :=
  if F.kind ≤ 0 ∨ 7 < F.kind then 8 else if F.headOk = false then 3 else if vecRight F.vn F.items = false then 7 else if F.sums.any badSum = true then 3
  else if risesS (-1) F.sums = false then 6 else if 65536 < F.trips.length then 5 else if F.trips.any badTrip = true then 3 else 0
/-- A frame as the program has it. -/
abbrev frC (F : Fr) (A1 A2 A3 : Option Addr) (c1 c2 c3 : Nat) : List Value :=
  [.int .i64 F.kind, .int .i64 F.src, .int .i64 F.dst, .int .i64 F.seq, .int .i64 F.round, .int .i64 F.vn, .slice A1 F.items.length c1, .slice A2 F.sums.length c2, .slice A3 F.trips.length c3, .int .i64 F.n, .bool F.over]
/-- The lists of a frame lie in a world. -/
structure FrIn (w : World) (F : Fr) (A1 A2 A3 : Option Addr) : Prop where
  items : Reads w A1 (F.items.flatMap readV)
  sums : Reads w A2 (F.sums.flatMap sumV)
  trips : Reads w A3 (F.trips.flatMap tripV)
  li : F.items.length ≤ maxLen
  ls : F.sums.length ≤ maxLen
  lt : F.trips.length ≤ maxLen
theorem FrIn.kept0 {w w' : World} {F : Fr} {A1 A2 A3 : Option Addr} (h : FrIn w F A1 A2 A3) (hk : Kept [] w w') : FrIn w' F A1 A2 A3 :=
  ⟨h.items.kept0 hk, h.sums.kept0 hk, h.trips.kept0 hk, h.li, h.ls, h.lt⟩

set_option maxRecDepth 100000 in
theorem frameRight_any (F : Fr) (A1 A2 A3 : Option Addr) (c1 c2 c3 : Nat) (w : World) (hF : FrIn w F A1 A2 A3) :
    Calls Try.prog 36 #[.agg #[.int .i64 F.kind, .int .i64 F.src, .int .i64 F.dst, .int .i64 F.seq, .int .i64 F.round, .int .i64 F.vn, .slice A1 F.items.length c1, .slice A2 F.sums.length c2, .slice A3 F.trips.length c3, .int .i64 F.n, .bool F.over]] w fun e w' => e = .returned (.int .i64 F.wrong) ∧ Kept [] w w' := by
  have HX := Lib.hid (Blk.new w 60 (frC F A1 A2 A3 c1 c2 c3))
  have HF := Lib.hid (hF.kept0 ((Kept.refl [] w).alloc (.cells (frC F A1 A2 A3 c1 c2 c3).toArray 60)))
  have K0 := Lib.hid ((Kept.refl [] w).alloc (.cells (frC F A1 A2 A3 c1 c2 c3).toArray 60))
  clear hF
  by_cases a1 : F.kind ≤ 0
  · go_enter Try.func36, Try.ntmps36
    go_wp2_with fail
    go_ret
    exact ⟨ret_int (by simp [Fr.wrong, a1]), K0.out⟩
  by_cases a2 : 7 < F.kind
  · go_enter Try.func36, Try.ntmps36
    go_wp2_with fail
    go_ret
    exact ⟨ret_int (by simp [Fr.wrong, a2]), K0.out⟩
  have hw1 : F.wrong = if F.headOk = false then 3 else if vecRight F.vn F.items = false then 7 else if F.sums.any badSum = true then 3
    else if risesS (-1) F.sums = false then 6 else if 65536 < F.trips.length then 5 else if F.trips.any badTrip = true then 3 else 0 := by
    unfold Fr.wrong; rw [if_neg (by omega)]
  have W1 := Lib.hid hw1
  clear hw1
  go_enter Try.func36, Try.ntmps36
  go_wp2_with fail
  refine (worker_any F.src _).mono ?_
  rintro e w1 ⟨rfl, rfl⟩
  cases b1 : inR F.src 63
  · go_wp2_with fail
    go_ret
    exact ⟨ret_int (by rw [W1.out, if_pos (by simp [Fr.headOk, b1])]), K0.out⟩
  have B1 := Lib.hid b1
  clear b1
  go_wp2_with fail
  refine (worker_any F.dst _).mono ?_
  rintro e w1 ⟨rfl, rfl⟩
  cases b2 : inR F.dst 63
  · go_wp2_with fail
    go_ret
    exact ⟨ret_int (by rw [W1.out, if_pos (by simp [Fr.headOk, b2])]), K0.out⟩
  have B2 := Lib.hid b2
  clear b2
  go_wp2_with fail
  refine (within_any F.seq 2147483647 _).mono ?_
  rintro e w1 ⟨rfl, rfl⟩
  cases b3 : inR F.seq 2147483647
  · go_wp2_with fail
    go_ret
    exact ⟨ret_int (by rw [W1.out, if_pos (by simp [Fr.headOk, b3])]), K0.out⟩
  have B3 := Lib.hid b3
  clear b3
  go_wp2_with fail
  refine (within_any F.round 8192 _).mono ?_
  rintro e w1 ⟨rfl, rfl⟩
  cases b4 : inR F.round 8192
  · go_wp2_with fail
    go_ret
    exact ⟨ret_int (by rw [W1.out, if_pos (by simp [Fr.headOk, b4])]), K0.out⟩
  have B4 := Lib.hid b4
  clear b4
  have W2 := Lib.hid (W1.out.trans (if_neg (by simp [Fr.headOk, B1.out, B2.out, B3.out, B4.out])))
  clear W1
  go_wp2_with fail
  refine (spvecRight_any F.vn F.items A1 c1 _ HF.out.li HF.out.items).mono ?_
  rintro e w1 ⟨rfl, hk⟩
  have KW := Lib.hid hk
  clear hk
  cases b5 : vecRight F.vn F.items
  · go_wp2_with fail
    go_ret
    exact ⟨ret_int (by rw [W2.out, if_pos b5]), K0.out.trans KW.out⟩
  have W3 := Lib.hid (W2.out.trans (if_neg (by simp [b5])))
  clear W2 b5
  have hx7 := (HX.out.kept KW.out (by simp)).cell 7
  simp only [List.getElem?_cons_zero, List.getElem?_cons_succ] at hx7
  go_wp2_with fail
  refine (containsSum_any F.sums A2 c2 _ HF.out.ls (HF.out.sums.kept0 KW.out)).mono ?_
  rintro e w2 ⟨rfl, hk⟩
  have KW := Lib.hid (KW.out.trans hk)
  clear hk hx7
  cases b6 : F.sums.any badSum
  case true =>
    go_wp2_with fail
    go_ret
    exact ⟨ret_int (by rw [W3.out, if_pos b6]), K0.out.trans KW.out⟩
  have W4 := Lib.hid (W3.out.trans (if_neg (by simp [b6])))
  have HB := Lib.hid b6
  clear W3 b6
  have hx7 := (HX.out.kept KW.out (by simp)).cell 7
  simp only [List.getElem?_cons_zero, List.getElem?_cons_succ] at hx7
  go_wp2_with fail
  go_loopw [51] (fun i wr => ∃ (k : Nat) (last : Int), k ≤ F.sums.length ∧ i = .int .i64 k ∧ Hid (risesS (-1) F.sums = risesS last (F.sums.drop k)) ∧ Hid ((k = 0 → last = -1) ∧ ∀ (m : Nat) (hm : m < F.sums.length), k = m + 1 → last = F.sums[m].1) ∧ Hid (Kept [] (w.alloc (.cells (frC F A1 A2 A3 c1 c2 c3).toArray 60)) wr)) (fun i _ => F.sums.length - (intOf i).toNat)
  case atStart => exact ⟨0, -1, Nat.zero_le _, rfl, Lib.hid rfl, Lib.hid ⟨fun _ => rfl, fun _ _ h => absurd h (by omega)⟩, KW⟩
  case round =>
    obtain ⟨k, last, hk, rfl, HN, HL, KR⟩ := hrel
    clear hx7
    have hx7 := (HX.out.kept KR.out (by simp)).cell 7
    have hx8 := (HX.out.kept KR.out (by simp)).cell 8
    simp only [List.getElem?_cons_zero, List.getElem?_cons_succ] at hx7 hx8
    have hls := HF.out.ls
    unfold maxLen at hls
    by_cases hlt : k < F.sums.length
    · obtain ⟨b, off, rfl, hbl, s0, s1, s2⟩ := sum_at (HF.out.sums.kept0 KR.out) hlt
      clear hx8 s1 s2
      have HRD := Lib.hid (risesS_drop last hlt)
      have next : last < F.sums[k].1 → Hid (risesS (-1) F.sums = risesS F.sums[k].1 (F.sums.drop (k + 1))) ∧ Hid ((k + 1 = 0 → F.sums[k].1 = -1) ∧ ∀ (m : Nat) (hm : m < F.sums.length), k + 1 = m + 1 → F.sums[k].1 = F.sums[m].1) := by
        intro h
        refine ⟨Lib.hid ?_, Lib.hid ⟨fun h => absurd h (by omega), fun m hm h => ?_⟩⟩
        · rw [HN.out, HRD.out]
          have : decide (last < F.sums[k].1) = true := by simp; omega
          rw [this]; simp
        · obtain rfl : k = m := by omega
          rfl
      have NEXT := Lib.hid next
      clear next
      have POS := Lib.hid (show 0 ≤ F.sums[k].1 by
        have h := HB.out
        rw [List.any_eq_false] at h
        have := h _ (List.getElem_mem hlt)
        simp [badSum, inR] at this
        omega)
      by_cases hz : k = 0
      · have HZ := Lib.hid hz
        clear hz
        go_wp2_with fail
        have G3 : ¬ 0 < k := by have := HZ.out; omega
        have G4 : decide ((0 : Int) < (k : Int)) = false := by simp; exact HZ.out
        go_quiet (fail)
        go_wp2_with fail
        go_roundw
        case rel =>
          have hh := HL.out.1 HZ.out
          obtain ⟨a1, a2⟩ := NEXT.out (by have := POS.out; omega)
          exact ⟨k + 1, _, by omega, by go_num, a1, a2, Lib.hid (KR.out.drewN _)⟩
        case measure => simp [intOf]; omega
      obtain ⟨m, rfl⟩ : ∃ m, k = m + 1 := ⟨k - 1, by omega⟩
      have hml : m < F.sums.length := by omega
      obtain ⟨b', off', hbe, hbl', p0, p1, p2⟩ := sum_at (HF.out.sums.kept0 KR.out) hml
      injection hbe with hbe
      injection hbe with hb1 hb2
      subst hb1 hb2
      have hlast := HL.out.2 m hml rfl
      subst hlast
      clear p1 p2
      by_cases g3 : F.sums[m + 1].1 ≤ F.sums[m].1
      · go_wp2_with fail
        go_quiet (fail)
        go_wp2_with fail
        go_ret
        refine ⟨ret_int ?_, K0.out.trans (KR.out.drewN _)⟩
        rw [W4.out, HN.out, HRD.out, if_pos]
        simp; omega
      · go_wp2_with fail
        go_quiet (fail)
        go_wp2_with fail
        go_roundw
        case rel =>
          obtain ⟨a1, a2⟩ := NEXT.out (by omega)
          exact ⟨m + 1 + 1, _, by omega, by go_num, a1, a2, Lib.hid (KR.out.drewN _)⟩
        case measure => simp [intOf]; omega
    · clear hx7
      have W5 := Lib.hid (W4.out.trans (if_neg (by rw [HN.out, List.drop_eq_nil_of_le (by omega)]; simp [risesS])))
      clear W4
      by_cases g4 : 65536 < F.trips.length
      · go_wp2_with fail
        go_ret
        exact ⟨ret_int (by rw [W5.out, if_pos g4]), K0.out.trans KR.out⟩
      have W6 := Lib.hid (W5.out.trans (if_neg g4))
      clear W5
      go_wp2_with fail
      refine (containsTrip_any F.trips A3 c3 _ HF.out.lt (HF.out.trips.kept0 KR.out)).mono ?_
      rintro e w3 ⟨rfl, hk3⟩
      have K3 := Lib.hid (KR.out.trans hk3)
      clear hk3
      cases g5 : F.trips.any badTrip
      · go_wp2_with fail
        go_ret
        exact ⟨ret_int (by rw [W6.out, if_neg (by simp [g5])]), K0.out.trans K3.out⟩
      · go_wp2_with fail
        go_ret
        exact ⟨ret_int (by rw [W6.out, if_pos g5]), K0.out.trans K3.out⟩
end Go.Proofs.Ytdjidnccockmmaa
