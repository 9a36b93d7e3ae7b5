/- fretworkref09.Of by the least sums, fretworklaw09.Some: vectors of few items. Conditions: places within the vector. -/
import Derived.Test.YtblfingmdipopaaGreatM22
import Derived.Test.YtblfingmdipopaaGreatM16
namespace Go.Proofs.YtblfingmdipopaaGreat
set_option linter.unusedSimpArgs false
set_option linter.unusedVariables false
open Go.ChangeShapes Go.WideShapes Go.ChangeAt Go.RowKit
open Go.RowKit (wrap32 wrap64)
set_option maxHeartbeats 8000000
theorem infoVec : (Tryz.prog.info? 35).map (·.size) = some 2 := by kernel_rfl
/-- A vector that a call hands back: its items are the call's own. -/
def VcPost (w : World) (n : Nat) (X : List Ed) (e : Ending) (w' : World) : Prop := ∃ v, e = .returned (.agg #[.int .i64 n, v]) ∧ w'.ownsRow w.heap.size 38 2 v X.length (X.flatMap itV) ∧ Kept [] w w'
/-- Items that lie in a vector. -/
def InV (n : Nat) (l : List Ed) : Prop := ∀ e ∈ l, e.1 = 0 ∧ 0 ≤ e.2.1 ∧ e.2.1 < n
/-- A vector's items: they rise, and lie in it. -/
structure VcOk (n : Nat) (X : List Ed) : Prop where
  rises : RisesL X
  inn : InV n X
  len : X.length ≤ 65536
  num : n ≤ 4096
theorem it_at {w : World} {A : Option Addr} {l : List Ed} (h : Reads w A (l.flatMap itV)) {k : Nat} (hk : k < l.length) :
    ∃ b off, A = some ⟨b, off, none⟩ ∧ b < w.heap.size ∧ w.cell? ⟨b, off + k * 2, none⟩ = some (.int .i64 l[k].2.1) ∧ w.cell? ⟨b, off + k * 2 + 1, none⟩ = some (.int .i64 l[k].2.2) := by
  obtain ⟨b, off, e, hb, hc⟩ := rec_cell (m := 2) (fun _ _ => rfl) (by decide) h hk
  exact ⟨b, off, e, hb, hc 0 _ rfl, hc 1 _ rfl⟩
end Go.Proofs.YtblfingmdipopaaGreat

/- fretworkref09.Right, Sure, Same of vectors that can be. Conditions: none but those of the lemmas. -/
namespace Go.Proofs.YtblfingmdipopaaGreat
set_option linter.unusedSimpArgs false
set_option linter.unusedVariables false
open Go.ChangeShapes Go.WideShapes Go.ChangeAt Go.RowKit
open Go.RowKit (wrap32 wrap64)
set_option maxHeartbeats 8000000
theorem vc_step {N : Nat} {X : List Ed} (h : VcOk N X) {j : Nat} (hj : j + 1 < X.length) : X[j].2.1 < X[j + 1].2.1 := by
  have h1 := (List.pairwise_iff_getElem.1 h.rises) j (j + 1) (by omega) hj (by omega)
  have a := (h.inn X[j] (List.getElem_mem _)).1
  have b := (h.inn X[j + 1] (List.getElem_mem _)).1
  simp [keyLt] at h1
  omega
end Go.Proofs.YtblfingmdipopaaGreat

/- Sets of fewer than 64 places: words, New, set, Put, Of of fretworkref03. Conditions: places below 64. -/
namespace Go.Proofs.YtblfingmdipopaaGreat
set_option linter.unusedSimpArgs false
set_option linter.unusedVariables false
open Go.ChangeShapes Go.WideShapes Go.ChangeAt Go.RowKit
open Go.RowKit (wrap32 wrap64)
set_option maxHeartbeats 8000000
abbrev vU (b : Nat) : Value := .int .u64 (b : Int)
theorem infoU64 : Info Tryz.prog 98 (.int .u64 0) 1 8 := by unfold Info; kernel_rfl
theorem two_lt {i : Nat} (h : i < 64) : 2 ^ i < 18446744073709551616 := Nat.lt_of_lt_of_le (Nat.pow_lt_pow_right (by decide) h) (Nat.le_refl _)
theorem ofInt_nat (b : Nat) : BitVec.ofInt 64 (b : Int) = BitVec.ofNat 64 b := by simp
theorem wrap_two {i : Nat} (h : i < 64) : IntKind.u64.wrap (2 ^ i) = ((2 ^ i : Nat) : Int) := by
  rw [u64_wrap]
  have h2 := two_lt h
  have e : ((2 : Int) ^ i) = ((2 ^ i : Nat) : Int) := by simp
  rw [e]
  generalize 2 ^ i = p at *
  omega
theorem bits_or {a b : Nat} (ha : a < 18446744073709551616) (hb : b < 18446744073709551616) : bits .or .u64 (a : Int) (b : Int) = ((a ||| b : Nat) : Int) := by
  have h1 : a ||| b < 2 ^ 64 := Nat.or_lt_two_pow ha hb
  unfold bits
  rw [u64_wrap]
  show ((BitVec.ofInt 64 (a : Int) ||| BitVec.ofInt 64 (b : Int)).toNat : Int) % 18446744073709551616 = _
  rw [ofInt_nat, ofInt_nat, BitVec.toNat_or, BitVec.toNat_ofNat, BitVec.toNat_ofNat, Nat.mod_eq_of_lt (show a < 2 ^ 64 from ha), Nat.mod_eq_of_lt (show b < 2 ^ 64 from hb)]
  omega
theorem bits_and {a b : Nat} (ha : a < 18446744073709551616) (hb : b < 18446744073709551616) : bits .and .u64 (a : Int) (b : Int) = ((a &&& b : Nat) : Int) := by
  have h1 : a &&& b < 18446744073709551616 := Nat.lt_of_le_of_lt Nat.and_le_left ha
  unfold bits
  rw [u64_wrap]
  show ((BitVec.ofInt 64 (a : Int) &&& BitVec.ofInt 64 (b : Int)).toNat : Int) % 18446744073709551616 = _
  rw [ofInt_nat, ofInt_nat, BitVec.toNat_and, BitVec.toNat_ofNat, BitVec.toNat_ofNat, Nat.mod_eq_of_lt (show a < 2 ^ 64 from ha), Nat.mod_eq_of_lt (show b < 2 ^ 64 from hb)]
  omega
theorem and_two_zero (b i : Nat) : (b &&& 2 ^ i = 0) ↔ b.testBit i = false := by
  constructor
  · intro h
    have h2 : (b &&& 2 ^ i).testBit i = false := by rw [h]; simp
    rw [Nat.testBit_and, Nat.testBit_two_pow] at h2
    simpa using h2
  · intro h
    refine Nat.eq_of_testBit_eq (fun j => ?_)
    rw [Nat.testBit_and, Nat.testBit_two_pow, Nat.zero_testBit]
    by_cases hj : i = j
    · subst hj
      rw [h]
      rfl
    · simp [hj]
/-- How many words so many places have, and the words of a set. -/
def wordsN (N : Nat) : Nat := if N = 0 then 0 else 1
def bitsV (N b : Nat) : List Value := if N = 0 then [] else [vU b]
theorem bitsV_len (N b : Nat) : (bitsV N b).length = wordsN N := by unfold bitsV wordsN; split <;> rfl
theorem wordsN_le (N : Nat) : wordsN N ≤ 1 := by unfold wordsN; split <;> omega
/-- The set of some places. -/
def putB (b : Nat) (i : Int) : Nat := b ||| 2 ^ i.toNat
def bitsP (l : List Int) : Nat := l.foldl putB 0
theorem bitsP_snoc (l : List Int) (i : Int) : bitsP (l ++ [i]) = putB (bitsP l) i := by simp [bitsP]
theorem bitsP_lt (N : Nat) : ∀ (l : List Int), (∀ i ∈ l, 0 ≤ i ∧ i < N) → bitsP l < 2 ^ N := by
  have h : ∀ (l : List Int) (b : Nat), b < 2 ^ N → (∀ i ∈ l, 0 ≤ i ∧ i < N) → l.foldl putB b < 2 ^ N := by
    intro l
    induction l with
    | nil => intro b hb _; exact hb
    | cons i l ih =>
      intro b hb hl
      refine ih _ ?_ (fun j hj => hl j (by simp [hj]))
      have := hl i (by simp)
      exact Nat.or_lt_two_pow hb (Nat.pow_lt_pow_right (by decide) (by omega))
  exact fun l hl => h l 0 (Nat.two_pow_pos N) hl
theorem bitsP_test (j : Nat) : ∀ (l : List Int), (∀ i ∈ l, 0 ≤ i) → (bitsP l).testBit j = decide ((j : Int) ∈ l) := by
  have h : ∀ (l : List Int) (b : Nat), (∀ i ∈ l, 0 ≤ i) → (l.foldl putB b).testBit j = (b.testBit j || decide ((j : Int) ∈ l)) := by
    intro l
    induction l with
    | nil => intro b _; simp
    | cons i l ih =>
      intro b hl
      have hi := hl i (by simp)
      rw [List.foldl_cons, ih _ (fun j hj => hl j (by simp [hj]))]
      unfold putB
      rw [Nat.testBit_or, Nat.testBit_two_pow]
      have e : decide (i.toNat = j) = decide ((j : Int) = i) := by
        rw [decide_eq_decide]
        omega
      rw [e]
      simp [Bool.or_assoc]
  intro l hl
  have := h l 0 hl
  simpa [bitsP] using this
theorem lt_64 {N b : Nat} (hN : N ≤ 60) (hb : b < 2 ^ N) : b < 18446744073709551616 := Nat.lt_of_lt_of_le hb (Nat.le_trans (Nat.pow_le_pow_right (by decide) (show N ≤ 64 by omega)) (Nat.le_refl _))
end Go.Proofs.YtblfingmdipopaaGreat

/- fretworkref10.New, fretworkref10.Of: dense vectors of fewer than 61 places. Conditions: the vector can be. -/
namespace Go.Proofs.YtblfingmdipopaaGreat
set_option linter.unusedSimpArgs false
set_option linter.unusedVariables false
open Go.ChangeShapes Go.WideShapes Go.ChangeAt Go.RowKit
open Go.RowKit (wrap32 wrap64)
set_option maxHeartbeats 8000000
section
variable {P : Program} {ops : Array Oper} {K : Act → World → Prop} {Q : Exit → Act → World → Prop} {o : Oper} {a : Act} {w : World}
/-- 'make([]T, n)' of elements of one cell, in a region whose order is open. -/
theorem stpMk {E : Prop} (hg : o.guard = none) (l c : Operand) (t : TypeId) (hop : o.op = Op.makeSlice t l c) (e : TypeId) (z : Value) (bytes : Nat)
    (h1 : P.underlying t = some (.slice e)) (hinfo : Info P e z 1 bytes) (hz : z.cells = #[z]) (kl kc : IntKind) (L C : Int) (n : Nat) (hl : a.eval l = .int kl L) (hc : a.eval c = .int kc C)
    (hL : L = (n : Int)) (hC : C = (n : Int)) (b2 : bytes * n ≤ 281474976710656) (b3 : n ≤ maxLen)
    (hK : ∀ w', Blk w' w.heap.size e (List.replicate n z) → Kept [] w w' → K (a.put o.dst (.slice (some ⟨w.heap.size, 0, none⟩) n n)) w') :
    if Region.wanted o (yielded ops a.tmps) = true then Oper.wp P o a w K Q else E := by
  rw [if_pos (by simp [Region.wanted, hg])]
  obtain ⟨i, hi, hiz, his, hib⟩ := info_parts hinfo
  have h63' : (n : Int) ≤ 9223372036854775807 := by
    have h := b3
    simp [maxLen] at h
    omega
  have hb' : (i.bytes : Int) * (n : Int) ≤ 281474976710656 := by
    rw [hib]
    have h : ((bytes * n : Nat) : Int) ≤ 281474976710656 := by omega
    rwa [Int.natCast_mul] at h
  have hr := run_make (P := P) w t e i z h1 hi hiz kl kc n n (by omega) (Int.le_refl _) hb' h63'
  simp only [Int.toNat_natCast] at hr
  subst hL
  subst hC
  unfold Oper.wp
  simp [execOp, hop, hl, hc, hr, Result.andThen]
  refine hK _ ?_ ((Kept.refl _ _).alloc _)
  have := Blk.new w e (madeCells z.cells (n * i.size)).toList
  rw [his, Nat.mul_one, hz, toList_madeCells_one] at this
  rw [his, Nat.mul_one]
  have e2 : madeCells z.cells n = (List.replicate n z).toArray := by rw [hz, ← toList_madeCells_one, Array.toArray_toList]
  rw [e2]
  exact this
end
theorem infoDense : (Tryz.prog.info? 48).map (·.size) = some 3 := by kernel_rfl
/-- The values of a dense vector. -/
def valsP (N : Nat) (X : List Ed) : List Int := X.foldl (fun V e => V.set e.2.1.toNat e.2.2) (List.replicate N 0)
theorem valsP_snoc (N : Nat) (X : List Ed) (e : Ed) : valsP N (X ++ [e]) = (valsP N X).set e.2.1.toNat e.2.2 := by simp [valsP]
theorem valsP_len (N : Nat) (X : List Ed) : (valsP N X).length = N := by
  have h : ∀ (X : List Ed) (V : List Int), (X.foldl (fun V e => V.set e.2.1.toNat e.2.2) V).length = V.length := by
    intro X
    induction X with
    | nil => intro V; rfl
    | cons e X ih => intro V; rw [List.foldl_cons, ih, List.length_set]
  unfold valsP
  rw [h]
  simp
/-- A dense vector that a call made: its bits, and its values. -/
structure DnAt (w : World) (base : Nat) (vh vv : Value) (N b : Nat) (V : List Int) : Prop where
  o1 : w.ownsRow base 98 1 vh (wordsN N) (bitsV N b)
  o2 : w.ownsRow base 2 1 vv N (V.map vI)
theorem DnAt.kept0 {w w' : World} {base : Nat} {vh vv : Value} {N b : Nat} {V : List Int} (h : DnAt w base vh vv N b V) (k : Kept [] w w') : DnAt w' base vh vv N b V := ⟨own_kept0 h.o1 k, own_kept0 h.o2 k⟩
theorem DnAt.keptB {w w' : World} {base base' : Nat} {T : List TypeId} {vh vv : Value} {N b : Nat} {V : List Int} (h : DnAt w base vh vv N b V) (k : KeptB base' T w w') (h1 : 98 ∉ T) (h2 : 2 ∉ T) : DnAt w' base vh vv N b V := ⟨own_keptB h.o1 k h1, own_keptB h.o2 k h2⟩
theorem DnAt.le {w : World} {base base' : Nat} {vh vv : Value} {N b : Nat} {V : List Int} (h : DnAt w base vh vv N b V) (k : base' ≤ base) : DnAt w base' vh vv N b V := ⟨own_le h.o1 k, own_le h.o2 k⟩
/-- A dense vector that a call hands back. -/
def DnPost (w : World) (N b : Nat) (V : List Int) (e : Ending) (w' : World) : Prop := ∃ vh vv, e = .returned (.agg #[.int .i64 N, vh, vv]) ∧ DnAt w' w.heap.size vh vv N b V ∧ Kept [] w w'
end Go.Proofs.YtblfingmdipopaaGreat

/- fretworkref10.Of: a vector as a dense one; what it holds. Conditions: the vector can be, and has fewer than 61 places. -/
namespace Go.Proofs.YtblfingmdipopaaGreat
set_option linter.unusedSimpArgs false
set_option linter.unusedVariables false
open Go.ChangeShapes Go.WideShapes Go.ChangeAt Go.RowKit
open Go.RowKit (wrap32 wrap64)
set_option maxHeartbeats 8000000
/-- The places of a vector. -/
abbrev atsP (X : List Ed) : List Int := X.map (fun e => e.2.1)
/-- The bits and the values hold just the vector's items. -/
structure DnOk (N : Nat) (X : List Ed) (b : Nat) (V : List Int) : Prop where
  lt : b < 2 ^ N
  len : V.length = N
  has : ∀ i : Nat, b.testBit i = decide ((i : Int) ∈ atsP X)
  val : ∀ e ∈ X, V[e.2.1.toNat]? = some e.2.2
  non : ∀ i : Nat, i < N → (i : Int) ∉ atsP X → V[i]? = some 0
theorem vals_get (N : Nat) : ∀ (X : List Ed) (V : List Int), (∀ e ∈ X, 0 ≤ e.2.1) → (atsP X).Nodup →
    (∀ e ∈ X, e.2.1.toNat < V.length → (X.foldl (fun V e => V.set e.2.1.toNat e.2.2) V)[e.2.1.toNat]? = some e.2.2) ∧ (∀ i : Nat, (i : Int) ∉ atsP X → (X.foldl (fun V e => V.set e.2.1.toNat e.2.2) V)[i]? = V[i]?)
  | [], V, _, _ => ⟨fun e he => (by cases he), fun i _ => rfl⟩
  | x :: X, V, h0, hn => by
    have hn2 := List.nodup_cons.1 hn
    obtain ⟨h1, h2⟩ := vals_get N X (V.set x.2.1.toNat x.2.2) (fun e he => h0 e (by simp [he])) hn2.2
    have hx := h0 x (by simp)
    refine ⟨fun e he hl => ?_, fun i hi => ?_⟩
    · rw [List.foldl_cons]
      rcases List.mem_cons.1 he with rfl | he
      · rw [h2 _ (by rw [Int.toNat_of_nonneg hx]; exact hn2.1)]
        rw [List.getElem?_set_self hl]
      · exact h1 e he (by simpa using hl)
    · rw [List.foldl_cons, h2 i (fun h => hi (by simp only [atsP, List.map_cons, List.mem_cons]; exact .inr h))]
      rw [List.getElem?_set_ne]
      intro he
      apply hi
      simp only [atsP, List.map_cons, List.mem_cons]
      left
      omega
theorem ats_nodup {N : Nat} {X : List Ed} (h : VcOk N X) : (atsP X).Nodup := by
  unfold List.Nodup atsP
  rw [List.pairwise_map]
  refine List.Pairwise.imp_of_mem (fun {a b} ha hb hk => ?_) h.rises
  have h1 := (h.inn a ha).1
  have h2 := (h.inn b hb).1
  simp [keyLt] at hk
  omega
theorem dn_ok {N : Nat} {X : List Ed} (h : VcOk N X) : DnOk N X (bitsP (atsP X)) (valsP N X) := by
  have h0 : ∀ e ∈ X, 0 ≤ e.2.1 := fun e he => (h.inn e he).2.1
  have hin : ∀ i ∈ atsP X, 0 ≤ i ∧ i < N := fun i hi => by
    obtain ⟨e, he, rfl⟩ := List.mem_map.1 hi
    exact (h.inn e he).2
  obtain ⟨h1, h2⟩ := vals_get N X (List.replicate N 0) h0 (ats_nodup h)
  refine ⟨bitsP_lt N _ hin, valsP_len N X, fun i => bitsP_test i _ (fun i hi => (hin i hi).1), fun e he => h1 e he ?_, fun i hi hni => ?_⟩
  · have := (h.inn e he).2
    simp
    omega
  · exact (h2 i hni).trans (by simp [hi])
end Go.Proofs.YtblfingmdipopaaGreat

/- flags.within, bit, words, Has: sets of fewer than 61 places. Conditions: places below 64. -/
namespace Go.Proofs.YtblfingmdipopaaGreat
set_option linter.unusedSimpArgs false
set_option linter.unusedVariables false
open Go.ChangeShapes Go.WideShapes Go.ChangeAt Go.RowKit
open Go.RowKit (wrap32 wrap64)
set_option maxHeartbeats 8000000
theorem and63 {i : Nat} (h : i < 64) : bits .and .u64 (i : Int) 63 = (i : Int) := by
  have h2 := bits_and (a := i) (b := 63) (by omega) (by decide)
  have h3 : i &&& 63 = i := by
    have := Nat.and_two_pow_sub_one_eq_mod i 6
    rw [show (2 : Nat) ^ 6 - 1 = 63 from rfl] at this
    rw [this, Nat.mod_eq_of_lt h]
  rw [h3] at h2
  exact h2
theorem fWithin_any (i n : Nat) (A : Option Addr) (c : Nat) (w : World) (ha : i < 64) :
    Calls Tryz.prog 133 #[.slice A n c, .int .i64 i] w fun e w' => e = .returned (.bool (decide (0 < n))) ∧ w' = w := by
  have HD := Lib.hid (show decide ((i : Int) / 64 < (n : Int)) = decide (0 < n) by rw [decide_eq_decide]; omega)
  go_enter Tryz.func133, Tryz.ntmps133
  go_wp2_with fail
  go_ret
  exact ⟨ret_bool HD.out, rfl⟩
theorem fWithin_no (i : Nat) (A : Option Addr) (c : Nat) (w : World) (ha : i < 64) :
    Calls Tryz.prog 133 #[.slice A 0 c, .int .i64 i] w fun e w' => e = .returned (.bool false) ∧ w' = w := fWithin_any i 0 A c w ha
theorem fWithin_yes (i : Nat) (A : Option Addr) (c : Nat) (w : World) (ha : i < 64) :
    Calls Tryz.prog 133 #[.slice A 1 c, .int .i64 i] w fun e w' => e = .returned (.bool true) ∧ w' = w := fWithin_any i 1 A c w ha
theorem fBit_any (i : Nat) (w : World) (ha : i < 64) :
    Calls Tryz.prog 134 #[.int .i64 i] w fun e w' => e = .returned (.int .u64 ((2 ^ i : Nat) : Int)) ∧ w' = w := by
  have h1 := and63 ha
  have h2 : IntKind.u64.wrap (i : Int) = (i : Int) := by rw [u64_wrap]; omega
  have HW := Lib.hid (wrap_two ha)
  go_enter Tryz.func134, Tryz.ntmps134
  go_wp2_with fail
  go_ret
  exact ⟨by rw [← HW.out]; rfl, rfl⟩
theorem fWords_any (N : Nat) (w : World) (hN : N ≤ 60) :
    Calls Tryz.prog 137 #[.int .i64 N] w fun e w' => e = .returned (.int .i64 (wordsN N : Int)) ∧ w' = w := by
  have h1 : min (N : Int) 4096 = (N : Int) := by omega
  have HV := Lib.hid (show ((N : Int) + 63) / 64 = (wordsN N : Int) by unfold wordsN; split <;> omega)
  go_enter Tryz.func137, Tryz.ntmps137
  go_wp2_with fail
  go_ret
  exact ⟨ret_int HV.out, rfl⟩
theorem fHas_nil (i : Nat) (c : Nat) (w : World) (ha : i < 64) :
    Calls Tryz.prog 97 #[.slice none 0 c, .int .i64 i] w fun e w' => e = .returned (.bool false) ∧ ∃ n, w' = w.drewN n := by
  go_enter Tryz.func97, Tryz.ntmps97
  go_upto_region 1 with (fail)
  go_quiet ((go_at_call 133; exact quietS (fWithin_no i none c _ ha)))
  go_wp2_with fail
  go_ret
  exact ⟨rfl, _, rfl⟩
set_option maxRecDepth 100000 in
theorem fHas_one (b i : Nat) (A : Option Addr) (c : Nat) (w : World) (hb : b < 18446744073709551616) (ha : i < 64) (hr : Reads w A [vU b]) :
    Calls Tryz.prog 97 #[.slice A 1 c, .int .i64 i] w fun e w' => e = .returned (.bool (b.testBit i)) ∧ ∃ n, w' = w.drewN n := by
  obtain ⟨g, off, rfl, hg, hc⟩ := hr (by simp)
  have c0 := hc 0 _ rfl
  rw [Nat.add_zero] at c0
  have HAN := Lib.hid (bits_and hb (two_lt ha))
  have HTB := Lib.hid (and_two_zero b i)
  have h2' : (i : Int) / 64 = 0 := by omega
  clear hc hr
  by_cases h : b.testBit i = true
  · rw [h]
    have HNZ := Lib.hid (show (bits .and .u64 (b : Int) (2 ^ i) != 0) = true from by
      rw [show ((2 : Int) ^ i) = ((2 ^ i : Nat) : Int) by simp, HAN.out]
      have : b &&& 2 ^ i ≠ 0 := fun h0 => by rw [HTB.out.1 h0] at h; cases h
      simp only [bne_iff_ne, ne_eq]
      omega)
    clear h HTB HAN
    go_enter Tryz.func97, Tryz.ntmps97
    go_upto_region 1 with (fail)
    go_quiet ((first | (go_at_call 133; exact quietS (fWithin_yes i (some ⟨g, off, none⟩) c _ ha)) | (go_at_call 134; exact quietS (fBit_any i _ ha))))
    go_wp2_with fail
    go_ret
    exact ⟨ret_bool HNZ.out, _, rfl⟩
  · have h : b.testBit i = false := by simpa using h
    rw [h]
    have HNZ := Lib.hid (show (bits .and .u64 (b : Int) (2 ^ i) != 0) = false from by
      rw [show ((2 : Int) ^ i) = ((2 ^ i : Nat) : Int) by simp, HAN.out, HTB.out.2 h]
      rfl)
    clear h HTB HAN
    go_enter Tryz.func97, Tryz.ntmps97
    go_upto_region 1 with (fail)
    go_quiet ((first | (go_at_call 133; exact quietS (fWithin_yes i (some ⟨g, off, none⟩) c _ ha)) | (go_at_call 134; exact quietS (fBit_any i _ ha))))
    go_wp2_with fail
    go_ret
    exact ⟨ret_bool HNZ.out, _, rfl⟩
end Go.Proofs.YtblfingmdipopaaGreat
