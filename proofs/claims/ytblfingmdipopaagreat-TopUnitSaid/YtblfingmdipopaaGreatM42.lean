/- pull.Done: a vector of sums. Conditions: places that rise. -/
import Derived.Test.YtblfingmdipopaaGreatM38
import Derived.Test.YtblfingmdipopaaGreatM03
import Derived.Test.YtblfingmdipopaaGreatM01
import Derived.MapKept
import Derived.ChangeMaps5
import Derived.Test.YtblfingmdipopaaGreatM22
import Derived.Test.YtblfingmdipopaaGreatM12
import Derived.Test.YtblfingmdipopaaGreatM09
import Derived.Test.YtblfingmdipopaaGreatM10
import Derived.Deep.CutBlock
namespace Go.Proofs.YtblfingmdipopaaGreat
set_option linter.unusedSimpArgs false
set_option linter.unusedVariables false
open Go.ChangeShapes Go.WideShapes Go.ChangeAt Go.RowKit
open Go.RowKit (wrap32 wrap64)
set_option maxHeartbeats 8000000
/-- No sum that rises is out of range. -/
theorem done1_any (x : Nat × Int) (n g : Nat) (w : World) (h : Blk w g 3 [.int .i64 n]) (hx : x.1 < n) (hn : n ≤ 4096) :
    Calls Tryz.prog 62 #[.agg (smV x).toArray, .pointer (some ⟨g, 0, none⟩)] w fun e w' => e = .returned (.bool false) ∧ Kept [] w w' := by
  have k0 := (Kept.refl [] w).alloc (.cells (smV x).toArray 138)
  have HX := Lib.hid (Blk.new w 138 (smV x))
  have c0 := HX.out.cell 0
  have c1 := (h.kept k0 (by simp)).cell 0
  simp only [smV, List.getElem?_cons_zero] at c0 c1
  have h1 : ¬ (n : Int) ≤ (x.1 : Int) := by omega
  have h2 : ¬ (x.1 : Int) < 0 := by omega
  go_enter Tryz.func62, Tryz.ntmps62
  go_wp2_with fail
  go_ret
  exact ⟨rfl, k0⟩
theorem sum_at {w : World} {A : Option Addr} {S : List (Nat × Int)} (h : Reads w A (S.flatMap smV)) {k : Nat} (hk : k < S.length) :
    ∃ b off, A = some ⟨b, off, none⟩ ∧ b < w.heap.size ∧ w.cell? ⟨b, off + k * 3, none⟩ = some (.int .i64 (S[k].1 : Int)) ∧ w.cell? ⟨b, off + k * 3 + 1, none⟩ = some (.int .i64 (wOf S[k].2).1) ∧ w.cell? ⟨b, off + k * 3 + 2, none⟩ = some (.int .u64 ((wOf S[k].2).2 : Int)) := by
  obtain ⟨b, off, e, hb, hc⟩ := rec_cell (m := 3) (fun _ _ => rfl) (by decide) h hk
  exact ⟨b, off, e, hb, hc 0 _ rfl, hc 1 _ rfl, hc 2 _ rfl⟩
theorem indexS_any (S : List (Nat × Int)) (n g : Nat) (A : Option Addr) (c : Nat) (w : World) (hl : S.length ≤ maxLen) (hn : n ≤ 4096) (hs : ∀ x ∈ S, x.1 < n) (h : Blk w g 3 [.int .i64 n]) (hr : Reads w A (S.flatMap smV)) :
    Calls Tryz.prog 101 #[.slice A S.length c, .func (.func 62) #[] #[.pointer (some ⟨g, 0, none⟩)]] w fun e w' => e = .returned (.int .i64 (-1)) ∧ Kept [] w w' := by
  unfold maxLen at hl
  have HR := Lib.hid hr
  have HG := Lib.hid h
  have HS := Lib.hid hs
  have HN := Lib.hid hn
  clear hr h hs hn
  go_enter Tryz.func101, Tryz.ntmps101
  go_wp2_with fail
  go_loopw [8] (fun i wr => ∃ k : Nat, k ≤ S.length ∧ i = .int .i64 k ∧ Hid (Kept [] w wr)) (fun i _ => S.length - (intOf i).toNat)
  case atStart => exact ⟨0, Nat.zero_le _, rfl, Lib.hid (Kept.refl _ _)⟩
  case round =>
    obtain ⟨k, hk, rfl, KW⟩ := hrel
    by_cases hlt : k < S.length
    · obtain ⟨b, off, rfl, hbl, h0, h1, h2⟩ := sum_at (HR.out.kept0 KW.out) hlt
      go_wp2_with fail
      refine (done1_any S[k] n g _ (HG.out.kept KW.out (by simp)) (HS.out _ (List.getElem_mem hlt)) HN.out).mono ?_
      rintro e w1 ⟨rfl, hk1⟩
      have KW := Lib.hid (KW.out.trans hk1)
      clear hk1 h0 h1 h2
      go_wp2_with fail
      go_roundw
      case rel => exact ⟨k + 1, by omega, by go_num, KW⟩
      case measure => simp [intOf]; omega
    · go_wp2_with fail
      go_ret
      exact ⟨rfl, KW.out⟩
theorem containsS_any (S : List (Nat × Int)) (n g : Nat) (A : Option Addr) (c : Nat) (w : World) (hl : S.length ≤ maxLen) (hn : n ≤ 4096) (hs : ∀ x ∈ S, x.1 < n) (h : Blk w g 3 [.int .i64 n]) (hr : Reads w A (S.flatMap smV)) :
    Calls Tryz.prog 61 #[.slice A S.length c, .func (.func 62) #[] #[.pointer (some ⟨g, 0, none⟩)]] w fun e w' => e = .returned (.bool false) ∧ Kept [] w w' := by
  have HI := Lib.hid (indexS_any S n g A c w hl hn hs h hr)
  clear hl hn hs h hr
  go_enter Tryz.func61, Tryz.ntmps61
  go_wp2_with fail
  refine HI.out.mono ?_
  rintro _ w1 ⟨rfl, hk⟩
  have HK := Lib.hid hk
  clear hk
  go_wp2_with fail
  go_ret
  exact ⟨rfl, HK.out⟩
/-- What the sums are: their rows are asked, and come to them. -/
theorem sumsR_mem {r : Int} {b : Nat} {V : List Int} {l : List Ed} {is : List Nat} {x : Nat × Int} (h : x ∈ sumsR r b V l is) : x.1 ∈ is ∧ rowR r b V (rowL l x.1) = some x.2 := by
  obtain ⟨i, hi, hx⟩ := List.mem_filterMap.1 h
  obtain ⟨s, hs, rfl⟩ := Option.map_eq_some_iff.1 hx
  exact ⟨hi, hs⟩
/-- The sums rise as the rows do. -/
theorem sumsR_rise (r : Int) (b : Nat) (V : List Int) (l : List Ed) : ∀ (is : List Nat), is.Pairwise (· < ·) → (sumsR r b V l is).Pairwise (fun x y => x.1 < y.1)
  | [], _ => List.Pairwise.nil
  | i :: is, h => by
    have h2 := List.pairwise_cons.1 h
    have ih := sumsR_rise r b V l is h2.2
    rcases ho : rowR r b V (rowL l i) with _ | s
    · have e : sumsR r b V l (i :: is) = sumsR r b V l is := by simp [sumsR, ho]
      rw [e]
      exact ih
    · have e : sumsR r b V l (i :: is) = (i, s) :: sumsR r b V l is := by simp [sumsR, ho]
      rw [e]
      exact List.Pairwise.cons (fun y hy => h2.1 _ (sumsR_mem hy).1) ih
theorem askN_rise (n : Nat) (q : Nat → Bool) (oth : Bool) : (askN n q oth).Pairwise (· < ·) := List.Pairwise.filter _ List.pairwise_lt_range
theorem askN_lt {n : Nat} {q : Nat → Bool} {oth : Bool} {i : Nat} (h : i ∈ askN n q oth) : i < n := List.mem_range.1 (List.mem_filter.1 h).1
/-- The items of sums: those that are not zero. -/
def itemsR (r : Int) (S : List (Nat × Int)) : List Ed := (S.filter (fun x => x.2 != zeroV r)).map (fun x => ((0 : Int), (x.1 : Int), x.2))
end Go.Proofs.YtblfingmdipopaaGreat

/- Maps that a call made, keyed by whole numbers, known whole: raw laws. -/
namespace Go.Proofs.YtblfingmdipopaaGreat
set_option linter.unusedSimpArgs false
set_option linter.unusedVariables false
open Go.RowKit
open Go.ChangeMaps (setBlock)
open Go.MapKept
set_option maxHeartbeats 1000000
/-- An entry: its key, its value, when it came. -/
abbrev ent (x : Int × Value × Nat) : MapEntry := ⟨.int .i64 x.1, x.2.1, x.2.2⟩
/-- Block b is a map of just those entries. -/
def MapB (w : World) (b : Nat) (l : List (Int × Value × Nat)) (c : Nat) : Prop := w.heap[b]? = some (.map (l.map ent).toArray c)
def findI (k : Int) : List (Int × Value × Nat) → Nat → Option (Nat × Value)
  | [], _ => none
  | x :: l, i => if k == x.1 then some (i, x.2.1) else findI k l (i + 1)
/-- What stands under a key. -/
def getL (k : Int) (l : List (Int × Value × Nat)) : Option Value := (findI k l 0).map (·.2)
section
variable {P : Program} {w : World} {b c : Nat} {l : List (Int × Value × Nat)} {t k e : TypeId}
theorem MapB.kept {w' : World} {L : List Nat} (h : MapB w b l c) (hk : Kept L w w') (hb : b ∉ L) : MapB w' b l c :=
  (hk.block b (Array.getElem?_eq_some_iff.1 h).1 hb).trans h
theorem MapB.drew (h : MapB w b l c) : MapB w.drew b l c := h
theorem MapB.lt (h : MapB w b l c) : b < w.heap.size := (Array.getElem?_eq_some_iff.1 h).1
/-! The same at the walk's operations. -/
variable {ops : Array Oper} {rest : List Oper} {o : Oper} {a : Act} {Q : Exit → Act → World → Prop}
end
end Go.Proofs.YtblfingmdipopaaGreat

/- Maps of bools and of sums, keyed by whole numbers; gemm.sure. Conditions: none but those of the lemmas. -/
namespace Go.Proofs.YtblfingmdipopaaGreat
set_option linter.unusedSimpArgs false
set_option linter.unusedVariables false
open Go.ChangeShapes Go.WideShapes Go.ChangeAt Go.RowKit
open Go.RowKit (wrap32 wrap64)
set_option maxHeartbeats 8000000
section
variable {w w' : World} {L : List Nat} {b : Nat} {S : List Int} {f : Int → Option Int}
theorem MapB.ne_blk {b c g : Nat} {l : List (Int × Value × Nat)} (h : MapB w b l c) {t : TypeId} {cs : List Value} (hb : Blk w g t cs) : g ≠ b := by
  rintro rfl
  unfold MapB at h; unfold Blk at hb; rw [hb] at h; cases h
theorem MapB.ne_own {b c : Nat} {l : List (Int × Value × Nat)} (h : MapB w b l c) {e : TypeId} {size n base' : Nat} {v : Value} {xs : List Value} (ho : w.ownsRow base' e size v n xs) : v.ownBlock ≠ some b := by
  rcases ho.2 with ⟨rfl, _⟩ | ⟨g, cap, cur, rfl, _, hg, _⟩
  · simp [Value.ownBlock]
  · simp [Value.ownBlock]
    rintro rfl
    unfold MapB at h; rw [hg] at h; cases h
/-- A map that says yes to the numbers of a list. -/
def AskM (w : World) (b : Nat) (S : List Int) : Prop := ∃ l c, MapB w b l c ∧ ∀ k, getL k l = if k ∈ S then some (.bool true) else none
/-- A map of sums. -/
def SumM (w : World) (b : Nat) (f : Int → Option Int) : Prop := ∃ l c, MapB w b l c ∧ ∀ k, getL k l = (f k).map (fun s => wdV (wOf s))
theorem AskM.kept (h : AskM w b S) (k : Kept L w w') (hb : b ∉ L) : AskM w' b S := by
  obtain ⟨l, c, h1, h2⟩ := h
  exact ⟨l, c, h1.kept k hb, h2⟩
theorem SumM.kept (h : SumM w b f) (k : Kept L w w') (hb : b ∉ L) : SumM w' b f := by
  obtain ⟨l, c, h1, h2⟩ := h
  exact ⟨l, c, h1.kept k hb, h2⟩
theorem AskM.lt (h : AskM w b S) : b < w.heap.size := by obtain ⟨l, c, h1, _⟩ := h; exact h1.lt
theorem SumM.lt (h : SumM w b f) : b < w.heap.size := by obtain ⟨l, c, h1, _⟩ := h; exact h1.lt
theorem AskM.ne_blk (h : AskM w b S) {g : Nat} {t : TypeId} {cs : List Value} (hb : Blk w g t cs) : g ≠ b := by obtain ⟨l, c, h1, _⟩ := h; exact h1.ne_blk hb
theorem SumM.ne_blk (h : SumM w b f) {g : Nat} {t : TypeId} {cs : List Value} (hb : Blk w g t cs) : g ≠ b := by obtain ⟨l, c, h1, _⟩ := h; exact h1.ne_blk hb
theorem AskM.ne_own (h : AskM w b S) {e : TypeId} {size n base' : Nat} {v : Value} {xs : List Value} (ho : w.ownsRow base' e size v n xs) : v.ownBlock ≠ some b := by obtain ⟨l, c, h1, _⟩ := h; exact h1.ne_own ho
theorem SumM.ne_own (h : SumM w b f) {e : TypeId} {size n base' : Nat} {v : Value} {xs : List Value} (ho : w.ownsRow base' e size v n xs) : v.ownBlock ≠ some b := by obtain ⟨l, c, h1, _⟩ := h; exact h1.ne_own ho
theorem AskM.ext {S' : List Int} (h : AskM w b S) (e : ∀ k, k ∈ S ↔ k ∈ S') : AskM w b S' := by
  obtain ⟨l, c, h1, h2⟩ := h
  refine ⟨l, c, h1, fun k => ?_⟩
  rw [h2]
  by_cases hk : k ∈ S
  · rw [if_pos hk, if_pos ((e k).1 hk)]
  · rw [if_neg hk, if_neg (fun h => hk ((e k).2 h))]
theorem SumM.ext {f' : Int → Option Int} (h : SumM w b f) (e : ∀ k, f k = f' k) : SumM w b f' := by
  obtain ⟨l, c, h1, h2⟩ := h
  exact ⟨l, c, h1, fun k => by rw [h2, e]⟩
theorem AskM.new (w : World) : AskM (w.alloc (.map #[] 0)) w.heap.size [] := ⟨[], 0, heap_alloc_new w _, fun _ => rfl⟩
theorem SumM.new (w : World) : SumM (w.alloc (.map #[] 0)) w.heap.size (fun _ => none) := ⟨[], 0, heap_alloc_new w _, fun _ => rfl⟩
end
section
variable {ops : Array Oper} {rest : List Oper} {o : Oper} {a : Act} {w : World} {Q : Exit → Act → World → Prop} {b : Nat} {S : List Int} {f : Int → Option Int}
end
/-- A matrix that lies there. -/
structure Mx where
  n : Nat
  m : Nat
  base : Nat
  l : List Ed
  v1 : Value
  v2 : Value
  v3 : Value
def Mx.cells (x : Mx) : List Value := [.int .i64 x.n, .int .i64 x.m, x.v1, x.v2, x.v3]
structure MxOk (w : World) (x : Mx) : Prop where
  ok : MtOkM x.n x.m x.l
  at_ : MtAt w x.base x.v1 x.v2 x.v3 x.n x.l
theorem MxOk.kept0 {w w' : World} {x : Mx} (h : MxOk w x) (k : Kept [] w w') : MxOk w' x := ⟨h.ok, h.at_.kept0 k⟩
end Go.Proofs.YtblfingmdipopaaGreat

/- fretworktop.ones: a matrix of ones. Conditions: at most 64 rows and columns. -/
namespace Go.Proofs.YtblfingmdipopaaGreat
set_option linter.unusedSimpArgs false
set_option linter.unusedVariables false
open Go.ChangeShapes Go.WideShapes Go.ChangeAt Go.RowKit
open Go.RowKit (wrap32 wrap64)
set_option maxHeartbeats 8000000
/-- What rises is canonical. -/
theorem canon_rise {l : List Ed} (h : ∀ e ∈ l, In64 e.2.2) (hr : RisesL l) : canonP l = l := by
  obtain ⟨h1, h2, h3⟩ := canonP_spec h
  refine risesL_ext h1 hr (fun x => ⟨h2 x, fun hx => ?_⟩)
  obtain ⟨y, hy, hk, _⟩ := h3 x hx
  rwa [risesL_one hr (h2 y hy) hx hk] at hy
end Go.Proofs.YtblfingmdipopaaGreat

/- Plain: a matrix times a matrix, times a vector, is the one times what the other and the vector come to. Conditions: values of the ring. -/
namespace Go.Proofs.YtblfingmdipopaaGreat
set_option linter.unusedSimpArgs false
set_option linter.unusedVariables false
open Go.RowKit
set_option maxHeartbeats 2000000
/-- What is not zero of a sum. -/
def nzO (r : Int) (o : Option Int) : Option Int := o.filter (fun s => s != zeroV r)
/-- The products of a row of the one with the rows of the other. -/
def pairsR (r : Int) (LB A : List Ed) : List (Int × Int) := A.flatMap (fun a => (rowL LB a.2.1.toNat).map (fun b => (b.2.1, mulV r a.2.2 b.2.2)))
/-- What those of a column come to. -/
def cellR (r : Int) (T : List (Int × Int)) (c : Int) : Option Int := T.foldl (fun o x => if x.1 = c then sumO r o x.2 else o) none
theorem mem_rowL {l : List Ed} {i : Nat} {e : Ed} : e ∈ rowL l i ↔ e ∈ l ∧ e.1 = (i : Int) := by
  unfold rowL
  simp
/-- What each place of a third matrix comes to. -/
def cellsR (r : Int) (LA LB LM : List Ed) : List Ed := LM.filterMap (fun e => (cellR r (pairsR r LB (rowL LA e.1.toNat)) e.2.1).map (fun s => (e.1, e.2.1, s)))
/-- The items of sums, row by row. -/
theorem items_sums (r : Int) (b : Nat) (V : List Int) (l : List Ed) (is : List Nat) : itemsR r (sumsR r b V l is) = is.filterMap (fun i => (nzO r (rowR r b V (rowL l i))).map (fun s => ((0 : Int), (i : Int), s))) := by
  unfold itemsR sumsR nzO
  rw [List.filter_filterMap, List.map_filterMap]
  congr 1
  funext i
  cases rowR r b V (rowL l i) with
  | none => rfl
  | some s =>
    by_cases h : s = zeroV r <;> simp [h, Option.filter]
theorem dn_vec {r : Int} {N b : Nat} {X : List Ed} {V : List Int} (h : DnOk N X b V) (hx : ∀ e ∈ X, OkV r e.2.2) : OkVec r b V := by
  intro i hi x hv
  rw [h.has i] at hi
  have hi := of_decide_eq_true hi
  obtain ⟨e, he, h2⟩ := List.mem_map.1 hi
  have h3 := h.val e he
  rw [h2, Int.toNat_natCast, hv] at h3
  injection h3 with h3
  rw [h3]
  exact hx e he
end Go.Proofs.YtblfingmdipopaaGreat

/- gemm.Cells: what each place of a third matrix comes to. Conditions: values of the ring; the matrices fit. -/
namespace Go.Proofs.YtblfingmdipopaaGreat
set_option linter.unusedSimpArgs false
set_option linter.unusedVariables false
open Go.ChangeShapes Go.WideShapes Go.ChangeAt Go.RowKit
open Go.RowKit (wrap32 wrap64)
set_option maxHeartbeats 8000000
theorem MapB.keptB {w w' : World} {base : Nat} {T : List TypeId} {b c : Nat} {l : List (Int × Value × Nat)} (h : MapB w b l c) (hk : KeptB base T w w') : MapB w' b l c :=
  (hk.block b h.lt (.inr fun cs t fr hc => by unfold MapB at h; rw [hc] at h; cases h)).trans h
theorem SumM.keptB {w w' : World} {base b : Nat} {T : List TypeId} {f : Int → Option Int} (h : SumM w b f) (hk : KeptB base T w w') : SumM w' b f := by
  obtain ⟨l, c, h1, h2⟩ := h
  exact ⟨l, c, h1.keptB hk, h2⟩
end Go.Proofs.YtblfingmdipopaaGreat
