/- Maps of bools and of sums, keyed by whole numbers; gemm.sure. Conditions: none but those of the lemmas. -/
import Derived.Test.YtblfingmdipopaaGreatK41
import Derived.Test.YtblfingmdipopaaGreatK42
import Derived.Test.YtblfingmdipopaaGreatK25
namespace Go.Proofs.YtblfingmdipopaaGreat
set_option linter.unusedSimpArgs false
set_option linter.unusedVariables false
open Go.ChangeShapes Go.WideShapes Go.ChangeAt Go.RowKit
open Go.RowKit (wrap32 wrap64)
set_option maxHeartbeats 8000000
theorem findI_put_same (k : Int) (v : Value) (c : Nat) : ∀ (l : List (Int × Value × Nat)) (i : Nat), ∃ j, findI k (putL k v c l) i = some (j, v)
  | [], i => ⟨i, by simp [putL, findI]⟩
  | x :: l, i => by
    unfold putL
    by_cases h : (k == x.1) = true
    · rw [if_pos h]; exact ⟨i, by simp only [findI, h, if_true]⟩
    · rw [if_neg h]
      obtain ⟨j, hj⟩ := findI_put_same k v c l (i + 1)
      exact ⟨j, by simp only [findI, h, if_false]; exact hj⟩
theorem findI_snd (k : Int) : ∀ (l : List (Int × Value × Nat)) (i j : Nat), (findI k l i).map (·.2) = (findI k l j).map (·.2)
  | [], _, _ => rfl
  | x :: l, i, j => by
    unfold findI
    by_cases h : (k == x.1) = true
    · simp only [h, if_true, Option.map_some]
    · simp only [h, if_false]; exact findI_snd k l _ _
theorem getL_put_same (k : Int) (v : Value) (c : Nat) (l : List (Int × Value × Nat)) : getL k (putL k v c l) = some v := by
  obtain ⟨j, hj⟩ := findI_put_same k v c l 0
  simp [getL, hj]
theorem getL_cons (k : Int) (x : Int × Value × Nat) (l : List (Int × Value × Nat)) : getL k (x :: l) = if k == x.1 then some x.2.1 else getL k l := by
  unfold getL
  conv => lhs; unfold findI
  by_cases h : (k == x.1) = true
  · simp only [h, if_true, Option.map_some]
  · simp only [h, if_false]; exact findI_snd k l _ _
theorem getL_put_ne {k n : Int} (h : k ≠ n) (v : Value) (c : Nat) : ∀ l : List (Int × Value × Nat), getL k (putL n v c l) = getL k l
  | [] => by
    have hb : (k == n) = false := by simpa using h
    simp [putL, getL_cons, hb]
  | x :: l => by
    unfold putL
    by_cases hx : (n == x.1) = true
    · rw [if_pos hx, getL_cons, getL_cons]
      have : n = x.1 := by simpa using hx
      have hb : (k == x.1) = false := by rw [← this]; simpa using h
      simp [hb]
    · rw [if_neg hx, getL_cons, getL_cons, getL_put_ne h v c l]

section
variable {w w' : World} {L : List Nat} {b : Nat} {S : List Int} {f : Int → Option Int}
theorem MapB.ne_blk {b c g : Nat} {l : List (Int × Value × Nat)} (h : MapB w b l c) {t : TypeId} {cs : List Value} (hb : Blk w g t cs) : g ≠ b := by
  rintro rfl
  unfold MapB at h; unfold Blk at hb; rw [hb] at h; cases h
theorem MapB.ne_own {b c : Nat} {l : List (Int × Value × Nat)} (h : MapB w b l c) {e : TypeId} {size n base' : Nat} {v : Value} {xs : List Value} (ho : w.ownsRow base' e size v n xs) : v.ownBlock ≠ some b := by
  rcases ho.2 with ⟨rfl, _⟩ | ⟨g, cap, cur, rfl, _, hg, _⟩
  · simp [Value.ownBlock]
  · simp [Value.ownBlock]
    rintro rfl
    unfold MapB at h; rw [hg] at h; cases h
/-- A map that says yes to the numbers of a list. -/
def AskM (w : World) (b : Nat) (S : List Int) : Prop := ∃ l c, MapB w b l c ∧ ∀ k, getL k l = if k ∈ S then some (.bool true) else none
/-- A map of sums. -/
def SumM (w : World) (b : Nat) (f : Int → Option Int) : Prop := ∃ l c, MapB w b l c ∧ ∀ k, getL k l = (f k).map (fun s => wdV (wOf s))
theorem AskM.kept (h : AskM w b S) (k : Kept L w w') (hb : b ∉ L) : AskM w' b S := by
  obtain ⟨l, c, h1, h2⟩ := h
  exact ⟨l, c, h1.kept k hb, h2⟩
theorem SumM.kept (h : SumM w b f) (k : Kept L w w') (hb : b ∉ L) : SumM w' b f := by
  obtain ⟨l, c, h1, h2⟩ := h
  exact ⟨l, c, h1.kept k hb, h2⟩
theorem AskM.lt (h : AskM w b S) : b < w.heap.size := by obtain ⟨l, c, h1, _⟩ := h; exact h1.lt
theorem SumM.lt (h : SumM w b f) : b < w.heap.size := by obtain ⟨l, c, h1, _⟩ := h; exact h1.lt
theorem AskM.ne_blk (h : AskM w b S) {g : Nat} {t : TypeId} {cs : List Value} (hb : Blk w g t cs) : g ≠ b := by obtain ⟨l, c, h1, _⟩ := h; exact h1.ne_blk hb
theorem SumM.ne_blk (h : SumM w b f) {g : Nat} {t : TypeId} {cs : List Value} (hb : Blk w g t cs) : g ≠ b := by obtain ⟨l, c, h1, _⟩ := h; exact h1.ne_blk hb
theorem AskM.ne_own (h : AskM w b S) {e : TypeId} {size n base' : Nat} {v : Value} {xs : List Value} (ho : w.ownsRow base' e size v n xs) : v.ownBlock ≠ some b := by obtain ⟨l, c, h1, _⟩ := h; exact h1.ne_own ho
theorem SumM.ne_own (h : SumM w b f) {e : TypeId} {size n base' : Nat} {v : Value} {xs : List Value} (ho : w.ownsRow base' e size v n xs) : v.ownBlock ≠ some b := by obtain ⟨l, c, h1, _⟩ := h; exact h1.ne_own ho
theorem AskM.ext {S' : List Int} (h : AskM w b S) (e : ∀ k, k ∈ S ↔ k ∈ S') : AskM w b S' := by
  obtain ⟨l, c, h1, h2⟩ := h
  refine ⟨l, c, h1, fun k => ?_⟩
  rw [h2]
  by_cases hk : k ∈ S
  · rw [if_pos hk, if_pos ((e k).1 hk)]
  · rw [if_neg hk, if_neg (fun h => hk ((e k).2 h))]
theorem SumM.ext {f' : Int → Option Int} (h : SumM w b f) (e : ∀ k, f k = f' k) : SumM w b f' := by
  obtain ⟨l, c, h1, h2⟩ := h
  exact ⟨l, c, h1, fun k => by rw [h2, e]⟩
theorem AskM.new (w : World) : AskM (w.alloc (.map #[] 0)) w.heap.size [] := ⟨[], 0, heap_alloc_new w _, fun _ => rfl⟩
theorem SumM.new (w : World) : SumM (w.alloc (.map #[] 0)) w.heap.size (fun _ => none) := ⟨[], 0, heap_alloc_new w _, fun _ => rfl⟩
end
theorem zeroBoolV (w : World) : (zeroValue 4).run Tryz.prog w = .ok (.bool false) w := Tryz.zeroValue4 w
section
variable {ops : Array Oper} {rest : List Oper} {o : Oper} {a : Act} {w : World} {Q : Exit → Act → World → Prop} {b : Nat} {S : List Int} {f : Int → Option Int}
theorem ask_yes (hgd : o.guard = none) (m x : Operand) (hop : o.op = Op.lookup 119 m x false) (h : AskM w b S) (hm : a.eval m = .map (some b)) (K : Int) (hx : a.eval x = .int .i64 K)
    (hK : wpList Tryz.prog ops Q rest (a.put o.dst (.bool (decide (K ∈ S)))) w) : wpList Tryz.prog ops Q (o :: rest) a w := by
  obtain ⟨l, c, h1, h2⟩ := h
  refine wpList_lookupB hgd m x _ false hop 3 4 Tryz.underlying119 Tryz.underlying3 (.bool false) (zeroBoolV _) b c l h1 hm K hx ?_
  rw [h2]
  by_cases hk : K ∈ S
  · simpa [hk] using hK
  · simpa [hk] using hK
theorem ask_set (hgd : o.guard = none) (m x y : Operand) (hop : o.op = Op.mapUpdate 119 m x y) (h : AskM w b S) (hm : a.eval m = .map (some b)) (K : Int) (hx : a.eval x = .int .i64 K) (hv : a.eval y = .bool true)
    (hK : ∀ w', AskM w' b (S ++ [K]) → Kept [b] w w' → wpList Tryz.prog ops Q rest (a.put o.dst undef) w') : wpList Tryz.prog ops Q (o :: rest) a w := by
  obtain ⟨l, c, h1, h2⟩ := h
  refine wpList_updateB hgd m x y _ hop 3 4 Tryz.underlying119 Tryz.underlying3 b c l h1 hm K hx (.bool true) hv (fun w' hw hk => hK w' ⟨_, _, hw, fun k => ?_⟩ hk)
  by_cases he : k = K
  · subst he
    rw [getL_put_same, if_pos (by simp)]
  · rw [getL_put_ne he, h2]
    by_cases hk : k ∈ S
    · rw [if_pos hk, if_pos (by simp [hk])]
    · rw [if_neg hk, if_neg (by simp [hk, he])]
theorem sum_get (hgd : o.guard = none) (m x : Operand) (hop : o.op = Op.lookup 120 m x true) (h : SumM w b f) (hm : a.eval m = .map (some b)) (K : Int) (hx : a.eval x = .int .i64 K)
    (hK : wpList Tryz.prog ops Q rest (a.put o.dst (.tuple #[wdV (oW (f K)), .bool (f K).isSome])) w) : wpList Tryz.prog ops Q (o :: rest) a w := by
  obtain ⟨l, c, h1, h2⟩ := h
  refine wpList_lookupB hgd m x _ true hop 3 100 Tryz.underlying120 Tryz.underlying3 (wdV (0, 0)) (Tryz.zeroValue100 _) b c l h1 hm K hx ?_
  rw [h2]
  cases hf : f K with
  | none => rw [hf] at hK; simpa [oW] using hK
  | some s => rw [hf] at hK; simpa [oW] using hK
theorem sum_set (hgd : o.guard = none) (m x y : Operand) (hop : o.op = Op.mapUpdate 120 m x y) (h : SumM w b f) (hm : a.eval m = .map (some b)) (K : Int) (hx : a.eval x = .int .i64 K) (s : Int) (hv : a.eval y = wdV (wOf s))
    (hK : ∀ w', SumM w' b (fun k => if k = K then some s else f k) → Kept [b] w w' → wpList Tryz.prog ops Q rest (a.put o.dst undef) w') : wpList Tryz.prog ops Q (o :: rest) a w := by
  obtain ⟨l, c, h1, h2⟩ := h
  refine wpList_updateB hgd m x y _ hop 3 100 Tryz.underlying120 Tryz.underlying3 b c l h1 hm K hx (wdV (wOf s)) hv (fun w' hw hk => hK w' ⟨_, _, hw, fun k => ?_⟩ hk)
  by_cases he : k = K
  · subst he
    rw [getL_put_same]
    simp
  · rw [getL_put_ne he, h2]
    simp [he]
end
/-- A matrix that lies there. -/
structure Mx where
  n : Nat
  m : Nat
  base : Nat
  l : List Ed
  v1 : Value
  v2 : Value
  v3 : Value
def Mx.cells (x : Mx) : List Value := [.int .i64 x.n, .int .i64 x.m, x.v1, x.v2, x.v3]
structure MxOk (w : World) (x : Mx) : Prop where
  ok : MtOkM x.n x.m x.l
  at_ : MtAt w x.base x.v1 x.v2 x.v3 x.n x.l
theorem MxOk.kept0 {w w' : World} {x : Mx} (h : MxOk w x) (k : Kept [] w w') : MxOk w' x := ⟨h.ok, h.at_.kept0 k⟩
theorem infoRowsI : Info Tryz.prog 31 (.agg #[.int .i64 0, .int .i64 0, .slice none 0 0, .slice none 0 0, .slice none 0 0]) 5 88 := by unfold Info; kernel_rfl
theorem mx_range {w : World} {A : Option Addr} {l : List Mx} (h : Reads w A (l.flatMap Mx.cells)) {k : Nat} (hk : k < l.length) : ∃ b off, A = some ⟨b, off, none⟩ ∧ w.rangeAt b (off + k * 5) (l[k]).cells := by
  obtain ⟨b, off, e, _, hc⟩ := rec_cell (m := 5) (f := Mx.cells) (fun _ _ => rfl) (by decide) h hk
  exact ⟨b, off, e, fun j u hu => by rw [Nat.add_assoc]; exact hc j u hu⟩
theorem mx_one {w : World} {x : Mx} (h : MxOk w x) : ∀ u ∈ x.cells, u.oneCell' = true := by
  obtain ⟨n, m, base, l, v1, v2, v3⟩ := x
  have h2 : MtAt w base v1 v2 v3 n l := h.at_
  clear h
  obtain ⟨b1, c1, A2, c2, A3, c3, rfl, rfl, rfl, _, _⟩ := h2.form
  simp [Mx.cells, Value.oneCell']
set_option maxRecDepth 100000 in
theorem gSure_any (l : List Mx) (A : Option Addr) (c : Nat) (w : World) (hl : l.length ≤ 64) (hok : ∀ x ∈ l, MxOk w x) (hA : Reads w A (l.flatMap Mx.cells)) :
    Calls Tryz.prog 23 #[.slice A l.length c] w fun e w' => ∃ v, e = .returned v ∧ w'.ownsRow w.heap.size 31 5 v l.length (l.flatMap Mx.cells) ∧ Kept [] w w' := by
  have HOK := Lib.hid hok
  have HA := Lib.hid hA
  clear hok hA
  obtain ⟨post, hpost⟩ : ∃ post : Ending → World → Prop, post = (fun e w' => ∃ v, e = .returned v ∧ w'.ownsRow w.heap.size 31 5 v l.length (l.flatMap Mx.cells) ∧ Kept [] w w') := ⟨_, rfl⟩
  rw [← hpost]
  have HPOST := Lib.hid hpost
  clear hpost
  go_enter Tryz.func23, Tryz.ntmps23
  go_wp2_with fail
  go_loopw [3, 8] (fun v i wr => ∃ k : Nat, k ≤ l.length ∧ i = .int .i64 k ∧ Hid (wr.ownsRow w.heap.size 31 5 v k ((l.take k).flatMap Mx.cells)) ∧ Hid (Kept [] w wr)) (fun _ i _ => l.length - (intOf i).toNat)
  case atStart => exact ⟨0, Nat.zero_le _, rfl, Lib.hid (World.ownsRow_nil _ _ _ _), Lib.hid (Kept.refl _ _)⟩
  case round =>
    obtain ⟨k, hk, rfl, HI, K0⟩ := hrel
    obtain ⟨v, hv⟩ : ∃ v, v = u3 := ⟨_, rfl⟩
    subst hv
    obtain ⟨A7, c7, rfl⟩ := own_n HI.out
    by_cases hlt : k < l.length
    · have HTK := Lib.hid (List.take_succ_eq_append_getElem hlt)
      have HMX := Lib.hid ((HOK.out l[k] (List.getElem_mem hlt)).kept0 K0.out)
      obtain ⟨b, off, rfl, hx⟩ := mx_range (HA.out.kept0 K0.out) hlt
      obtain ⟨X, hX⟩ : ∃ X, X = l[k] := ⟨_, rfl⟩
      rw [← hX] at hx HMX HTK
      have HX := Lib.hid hx
      clear hx hX
      have HONE := Lib.hid (mx_one HMX.out)
      have HSZ : X.cells.toArray = #[.int .i64 X.n, .int .i64 X.m, X.v1, X.v2, X.v3] := rfl
      go_upto_region 5 with (first | (refine wpList_load_mid rfl 31 (.tmp 10) rfl b (off + k * 5) rfl X.cells _ HX.out Tryz.underlying31 rfl infoRows ?_) | (refine wpList_storeBlk rfl 31 (.tmp 5) (.tmp 11) rfl wr.heap.size [.int .i64 0, .int .i64 0, .slice none 0 0, .slice none 0 0, .slice none 0 0] X.cells (Blk.new _ _ _) rfl rfl rfl infoRows HONE.out ?_; intro w4 hb4 hk4))
      have hk43 := (Kept.refl [] wr).alloc (.cells #[.int .i64 0, .int .i64 0, .slice none 0 0, .slice none 0 0, .slice none 0 0] 31)
      have hk44 : Kept [] wr w4 := hk43.then hk4 (fun q hq => by simp at hq; subst hq; exact .inr (Nat.le_refl _))
      have HG := Lib.hid hb4
      replace HI := Lib.hid (own_kept0 HI.out hk44)
      replace HMX := Lib.hid (HMX.out.kept0 hk44)
      replace K0 := Lib.hid (K0.out.trans hk44)
      clear hk43 hk44 hk4 hb4 HX
      generalize wr.heap.size = g5 at HG ⊢
      go_wp2_with (first | (refine wpList_loadBlk rfl 31 (.tmp 5) rfl g5 X.cells _ HG.out rfl Tryz.underlying31 rfl infoRows ?_))
      refine (right_trueM X.n X.m X.base X.l X.v1 X.v2 X.v3 _ HMX.out.ok HMX.out.at_).mono ?_
      rintro _ w6 ⟨rfl, hk6⟩
      replace HI := Lib.hid (own_kept0 HI.out hk6)
      replace HG := Lib.hid (HG.out.kept hk6 (by simp))
      replace K0 := Lib.hid (K0.out.trans hk6)
      clear hk6 HMX
      have hsz := K0.out.size
      go_wp2_with (first | (refine wpList_loadBlk rfl 31 (.tmp 5) rfl g5 X.cells _ HG.out rfl Tryz.underlying31 rfl infoRows ?_) | (at_builtin; refine wpList_app _ rfl (.tmp 19) (.tmp 21) _ rfl 31 (.agg #[.int .i64 0, .int .i64 0, .slice none 0 0, .slice none 0 0, .slice none 0 0]) 5 88 Tryz.underlying80 infoRowsI rfl (by decide) w.heap.size (.slice A7 k c7) k _ rfl (HI.out.alloc _) (some ⟨_, 0, none⟩) 1 1 X.cells rfl rfl (Reads.of_blk (Blk.new _ _ _) (fun _ _ h => h)) (HONE.out) (by omega) (by unfold maxLen; omega) (by simp; omega) ?_; intro va wa howna hka hba; have HOa := Lib.hid howna; have Fa := Lib.hid (((KeptB.refl w.heap.size [31] w6).alloc _).app hka (HI.out.alloc _) (by decide)); clear howna hka hba))
      go_roundw
      case rel =>
        refine ⟨k + 1, by omega, by go_num, Lib.hid ?_, Lib.hid (K0.out.thenB Fa.out (Nat.le_refl _))⟩
        have := HOa.out
        rw [HTK.out, List.flatMap_append]
        simpa using this
      case measure => simp [intOf]; omega
    · obtain rfl : k = l.length := by omega
      rw [List.take_length] at HI
      go_wp2_with fail
      show post (.returned (.slice A7 l.length c7)) _
      rw [HPOST.out]
      exact ⟨_, rfl, HI.out, K0.out⟩
end Go.Proofs.YtblfingmdipopaaGreat

/- fretworktop.ones: a matrix of ones. Conditions: at most 64 rows and columns. -/
namespace Go.Proofs.YtblfingmdipopaaGreat
set_option linter.unusedSimpArgs false
set_option linter.unusedVariables false
open Go.ChangeShapes Go.WideShapes Go.ChangeAt Go.RowKit
open Go.RowKit (wrap32 wrap64)
set_option maxHeartbeats 8000000

/-- The ones of a row, and of all rows. -/
def rowO (i m : Nat) : List Ed := (List.range m).map (fun (k : Nat) => ((i : Int), (k : Int), 1))
def onesL (n m : Nat) : List Ed := (List.range n).flatMap (fun i => rowO i m)
theorem rowO_succ (i m : Nat) : rowO i (m + 1) = rowO i m ++ [((i : Int), (m : Int), 1)] := by simp [rowO, List.range_succ]
theorem onesL_succ (n m : Nat) : onesL (n + 1) m = onesL n m ++ rowO n m := by simp [onesL, List.range_succ]
theorem rowO_len (i m : Nat) : (rowO i m).length = m := by simp [rowO]
theorem onesL_len (n m : Nat) : (onesL n m).length = n * m := by
  induction n with
  | zero => simp [onesL]
  | succ n ih => rw [onesL_succ, List.length_append, ih, rowO_len, Nat.add_mul, Nat.one_mul]
theorem mem_onesL {n m : Nat} {e : Ed} : e ∈ onesL n m ↔ ∃ i k : Nat, i < n ∧ k < m ∧ e = ((i : Int), (k : Int), 1) := by
  simp only [onesL, rowO, List.mem_flatMap, List.mem_range, List.mem_map]
  constructor
  · rintro ⟨i, hi, k, hk, rfl⟩
    exact ⟨i, k, hi, hk, rfl⟩
  · rintro ⟨i, k, hi, hk, rfl⟩
    exact ⟨i, hi, k, hk, rfl⟩
theorem onesL_in (n m : Nat) : InM n m (onesL n m) := fun e he => by
  obtain ⟨i, k, hi, hk, rfl⟩ := mem_onesL.1 he
  dsimp only
  omega
theorem onesL_64 (n m : Nat) : ∀ e ∈ onesL n m, In64 e.2.2 := fun e he => by
  obtain ⟨i, k, hi, hk, rfl⟩ := mem_onesL.1 he
  unfold In64
  dsimp only
  omega
theorem rowO_rises (i m : Nat) : RisesL (rowO i m) := by
  unfold RisesL rowO
  rw [List.pairwise_map]
  exact List.Pairwise.imp (fun {a b} h => by simp [keyLt]; exact h) List.pairwise_lt_range
theorem onesL_rises (n m : Nat) : RisesL (onesL n m) := by
  induction n with
  | zero => simp [onesL, RisesL]
  | succ n ih =>
    rw [onesL_succ]
    unfold RisesL
    rw [List.pairwise_append]
    refine ⟨ih, rowO_rises n m, fun a ha b hb => ?_⟩
    obtain ⟨i, k, hi, hk, rfl⟩ := mem_onesL.1 ha
    simp only [rowO, List.mem_map, List.mem_range] at hb
    obtain ⟨q, _, rfl⟩ := hb
    simp [keyLt]
    omega
/-- What rises is canonical. -/
theorem canon_rise {l : List Ed} (h : ∀ e ∈ l, In64 e.2.2) (hr : RisesL l) : canonP l = l := by
  obtain ⟨h1, h2, h3⟩ := canonP_spec h
  refine risesL_ext h1 hr (fun x => ⟨h2 x, fun hx => ?_⟩)
  obtain ⟨y, hy, hk, _⟩ := h3 x hx
  rwa [risesL_one hr (h2 y hy) hx hk] at hy

set_option maxRecDepth 100000 in
theorem ones_any (n m : Nat) (hn : n ≤ 64) (hm : m ≤ 64) (w : World) :
    Calls Tryz.prog 9 #[.int .i64 n, .int .i64 m] w (MtPost w n m (onesL n m)) := by
  have HLEN := Lib.hid (fun i hi => by
    rw [onesL_len]
    have := Nat.mul_le_mul (show i ≤ 64 by omega) hm
    omega : ∀ i, i ≤ n → (onesL i m).length ≤ 4096)
  obtain ⟨post, hpost⟩ : ∃ post : Ending → World → Prop, post = MtPost w n m (onesL n m) := ⟨_, rfl⟩
  rw [← hpost]
  have HPOST := Lib.hid hpost
  clear hpost
  have HZ := Lib.hid (Blk.new w 31 [.int .i64 0, .int .i64 0, .slice none 0 0, .slice none 0 0, .slice none 0 0])
  have K0 := Lib.hid ((Kept.refl [] w).alloc (.cells #[.int .i64 0, .int .i64 0, .slice none 0 0, .slice none 0 0, .slice none 0 0] 31))
  have HGZ := Lib.hid (show w.heap.size ≤ w.heap.size from Nat.le_refl _)
  go_enter Tryz.func9, Tryz.ntmps9
  go_upto_region 1 with (fail)
  generalize w.alloc (.cells #[.int .i64 0, .int .i64 0, .slice none 0 0, .slice none 0 0, .slice none 0 0] 31) = w1 at *
  generalize hgq : w.heap.size = gz at HZ ⊢
  rw [hgq] at HGZ
  have HGE := Lib.hid (show w.heap.size ≤ gz by omega)
  clear hgq HGZ
  go_wp2_with fail
  go_loopw [5, 6] (fun v x wr => ∃ i : Nat, i ≤ n ∧ x = .int .i64 i ∧ Hid (wr.ownsRow w.heap.size 84 3 v (onesL i m).length ((onesL i m).flatMap edV)) ∧ Hid (Blk wr gz 31 [.int .i64 0, .int .i64 0, .slice none 0 0, .slice none 0 0, .slice none 0 0]) ∧ Hid (Kept [] w wr)) (fun _ x _ => n - (intOf x).toNat)
  case atStart => exact ⟨0, Nat.zero_le _, rfl, Lib.hid (World.ownsRow_nil _ _ _ _), HZ, K0⟩
  case round =>
    clear HZ K0
    obtain ⟨i, hi, rfl, HO, HZ, K0⟩ := hrel
    obtain ⟨v, hv⟩ : ∃ v, v = u5 := ⟨_, rfl⟩
    subst hv
    by_cases hlt : i < n
    · have hil := HLEN.out i hi
      have HSU := Lib.hid (onesL_succ i m)
      obtain ⟨M, hM⟩ : ∃ M, M = onesL i m := ⟨_, rfl⟩
      rw [← hM] at HO hil HSU
      clear hM
      go_wp2_with fail
      go_loopw [5, 7] (fun v x wr => ∃ k : Nat, k ≤ m ∧ x = .int .i64 k ∧ Hid (wr.ownsRow w.heap.size 84 3 v (M.length + k) ((M ++ rowO i k).flatMap edV)) ∧ Hid (Blk wr gz 31 [.int .i64 0, .int .i64 0, .slice none 0 0, .slice none 0 0, .slice none 0 0]) ∧ Hid (Kept [] w wr)) (fun _ x _ => m - (intOf x).toNat)
      case atStart => exact ⟨0, Nat.zero_le _, rfl, Lib.hid (by have := HO.out; simpa [rowO] using this), HZ, K0⟩
      case round =>
        clear HZ K0 HO
        obtain ⟨k, hk, rfl, HO, HZ, K0⟩ := hrel
        obtain ⟨v, hv⟩ : ∃ v, v = u5 := ⟨_, rfl⟩
        subst hv
        obtain ⟨A5, c5, rfl⟩ := own_n HO.out
        by_cases hkl : k < m
        · have hsz := K0.out.size
          go_wp2_with (first | (at_builtin; refine wpList_app _ rfl (.tmp 20) (.tmp 24) _ rfl 84 (.agg #[.int .i64 0, .int .i64 0, .int .i64 0]) 3 24 Tryz.underlying24 infoTrI rfl (by decide) w.heap.size (.slice A5 (M.length + k) c5) (M.length + k) _ rfl (HO.out.alloc _) (some ⟨_, 0, none⟩) 1 1 (edV ((i : Int), (k : Int), 1)) rfl rfl (Reads.of_blk (Blk.new _ _ _) (fun _ _ h => h)) (by simp [edV, Value.oneCell']) (by omega) (by unfold maxLen; omega) (by simp; omega) ?_; intro va wa howna hka hba; have HOa := Lib.hid howna; have Fa := Lib.hid (((KeptB.refl w.heap.size [84] wr).alloc _).app hka (HO.out.alloc _) (by decide)); clear howna hka hba))
          go_roundw
          case rel =>
            refine ⟨k + 1, by omega, by go_num, Lib.hid ?_, Lib.hid (HZ.out.keptB Fa.out (by decide)), Lib.hid (K0.out.thenB Fa.out (Nat.le_refl _))⟩
            have := HOa.out
            rw [rowO_succ, ← List.append_assoc, List.flatMap_append (xs := M ++ rowO i k), ← Nat.add_assoc]
            simpa [edV] using this
          case measure => simp [intOf]; omega
        · obtain rfl : k = m := by omega
          rw [← HSU.out] at HO
          have HLN := Lib.hid (show (onesL (i + 1) k).length = M.length + k by rw [HSU.out, List.length_append, rowO_len])
          go_wp2_with fail
          go_roundw
          case rel => exact ⟨i + 1, by omega, by go_num, Lib.hid (by rw [HLN.out]; exact HO.out), HZ, K0⟩
          case measure => simp [intOf]; omega
    · obtain rfl : i = n := by omega
      have HLL := Lib.hid (show (onesL i m).length ≤ 65536 by have := HLEN.out i (Nat.le_refl _); omega)
      have HCR := Lib.hid (canon_rise (onesL_64 i m) (onesL_rises i m))
      have HW := Lib.hid (onesL_64 i m)
      have HIN := Lib.hid (onesL_in i m)
      obtain ⟨C, hC⟩ : ∃ C, C = onesL i m := ⟨_, rfl⟩
      rw [← hC] at HO HLL HCR HW HIN HPOST
      clear hC HLEN
      obtain ⟨A5, c5, rfl⟩ := own_n HO.out
      go_wp2_with fail
      have HRO := Lib.hid (refOf7_any i m C A5 c5 wr (by omega) (by omega) HLL.out (Reads.of_own HO.out) HW.out HIN.out)
      rw [HCR.out] at HRO
      refine HRO.out.mono ?_
      rintro _ w3 ⟨u, rfl, v1, v2, v3, hq, hm3, hk3⟩
      injection hq with hq
      subst hq
      replace HZ := Lib.hid (HZ.out.kept hk3 (by simp))
      have HM := Lib.hid (hm3.le K0.out.size)
      replace K0 := Lib.hid (K0.out.trans hk3)
      clear hm3 hk3 HO HRO
      obtain ⟨b1, c1, B2, d2, B3, d3, rfl, rfl, rfl, _, _⟩ := HM.out.form
      go_wp2_with (first | (refine wpList_storeBlk rfl 31 (.tmp 8) (.tmp 31) rfl w3.heap.size [.int .i64 0, .int .i64 0, .slice none 0 0, .slice none 0 0, .slice none 0 0] [.int .i64 i, .int .i64 m, .slice (some ⟨b1, 0, none⟩) (i + 1) c1, .slice B2 C.length d2, .slice B3 C.length d3] (Blk.new _ _ _) rfl rfl rfl infoRows (by simp [Value.oneCell']) ?_; intro w4 hb4 hk4) | (refine wpList_loadBlk rfl 31 (.tmp 8) rfl w3.heap.size [.int .i64 i, .int .i64 m, .slice (some ⟨b1, 0, none⟩) (i + 1) c1, .slice B2 C.length d2, .slice B3 C.length d3] _ hb4 rfl Tryz.underlying31 rfl infoRows ?_) | (refine wpList_storeBlk rfl 31 (.tmp 4) (.tmp 33) rfl gz _ [.int .i64 i, .int .i64 m, .slice (some ⟨b1, 0, none⟩) (i + 1) c1, .slice B2 C.length d2, .slice B3 C.length d3] (((HZ.out.alloc _).kept hk4 (by simp; have := HZ.out.lt; omega))) rfl rfl rfl infoRows (by simp [Value.oneCell']) ?_; intro w8 hb8 hk8))
      have e0 := hb8.cell 0
      have e1 := hb8.cell 1
      have e2 := hb8.cell 2
      have e3 := hb8.cell 3
      have e4 := hb8.cell 4
      simp only [List.getElem?_cons_zero, List.getElem?_cons_succ] at e0 e1 e2 e3 e4
      refine bodyPost_ret (v := .agg #[.int .i64 i, .int .i64 m, .slice (some ⟨b1, 0, none⟩) (i + 1) c1, .slice B2 C.length d2, .slice B3 C.length d3]) (by simp [results, Tryz.results9, go_sem, e0, e1, e2, e3, e4]) rfl ?_
      rw [HPOST.out]
      have k4 : Kept [] w3 w4 := ((Kept.refl [] w3).alloc _).then hk4 (fun q hq => by simp at hq; subst hq; exact .inr (Nat.le_refl _))
      have f8 : KeptB w.heap.size [31] w4 w8 := (KeptB.refl _ _ w4).step (L := [gz]) hk8 (fun u hu => by simp at hu; subst hu; exact ⟨HGE.out, _, _, _, HZ.out.kept k4 (by simp), by simp⟩)
      exact ⟨_, _, _, rfl, (HM.out.kept0 k4).keptB f8 (by decide) (by decide), (K0.out.trans k4).thenB f8 (Nat.le_refl _)⟩
end Go.Proofs.YtblfingmdipopaaGreat
