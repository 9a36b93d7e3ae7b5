/- More plain words: an append inside a region whose order is open. -/
import Derived.Test.YtblfingmdipopaaGreatM01
import Derived.Test.YtblfingmdipopaaGreatM10
import Derived.Deep.CutBlock
import Derived.Test.YtblfingmdipopaaGreatM13
namespace Go.Proofs.YtblfingmdipopaaGreat
open Go.RowKit
section
variable {P : Program} {ops : Array Oper} {o : Oper} {a : Act} {Q : Exit → Act → World → Prop} {K : Act → World → Prop} (w : World)
/-- 'append' to a row of the call's own, of whatever a slice value reads as. -/
theorem wp_app (s x : Operand) (t : TypeId) (ho : o.op = .call { callee := .builtin .append, args := #[s, x], argTypes := #[t, t] })
    (e : TypeId) (z : Value) (size bytes : Nat) (ht : P.underlying t = some (.slice e)) (hinfo : Info P e z size bytes) (hzs : z.cells.size = size) (hsz : 0 < size)
    (base : Nat) (v : Value) (n : Nat) (xs : List Value) (hs : a.eval s = v) (hown : w.ownsRow base e size v n xs)
    (A : Option Addr) (m c : Nat) (news : List Value) (hx : a.eval x = .slice A m c) (hl : news.length = m * size) (hr : Reads w A news) (h1 : ∀ u ∈ news, u.oneCell' = true)
    (hbytes : (n + m) * bytes ≤ 140737488355328) (h63 : n + m ≤ maxLen) (hbase : base ≤ w.heap.size)
    (h : ∀ v' w', w'.ownsRow base e size v' (n + m) (xs ++ news) → Kept v.ownBlock.toList w w' → (v'.ownBlock = v.ownBlock ∨ v'.ownBlock = some w.heap.size) → K (a.put o.dst v') w') :
    o.wp P a w K Q := by
  obtain ⟨i, hi, hz, hsize, hby⟩ := info_parts hinfo
  have main : ∃ v' w', (Builtin.append_ #[t, t] o.type #[v, .slice A m c]).run P w = .ok v' w' ∧ w'.ownsRow base e size v' (n + m) (xs ++ news) ∧ w.grownBy w' v.ownBlock ∧
      (v'.ownBlock = v.ownBlock ∨ v'.ownBlock = some w.heap.size) := by
    by_cases hm : news = []
    · subst hm
      have hm0 : m = 0 := by
        rcases Nat.eq_zero_or_pos m with h0 | h0
        · exact h0
        · have := Nat.mul_pos h0 hsz
          simp at hl
          omega
      subst hm0
      rcases hown.2 with ⟨rfl, rfl⟩ | ⟨g, cap, cur, rfl, _, hg, hnc, _⟩
      · refine ⟨.slice none 0 0, w, ?_, by simpa using hown, World.grownBy.refl w _, .inl rfl⟩
        cases A <;> simp [Builtin.append_, run_underlying ht, sizeOf, typeInfo, hi, Builtin.lenOf, Builtin.firstCells, loadCells, loadCellsFrom]
      · refine ⟨_, w, ?_, by simpa using hown, World.grownBy.refl w _, .inl rfl⟩
        cases A <;> simp [Builtin.append_, run_underlying ht, sizeOf, typeInfo, hi, Builtin.lenOf, Builtin.firstCells, hnc, storeCells, loadCells, loadCellsFrom]
    · obtain ⟨b, off, rfl, hb, hc⟩ := hr hm
      obtain ⟨v', w', hrun, h2, h3, _, h5⟩ := run_append_own_at (P := P) w base t o.type e i z size bytes ht hi hz hsize hby hzs hsz v n xs hown ⟨b, off, none⟩ m c news hl
        (fun j u hu => by rw [Addr.add_lit]; exact hc j u hu) h1 h63 hbytes hbase
      exact ⟨v', w', hrun, h2, h3, h5⟩
  obtain ⟨v', w', hrun, h2, h3, h4⟩ := main
  unfold Oper.wp execOp
  simp only [ho, resolve, invoke, builtin, Sem.run_bind, Sem.run_pure, Result.andThen_ok, List.map_toArray, List.map_cons, List.map_nil, hs, hx, hrun]
  refine h v' w' h2 ((Kept.refl _ _).grown h3 (fun k hk => .inl ?_)) h4
  rw [hk]
  simp
/-- The same, in a region whose order is open: 'append' to a row of the call's own, of whatever a slice value reads as. -/
theorem step_app {E : Prop} (hgd : o.guard = none) (s x : Operand) (t : TypeId) (ho : o.op = .call { callee := .builtin .append, args := #[s, x], argTypes := #[t, t] })
    (e : TypeId) (z : Value) (size bytes : Nat) (ht : P.underlying t = some (.slice e)) (hinfo : Info P e z size bytes) (hzs : z.cells.size = size) (hsz : 0 < size)
    (base : Nat) (v : Value) (n : Nat) (xs : List Value) (hs : a.eval s = v) (hown : w.ownsRow base e size v n xs)
    (A : Option Addr) (m c : Nat) (news : List Value) (hx : a.eval x = .slice A m c) (hl : news.length = m * size) (hr : Reads w A news) (h1 : ∀ u ∈ news, u.oneCell' = true)
    (hbytes : (n + m) * bytes ≤ 140737488355328) (h63 : n + m ≤ maxLen) (hbase : base ≤ w.heap.size)
    (h : ∀ v' w', w'.ownsRow base e size v' (n + m) (xs ++ news) → Kept v.ownBlock.toList w w' → (v'.ownBlock = v.ownBlock ∨ v'.ownBlock = some w.heap.size) → K (a.put o.dst v') w') :
    if Region.wanted o (yielded ops a.tmps) = true then Oper.wp P o a w K Q else E := by
  rw [if_pos (by simp [Region.wanted, hgd])]
  exact wp_app w s x t ho e z size bytes ht hinfo hzs hsz base v n xs hs hown A m c news hx hl hr h1 hbytes h63 hbase h
end
end Go.Proofs.YtblfingmdipopaaGreat

/- What is wrong with a graph. -/
namespace Go.Proofs.YtblfingmdipopaaGreat
set_option linter.unusedSimpArgs false
set_option linter.unusedVariables false
open Go.ChangeShapes Go.WideShapes Go.ChangeAt Go.RowKit
open Go.RowKit (wrap32 wrap64)
set_option maxHeartbeats 4000000
def outV (n v : Int) : Bool := decide (v < 0) || decide (n ≤ v)
def outE (n : Int) (e : Ed) : Bool := outV n e.1 || outV n e.2.1
def badW (e : Ed) : Bool := decide (e.2.2 < 0) || decide (2147483647 < e.2.2)
def rightP (n : Int) (l : List Ed) : Int := if n < 0 then 3 else if 4096 < n then 5 else if 65536 < l.length then 5 else if l.any (outE n) = true then 3 else if l.any badW = true then 7 else 0
abbrev grV (n : Int) (A : Option Addr) (k c : Nat) : List Value := [.int .i64 n, .slice A k c]
theorem outV_any (n v : Int) (g : Nat) (A : Option Addr) (k c : Nat) (w : World) (hb : Blk w g 56 (grV n A k c)) :
    Calls Tryz.prog 144 #[.int .i64 v, .pointer (some ⟨g, 0, none⟩)] w fun e w' => e = .returned (.bool (outV n v)) ∧ w' = w := by
  have y0 := hb.cell 0
  simp only [List.getElem?_cons_zero] at y0
  clear hb
  unfold outV
  by_cases h1 : v < 0
  · go_enter Tryz.func144, Tryz.ntmps144
    go_wp2
    go_ret
    exact ⟨ret_bool (by simp [h1]), rfl⟩
  · go_enter Tryz.func144, Tryz.ntmps144
    go_wp2
    go_ret
    exact ⟨ret_bool (by simp; omega), rfl⟩
theorem badW_any (e : Ed) (w : World) : Calls Tryz.prog 147 #[.agg #[.int .i64 e.1, .int .i64 e.2.1, .int .i64 e.2.2]] w fun x w' => x = .returned (.bool (badW e)) ∧ Kept [] w w' := by
  obtain ⟨a, b, c⟩ := e
  unfold badW
  dsimp only
  by_cases h1 : c < 0
  · go_enter Tryz.func147, Tryz.ntmps147
    go_wp2
    go_ret
    exact ⟨ret_bool (by simp [h1]), (Kept.refl _ _).alloc _⟩
  · go_enter Tryz.func147, Tryz.ntmps147
    go_wp2
    go_ret
    exact ⟨ret_bool (by simp; omega), (Kept.refl _ _).alloc _⟩
/-- What the closure of Right finds: the graph, and the variable that holds the test of one end. -/
structure OutAt (w : World) (g1 g3 : Nat) (n : Int) (A : Option Addr) (k c : Nat) : Prop where
  b1 : Blk w g1 56 (grV n A k c)
  b3 : Blk w g3 172 [.func (.func 144) #[] #[.pointer (some ⟨g1, 0, none⟩)]]
theorem OutAt.kept0 {w w' : World} {g1 g3 : Nat} {n : Int} {A : Option Addr} {k c : Nat} (h : OutAt w g1 g3 n A k c) (hk : Kept [] w w') : OutAt w' g1 g3 n A k c := ⟨h.b1.kept hk (by simp), h.b3.kept hk (by simp)⟩
set_option maxRecDepth 100000 in
theorem outE_any (e : Ed) (g1 g3 : Nat) (n : Int) (A : Option Addr) (k c : Nat) (w : World) (h : OutAt w g1 g3 n A k c) :
    Calls Tryz.prog 146 #[.agg #[.int .i64 e.1, .int .i64 e.2.1, .int .i64 e.2.2], .pointer (some ⟨g3, 0, none⟩)] w fun x w' => x = .returned (.bool (outE n e)) ∧ Kept [] w w' := by
  obtain ⟨a, b, d⟩ := e
  unfold outE
  dsimp only
  have H := Lib.hid (h.kept0 ((Kept.refl [] w).alloc (.cells #[.int .i64 a, .int .i64 b, .int .i64 d] 107)))
  have K0 := Lib.hid ((Kept.refl [] w).alloc (.cells #[.int .i64 a, .int .i64 b, .int .i64 d] 107))
  have HX := Lib.hid (Blk.new w 107 [.int .i64 a, .int .i64 b, .int .i64 d])
  clear h
  by_cases h1 : outV n a = true
  · rw [h1]
    have HB := Lib.hid h1
    clear h1
    go_enter Tryz.func146, Tryz.ntmps146
    go_upto_region 1 with (fail)
    generalize w.alloc (.cells #[.int .i64 a, .int .i64 b, .int .i64 d] 107) = w2 at *
    generalize w.heap.size = gx at HX ⊢
    have f3 := H.out.b3.cell 0
    have x0 := HX.out.cell 0
    have x1 := HX.out.cell 1
    simp only [edV, List.getElem?_cons_zero, List.getElem?_cons_succ] at f3 x0 x1
    go_wp2_with fail
    refine (outV_any n a g1 A k c _ H.out.b1).mono ?_
    rintro _ w3 ⟨rfl, rfl⟩
    rw [HB.out]
    go_wp2_with fail
    go_ret
    exact ⟨ret_bool (by simp), K0.out⟩
  · replace h1 : outV n a = false := by simpa using h1
    rw [h1]
    have HB := Lib.hid h1
    clear h1
    go_enter Tryz.func146, Tryz.ntmps146
    go_upto_region 1 with (fail)
    generalize w.alloc (.cells #[.int .i64 a, .int .i64 b, .int .i64 d] 107) = w2 at *
    generalize w.heap.size = gx at HX ⊢
    have f3 := H.out.b3.cell 0
    have x0 := HX.out.cell 0
    have x1 := HX.out.cell 1
    simp only [edV, List.getElem?_cons_zero, List.getElem?_cons_succ] at f3 x0 x1
    go_wp2_with fail
    refine (outV_any n a g1 A k c _ H.out.b1).mono ?_
    rintro _ w3 ⟨rfl, rfl⟩
    rw [HB.out]
    go_wp2_with fail
    refine (outV_any n b g1 A k c _ H.out.b1).mono ?_
    rintro _ w4 ⟨rfl, rfl⟩
    go_wp2_with fail
    go_ret
    exact ⟨ret_bool (by simp), K0.out⟩
theorem indexEW (l : List Ed) (A : Option Addr) (c : Nat) (w : World) (hl : l.length ≤ maxLen) (hr : Reads w A (l.flatMap edV)) :
    Calls Tryz.prog 175 #[.slice A l.length c, .func (.func 147) #[] #[]] w fun e w' => ∃ r : Int, e = .returned (.int .i64 r) ∧ decide (0 ≤ r) = l.any badW ∧ Kept [] w w' := by
  unfold maxLen at hl
  have HR := Lib.hid hr
  clear hr
  go_enter Tryz.func175, Tryz.ntmps175
  go_wp2_with fail
  go_loopw [8] (fun i wr => ∃ k : Nat, k ≤ l.length ∧ i = .int .i64 k ∧ Hid (∀ j (hj : j < l.length), j < k → badW l[j] = false) ∧ Hid (Kept [] w wr)) (fun i _ => l.length - (intOf i).toNat)
  case atStart => exact ⟨0, Nat.zero_le _, rfl, Lib.hid (fun j _ h => absurd h (Nat.not_lt_zero _)), Lib.hid (Kept.refl _ _)⟩
  case round =>
    obtain ⟨k, hk, rfl, HN, KW⟩ := hrel
    by_cases hlt : k < l.length
    · obtain ⟨b, off, rfl, hbl, h0, h1, h2⟩ := edge_at (HR.out.kept0 KW.out) hlt
      by_cases hb : badW l[k] = true
      · have HB := Lib.hid hb
        clear hb
        go_wp2_with fail
        refine (badW_any l[k] _).mono ?_
        rintro e w1 ⟨rfl, hk1⟩
        rw [HB.out]
        have KW := Lib.hid (KW.out.trans hk1)
        clear hk1 h0 h1 h2
        go_wp2_with fail
        go_ret
        exact ⟨_, rfl, by rw [any_true hlt HB.out]; simp, KW.out⟩
      · have HB := Lib.hid (Bool.eq_false_iff.2 hb)
        clear hb
        go_wp2_with fail
        refine (badW_any l[k] _).mono ?_
        rintro e w1 ⟨rfl, hk1⟩
        rw [HB.out]
        have KW := Lib.hid (KW.out.trans hk1)
        clear hk1 h0 h1 h2
        go_wp2_with fail
        go_roundw
        case rel =>
          refine ⟨k + 1, by omega, by go_num, Lib.hid (fun j hj hjk => ?_), KW⟩
          rcases Nat.lt_succ_iff_lt_or_eq.1 hjk with h | rfl
          · exact HN.out j hj h
          · exact HB.out
        case measure => simp [intOf]; omega
    · go_wp2_with fail
      go_ret
      exact ⟨_, rfl, by rw [any_false (fun j hj => HN.out j hj (by omega))]; simp, KW.out⟩
theorem containsEW (l : List Ed) (A : Option Addr) (c : Nat) (w : World) (hl : l.length ≤ maxLen) (hr : Reads w A (l.flatMap edV)) :
    Calls Tryz.prog 145 #[.slice A l.length c, .func (.func 147) #[] #[]] w fun e w' => e = .returned (.bool (l.any badW)) ∧ Kept [] w w' := by
  have HR := Lib.hid hr
  clear hr
  go_enter Tryz.func145, Tryz.ntmps145
  go_wp2_with fail
  refine (indexEW l A c _ hl HR.out).mono ?_
  rintro e w1 ⟨r, rfl, hr, hk⟩
  have HE := Lib.hid hr
  clear hr
  go_wp2_with fail
  go_ret
  exact ⟨ret_bool HE.out, hk⟩
theorem indexEO (g1 g3 : Nat) (n : Int) (A0 : Option Addr) (k0 c0 : Nat) (l : List Ed) (A : Option Addr) (c : Nat) (w : World) (hl : l.length ≤ maxLen) (hr : Reads w A (l.flatMap edV)) (ho : OutAt w g1 g3 n A0 k0 c0) :
    Calls Tryz.prog 175 #[.slice A l.length c, .func (.func 146) #[] #[.pointer (some ⟨g3, 0, none⟩)]] w fun e w' => ∃ r : Int, e = .returned (.int .i64 r) ∧ decide (0 ≤ r) = l.any (outE n) ∧ Kept [] w w' := by
  unfold maxLen at hl
  have HR := Lib.hid hr
  clear hr
  have HO := Lib.hid ho
  clear ho
  go_enter Tryz.func175, Tryz.ntmps175
  go_wp2_with fail
  go_loopw [8] (fun i wr => ∃ k : Nat, k ≤ l.length ∧ i = .int .i64 k ∧ Hid (∀ j (hj : j < l.length), j < k → (outE n) l[j] = false) ∧ Hid (Kept [] w wr)) (fun i _ => l.length - (intOf i).toNat)
  case atStart => exact ⟨0, Nat.zero_le _, rfl, Lib.hid (fun j _ h => absurd h (Nat.not_lt_zero _)), Lib.hid (Kept.refl _ _)⟩
  case round =>
    obtain ⟨k, hk, rfl, HN, KW⟩ := hrel
    by_cases hlt : k < l.length
    · obtain ⟨b, off, rfl, hbl, h0, h1, h2⟩ := edge_at (HR.out.kept0 KW.out) hlt
      by_cases hb : (outE n) l[k] = true
      · have HB := Lib.hid hb
        clear hb
        go_wp2_with fail
        refine (outE_any l[k] g1 g3 n A0 k0 c0 _ (HO.out.kept0 KW.out)).mono ?_
        rintro e w1 ⟨rfl, hk1⟩
        rw [HB.out]
        have KW := Lib.hid (KW.out.trans hk1)
        clear hk1 h0 h1 h2
        go_wp2_with fail
        go_ret
        exact ⟨_, rfl, by rw [any_true hlt HB.out]; simp, KW.out⟩
      · have HB := Lib.hid (Bool.eq_false_iff.2 hb)
        clear hb
        go_wp2_with fail
        refine (outE_any l[k] g1 g3 n A0 k0 c0 _ (HO.out.kept0 KW.out)).mono ?_
        rintro e w1 ⟨rfl, hk1⟩
        rw [HB.out]
        have KW := Lib.hid (KW.out.trans hk1)
        clear hk1 h0 h1 h2
        go_wp2_with fail
        go_roundw
        case rel =>
          refine ⟨k + 1, by omega, by go_num, Lib.hid (fun j hj hjk => ?_), KW⟩
          rcases Nat.lt_succ_iff_lt_or_eq.1 hjk with h | rfl
          · exact HN.out j hj h
          · exact HB.out
        case measure => simp [intOf]; omega
    · go_wp2_with fail
      go_ret
      exact ⟨_, rfl, by rw [any_false (fun j hj => HN.out j hj (by omega))]; simp, KW.out⟩
theorem containsEO (g1 g3 : Nat) (n : Int) (A0 : Option Addr) (k0 c0 : Nat) (l : List Ed) (A : Option Addr) (c : Nat) (w : World) (hl : l.length ≤ maxLen) (hr : Reads w A (l.flatMap edV)) (ho : OutAt w g1 g3 n A0 k0 c0) :
    Calls Tryz.prog 145 #[.slice A l.length c, .func (.func 146) #[] #[.pointer (some ⟨g3, 0, none⟩)]] w fun e w' => e = .returned (.bool (l.any (outE n))) ∧ Kept [] w w' := by
  have HR := Lib.hid hr
  clear hr
  have HO := Lib.hid ho
  clear ho
  go_enter Tryz.func145, Tryz.ntmps145
  go_wp2_with fail
  refine (indexEO g1 g3 n A0 k0 c0 l A c _ hl HR.out HO.out).mono ?_
  rintro e w1 ⟨r, rfl, hr, hk⟩
  have HE := Lib.hid hr
  clear hr
  go_wp2_with fail
  go_ret
  exact ⟨ret_bool HE.out, hk⟩
end Go.Proofs.YtblfingmdipopaaGreat

/- Canonical graphs; graphs made of others. -/
namespace Go.Proofs.YtblfingmdipopaaGreat
set_option linter.unusedSimpArgs false
set_option linter.unusedVariables false
open Go.ChangeShapes Go.WideShapes Go.ChangeAt Go.RowKit
open Go.RowKit (wrap32 wrap64)
set_option maxHeartbeats 8000000
theorem infoGraph : (Tryz.prog.info? 56).map (·.size) = some 2 := by kernel_rfl
/-- The canonical edges. -/
def canonP (l : List Ed) : List Ed := (combP 1 l).2
/-- A graph that a call hands back: its edges are the call's own. -/
def GrPost (w : World) (n : Int) (m : List Ed) (e : Ending) (w' : World) : Prop := ∃ v, e = .returned (.agg #[.int .i64 n, v]) ∧ w'.ownsRow w.heap.size 107 3 v m.length (m.flatMap edV) ∧ Kept [] w w'
set_option maxRecDepth 100000 in
theorem canon_any (n : Int) (l : List Ed) (A : Option Addr) (c : Nat) (w : World) (hl : l.length ≤ 1048576) (hA : Reads w A (l.flatMap edV)) (hw : ∀ e ∈ l, In64 e.2.2) :
    Calls Tryz.prog 150 #[.agg #[.int .i64 n, .slice A l.length c]] w (GrPost w n (canonP l)) := by
  have HA := Lib.hid hA
  have HW := Lib.hid hw
  have HL := Lib.hid hl
  have HB := Lib.hid ((Blk.new w 56 (grV n A l.length c)).alloc (.cells #[.int .i64 0, .slice none 0 0] 56))
  have HZ := Lib.hid (Blk.new1F w (.cells #[.int .i64 n, .slice A l.length c] 56) 56 [.int .i64 0, .slice none 0 0])
  have K0 := Lib.hid (((Kept.refl [] w).alloc (.cells #[.int .i64 n, .slice A l.length c] 56)).alloc (.cells #[.int .i64 0, .slice none 0 0] 56))
  clear hA hw hl
  unfold GrPost
  go_enter Tryz.func150, Tryz.ntmps150
  go_wp2_with fail
  refine (combine_ok 1 l A c _ (by decide) HL.out (HA.out.kept0 K0.out) HW.out).mono ?_
  rintro _ w3 ⟨v, rfl, ho, hk⟩
  obtain ⟨A3, c3, rfl⟩ := own_n ho
  have HO := Lib.hid (own_le (base' := w.heap.size) ho K0.out.size)
  replace HB := Lib.hid (HB.out.kept hk (by simp))
  replace HZ := Lib.hid (HZ.out.kept hk (by simp))
  have K := Lib.hid (K0.out.trans hk)
  clear ho hk K0
  have y0 := HB.out.cell 0
  simp only [List.getElem?_cons_zero] at y0
  go_wp2_with (first | (refine wpList_storeBlk rfl 56 (.tmp 2) (.tmp 14) rfl (w.heap.size + 1) _ [.int .i64 n, .slice A3 (combP 1 l).2.length c3] HZ.out rfl rfl rfl infoGraph (by simp [Value.oneCell']) ?_; intro w8 hb8 hk8))
  have e0 := hb8.cell 0
  have e1 := hb8.cell 1
  simp only [List.getElem?_cons_zero, List.getElem?_cons_succ] at e0 e1
  refine bodyPost_ret (v := .agg #[.int .i64 n, .slice A3 (combP 1 l).2.length c3]) (by simp [results, Tryz.results150, go_sem, e0, e1]) rfl ?_
  refine ⟨_, rfl, ?_, K.out.then hk8 (fun m hm => by simp at hm; subst hm; exact .inr (by omega))⟩
  have f8 : KeptB w.heap.size [56] w3 w8 := (KeptB.refl _ _ w3).step (L := [w.heap.size + 1]) hk8 (fun m hm => by simp at hm; subst hm; exact ⟨by omega, _, _, _, HZ.out, by simp⟩)
  exact own_keptB HO.out f8 (by decide)
set_option maxRecDepth 100000 in
theorem refCanon_any (n : Int) (l : List Ed) (A : Option Addr) (c : Nat) (w : World) (hl : l.length ≤ 1048576) (hA : Reads w A (l.flatMap edV)) (hw : ∀ e ∈ l, In64 e.2.2) :
    Calls Tryz.prog 39 #[.agg #[.int .i64 n, .slice A l.length c]] w (GrPost w n (canonP l)) := by
  have HA := Lib.hid hA
  have HW := Lib.hid hw
  have HL := Lib.hid hl
  have HB := Lib.hid ((Blk.new w 56 (grV n A l.length c)).alloc (.cells #[.int .i64 0, .slice none 0 0] 56))
  have HZ := Lib.hid (Blk.new1F w (.cells #[.int .i64 n, .slice A l.length c] 56) 56 [.int .i64 0, .slice none 0 0])
  have K0 := Lib.hid (((Kept.refl [] w).alloc (.cells #[.int .i64 n, .slice A l.length c] 56)).alloc (.cells #[.int .i64 0, .slice none 0 0] 56))
  clear hA hw hl
  unfold GrPost
  go_enter Tryz.func39, Tryz.ntmps39
  go_wp2_with fail
  refine (refCombine_ok 1 l A c _ (by decide) HL.out (HA.out.kept0 K0.out) HW.out).mono ?_
  rintro _ w3 ⟨v, rfl, ho, hk⟩
  obtain ⟨A3, c3, rfl⟩ := own_n ho
  have HO := Lib.hid (own_le (base' := w.heap.size) ho K0.out.size)
  replace HB := Lib.hid (HB.out.kept hk (by simp))
  replace HZ := Lib.hid (HZ.out.kept hk (by simp))
  have K := Lib.hid (K0.out.trans hk)
  clear ho hk K0
  have y0 := HB.out.cell 0
  simp only [List.getElem?_cons_zero] at y0
  go_wp2_with (first | (refine wpList_storeBlk rfl 56 (.tmp 2) (.tmp 14) rfl (w.heap.size + 1) _ [.int .i64 n, .slice A3 (combP 1 l).2.length c3] HZ.out rfl rfl rfl infoGraph (by simp [Value.oneCell']) ?_; intro w8 hb8 hk8))
  have e0 := hb8.cell 0
  have e1 := hb8.cell 1
  simp only [List.getElem?_cons_zero, List.getElem?_cons_succ] at e0 e1
  refine bodyPost_ret (v := .agg #[.int .i64 n, .slice A3 (combP 1 l).2.length c3]) (by simp [results, Tryz.results39, go_sem, e0, e1]) rfl ?_
  refine ⟨_, rfl, ?_, K.out.then hk8 (fun m hm => by simp at hm; subst hm; exact .inr (by omega))⟩
  have f8 : KeptB w.heap.size [56] w3 w8 := (KeptB.refl _ _ w3).step (L := [w.heap.size + 1]) hk8 (fun m hm => by simp at hm; subst hm; exact ⟨by omega, _, _, _, HZ.out, by simp⟩)
  exact own_keptB HO.out f8 (by decide)
end Go.Proofs.YtblfingmdipopaaGreat
