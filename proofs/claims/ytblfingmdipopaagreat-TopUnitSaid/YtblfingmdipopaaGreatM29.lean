/- prog.Right, Ring, first, Begin's closure, of plans of levels (1) or paths (2). Conditions: the plan can be, of at most 60 vertices. -/
import Derived.Test.YtblfingmdipopaaGreatM28
import Derived.Test.YtblfingmdipopaaGreatM02
namespace Go.Proofs.YtblfingmdipopaaGreat
set_option linter.unusedSimpArgs false
set_option linter.unusedVariables false
open Go.ChangeShapes Go.WideShapes Go.ChangeAt Go.RowKit
open Go.RowKit (wrap32 wrap64)
set_option maxHeartbeats 8000000
theorem pWithin_c (a b : Int) (w : World) : Calls Tryz.prog 141 #[.int .i64 a, .int .i64 b] w fun e w' => e = .returned (.bool (decide (0 ≤ a) && decide (a ≤ b))) ∧ w' = w := by
  by_cases h1 : 0 ≤ a
  · have HD := Lib.hid (show (decide (0 ≤ a) && decide (a ≤ b)) = decide (a ≤ b) by simp [h1])
    go_enter Tryz.func141, Tryz.ntmps141
    go_wp2_with fail
    go_ret
    exact ⟨ret_bool (by rw [HD.out]), rfl⟩
  · have HD := Lib.hid (show (decide (0 ≤ a) && decide (a ≤ b)) = false by simp [h1])
    go_enter Tryz.func141, Tryz.ntmps141
    go_wp2_with fail
    go_ret
    exact ⟨ret_bool (by rw [HD.out]), rfl⟩
theorem pWithin_yes (a b : Int) (w : World) (h : 0 ≤ a ∧ a ≤ b) : Calls Tryz.prog 141 #[.int .i64 a, .int .i64 b] w fun e w' => e = .returned (.bool true) ∧ w' = w := by
  have h1 := pWithin_c a b w
  rwa [show (decide (0 ≤ a) && decide (a ≤ b)) = true by simp [h.1, h.2]] at h1
/-- A plan's cells. -/
abbrev plC (κ : Int) (n s : Nat) : List Value := [.int .i64 κ, .int .i64 (n : Int), .int .i64 (s : Int), .int .i64 0, .slice none 0 0]
structure PlOk (κ : Int) (n s : Nat) : Prop where
  kind : κ = 1 ∨ κ = 2
  src : s < n
  num : n ≤ 60
theorem infoPlan : (Tryz.prog.info? 68).map (·.size) = some 5 := by kernel_rfl
theorem infoState : (Tryz.prog.info? 61).map (·.size) = some 5 := by kernel_rfl
theorem indexJ_nil (w : World) : Calls Tryz.prog 174 #[.slice none 0 0, .func (.func 143) #[] #[]] w fun e w' => e = .returned (.int .i64 (-1)) ∧ w' = w := by
  go_enter Tryz.func174, Tryz.ntmps174
  go_wp2_with fail
  go_loopw [8] (fun i wr => i = .int .i64 0 ∧ wr = w) (fun _ _ => 0)
  case atStart => exact ⟨rfl, rfl⟩
  case round =>
    obtain ⟨rfl, rfl⟩ := hrel
    go_wp2_with fail
    go_ret
    exact ⟨rfl, rfl⟩
theorem containsJ_nil (w : World) : Calls Tryz.prog 142 #[.slice none 0 0, .func (.func 143) #[] #[]] w fun e w' => e = .returned (.bool false) ∧ w' = w := by
  go_enter Tryz.func142, Tryz.ntmps142
  go_wp2_with fail
  refine (indexJ_nil w).mono ?_
  rintro _ w1 ⟨rfl, hw⟩
  subst hw
  go_wp2_with fail
  go_ret
  exact ⟨rfl, rfl⟩
set_option maxRecDepth 100000 in
theorem pRight_any (κ : Int) (n s : Nat) (w : World) (h : PlOk κ n s) :
    Calls Tryz.prog 107 #[.agg (plC κ n s).toArray] w fun e w' => e = .returned (.int .i64 0) ∧ Kept [] w w' := by
  have hs := h.src
  have hn := h.num
  have HX := Lib.hid (Blk.new w 68 (plC κ n s))
  have HK := Lib.hid ((Kept.refl [] w).alloc (.cells (plC κ n s).toArray 68))
  have HKD := Lib.hid h.kind
  clear h
  go_enter Tryz.func107, Tryz.ntmps107
  go_upto_region 1 with (fail)
  generalize w.alloc (.cells (plC κ n s).toArray 68) = w1 at *
  generalize w.heap.size = g1 at HX ⊢
  have x0 := HX.out.cell 0
  have x1 := HX.out.cell 1
  have x2 := HX.out.cell 2
  have x4 := HX.out.cell 4
  simp only [List.getElem?_cons_zero, List.getElem?_cons_succ] at x0 x1 x2 x4
  have hwn : IntKind.i64.wrap ((n : Int) - 1) = (n : Int) - 1 := by rw [IntKind.wrap_i64]; omega
  rcases HKD.out with rfl | rfl
  · go_wp2_with fail
    refine (pWithin_yes n 4096 _ (by omega)).mono ?_
    rintro _ w2 ⟨rfl, hw2⟩
    subst hw2
    go_wp2_with fail
    refine (pWithin_yes s ((n : Int) - 1) _ (by omega)).mono ?_
    rintro _ w3 ⟨rfl, hw3⟩
    subst hw3
    go_wp2_with fail
    refine (containsJ_nil _).mono ?_
    rintro _ w4 ⟨rfl, hw4⟩
    subst hw4
    go_wp2_with fail
    go_ret
    exact ⟨rfl, HK.out⟩
  · go_wp2_with fail
    refine (pWithin_yes n 4096 _ (by omega)).mono ?_
    rintro _ w2 ⟨rfl, hw2⟩
    subst hw2
    go_wp2_with fail
    refine (pWithin_yes s ((n : Int) - 1) _ (by omega)).mono ?_
    rintro _ w3 ⟨rfl, hw3⟩
    subst hw3
    go_wp2_with fail
    refine (containsJ_nil _).mono ?_
    rintro _ w4 ⟨rfl, hw4⟩
    subst hw4
    go_wp2_with fail
    go_ret
    exact ⟨rfl, HK.out⟩
/-- The ring of a plan's supersteps. -/
def ringP (κ : Int) : Int := if κ = 1 then 4 else 1
theorem ringP_ok {κ : Int} (h : κ = 1 ∨ κ = 2) : RingV (ringP κ) := by
  rcases h with rfl | rfl <;> simp [ringP, RingV]
theorem pRing_any (κ round : Int) (w : World) (h : κ = 1 ∨ κ = 2) : Calls Tryz.prog 18 #[.int .i64 κ, .int .i64 round] w fun e w' => e = .returned (.int .i64 (ringP κ)) ∧ w' = w := by
  rcases h with rfl | rfl
  · go_enter Tryz.func18, Tryz.ntmps18
    go_wp2_with fail
    go_ret
    exact ⟨rfl, rfl⟩
  · go_enter Tryz.func18, Tryz.ntmps18
    go_wp2_with fail
    go_ret
    exact ⟨rfl, rfl⟩
/-- What a vertex has at first. -/
def firstA (κ : Int) (s i : Nat) : Int := if i = s then 0 else if κ = 1 then -1 else infV
set_option maxRecDepth 100000 in
theorem first_any (κ : Int) (n s i : Nat) (w : World) (h : κ = 1 ∨ κ = 2) :
    Calls Tryz.prog 115 #[.agg (plC κ n s).toArray, .int .i64 (i : Int)] w fun e w' => e = .returned (.tuple #[.int .i64 (firstA κ s i), .bool (decide (i = s))]) ∧ Kept [] w w' := by
  have HX := Lib.hid (Blk.new w 68 (plC κ n s))
  have HK := Lib.hid ((Kept.refl [] w).alloc (.cells (plC κ n s).toArray 68))
  go_enter Tryz.func115, Tryz.ntmps115
  go_upto_region 1 with (fail)
  generalize w.alloc (.cells (plC κ n s).toArray 68) = w1 at *
  generalize w.heap.size = g1 at HX ⊢
  have x0 := HX.out.cell 0
  have x2 := HX.out.cell 2
  simp only [List.getElem?_cons_zero, List.getElem?_cons_succ] at x0 x2
  by_cases hi : i = s
  · subst hi
    rcases h with rfl | rfl
    · go_wp2_with fail
      refine bodyPost_ret (results_tmp2 rfl _ _ _) rfl ?_
      exact ⟨by simp [firstA], HK.out⟩
    · go_wp2_with fail
      refine bodyPost_ret (results_tmp2 rfl _ _ _) rfl ?_
      exact ⟨by simp [firstA], HK.out⟩
  · have hb : ((i : Int) == (s : Int)) = false := beq_false_of_ne (by omega)
    have hd : decide (i = s) = false := decide_eq_false hi
    rcases h with rfl | rfl
    · have HF := Lib.hid (show firstA 1 s i = -1 by simp [firstA, hi])
      have HDD := Lib.hid hd
      clear hi hd
      go_wp2_with fail
      refine bodyPost_ret (results_tmp2 rfl _ _ _) rfl ?_
      exact ⟨by rw [HF.out, HDD.out]; rfl, HK.out⟩
    · have HF := Lib.hid (show firstA 2 s i = 4611686018427387904 by simp [firstA, hi])
      have HDD := Lib.hid hd
      clear hi hd
      go_wp2_with fail
      refine bodyPost_ret (results_tmp2 rfl _ _ _) rfl ?_
      exact ⟨by rw [HF.out, HDD.out]; rfl, HK.out⟩
theorem begin1_any (κ : Int) (n s i g3 g4 : Nat) (w : World) (h : κ = 1 ∨ κ = 2) (hi : i < 4096) (h3 : Blk w g3 68 (plC κ n s)) (h4 : Blk w g4 3 [.int .i64 0]) :
    Calls Tryz.prog 114 #[.int .i64 (i : Int), .pointer (some ⟨g3, 0, none⟩), .pointer (some ⟨g4, 0, none⟩)] w fun e w' => e = .returned (.tuple #[.int .i64 (firstA κ s i), .int .i64 (-1), .bool (decide (i = s))]) ∧ Kept [] w w' := by
  have H3 := Lib.hid h3
  have c4 := h4.cell 0
  simp only [List.getElem?_cons_zero] at c4
  clear h3 h4
  obtain ⟨post, hpost⟩ : ∃ post : Ending → World → Prop, post = fun e w' => e = .returned (.tuple #[.int .i64 (firstA κ s i), .int .i64 (-1), .bool (decide (i = s))]) ∧ Kept [] w w' := ⟨_, rfl⟩
  rw [← hpost]
  have HPOST := Lib.hid hpost
  clear hpost
  go_enter Tryz.func114, Tryz.ntmps114
  go_wp2_with (first | (refine wpList_loadBlk rfl 68 (.tmp 1) rfl g3 (plC κ n s) _ H3.out rfl Tryz.underlying68 rfl infoPlan ?_))
  refine (first_any κ n s i _ h).mono ?_
  rintro _ w2 ⟨rfl, hk⟩
  have HK := Lib.hid hk
  clear hk c4
  generalize firstA κ s i = fa at *
  generalize decide (i = s) = fd at *
  go_wp2_with fail
  refine bodyPost_ret (v := .tuple #[.int .i64 fa, .int .i64 (-1), .bool fd]) (by simp [results, Tryz.results114, go_sem]) rfl ?_
  rw [HPOST.out]
  exact ⟨rfl, HK.out⟩
end Go.Proofs.YtblfingmdipopaaGreat

/- A region of open order by a relation that every operation keeps, in whatever order they come up: each operation is walked once. -/
namespace Go.Proofs.YtblfingmdipopaaGreat
set_option linter.unusedSimpArgs false
open Go
section
variable {P : Program} {md : Region.Mode} {ops : Array Oper} {Q : Exit → Act → World → Prop} {S : World → Prop}
def unl (L : Array Bool) : Nat := L.toList.countP (fun b => !b)
theorem unl_set {L : Array Bool} {i : Nat} (h : L.getD i true = false) : unl (L.setIfInBounds i true) + 1 = unl L := by
  have hlt : i < L.size := by
    rcases Nat.lt_or_ge i L.size with h' | h'
    · exact h'
    · simp [Array.getElem?_eq_none h'] at h
  have hv : L.toList[i]'(by simpa using hlt) = false := by
    simpa [hlt] using h
  unfold unl
  rw [Array.toList_setIfInBounds, List.countP_set (by simpa using hlt), hv]
  have : 0 < List.countP (fun b => !b) L.toList := by
    rw [List.countP_pos_iff]
    exact ⟨false, by rw [← hv]; exact List.getElem_mem _, rfl⟩
  rw [if_pos (show (!false) = true from rfl), if_neg (show ¬ (!true) = true by decide)]
  omega
/-- Operations wait for earlier ones alone: while one has not come up, one may. -/
theorem ready_some {L : Array Bool} (hsz : L.size = ops.size) (hord : ∀ (i : Nat) (o : Oper), ops[i]? = some o → ∀ e ∈ o.after, Region.binds md e = true → e.on < i) (h : Region.ready md ops L = []) : ∀ j, j < ops.size → L.getD j false = true := by
  intro j
  induction j using Nat.strongRecOn with
  | _ j ih =>
    intro hj
    rcases hb : L.getD j false with _ | _
    · exfalso
      have hjL : j < L.size := by omega
      have hm : j ∈ Region.ready md ops L := mem_ready.2 ⟨by simpa [hjL] using hb, ops[j], Array.getElem?_eq_getElem hj, fun e he hbd => by
        have h1 := hord j ops[j] (Array.getElem?_eq_getElem hj) e he hbd
        exact ih e.on h1 (by omega)⟩
      rw [h] at hm
      cases hm
    · rfl
theorem wpAnyH_inv (Inv : Array Bool → Act → World → Prop) (hord : ∀ (i : Nat) (o : Oper), ops[i]? = some o → ∀ e ∈ o.after, Region.binds md e = true → e.on < i)
    (hstep : ∀ (L : Array Bool) (a : Act) (w : World) (i : Nat) (o : Oper), L.size = ops.size → Inv L a w → ops[i]? = some o → L.getD i true = false → (∀ e ∈ o.after, Region.binds md e = true → L.getD e.on false = true) →
      wpOp P ops Q i (fun a' w' => S w' ∧ Inv (L.setIfInBounds i true) a' w') a w)
    (hend : ∀ (L : Array Bool) (a : Act) (w : World), Inv L a w → (∀ j, j < ops.size → L.getD j false = true) → Q .normal a w) :
    ∀ (fuel : Nat) (L : Array Bool) (a : Act) (w : World), L.size = ops.size → unl L = fuel → Inv L a w → wpAnyH P md ops Q S fuel L a w
  | 0, L, a, w, hsz, hu, hi => by
    have hall : ∀ j, j < ops.size → L.getD j false = true := fun j hj => by
      have h0 : ∀ b ∈ L.toList, ¬ (!b) = true := List.countP_eq_zero.1 hu
      have hjL : j < L.size := by omega
      have := h0 L[j] (by simp [hjL])
      simpa [hjL] using this
    refine ⟨?_, hend L a w hi hall⟩
    rw [List.eq_nil_iff_forall_not_mem]
    intro j hj
    obtain ⟨h1, o, ho, _⟩ := mem_ready.1 hj
    have hjs : j < ops.size := (Array.getElem?_eq_some_iff.1 ho).1
    have h2 := hall j hjs
    have hjL : j < L.size := by omega
    simp [hjL] at h1 h2
    rw [h1] at h2
    cases h2
  | fuel + 1, L, a, w, hsz, hu, hi => by
    refine ⟨fun hr => hend L a w hi (ready_some hsz hord hr), fun i hri => ?_⟩
    obtain ⟨h1, o, ho, hd⟩ := mem_ready.1 hri
    refine wpOp_mono (fun a' w' h => ⟨h.1, ?_⟩) (hstep L a w i o hsz hi ho h1 hd)
    have hu2 := unl_set h1
    exact wpAnyH_inv Inv hord hstep hend fuel _ a' w' (by simpa using hsz) (by omega) h.2
theorem ord_of (h : (List.range ops.size).all (fun i => match ops[i]? with | none => true | some o => o.after.all (fun e => !Region.binds md e || decide (e.on < i))) = true) :
    ∀ (i : Nat) (o : Oper), ops[i]? = some o → ∀ e ∈ o.after, Region.binds md e = true → e.on < i := fun i o ho e he hb => by
  have hi : i < ops.size := (Array.getElem?_eq_some_iff.1 ho).1
  have h1 := List.all_eq_true.1 h i (List.mem_range.2 hi)
  rw [ho] at h1
  have h2 := Array.all_eq_true_iff_forall_mem.1 h1 e he
  rw [hb] at h2
  simpa using h2
theorem dep_of {L : Array Bool} {i : Nat} {o : Oper} (ho : ops[i]? = some o) (hd : ∀ e ∈ o.after, Region.binds md e = true → L.getD e.on false = true) (d : Nat)
    (h : (match ops[i]? with | none => false | some o => o.after.any (fun e => e.on == d && Region.binds md e)) = true) : L.getD d false = true := by
  rw [ho] at h
  obtain ⟨e, he, h2⟩ := Array.any_eq_true'.1 h
  simp only [Bool.and_eq_true, beq_iff_eq] at h2
  rw [← h2.1]
  exact hd e he h2.2
theorem getD_flip {L : Array Bool} {i : Nat} (h : L.getD i false = true) (h2 : L.getD i true = false) : False := by
  rcases Nat.lt_or_ge i L.size with hlt | hge
  · simp [hlt] at h h2
    rw [h] at h2
    cases h2
  · simp [Array.getElem?_eq_none hge] at h
theorem set_ne {L : Array Bool} {i j : Nat} {p : Prop} (h : i ≠ j) (f : L.getD j false = true → p) : (L.setIfInBounds i true).getD j false = true → p := fun g => f (by rwa [getD_set_ne false h] at g)
theorem set_yes {L : Array Bool} {i j : Nat} (h : L.getD j false = true) : (L.setIfInBounds i true).getD j false = true := getD_set_true h
end
end Go.Proofs.YtblfingmdipopaaGreat

/- Two rows that grow, and are stored in a state: the relation that prog.changed's region keeps. Conditions: none but those of the lemmas. -/
namespace Go.Proofs.YtblfingmdipopaaGreat
set_option linter.unusedSimpArgs false
set_option linter.unusedVariables false
open Go.ChangeShapes Go.WideShapes Go.ChangeAt Go.RowKit
open Go.RowKit (wrap32 wrap64)
set_option maxHeartbeats 8000000
def NeB (a b : Value) : Prop := ∀ g, a.ownBlock = some g → b.ownBlock = some g → False
theorem NeB.symm {a b : Value} (h : NeB a b) : NeB b a := fun g h1 h2 => h g h2 h1
theorem NeB.nil (b : Value) : NeB (.slice none 0 0) b := fun g h => by simp [Value.ownBlock] at h
theorem NeB.app {v v' X : Value} {sz : Nat} (h : NeB v X) (hba : v'.ownBlock = v.ownBlock ∨ v'.ownBlock = some sz) (hX : ∀ q, X.ownBlock = some q → q < sz) : NeB v' X := fun g h1 h2 => by
  rcases hba with e | e
  · exact h g (e ▸ h1) h2
  · rw [e] at h1
    injection h1 with h1
    have := hX g h2
    omega
/-- A state that lies there: two rows of numbers, and bits. -/
structure StAt (w : World) (base : Nat) (vA vB vO : Value) (n : Nat) (A B : List Int) (b : Nat) : Prop where
  o1 : w.ownsRow base 2 1 vA n (A.map vI)
  o2 : w.ownsRow base 2 1 vB n (B.map vI)
  o3 : w.ownsRow base 98 1 vO (wordsN n) (bitsV n b)
theorem StAt.kept0 {w w' : World} {base : Nat} {vA vB vO : Value} {n : Nat} {A B : List Int} {b : Nat} (h : StAt w base vA vB vO n A B b) (k : Kept [] w w') : StAt w' base vA vB vO n A B b := ⟨own_kept0 h.o1 k, own_kept0 h.o2 k, own_kept0 h.o3 k⟩
theorem StAt.keptB {w w' : World} {base base' : Nat} {T : List TypeId} {vA vB vO : Value} {n : Nat} {A B : List Int} {b : Nat} (h : StAt w base vA vB vO n A B b) (k : KeptB base' T w w') (h1 : 2 ∉ T) (h2 : 98 ∉ T) : StAt w' base vA vB vO n A B b := ⟨own_keptB h.o1 k h1, own_keptB h.o2 k h1, own_keptB h.o3 k h2⟩
theorem StAt.le {w : World} {base base' : Nat} {vA vB vO : Value} {n : Nat} {A B : List Int} {b : Nat} (h : StAt w base vA vB vO n A B b) (k : base' ≤ base) : StAt w base' vA vB vO n A B b := ⟨own_base h.o1 k, own_base h.o2 k, own_base h.o3 k⟩
/-- A state's cells. -/
abbrev stC (n : Nat) (vA vB vO : Value) : List Value := [.int .i64 0, .int .i64 (n : Int), vA, vB, vO]
/-- A state that a call hands back. -/
def StPost (w : World) (n : Nat) (A B : List Int) (b : Nat) (e : Ending) (w' : World) : Prop := ∃ vA vB vO, e = .returned (.agg (stC n vA vB vO).toArray) ∧ StAt w' w.heap.size vA vB vO n A B b ∧ Kept [] w w'
/-- The two rows, the one grown or not, the other grown or not, the one stored or not, the other stored or not. -/
structure Chw (base g7 n k : Nat) (vA vB : Value) (A B : List Int) (a b : Int) (pA pB sA sB : Bool) (x y : Value) (w : World) : Prop where
  rA : w.ownsRow base 2 1 (bif pA then x else vA) (bif pA then k + 1 else k) ((bif pA then A ++ [a] else A).map vI)
  rB : w.ownsRow base 2 1 (bif pB then y else vB) (bif pB then k + 1 else k) ((bif pB then B ++ [b] else B).map vI)
  ne : NeB (bif pA then x else vA) (bif pB then y else vB)
  g : Blk w g7 61 [.int .i64 0, .int .i64 (n : Int), bif sA then x else vA, bif sB then y else vB, .slice none 0 0]
section
variable {base g7 n k : Nat} {vA vB : Value} {A B : List Int} {a b : Int} {pA pB sA sB : Bool} {x y : Value} {w w' : World}
theorem Chw.kept0 (h : Chw base g7 n k vA vB A B a b pA pB sA sB x y w) (hk : Kept [] w w') : Chw base g7 n k vA vB A B a b pA pB sA sB x y w' := ⟨own_kept0 h.rA hk, own_kept0 h.rB hk, h.ne, h.g.kept hk (by simp)⟩
/-- A row of one. -/
def One (z : Nat) (w : World) (x : Value) (v : Int) : Prop := ∃ g, x = .slice (some ⟨g, 0, none⟩) 1 1 ∧ Blk w g 2 [vI v] ∧ z ≤ g
theorem One.kept {z : Nat} {L : List Nat} {v : Int} (h : One z w x v) (hk : Kept L w w') (hL : ∀ q ∈ L, q < z) : One z w' x v := by
  obtain ⟨g, e, hb, hg⟩ := h
  exact ⟨g, e, hb.kept hk (fun hm => by have := hL g hm; omega), hg⟩
/-- The one row is grown. -/
theorem Chw.growA (h : Chw base g7 n k vA vB A B a b false pB sA sB x y w) {x' : Value} (hs : sA = false) (ho : w'.ownsRow base 2 1 x' (k + 1) (A.map vI ++ [vI a])) (hk : Kept vA.ownBlock.toList w w') (hba : x'.ownBlock = vA.ownBlock ∨ x'.ownBlock = some w.heap.size) : Chw base g7 n k vA vB A B a b true pB sA sB x' y w' := by
  subst hs
  refine ⟨by simpa using ho, own_kept h.rB hk (fun q hq hm => h.ne q (by simpa using hm) hq), ?_, h.g.kept hk (fun hm => own_ne_blk h.rA h.g (by decide) (by simpa using hm))⟩
  exact h.ne.app hba (fun q hq => (h.rB.lt q hq).2)
theorem Chw.growB (h : Chw base g7 n k vA vB A B a b pA false sA sB x y w) {y' : Value} (hs : sB = false) (ho : w'.ownsRow base 2 1 y' (k + 1) (B.map vI ++ [vI b])) (hk : Kept vB.ownBlock.toList w w') (hba : y'.ownBlock = vB.ownBlock ∨ y'.ownBlock = some w.heap.size) : Chw base g7 n k vA vB A B a b pA true sA sB x y' w' := by
  subst hs
  refine ⟨own_kept h.rA hk (fun q hq hm => h.ne q hq (by simpa using hm)), by simpa using ho, ?_, h.g.kept hk (fun hm => own_ne_blk h.rB h.g (by decide) (by simpa using hm))⟩
  exact (h.ne.symm.app hba (fun q hq => (h.rA.lt q hq).2)).symm
theorem Chw.setA (h : Chw base g7 n k vA vB A B a b true pB false sB x y w) : Chw base g7 n k vA vB A B a b true pB true sB x y (w.setCell ⟨g7, 2, none⟩ x) := by
  have hk := (Kept.refl [g7] w).setCell (p := ⟨g7, 2, none⟩) (.inl (by simp)) x
  exact ⟨own_kept h.rA hk (fun q hq hm => by simp at hm; subst hm; exact own_ne_blk h.rA h.g (by decide) hq), own_kept h.rB hk (fun q hq hm => by simp at hm; subst hm; exact own_ne_blk h.rB h.g (by decide) hq), h.ne, h.g.set 2 x⟩
theorem Chw.setB (h : Chw base g7 n k vA vB A B a b pA true sA false x y w) : Chw base g7 n k vA vB A B a b pA true sA true x y (w.setCell ⟨g7, 3, none⟩ y) := by
  have hk := (Kept.refl [g7] w).setCell (p := ⟨g7, 3, none⟩) (.inl (by simp)) y
  exact ⟨own_kept h.rA hk (fun q hq hm => by simp at hm; subst hm; exact own_ne_blk h.rA h.g (by decide) hq), own_kept h.rB hk (fun q hq hm => by simp at hm; subst hm; exact own_ne_blk h.rB h.g (by decide) hq), h.ne, h.g.set 3 y⟩
end
theorem getD_not {L : Array Bool} {i : Nat} (h : L.getD i true = false) : L.getD i false = false := by
  rcases Nat.lt_or_ge i L.size with hlt | hge
  · simp [hlt] at h ⊢
    exact h
  · simp [Array.getElem?_eq_none hge]
theorem getD_hit {L : Array Bool} {i : Nat} (h : L.getD i true = false) : (L.setIfInBounds i true).getD i false = true := by
  rcases Nat.lt_or_ge i L.size with hlt | hge
  · simp [hlt]
  · simp [Array.getElem?_eq_none hge] at h
end Go.Proofs.YtblfingmdipopaaGreat
