/- prog.changed by the closures of Begin and Update. Conditions: at most 60 vertices. -/
import Derived.Test.YtblfingmdipopaaGreatM29
namespace Go.Proofs.YtblfingmdipopaaGreat
set_option linter.unusedSimpArgs false
set_option linter.unusedVariables false
open Go.ChangeShapes Go.WideShapes Go.ChangeAt Go.RowKit
open Go.RowKit (wrap32 wrap64)
set_option maxHeartbeats 8000000
section
variable {P : Program} {md : Region.Mode} {ops : Array Oper} {Q : Exit → Act → World → Prop} {S : World → Prop}
theorem wpAnyH_invT {T : Array Value} {D : List Deferred} (Inv : Array Value → List Deferred → Array Bool → Act → World → Prop) (hord : ∀ (i : Nat) (o : Oper), ops[i]? = some o → ∀ e ∈ o.after, Region.binds md e = true → e.on < i)
    (hstep : ∀ (L : Array Bool) (a : Act) (w : World) (i : Nat) (o : Oper), L.size = ops.size → Inv T D L a w → ops[i]? = some o → L.getD i true = false → (∀ e ∈ o.after, Region.binds md e = true → L.getD e.on false = true) →
      wpOp P ops Q i (fun a' w' => S w' ∧ Inv T D (L.setIfInBounds i true) a' w') a w)
    (hend : ∀ (L : Array Bool) (a : Act) (w : World), Inv T D L a w → (∀ j, j < ops.size → L.getD j false = true) → Q .normal a w) (fuel : Nat) (L : Array Bool) (w : World) (hsz : L.size = ops.size) (hu : unl L = fuel) (hi : Inv T D L ⟨T, D⟩ w) : wpAnyH P md ops Q S fuel L ⟨T, D⟩ w :=
  wpAnyH_inv (Inv T D) hord hstep hend fuel L ⟨T, D⟩ w hsz hu hi
end
section
variable {base g7 n k : Nat} {vA vB : Value} {A B : List Int} {a b : Int} {pA pB sA sB : Bool} {x y : Value} {w w' : World} {T : List TypeId} {base' : Nat}
theorem Chw.keptB (h : Chw base g7 n k vA vB A B a b pA pB sA sB x y w) (hk : KeptB base' T w w') (h1 : 2 ∉ T) (h2 : 61 ∉ T) : Chw base g7 n k vA vB A B a b pA pB sA sB x y w' := ⟨own_keptB h.rA hk h1, own_keptB h.rB hk h1, h.ne, h.g.keptB hk h2⟩
theorem Chw.next (h : Chw base g7 n k vA vB A B a b true true true true x y w) : Chw base g7 n (k + 1) x y (A ++ [a]) (B ++ [b]) 0 0 false false false false undef undef w := ⟨h.rA, h.rB, h.ne, h.g⟩
end
theorem own_unlike {w : World} {base base' s s' n n' : Nat} {e e' : TypeId} {v v' : Value} {xs xs' : List Value} (h : w.ownsRow base e s v n xs) (h' : w.ownsRow base' e' s' v' n' xs') (hne : e ≠ e') (q : Nat) (h1 : v.ownBlock = some q) (h2 : v'.ownBlock = some q) : False := by
  rcases h.2 with ⟨rfl, _⟩ | ⟨g, cap, cur, rfl, _, hg, _⟩
  · simp [Value.ownBlock] at h1
  · rcases h'.2 with ⟨rfl, _⟩ | ⟨g', cap', cur', rfl, _, hg', _⟩
    · simp [Value.ownBlock] at h2
    · simp only [Value.ownBlock, Option.some.injEq] at h1 h2
      subst h1
      subst h2
      rw [hg] at hg'
      injection hg' with hg'
      injection hg' with _ he
      exact hne he
/-- The places that a function says yes to. -/
def onL (fo : Nat → Bool) (k : Nat) : List Int := ((List.range k).filter fo).map (fun (i : Nat) => (i : Int))
def onP (fo : Nat → Bool) (n : Nat) : Nat := bitsP (onL fo n)
theorem onL_yes {fo : Nat → Bool} {k : Nat} (h : fo k = true) : onL fo (k + 1) = onL fo k ++ [(k : Int)] := by
  simp [onL, List.range_succ, List.filter_append, h]
theorem onL_no {fo : Nat → Bool} {k : Nat} (h : fo k = false) : onL fo (k + 1) = onL fo k := by
  simp [onL, List.range_succ, List.filter_append, h]
theorem onL_len (fo : Nat → Bool) (k : Nat) : (onL fo k).length ≤ k := by
  unfold onL
  rw [List.length_map]
  exact Nat.le_trans (List.length_filter_le _ _) (by simp)
theorem onL_in (fo : Nat → Bool) (n : Nat) : ∀ i ∈ onL fo n, 0 ≤ i ∧ i < (n : Int) := by
  intro i hi
  obtain ⟨j, hj, rfl⟩ := List.mem_map.1 hi
  have := List.mem_range.1 (List.mem_filter.1 hj).1
  omega
theorem onP_lt (fo : Nat → Bool) (n : Nat) : onP fo n < 2 ^ n := bitsP_lt n _ (onL_in fo n)
theorem onL_mem (fo : Nat → Bool) (n i : Nat) : (i : Int) ∈ onL fo n ↔ i < n ∧ fo i = true := by
  unfold onL
  constructor
  · intro h
    obtain ⟨j, hj, he⟩ := List.mem_map.1 h
    obtain ⟨h1, h2⟩ := List.mem_filter.1 hj
    have e : j = i := by omega
    subst e
    exact ⟨List.mem_range.1 h1, h2⟩
  · rintro ⟨h1, h2⟩
    exact List.mem_map.2 ⟨i, List.mem_filter.2 ⟨List.mem_range.2 h1, h2⟩, rfl⟩
theorem onP_test (fo : Nat → Bool) (n i : Nat) : (onP fo n).testBit i = (decide (i < n) && fo i) := by
  unfold onP
  rw [bitsP_test i _ (fun j hj => (onL_in fo n j hj).1)]
  have h := onL_mem fo n i
  by_cases hm : (i : Int) ∈ onL fo n
  · have h2 := h.1 hm
    rw [decide_eq_true hm, h2.2, decide_eq_true h2.1]
    rfl
  · rw [decide_eq_false hm]
    cases hf : fo i with
    | false => simp
    | true =>
      have : ¬ i < n := fun h3 => hm (h.2 ⟨h3, hf⟩)
      simp [this]
set_option maxRecDepth 100000 in
theorem changedB_any (n : Nat) (hn : n ≤ 60) (fa fb : Nat → Int) (fo : Nat → Bool) (c1 c2 : Nat) (oA oB oO : Value) (w : World) (ht : ∀ w', Kept [] w w' → ∀ i, i < n → Calls Tryz.prog 114 #[.int .i64 (i : Int), .pointer (some ⟨c1, 0, none⟩), .pointer (some ⟨c2, 0, none⟩)] w' fun e w'' => e = .returned (.tuple #[.int .i64 (fa i), .int .i64 (fb i), .bool (fo i)]) ∧ Kept [] w' w'') :
    Calls Tryz.prog 113 #[.agg (stC n oA oB oO).toArray, .int .i64 (n : Int), .func (.func 114) #[] #[.pointer (some ⟨c1, 0, none⟩), .pointer (some ⟨c2, 0, none⟩)]] w (StPost w n ((List.range n).map fa) ((List.range n).map fb) (onP fo n)) := by
  have HT := Lib.hid ht
  clear ht
  obtain ⟨post, hpost⟩ : ∃ post : Ending → World → Prop, post = (StPost w n ((List.range n).map fa) ((List.range n).map fb) (onP fo n)) := ⟨_, rfl⟩
  rw [← hpost]
  have HPOST := Lib.hid hpost
  clear hpost
  have H3 := Lib.hid ((Blk.new w 61 (stC n oA oB oO)).alloc (.cells #[.int .i64 0, .int .i64 0, .slice none 0 0, .slice none 0 0, .slice none 0 0] 61))
  have HZ := Lib.hid (Blk.new1F w (.cells (stC n oA oB oO).toArray 61) 61 [.int .i64 0, .int .i64 0, .slice none 0 0, .slice none 0 0, .slice none 0 0])
  have K0 := Lib.hid (((Kept.refl [] w).alloc (.cells (stC n oA oB oO).toArray 61)).alloc (.cells #[.int .i64 0, .int .i64 0, .slice none 0 0, .slice none 0 0, .slice none 0 0] 61))
  have HGE := Lib.hid (show w.heap.size ≤ w.heap.size + 1 by omega)
  go_enter Tryz.func113, Tryz.ntmps113
  go_upto_region 1 with (fail)
  generalize ((w.alloc (.cells (stC n oA oB oO).toArray 61)).alloc (.cells #[.int .i64 0, .int .i64 0, .slice none 0 0, .slice none 0 0, .slice none 0 0] 61)) = w0 at *
  generalize w.heap.size + 1 = gz at HZ HGE ⊢
  generalize w.heap.size = g3 at H3 ⊢
  have s0 := H3.out.cell 0
  have s1 := H3.out.cell 1
  simp only [List.getElem?_cons_zero, List.getElem?_cons_succ] at s0 s1
  go_upto_region 2 with (first | (refine wpList_storeBlk rfl 61 (.tmp 7) (.tmp 17) rfl w0.heap.size [.int .i64 0, .int .i64 0, .slice none 0 0, .slice none 0 0, .slice none 0 0] [.int .i64 0, .int .i64 (n : Int), .slice none 0 0, .slice none 0 0, .slice none 0 0] (Blk.new _ _ _) rfl rfl rfl infoState (by simp [Value.oneCell']) ?_; intro w4 hb4 hk4))
  have k4 : Kept [] w0 w4 := ((Kept.refl [] w0).alloc (.cells #[.int .i64 0, .int .i64 0, .slice none 0 0, .slice none 0 0, .slice none 0 0] 61)).then hk4 (fun q hq => by simp at hq; subst hq; exact .inr (Nat.le_refl _))
  have HG7 := Lib.hid (show w.heap.size ≤ w0.heap.size ∧ gz ≠ w0.heap.size from ⟨K0.out.size, by have := HZ.out.lt; omega⟩)
  have HCW := Lib.hid (show Chw w.heap.size w0.heap.size n 0 (.slice none 0 0) (.slice none 0 0) [] [] 0 0 false false false false undef undef w4 from ⟨World.ownsRow_nil _ _ _ _, World.ownsRow_nil _ _ _ _, NeB.nil _, hb4⟩)
  replace HZ := Lib.hid (HZ.out.kept k4 (by simp))
  replace K0 := Lib.hid (K0.out.trans k4)
  clear k4 hk4 hb4 s0 s1 H3
  generalize w0.heap.size = g7 at HCW HG7 ⊢
  go_wp2_with fail
  go_loopw [8, 19] (fun l x wr => ∃ k : Nat, k ≤ n ∧ x = .int .i64 k ∧ ∃ vA vB, Hid (Chw w.heap.size g7 n k vA vB ((List.range k).map fa) ((List.range k).map fb) 0 0 false false false false undef undef wr) ∧ Hid (wr.ownsRow w.heap.size 3 1 l (onL fo k).length ((onL fo k).map vI)) ∧ Hid (Blk wr gz 61 [.int .i64 0, .int .i64 0, .slice none 0 0, .slice none 0 0, .slice none 0 0]) ∧ Hid (Kept [] w wr)) (fun _ x _ => n - (intOf x).toNat)
  case atStart => exact ⟨0, Nat.zero_le _, rfl, _, _, HCW, Lib.hid (World.ownsRow_nil _ _ _ _), HZ, K0⟩
  case round =>
    clear HCW HZ K0
    obtain ⟨k, hk, rfl, vA, vB, HCW, HL, HZ, K0⟩ := hrel
    obtain ⟨l, hl⟩ : ∃ l, l = u8 := ⟨_, rfl⟩
    subst hl
    have hml := onL_len fo k
    by_cases hlt : k < n
    · have HRA := Lib.hid (show (List.range (k + 1)).map fa = (List.range k).map fa ++ [fa k] by simp [List.range_succ])
      have HRB := Lib.hid (show (List.range (k + 1)).map fb = (List.range k).map fb ++ [fb k] by simp [List.range_succ])
      have HY := Lib.hid (onL_yes (fo := fo) (k := k))
      have HN := Lib.hid (onL_no (fo := fo) (k := k))
      obtain ⟨A, hA⟩ : ∃ A, A = (List.range k).map fa := ⟨_, rfl⟩
      obtain ⟨B, hB⟩ : ∃ B, B = (List.range k).map fb := ⟨_, rfl⟩
      rw [← hA] at HCW HRA
      rw [← hB] at HCW HRB
      clear hA hB
      obtain ⟨M, hM⟩ : ∃ M, M = onL fo k := ⟨_, rfl⟩
      rw [← hM] at HL HY HN hml
      clear hM
      go_wp2_with fail
      refine (HT.out _ K0.out k hlt).mono ?_
      rintro _ w1 ⟨rfl, hk1⟩
      replace HCW := Lib.hid (HCW.out.kept0 hk1)
      replace HL := Lib.hid (own_kept0 HL.out hk1)
      replace HZ := Lib.hid (HZ.out.kept hk1 (by simp))
      replace K0 := Lib.hid (K0.out.trans hk1)
      clear hk1
      obtain ⟨a, ha⟩ : ∃ a, a = fa k := ⟨_, rfl⟩
      obtain ⟨b, hb⟩ : ∃ b, b = fb k := ⟨_, rfl⟩
      rw [← ha] at HRA ⊢
      rw [← hb] at HRB ⊢
      clear ha hb
      obtain ⟨f, hf⟩ : ∃ f, f = fo k := ⟨_, rfl⟩
      rw [← hf] at HY HN ⊢
      clear hf
      have OWNA := Lib.hid (fun q hq => (HCW.out.rA.lt q hq).2 : ∀ q, vA.ownBlock = some q → q < w1.heap.size)
      have OWNB := Lib.hid (fun q hq => (HCW.out.rB.lt q hq).2 : ∀ q, vB.ownBlock = some q → q < w1.heap.size)
      have HGZ := Lib.hid HCW.out.g.lt
      have CH0 := Lib.hid (show Chw w.heap.size g7 n k vA vB A B a b false false false false undef undef w1.drew from ⟨HCW.out.rA, HCW.out.rB, HCW.out.ne, HCW.out.g⟩)
      go_upto_region 7 with (fail)
      refine wp_region_held_drew (S := (fun _ => True)) (by kernel_rfl) ?_ (fun hHeld => ?_)
      · trivial
      refine tkYes (i := 0) (v := ?_) rfl rfl (by kernel_rfl) (by kernel_rfl) (by kernel_rfl) (fun _ _ _ h => h) (by rfl) ?_ (by assumption) ?_
      rotate_left
      · (intro w' hSw; (try dsimp only at hSw); go_simp; try with_reducible rfl)
      try simp only [Act.put, List.setIfInBounds_toArray, List.set_cons_zero, List.set_cons_succ]
      refine tkYes (i := 2) (v := ?_) rfl rfl (by kernel_rfl) (by kernel_rfl) (by kernel_rfl) (fun _ _ _ h => h) (by rfl) ?_ (by assumption) ?_
      rotate_left
      · (intro w' hSw; (try dsimp only at hSw); go_simp; try with_reducible rfl)
      try simp only [Act.put, List.setIfInBounds_toArray, List.set_cons_zero, List.set_cons_succ]
      refine tkYes (i := 5) (v := ?_) rfl rfl (by kernel_rfl) (by kernel_rfl) (by kernel_rfl) (fun _ _ _ h => h) (by rfl) ?_ (by assumption) ?_
      rotate_left
      · (intro w' hSw; (try dsimp only at hSw); go_simp; try with_reducible rfl)
      try simp only [Act.put, List.setIfInBounds_toArray, List.set_cons_zero, List.set_cons_succ]
      refine tkYes (i := 7) (v := ?_) rfl rfl (by kernel_rfl) (by kernel_rfl) (by kernel_rfl) (fun _ _ _ h => h) (by rfl) ?_ (by assumption) ?_
      rotate_left
      · (intro w' hSw; (try dsimp only at hSw); go_simp; try with_reducible rfl)
      try simp only [Act.put, List.setIfInBounds_toArray, List.set_cons_zero, List.set_cons_succ]
      refine wpAnyH_invT (fun T D L a' v => ∃ x30 x32 x33 x35 x37 x38 x39 x40 : Value, a' = { tmps := ((((((((T.setIfInBounds 30 x30).setIfInBounds 32 x32).setIfInBounds 33 x33).setIfInBounds 35 x35).setIfInBounds 37 x37).setIfInBounds 38 x38).setIfInBounds 39 x39).setIfInBounds 40 x40), defers := D } ∧ (L.getD 0 false = true ∧ L.getD 2 false = true ∧ L.getD 5 false = true ∧ L.getD 7 false = true) ∧ Hid (Kept (g7 :: (vA.ownBlock.toList ++ vB.ownBlock.toList)) w1 v) ∧ Hid (Chw w.heap.size g7 n k vA vB A B a b (L.getD 4 false) (L.getD 9 false) (L.getD 11 false) (L.getD 13 false) x33 x38 v) ∧ (L.getD 1 false = true → x30 = vA) ∧ (L.getD 3 false = true → One w1.heap.size v x32 a) ∧ (L.getD 6 false = true → x35 = vB) ∧ (L.getD 8 false = true → One w1.heap.size v x37 b) ∧ (L.getD 10 false = true → x39 = .pointer (some ⟨g7, 2, none⟩)) ∧ (L.getD 12 false = true → x40 = .pointer (some ⟨g7, 3, none⟩)) ∧ (L.getD 11 false = true → L.getD 1 false = true ∧ L.getD 4 false = true) ∧ (L.getD 13 false = true → L.getD 6 false = true ∧ L.getD 9 false = true)) ?hord ?hstep ?hend 10 _ _ (by kernel_rfl) (by kernel_rfl) ?hstart
      case hord => exact ord_of (by kernel_rfl)
      case hstart => exact ⟨u30, u32, u33, u35, u37, u38, u39, u40, (by simp only [Act.put, List.setIfInBounds_toArray, List.set_cons_zero, List.set_cons_succ]), ⟨rfl, rfl, rfl, rfl⟩, Lib.hid ((Kept.refl _ w1).drew), Lib.hid ⟨CH0.out.rA, CH0.out.rB, CH0.out.ne, CH0.out.g⟩, (fun h => absurd (show false = true from h) (by decide)), (fun h => absurd (show false = true from h) (by decide)), (fun h => absurd (show false = true from h) (by decide)), (fun h => absurd (show false = true from h) (by decide)), (fun h => absurd (show false = true from h) (by decide)), (fun h => absurd (show false = true from h) (by decide)), (fun h => absurd (show false = true from h) (by decide)), (fun h => absurd (show false = true from h) (by decide))⟩
      case hstep =>
        intro L a' v i o hsz0 hInv ho hun hd
        obtain ⟨x30, x32, x33, x35, x37, x38, x39, x40, rfl, ⟨r0, r2, r5, r7⟩, HK, HC, f1, f3, f6, f8, f10, f12, s11, s13⟩ := hInv
        clear hsz0
        simp only [Act.put, List.setIfInBounds_toArray, List.set_cons_zero, List.set_cons_succ]
        have hi : i < 14 := (Array.getElem?_eq_some_iff.1 ho).1
        obtain rfl | rfl | rfl | rfl | rfl | rfl | rfl | rfl | rfl | rfl | rfl | rfl | rfl | rfl : i = 0 ∨ i = 1 ∨ i = 2 ∨ i = 3 ∨ i = 4 ∨ i = 5 ∨ i = 6 ∨ i = 7 ∨ i = 8 ∨ i = 9 ∨ i = 10 ∨ i = 11 ∨ i = 12 ∨ i = 13 := by omega
        · exact (getD_flip r0 hun).elim
        · clear hi
          have h11 : L.getD 11 false = false := by
            cases h : L.getD 11 false with
            | false => rfl
            | true => exact (getD_flip (s11 h).1 hun).elim
          have c0 := HC.out.g.cell 2
          rw [h11] at c0
          simp only [cond_false, List.getElem?_cons_zero, List.getElem?_cons_succ] at c0
          have hkk := Lib.hid (Kept.refl [] v)
          refine wpOp_step rfl (fun K hK => ?_)
          replace hK := Lib.hid hK
          clear ho hd
          go_simp
          exact hK.out _ _ ⟨trivial, vA, x32, x33, x35, x37, x38, x39, x40, (by first | (simp only [Act.put, List.setIfInBounds_toArray, List.set_cons_zero, List.set_cons_succ]; done) | (trace_state; rfl)), ⟨set_yes r0, set_yes r2, set_yes r5, set_yes r7⟩, Lib.hid (HK.out.trans ((Kept.mono hkk.out (by simp)))), Lib.hid (by rw [getD_set_ne false (show 1 ≠ 4 by decide), getD_set_ne false (show 1 ≠ 9 by decide), getD_set_ne false (show 1 ≠ 11 by decide), getD_set_ne false (show 1 ≠ 13 by decide)]; exact HC.out.kept0 hkk.out), fun _ => rfl, set_ne (by decide) (fun h => (f3 h).kept hkk.out (by simp)), set_ne (by decide) f6, set_ne (by decide) (fun h => (f8 h).kept hkk.out (by simp)), set_ne (by decide) f10, set_ne (by decide) f12, set_ne (by decide) (fun h => ⟨set_yes (s11 h).1, set_yes (s11 h).2⟩), set_ne (by decide) (fun h => ⟨set_yes (s13 h).1, set_yes (s13 h).2⟩)⟩
        · exact (getD_flip r2 hun).elim
        · clear hi
          have hkk := Lib.hid ((Kept.refl [] v).alloc (.cells #[vI a] 2))
          have hsz := HK.out.size
          refine wpOp_step rfl (fun K hK => ?_)
          replace hK := Lib.hid hK
          clear ho hd
          go_simp
          exact hK.out _ _ ⟨trivial, x30, (.slice (some ⟨v.heap.size, 0, none⟩) 1 1), x33, x35, x37, x38, x39, x40, (by first | (simp only [Act.put, List.setIfInBounds_toArray, List.set_cons_zero, List.set_cons_succ]; done) | (trace_state; rfl)), ⟨set_yes r0, set_yes r2, set_yes r5, set_yes r7⟩, Lib.hid (HK.out.trans ((Kept.mono hkk.out (by simp)))), Lib.hid (by rw [getD_set_ne false (show 3 ≠ 4 by decide), getD_set_ne false (show 3 ≠ 9 by decide), getD_set_ne false (show 3 ≠ 11 by decide), getD_set_ne false (show 3 ≠ 13 by decide)]; exact HC.out.kept0 hkk.out), set_ne (by decide) f1, fun _ => ⟨v.heap.size, rfl, Blk.new v 2 [vI a], hsz⟩, set_ne (by decide) f6, set_ne (by decide) (fun h => (f8 h).kept hkk.out (by simp)), set_ne (by decide) f10, set_ne (by decide) f12, set_ne (by decide) (fun h => ⟨set_yes (s11 h).1, set_yes (s11 h).2⟩), set_ne (by decide) (fun h => ⟨set_yes (s13 h).1, set_yes (s13 h).2⟩)⟩
        · clear hi
          have q1 := (f1 (dep_of ho hd 1 (by kernel_rfl))).symm
          obtain ⟨gq, q3, hbq, hgq⟩ := f3 (dep_of ho hd 3 (by kernel_rfl))
          subst q1 q3
          have hu := getD_not hun
          have hst : L.getD 11 false = false := by
            cases h : L.getD 11 false with
            | false => rfl
            | true => exact (getD_flip (s11 h).2 hun).elim
          have HC0 := HC
          rw [hu, hst] at HC
          have hsz := HK.out.size
          have hsz2 := K0.out.size
          refine wpOp_step rfl (fun K hK => ?_)
          replace hK := Lib.hid hK
          clear ho hd
          refine step_app _ rfl (.tmp 30) (.tmp 32) _ rfl 2 (.int .i64 0) 1 8 Tryz.underlying29 infoI64 rfl (by decide) w.heap.size vA k _ rfl HC.out.rA (some ⟨gq, 0, none⟩) 1 1 [vI a] rfl rfl (Reads.of_blk hbq (fun _ _ h => h)) (by simp [Value.oneCell']) (by omega) (by unfold maxLen; omega) (by omega) ?_
          intro va wa howna hka hba
          have hnew := Lib.hid (HC.out.growA rfl howna hka hba)
          have HLO := Lib.hid (fun q hq => OWNA.out q (by simpa using hq) : ∀ q ∈ vA.ownBlock.toList, q < w1.heap.size)
          have HKN := Lib.hid (HK.out.then hka (fun q hq => .inl (by simp at hq ⊢; simp [hq])))
          have HKA := Lib.hid hka
          clear hka hba howna
          go_simp
          exact hK.out _ _ ⟨trivial, vA, (.slice (some ⟨gq, 0, none⟩) 1 1), va, x35, x37, x38, x39, x40, (by first | (simp only [Act.put, List.setIfInBounds_toArray, List.set_cons_zero, List.set_cons_succ]; done) | (trace_state; rfl)), ⟨set_yes r0, set_yes r2, set_yes r5, set_yes r7⟩, Lib.hid (HKN.out), Lib.hid (by rw [getD_hit hun, getD_set_ne false (show 4 ≠ 9 by decide), getD_set_ne false (show 4 ≠ 11 by decide), getD_set_ne false (show 4 ≠ 13 by decide), hst]; exact hnew.out), set_ne (by decide) f1, set_ne (by decide) (fun h => (f3 h).kept HKA.out HLO.out), set_ne (by decide) f6, set_ne (by decide) (fun h => (f8 h).kept HKA.out HLO.out), set_ne (by decide) f10, set_ne (by decide) f12, set_ne (by decide) (fun h => ⟨set_yes (s11 h).1, set_yes (s11 h).2⟩), set_ne (by decide) (fun h => ⟨set_yes (s13 h).1, set_yes (s13 h).2⟩)⟩
        · exact (getD_flip r5 hun).elim
        · clear hi
          have h13 : L.getD 13 false = false := by
            cases h : L.getD 13 false with
            | false => rfl
            | true => exact (getD_flip (s13 h).1 hun).elim
          have c0 := HC.out.g.cell 3
          rw [h13] at c0
          simp only [cond_false, List.getElem?_cons_zero, List.getElem?_cons_succ] at c0
          have hkk := Lib.hid (Kept.refl [] v)
          refine wpOp_step rfl (fun K hK => ?_)
          replace hK := Lib.hid hK
          clear ho hd
          go_simp
          exact hK.out _ _ ⟨trivial, x30, x32, x33, vB, x37, x38, x39, x40, (by first | (simp only [Act.put, List.setIfInBounds_toArray, List.set_cons_zero, List.set_cons_succ]; done) | (trace_state; rfl)), ⟨set_yes r0, set_yes r2, set_yes r5, set_yes r7⟩, Lib.hid (HK.out.trans ((Kept.mono hkk.out (by simp)))), Lib.hid (by rw [getD_set_ne false (show 6 ≠ 4 by decide), getD_set_ne false (show 6 ≠ 9 by decide), getD_set_ne false (show 6 ≠ 11 by decide), getD_set_ne false (show 6 ≠ 13 by decide)]; exact HC.out.kept0 hkk.out), set_ne (by decide) f1, set_ne (by decide) (fun h => (f3 h).kept hkk.out (by simp)), fun _ => rfl, set_ne (by decide) (fun h => (f8 h).kept hkk.out (by simp)), set_ne (by decide) f10, set_ne (by decide) f12, set_ne (by decide) (fun h => ⟨set_yes (s11 h).1, set_yes (s11 h).2⟩), set_ne (by decide) (fun h => ⟨set_yes (s13 h).1, set_yes (s13 h).2⟩)⟩
        · exact (getD_flip r7 hun).elim
        · clear hi
          have hkk := Lib.hid ((Kept.refl [] v).alloc (.cells #[vI b] 2))
          have hsz := HK.out.size
          refine wpOp_step rfl (fun K hK => ?_)
          replace hK := Lib.hid hK
          clear ho hd
          go_simp
          exact hK.out _ _ ⟨trivial, x30, x32, x33, x35, (.slice (some ⟨v.heap.size, 0, none⟩) 1 1), x38, x39, x40, (by first | (simp only [Act.put, List.setIfInBounds_toArray, List.set_cons_zero, List.set_cons_succ]; done) | (trace_state; rfl)), ⟨set_yes r0, set_yes r2, set_yes r5, set_yes r7⟩, Lib.hid (HK.out.trans ((Kept.mono hkk.out (by simp)))), Lib.hid (by rw [getD_set_ne false (show 8 ≠ 4 by decide), getD_set_ne false (show 8 ≠ 9 by decide), getD_set_ne false (show 8 ≠ 11 by decide), getD_set_ne false (show 8 ≠ 13 by decide)]; exact HC.out.kept0 hkk.out), set_ne (by decide) f1, set_ne (by decide) (fun h => (f3 h).kept hkk.out (by simp)), set_ne (by decide) f6, fun _ => ⟨v.heap.size, rfl, Blk.new v 2 [vI b], hsz⟩, set_ne (by decide) f10, set_ne (by decide) f12, set_ne (by decide) (fun h => ⟨set_yes (s11 h).1, set_yes (s11 h).2⟩), set_ne (by decide) (fun h => ⟨set_yes (s13 h).1, set_yes (s13 h).2⟩)⟩
        · clear hi
          have q1 := (f6 (dep_of ho hd 6 (by kernel_rfl))).symm
          obtain ⟨gq, q3, hbq, hgq⟩ := f8 (dep_of ho hd 8 (by kernel_rfl))
          subst q1 q3
          have hu := getD_not hun
          have hst : L.getD 13 false = false := by
            cases h : L.getD 13 false with
            | false => rfl
            | true => exact (getD_flip (s13 h).2 hun).elim
          have HC0 := HC
          rw [hu, hst] at HC
          have hsz := HK.out.size
          have hsz2 := K0.out.size
          refine wpOp_step rfl (fun K hK => ?_)
          replace hK := Lib.hid hK
          clear ho hd
          refine step_app _ rfl (.tmp 35) (.tmp 37) _ rfl 2 (.int .i64 0) 1 8 Tryz.underlying29 infoI64 rfl (by decide) w.heap.size vB k _ rfl HC.out.rB (some ⟨gq, 0, none⟩) 1 1 [vI b] rfl rfl (Reads.of_blk hbq (fun _ _ h => h)) (by simp [Value.oneCell']) (by omega) (by unfold maxLen; omega) (by omega) ?_
          intro va wa howna hka hba
          have hnew := Lib.hid (HC.out.growB rfl howna hka hba)
          have HLO := Lib.hid (fun q hq => OWNB.out q (by simpa using hq) : ∀ q ∈ vB.ownBlock.toList, q < w1.heap.size)
          have HKN := Lib.hid (HK.out.then hka (fun q hq => .inl (by simp at hq ⊢; simp [hq])))
          have HKA := Lib.hid hka
          clear hka hba howna
          go_simp
          exact hK.out _ _ ⟨trivial, x30, x32, x33, vB, (.slice (some ⟨gq, 0, none⟩) 1 1), va, x39, x40, (by first | (simp only [Act.put, List.setIfInBounds_toArray, List.set_cons_zero, List.set_cons_succ]; done) | (trace_state; rfl)), ⟨set_yes r0, set_yes r2, set_yes r5, set_yes r7⟩, Lib.hid (HKN.out), Lib.hid (by rw [getD_set_ne false (show 9 ≠ 4 by decide), getD_hit hun, getD_set_ne false (show 9 ≠ 11 by decide), getD_set_ne false (show 9 ≠ 13 by decide), hst]; exact hnew.out), set_ne (by decide) f1, set_ne (by decide) (fun h => (f3 h).kept HKA.out HLO.out), set_ne (by decide) f6, set_ne (by decide) (fun h => (f8 h).kept HKA.out HLO.out), set_ne (by decide) f10, set_ne (by decide) f12, set_ne (by decide) (fun h => ⟨set_yes (s11 h).1, set_yes (s11 h).2⟩), set_ne (by decide) (fun h => ⟨set_yes (s13 h).1, set_yes (s13 h).2⟩)⟩
        · clear hi
          have hkk := Lib.hid (Kept.refl [] v)
          refine wpOp_step rfl (fun K hK => ?_)
          replace hK := Lib.hid hK
          clear ho hd
          go_simp
          exact hK.out _ _ ⟨trivial, x30, x32, x33, x35, x37, x38, .pointer (some ⟨g7, 2, none⟩), x40, (by first | (simp only [Act.put, List.setIfInBounds_toArray, List.set_cons_zero, List.set_cons_succ]; done) | (trace_state; rfl)), ⟨set_yes r0, set_yes r2, set_yes r5, set_yes r7⟩, Lib.hid (HK.out.trans ((Kept.mono hkk.out (by simp)))), Lib.hid (by rw [getD_set_ne false (show 10 ≠ 4 by decide), getD_set_ne false (show 10 ≠ 9 by decide), getD_set_ne false (show 10 ≠ 11 by decide), getD_set_ne false (show 10 ≠ 13 by decide)]; exact HC.out.kept0 hkk.out), set_ne (by decide) f1, set_ne (by decide) (fun h => (f3 h).kept hkk.out (by simp)), set_ne (by decide) f6, set_ne (by decide) (fun h => (f8 h).kept hkk.out (by simp)), fun _ => rfl, set_ne (by decide) f12, set_ne (by decide) (fun h => ⟨set_yes (s11 h).1, set_yes (s11 h).2⟩), set_ne (by decide) (fun h => ⟨set_yes (s13 h).1, set_yes (s13 h).2⟩)⟩
        · clear hi
          have qf := f10 (dep_of ho hd 10 (by kernel_rfl))
          have q4 := Lib.hid (dep_of ho hd 4 (by kernel_rfl))
          have q1 := Lib.hid (dep_of ho hd 1 (by kernel_rfl))
          subst qf
          have hu := getD_not hun
          have HC0 := HC
          rw [q4.out, hu] at HC
          obtain ⟨Ax, cx, hx⟩ := own_n HC.out.rA
          simp only [cond_true] at hx
          subst hx
          have c0 := HC.out.g.cell 2
          have fz := HC.out.g.frozen 2
          have lt := HC.out.g.lt
          simp only [cond_false, List.getElem?_cons_zero, List.getElem?_cons_succ] at c0
          have hkg := (Kept.refl [g7] v).setCell (p := ⟨g7, 2, none⟩) (.inl (by simp)) (.slice Ax (k + 1) cx)
          have HKA := Lib.hid hkg
          have hnew := Lib.hid HC.out.setA
          have HKN := Lib.hid (HK.out.then hkg (fun q hq => .inl (by simp at hq; subst hq; simp)))
          have HLO := Lib.hid (fun q hq => by simp at hq; subst hq; exact HGZ.out : ∀ q ∈ [g7], q < w1.heap.size)
          clear hkg
          refine wpOp_step rfl (fun K hK => ?_)
          replace hK := Lib.hid hK
          clear ho hd
          go_simp
          exact hK.out _ _ ⟨trivial, x30, x32, (.slice Ax (k + 1) cx), x35, x37, x38, (.pointer (some ⟨g7, 2, none⟩)), x40, (by first | (simp only [Act.put, List.setIfInBounds_toArray, List.set_cons_zero, List.set_cons_succ]; done) | (trace_state; rfl)), ⟨set_yes r0, set_yes r2, set_yes r5, set_yes r7⟩, Lib.hid (HKN.out), Lib.hid (by rw [getD_set_ne false (show 11 ≠ 4 by decide), getD_set_ne false (show 11 ≠ 9 by decide), getD_hit hun, getD_set_ne false (show 11 ≠ 13 by decide), q4.out]; exact hnew.out), set_ne (by decide) f1, set_ne (by decide) (fun h => (f3 h).kept HKA.out HLO.out), set_ne (by decide) f6, set_ne (by decide) (fun h => (f8 h).kept HKA.out HLO.out), set_ne (by decide) f10, set_ne (by decide) f12, fun _ => ⟨set_yes q1.out, set_yes q4.out⟩, set_ne (by decide) (fun h => ⟨set_yes (s13 h).1, set_yes (s13 h).2⟩)⟩
        · clear hi
          have hkk := Lib.hid (Kept.refl [] v)
          refine wpOp_step rfl (fun K hK => ?_)
          replace hK := Lib.hid hK
          clear ho hd
          go_simp
          exact hK.out _ _ ⟨trivial, x30, x32, x33, x35, x37, x38, x39, .pointer (some ⟨g7, 3, none⟩), (by first | (simp only [Act.put, List.setIfInBounds_toArray, List.set_cons_zero, List.set_cons_succ]; done) | (trace_state; rfl)), ⟨set_yes r0, set_yes r2, set_yes r5, set_yes r7⟩, Lib.hid (HK.out.trans ((Kept.mono hkk.out (by simp)))), Lib.hid (by rw [getD_set_ne false (show 12 ≠ 4 by decide), getD_set_ne false (show 12 ≠ 9 by decide), getD_set_ne false (show 12 ≠ 11 by decide), getD_set_ne false (show 12 ≠ 13 by decide)]; exact HC.out.kept0 hkk.out), set_ne (by decide) f1, set_ne (by decide) (fun h => (f3 h).kept hkk.out (by simp)), set_ne (by decide) f6, set_ne (by decide) (fun h => (f8 h).kept hkk.out (by simp)), set_ne (by decide) f10, fun _ => rfl, set_ne (by decide) (fun h => ⟨set_yes (s11 h).1, set_yes (s11 h).2⟩), set_ne (by decide) (fun h => ⟨set_yes (s13 h).1, set_yes (s13 h).2⟩)⟩
        · clear hi
          have qf := f12 (dep_of ho hd 12 (by kernel_rfl))
          have q9 := Lib.hid (dep_of ho hd 9 (by kernel_rfl))
          have q6 := Lib.hid (dep_of ho hd 6 (by kernel_rfl))
          subst qf
          have hu := getD_not hun
          have HC0 := HC
          rw [q9.out, hu] at HC
          obtain ⟨Ax, cx, hx⟩ := own_n HC.out.rB
          simp only [cond_true] at hx
          subst hx
          have c0 := HC.out.g.cell 3
          have fz := HC.out.g.frozen 3
          have lt := HC.out.g.lt
          simp only [cond_false, List.getElem?_cons_zero, List.getElem?_cons_succ] at c0
          have hkg := (Kept.refl [g7] v).setCell (p := ⟨g7, 3, none⟩) (.inl (by simp)) (.slice Ax (k + 1) cx)
          have HKA := Lib.hid hkg
          have hnew := Lib.hid HC.out.setB
          have HKN := Lib.hid (HK.out.then hkg (fun q hq => .inl (by simp at hq; subst hq; simp)))
          have HLO := Lib.hid (fun q hq => by simp at hq; subst hq; exact HGZ.out : ∀ q ∈ [g7], q < w1.heap.size)
          clear hkg
          refine wpOp_step rfl (fun K hK => ?_)
          replace hK := Lib.hid hK
          clear ho hd
          go_simp
          exact hK.out _ _ ⟨trivial, x30, x32, x33, x35, x37, (.slice Ax (k + 1) cx), x39, (.pointer (some ⟨g7, 3, none⟩)), (by first | (simp only [Act.put, List.setIfInBounds_toArray, List.set_cons_zero, List.set_cons_succ]; done) | (trace_state; rfl)), ⟨set_yes r0, set_yes r2, set_yes r5, set_yes r7⟩, Lib.hid (HKN.out), Lib.hid (by rw [getD_set_ne false (show 13 ≠ 4 by decide), getD_set_ne false (show 13 ≠ 9 by decide), getD_set_ne false (show 13 ≠ 11 by decide), getD_hit hun, q9.out]; exact hnew.out), set_ne (by decide) f1, set_ne (by decide) (fun h => (f3 h).kept HKA.out HLO.out), set_ne (by decide) f6, set_ne (by decide) (fun h => (f8 h).kept HKA.out HLO.out), set_ne (by decide) f10, set_ne (by decide) f12, set_ne (by decide) (fun h => ⟨set_yes (s11 h).1, set_yes (s11 h).2⟩), fun _ => ⟨set_yes q6.out, set_yes q9.out⟩⟩
      case hend =>
        intro L a' v hInv hall
        obtain ⟨x30, x32, x33, x35, x37, x38, x39, x40, rfl, -, HK, HC, -, -, -, -, -, -, -, -⟩ := hInv
        rw [hall 4 (by decide), hall 9 (by decide), hall 11 (by decide), hall 13 (by decide)] at HC
        clear hall hHeld
        simp only [Act.put, List.setIfInBounds_toArray, List.set_cons_zero, List.set_cons_succ]
        have HLK := Lib.hid (own_kept HL.out HK.out (fun q hq hm => by
          simp only [List.mem_cons, List.mem_append, Option.mem_toList] at hm
          rcases hm with rfl | hm | hm
          · exact own_ne_blk HL.out HCW.out.g (by decide) hq
          · exact own_unlike HL.out HCW.out.rA (by decide) q hq hm
          · exact own_unlike HL.out HCW.out.rB (by decide) q hq hm))
        have HZK := Lib.hid (HZ.out.kept HK.out (fun hm => by
          simp only [List.mem_cons, List.mem_append, Option.mem_toList] at hm
          rcases hm with rfl | hm | hm
          · exact HG7.out.2 rfl
          · exact own_ne_blk HCW.out.rA HZ.out (by decide) hm
          · exact own_ne_blk HCW.out.rB HZ.out (by decide) hm))
        have HNX := Lib.hid HC.out.next
        replace K0 := Lib.hid (K0.out.then HK.out (fun q hq => by
          simp only [List.mem_cons, List.mem_append, Option.mem_toList] at hq
          rcases hq with rfl | hq | hq
          · exact .inr HG7.out.1
          · exact .inr (HCW.out.rA.lt q hq).1
          · exact .inr (HCW.out.rB.lt q hq).1))
        replace HL := HLK
        replace HZ := HZK
        clear HCW HLK HZK HK HC OWNA OWNB HGZ CH0
        obtain ⟨Al, cl, rfl⟩ := own_n HL.out
        have hsz := K0.out.size
        cases f with
        | true =>
          have hy := HY.out rfl
          have HY2 := Lib.hid hy
          clear HY HN hy
          go_wp2_with (at_builtin; refine wpList_app _ rfl (.tmp 42) (.tmp 44) _ rfl 3 (.int .i64 0) 1 8 Tryz.underlying28 infoInt rfl (by decide) w.heap.size (.slice Al M.length cl) M.length _ rfl (HL.out.alloc _) (some ⟨_, 0, none⟩) 1 1 [vI (k : Int)] rfl rfl (Reads.of_blk (Blk.new _ _ _) (fun _ _ h => h)) (by simp [Value.oneCell']) (by omega) (by unfold maxLen; omega) (by simp; omega) ?_; intro va wa howna hka hba; have HOa := Lib.hid howna; have Fa := Lib.hid (((KeptB.refl w.heap.size [3] v).alloc _).app hka (HL.out.alloc _) (by decide)); clear howna hka hba)
          go_roundw
          case rel =>
            refine ⟨k + 1, by omega, by go_num, x33, x38, by rw [HRA.out, HRB.out]; exact Lib.hid (HNX.out.keptB Fa.out (by decide) (by decide)), Lib.hid ?_, Lib.hid (HZ.out.keptB Fa.out (by decide)), Lib.hid (K0.out.thenB Fa.out (Nat.le_refl _))⟩
            rw [HY2.out, List.length_append, List.map_append]
            exact HOa.out
          case measure => simp [intOf]; omega
        | false =>
          have hy := HN.out rfl
          have HY2 := Lib.hid hy
          clear HY HN hy
          go_wp2_with fail
          go_roundw
          case rel => exact ⟨k + 1, by omega, by go_num, x33, x38, by rw [HRA.out, HRB.out]; exact HNX, by rw [HY2.out]; exact HL, HZ, K0⟩
          case measure => simp [intOf]; omega
    · obtain rfl : k = n := by omega
      obtain ⟨Al, cl, rfl⟩ := own_n HL.out
      have HCL := Lib.hid hml
      go_wp2_with fail
      refine (fOf_any k hn (onL fo k) Al cl _ (by omega) (onL_in fo k) (Reads.of_own HL.out)).mono ?_
      rintro _ w5 ⟨vO, rfl, ho, hk5⟩
      have HO := Lib.hid (own_base ho K0.out.size)
      replace HCW := Lib.hid (HCW.out.kept0 hk5)
      replace HZ := Lib.hid (HZ.out.kept hk5 (by simp))
      replace K0 := Lib.hid (K0.out.trans hk5)
      clear ho hk5 HL
      obtain ⟨Ao, co, rfl⟩ := own_n HO.out
      have HA := Lib.hid (show w5.ownsRow w.heap.size 2 1 vA k (((List.range k).map fa).map vI) from HCW.out.rA)
      have HB := Lib.hid (show w5.ownsRow w.heap.size 2 1 vB k (((List.range k).map fb).map vI) from HCW.out.rB)
      have HG := Lib.hid (show Blk w5 g7 61 [.int .i64 0, .int .i64 (k : Int), vA, vB, .slice none 0 0] from HCW.out.g)
      clear HCW
      obtain ⟨Aa, ca, rfl⟩ := own_n HA.out
      obtain ⟨Ab, cb, rfl⟩ := own_n HB.out
      have f4 := HG.out.frozen 4
      have d4 := HG.out.cell 4
      have l4 := HG.out.lt
      simp only [List.getElem?_cons_zero, List.getElem?_cons_succ] at d4
      go_upto_region 12 with (fail)
      have ko := (Kept.refl [g7] w5).setCell (p := ⟨g7, 4, none⟩) (.inl (by simp)) (.slice Ao (wordsN k) co)
      have fo2 : KeptB w.heap.size [61] w5 (w5.setCell ⟨g7, 4, none⟩ (.slice Ao (wordsN k) co)) := (KeptB.refl _ _ w5).step ko (fun u hu => by simp at hu; subst hu; exact ⟨HG7.out.1, _, _, _, HG.out, by simp⟩)
      replace HA := Lib.hid (own_keptB HA.out fo2 (by decide))
      replace HB := Lib.hid (own_keptB HB.out fo2 (by decide))
      replace HO := Lib.hid (own_keptB HO.out fo2 (by decide))
      replace HZ := Lib.hid (HZ.out.kept ko (by simp; exact HG7.out.2))
      replace HG := Lib.hid (HG.out.set 4 (.slice Ao (wordsN k) co))
      simp only [List.set_cons_zero, List.set_cons_succ] at HG
      replace K0 := Lib.hid (K0.out.thenB fo2 (Nat.le_refl _))
      clear ko fo2 f4 d4 l4
      generalize w5.setCell ⟨g7, 4, none⟩ (.slice Ao (wordsN k) co) = w6 at *
      go_wp2_with (first | (refine wpList_loadBlk rfl 61 (.tmp 7) rfl g7 [.int .i64 0, .int .i64 (k : Int), .slice Aa k ca, .slice Ab k cb, .slice Ao (wordsN k) co] _ HG.out rfl Tryz.underlying61 rfl infoState ?_) | (refine wpList_storeBlk rfl 61 (.tmp 6) (.tmp 51) rfl gz _ [.int .i64 0, .int .i64 (k : Int), .slice Aa k ca, .slice Ab k cb, .slice Ao (wordsN k) co] HZ.out rfl rfl rfl infoState (by simp [Value.oneCell']) ?_; intro w8 hb8 hk8))
      have e0 := hb8.cell 0
      have e1 := hb8.cell 1
      have e2 := hb8.cell 2
      have e3 := hb8.cell 3
      have e4 := hb8.cell 4
      simp only [List.getElem?_cons_zero, List.getElem?_cons_succ] at e0 e1 e2 e3 e4
      refine bodyPost_ret (v := .agg #[.int .i64 0, .int .i64 (k : Int), .slice Aa k ca, .slice Ab k cb, .slice Ao (wordsN k) co]) (by simp [results, Tryz.results113, go_sem, e0, e1, e2, e3, e4]) rfl ?_
      rw [HPOST.out]
      have f8 : KeptB w.heap.size [61] w6 w8 := (KeptB.refl _ _ w6).step (L := [gz]) hk8 (fun u hu => by simp at hu; subst hu; exact ⟨HGE.out, _, _, _, HZ.out, by simp⟩)
      exact ⟨_, _, _, rfl, ⟨own_keptB HA.out f8 (by decide), own_keptB HB.out f8 (by decide), own_keptB HO.out f8 (by decide)⟩, K0.out.thenB f8 (Nat.le_refl _)⟩
end Go.Proofs.YtblfingmdipopaaGreat
