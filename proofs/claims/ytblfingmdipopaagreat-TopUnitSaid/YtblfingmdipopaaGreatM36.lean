/- pull.asked hands back an iterator over the rows that are asked. Conditions: fewer than 61 rows. -/
import Derived.Test.YtblfingmdipopaaGreatM35
namespace Go.Proofs.YtblfingmdipopaaGreat
set_option linter.unusedSimpArgs false
set_option linter.unusedVariables false
open Go.ChangeShapes Go.WideShapes Go.ChangeAt Go.RowKit
open Go.RowKit (wrap32 wrap64)
set_option maxHeartbeats 8000000
open Go.Shelf
attribute [local go_sem] Oper.semAt_some
/-- Has a set (or none) a place? It may be asked as long as the blocks below k₀ are kept. -/
def AskB (k₀ : Nat) (w : World) (A : Option Addr) (k c : Nat) (q : Nat → Bool) (n : Nat) : Prop := ∀ w', Below k₀ w w' → ∀ i, i < n → Calls Tryz.prog 97 #[.slice A k c, .int .i64 i] w' fun e w'' => e = .returned (.bool (q i)) ∧ ∃ d, w'' = w'.drewN d
theorem AskB.go {k₀ k c : Nat} {w w' : World} {A : Option Addr} {q : Nat → Bool} {n : Nat} (h : AskB k₀ w A k c q n) (hk : Below k₀ w w') : AskB k₀ w' A k c q n := fun w2 k2 => h w2 (hk.trans k2)
theorem askB_nil (k₀ : Nat) (w : World) (c n : Nat) (hn : n ≤ 64) : AskB k₀ w none 0 c (fun _ => false) n := fun w' _ i hi => fHas_nil i c w' (by omega)
theorem askB_one {w : World} {A : Option Addr} {N b c : Nat} (hN : N ≤ 60) (hb : b < 2 ^ N) (hr : Reads w A (bitsV N b)) : AskB w.heap.size w A (wordsN N) c (fun i => b.testBit i) N := fun w' hk i hi => fHas_w N b i A c w' hN hb hi (hr.kept0 (Kept.of_below hk []))
/-- What a body keeps: the blocks below k₀, and three more. -/
structure KpA (k₀ g1 g2 g3 : Nat) (X Y : World) : Prop where
  b : Below k₀ X Y
  s1 : Y.heap[g1]? = X.heap[g1]?
  s2 : Y.heap[g2]? = X.heap[g2]?
  s3 : Y.heap[g3]? = X.heap[g3]?
theorem KpA.refl (k₀ g1 g2 g3 : Nat) (X : World) : KpA k₀ g1 g2 g3 X X := ⟨Below.refl _ X, rfl, rfl, rfl⟩
theorem KpA.trans {k₀ g1 g2 g3 : Nat} {X Y Z : World} (h : KpA k₀ g1 g2 g3 X Y) (k : KpA k₀ g1 g2 g3 Y Z) : KpA k₀ g1 g2 g3 X Z := ⟨h.b.trans k.b, k.s1.trans h.s1, k.s2.trans h.s2, k.s3.trans h.s3⟩
theorem KpA.drewN {k₀ g1 g2 g3 : Nat} {X Y : World} (h : KpA k₀ g1 g2 g3 X Y) (d : Nat) : KpA k₀ g1 g2 g3 X (Y.drewN d) := ⟨⟨h.b.os, h.b.tape, h.b.output, h.b.size, h.b.block⟩, h.s1, h.s2, h.s3⟩
section
variable {F : Fence} {n : Nat} {P : Program} {md : Region.Mode} {ops : Array Oper} {Q : Exit → Act → World → Prop}
theorem takeNoIn {i d : Nat} {oi : Oper} {fuel : Nat} {listed : Array Bool} {T : Array Value} {D : List Deferred} {w : World} (hro : F.round = none) (hi : ops[i]? = some oi) (hd : oi.dst = some d)
    (hs : Region.noSelect ops = true) (hf : Region.free md ops listed i = true) (hr : (Region.ready md ops listed).contains i = true)
    (hQ : ∀ c a w, Q (.panic c) (a.put oi.dst undef) w → Q (.panic c) a w) (hw : Region.wanted oi (yielded ops T) = false) (ha : ∀ w, oi.about P w (Act.eval ⟨T, D⟩) = none)
    (h : wpAnyIn F n P md ops Q fuel (listed.setIfInBounds i true) ⟨T.setIfInBounds d undef, D⟩ w) : wpAnyIn F n P md ops Q (fuel + 1) listed ⟨T, D⟩ w :=
  wpAnyIn_take hro hi hs hf hr hQ ⟨.inr ⟨hw, rfl⟩, ha⟩ (by rw [hd]; exact h)
end
/-- What yield is handed: a row. -/
abbrev encM {n : Nat} (x : Fin n) : Array Value := #[.int .i64 ((x.1 : Nat) : Int)]
/-- The rows below j that are asked. -/
def askL (n : Nat) (q : Nat → Bool) (oth : Bool) : Nat → List (Fin n)
  | 0 => []
  | j + 1 => askL n q oth j ++ (if h : j < n then (if (q j != oth) = true then [⟨j, h⟩] else []) else [])
theorem askL_yes {n : Nat} {q : Nat → Bool} {oth : Bool} {j : Nat} (hj : j < n) (h : (q j != oth) = true) : askL n q oth (j + 1) = askL n q oth j ++ [⟨j, hj⟩] := by
  show askL n q oth j ++ _ = _
  rw [dif_pos hj, if_pos h]
theorem askL_no {n : Nat} {q : Nat → Bool} {oth : Bool} {j : Nat} (h : (q j != oth) = false) : askL n q oth (j + 1) = askL n q oth j := by
  show askL n q oth j ++ _ = _
  split
  · rw [if_neg (by rw [h]; decide), List.append_nil]
  · rw [List.append_nil]
theorem askL_pre (n : Nat) (q : Nat → Bool) (oth : Bool) (j : Nat) : ∀ d, ∃ zs, askL n q oth (j + d) = askL n q oth j ++ zs
  | 0 => ⟨[], by simp⟩
  | d + 1 => by
    obtain ⟨zs, h⟩ := askL_pre n q oth j d
    refine ⟨zs ++ (if h : j + d < n then (if (q (j + d) != oth) = true then [⟨j + d, h⟩] else []) else []), ?_⟩
    show askL n q oth (j + d) ++ _ = _
    rw [h, List.append_assoc]
    rfl
theorem askL_pre2 (q : Nat → Bool) (oth : Bool) {n j : Nat} (h : j ≤ n) : ∃ zs, askL n q oth n = askL n q oth j ++ zs := by
  obtain ⟨d, rfl⟩ := Nat.exists_eq_add_of_le h
  exact askL_pre _ q oth j d
/-- The same as plain numbers. -/
theorem askL_nat (n : Nat) (q : Nat → Bool) (oth : Bool) : ∀ j, j ≤ n → (askL n q oth j).map (·.1) = (List.range j).filter (fun i => q i != oth)
  | 0, _ => rfl
  | j + 1, hj => by
    show (askL n q oth j ++ _).map _ = _
    rw [List.map_append, askL_nat n q oth j (by omega), dif_pos (by omega), List.range_succ, List.filter_append]
    by_cases h : (q j != oth) = true
    · rw [if_pos h]
      simp [h]
    · rw [if_neg h]
      simp [h]
theorem blk_lt {w : World} {g : Nat} {t : Nat} {cs : List Value} (h : Blk w g t cs) : g < w.heap.size := by
  rcases Nat.lt_or_ge g w.heap.size with hl | hl
  · exact hl
  · exact absurd (show w.heap[g]? = some _ from h) (by rw [Array.getElem?_eq_none hl]; simp)
set_option maxRecDepth 100000 in
theorem asked1_stops (k₀ m : Nat) (hm : 3 ≤ m) (n gN gF gO k c : Nat) (A : Option Addr) (q : Nat → Bool) (oth : Bool) (w : World) (hn : n ≤ 4096) (hk₀ : k₀ ≤ w.heap.size)
    (h1 : Blk w gN 3 [.int .i64 n]) (h2 : Blk w gF 46 [.slice A k c]) (h3 : Blk w gO 4 [.bool oth]) (hf : AskB k₀ w A k c q n) :
    SeqStopsK Fence.wide m Tryz.prog 96 #[.pointer (some ⟨gN, 0, none⟩), .pointer (some ⟨gF, 0, none⟩), .pointer (some ⟨gO, 0, none⟩)] encM (KpA k₀ gN gF gO) (fun xs => xs = askL n q oth n) (fun ys => ∃ zs, askL n q oth n = ys ++ zs) (askL n q oth n).length w := fun lp J Jx W hW hJ hJx hY h0 => by
  have HN := Lib.hid h1
  have HF := Lib.hid h2
  have HO := Lib.hid h3
  have HQ := Lib.hid hf
  clear h1 h2 h3 hf
  have hW' : KpA k₀ gN gF gO w W := ⟨hW.mono hk₀, hW.block gN (blk_lt HN.out), hW.block gF (blk_lt HF.out), hW.block gO (blk_lt HO.out)⟩
  refine callsIn_of_wp Tryz.func96 rfl trivial ?_ rfl
  simp only [Tryz.ntmps96, List.size_toArray, List.length_cons, List.length_nil, Nat.reduceAdd, Nat.reduceSub, Array.replicate_succ, Array.replicate_zero, List.push_toArray, List.append_toArray, List.nil_append, List.cons_append]
  have y0 := Blk.cell (show Blk W gN 3 [.int .i64 n] from hW'.s1.trans HN.out) 0
  simp only [List.getElem?_cons_zero, List.getElem?_cons_succ] at y0
  gi_wp2
  clear y0
  gi_loopw [7] (fun x wr => ∃ j : Nat, j ≤ n ∧ x = .int .i64 (j : Int) ∧ J (askL n q oth j) wr ∧ KpA k₀ gN gF gO w wr) (fun x _ => n - (intOf x).toNat)
  case atStart => exact ⟨0, Nat.zero_le _, rfl, h0, hW'⟩
  case round =>
    obtain ⟨j, hj, rfl, hJs, hB⟩ := hrel
    by_cases hlt : j < n
    · have f0 := Blk.cell (show Blk wr gF 46 [.slice A k c] from hB.s2.trans HF.out) 0
      have o0 := Blk.cell (show Blk wr gO 4 [.bool oth] from hB.s3.trans HO.out) 0
      simp only [List.getElem?_cons_zero, List.getElem?_cons_succ] at f0 o0
      have HJD := Lib.hid (fun d => hJ _ wr (World.drewN wr (1 + d)) none hJs ⟨rfl, rfl, rfl, Nat.le_refl _, fun _ _ _ => rfl⟩ (fun r e => by cases e) : ∀ d, J (askL n q oth j) (World.drewN wr (1 + d)))
      have HKD := Lib.hid (show Below k₀ w wr.drew from hB.b.drew)
      by_cases hq : (q j != oth) = true
      · have HT := Lib.hid (askL_yes hlt hq)
        have HPX := Lib.hid (show ∃ zs, askL n q oth n = (askL n q oth j ++ [⟨j, hlt⟩]) ++ zs by rw [← askL_yes hlt hq]; exact askL_pre2 q oth (by omega))
        gi_wp2
        refine wpIn_region_any (by kernel_rfl) ?_
        change wpAnyIn _ _ _ _ _ _ _ _ _ (World.drew _)
        have f0 : (World.drew wr).cell? ⟨gF, 0, none⟩ = some (.slice A k c) := f0
        have o0 : (World.drew wr).cell? ⟨gO, 0, none⟩ = some (.bool oth) := o0
        refine wpAnyIn_take (i := 1) (v := ?_) rfl rfl (by kernel_rfl) (by kernel_rfl) (by kernel_rfl) (fun _ _ _ h => h) ⟨Or.inl ⟨by rfl, ?_⟩, fun _ => rfl⟩ ?_
        rotate_left
        · (intro w'; go_simp; try with_reducible rfl)
        try simp only [Act.put, List.setIfInBounds_toArray, List.set_cons_zero, List.set_cons_succ]
        refine wpAnyIn_ready (rs := [0, 3]) (by kernel_rfl) (by simp) ?_
        refine AllReadyIn.cons rfl (fun K hK => ?_) (AllReadyIn.cons rfl (fun K hK => ?_) AllReadyIn.nil)
        · go_simp
          refine hK _ _ ?_
          clear hK K
          try simp only [Act.put, List.setIfInBounds_toArray, List.set_cons_zero, List.set_cons_succ]
          refine wpAnyIn_ready (rs := [2, 3]) (by kernel_rfl) (by simp) ?_
          refine AllReadyIn.cons rfl (fun K hK => ?_) (AllReadyIn.cons rfl (fun K hK => ?_) AllReadyIn.nil)
          · go_simp
            gi_wp2
            refine ⟨trivial, fun _ => (by omega), callsIn_wide.2 ((HQ.out _ HKD.out j hlt).mono ?_)⟩
            rintro _ _ ⟨rfl, d, rfl⟩
            have o1 : (World.drewN wr (1 + d)).cell? ⟨gO, 0, none⟩ = some (.bool oth) := o0
            gi_wp2
            try simp only [Act.put, List.setIfInBounds_toArray, List.set_cons_zero, List.set_cons_succ]
            refine wpAnyIn_ready (rs := [3]) (by kernel_rfl) (by simp) ?_
            refine AllReadyIn.cons rfl (fun K hK => ?_) AllReadyIn.nil
            go_simp
            refine hK _ _ ?_
            clear hK K
            try simp only [Act.put, List.setIfInBounds_toArray, List.set_cons_zero, List.set_cons_succ]
            refine wpAnyIn_take (i := 4) (v := .bool true) rfl rfl (by kernel_rfl) (by kernel_rfl) (by kernel_rfl) (fun _ _ _ h => h) ⟨Or.inl ⟨by rfl, ?_⟩, fun _ => rfl⟩ ?_
            skip
            · (intro w'; go_simp; first | done | (simpa using hq))
            try simp only [Act.put, List.setIfInBounds_toArray, List.set_cons_zero, List.set_cons_succ]
            refine wpAnyIn_take (i := 5) (v := ?_) rfl rfl (by kernel_rfl) (by kernel_rfl) (by kernel_rfl) (fun _ _ _ h => h) ⟨Or.inl ⟨by rfl, ?_⟩, fun _ => rfl⟩ ?_
            rotate_left
            · (intro w'; go_simp; try with_reducible rfl)
            try simp only [Act.put, List.setIfInBounds_toArray, List.set_cons_zero, List.set_cons_succ]
            refine wpAnyIn_take (i := 6) (v := ?_) rfl rfl (by kernel_rfl) (by kernel_rfl) (by kernel_rfl) (fun _ _ _ h => h) ⟨Or.inl ⟨by rfl, ?_⟩, fun _ => rfl⟩ ?_
            rotate_left
            · (intro w'; go_simp; try with_reducible rfl)
            try simp only [Act.put, List.setIfInBounds_toArray, List.set_cons_zero, List.set_cons_succ]
            refine wpAnyIn_take (i := 7) (v := ?_) rfl rfl (by kernel_rfl) (by kernel_rfl) (by kernel_rfl) (fun _ _ _ h => h) ⟨Or.inl ⟨by rfl, ?_⟩, fun _ => rfl⟩ ?_
            rotate_left
            · (intro w'; go_simp; try with_reducible rfl)
            try simp only [Act.put, List.setIfInBounds_toArray, List.set_cons_zero, List.set_cons_succ]
            obtain ⟨fn, tmps, assign, body, hy, hRy⟩ := hY _ ⟨j, hlt⟩ (World.drewN wr (1 + d)) (HJD.out d) (by
              have h1 := congrArg List.length HT.out
              obtain ⟨zs, h2⟩ := askL_pre2 q oth (show j + 1 ≤ n by omega)
              have h3 := congrArg List.length h2
              rw [List.length_append] at h1 h3
              simp at h1
              omega)
            dsimp only [encM] at hy
            refine wpAnyIn_ready (rs := [8]) (by kernel_rfl) (by simp) ?_
            refine AllReadyIn.cons rfl (fun K hK => ?_) AllReadyIn.nil
            rw [if_pos (by rfl)]
            go_simp
            gi_wp2
            refine ⟨fun _ => (by omega), hRy.mono ?_⟩
            rintro e W3 (⟨rfl, hJ3, hk3⟩ | ⟨rfl, hJx3⟩)
            · gi_wp2
              try simp only [Act.put, List.setIfInBounds_toArray, List.set_cons_zero, List.set_cons_succ]
              refine wpAnyIn_take (i := 9) (v := ?_) rfl rfl (by kernel_rfl) (by kernel_rfl) (by kernel_rfl) (fun _ _ _ h => h) ⟨Or.inl ⟨by rfl, ?_⟩, fun _ => rfl⟩ ?_
              rotate_left
              · (intro w'; go_simp; try with_reducible rfl)
              try simp only [Act.put, List.setIfInBounds_toArray, List.set_cons_zero, List.set_cons_succ]
              refine wpAnyIn_take (i := 10) (v := ?_) rfl rfl (by kernel_rfl) (by kernel_rfl) (by kernel_rfl) (fun _ _ _ h => h) ⟨Or.inl ⟨by rfl, ?_⟩, fun _ => rfl⟩ ?_
              rotate_left
              · (intro w'; go_simp; try with_reducible rfl)
              try simp only [Act.put, List.setIfInBounds_toArray, List.set_cons_zero, List.set_cons_succ]
              refine wpAnyIn_done (by kernel_rfl) ?_ _
              gi_wp2
              go_roundw
              case rel => exact ⟨j + 1, by omega, by go_num, by rw [HT.out]; exact hJ3, (hB.drewN (1 + d)).trans hk3⟩
              case measure => simp [intOf]; omega
            · gi_wp2
              try simp only [Act.put, List.setIfInBounds_toArray, List.set_cons_zero, List.set_cons_succ]
              refine wpAnyIn_take (i := 9) (v := ?_) rfl rfl (by kernel_rfl) (by kernel_rfl) (by kernel_rfl) (fun _ _ _ h => h) ⟨Or.inl ⟨by rfl, ?_⟩, fun _ => rfl⟩ ?_
              rotate_left
              · (intro w'; go_simp; try with_reducible rfl)
              try simp only [Act.put, List.setIfInBounds_toArray, List.set_cons_zero, List.set_cons_succ]
              refine wpAnyIn_take (i := 10) (v := ?_) rfl rfl (by kernel_rfl) (by kernel_rfl) (by kernel_rfl) (fun _ _ _ h => h) ⟨Or.inl ⟨by rfl, ?_⟩, fun _ => rfl⟩ ?_
              rotate_left
              · (intro w'; go_simp; try with_reducible rfl)
              try simp only [Act.put, List.setIfInBounds_toArray, List.set_cons_zero, List.set_cons_succ]
              refine wpAnyIn_done (by kernel_rfl) ?_ _
              gi_wp2
              refine bodyPost_ret (results_none rfl _ _ _) rfl ?_
              exact ⟨⟨_, rfl⟩, .inr ⟨_, HPX.out, hJx3⟩⟩
          · go_simp
            refine hK _ _ ?_
            clear hK K
            try simp only [Act.put, List.setIfInBounds_toArray, List.set_cons_zero, List.set_cons_succ]
            refine wpAnyIn_ready (rs := [2]) (by kernel_rfl) (by simp) ?_
            refine AllReadyIn.cons rfl (fun K hK => ?_) AllReadyIn.nil
            go_simp
            gi_wp2
            refine ⟨trivial, fun _ => (by omega), callsIn_wide.2 ((HQ.out _ HKD.out j hlt).mono ?_)⟩
            rintro _ _ ⟨rfl, d, rfl⟩
            have o1 : (World.drewN wr (1 + d)).cell? ⟨gO, 0, none⟩ = some (.bool oth) := o0
            gi_wp2
            try simp only [Act.put, List.setIfInBounds_toArray, List.set_cons_zero, List.set_cons_succ]
            refine wpAnyIn_take (i := 4) (v := .bool true) rfl rfl (by kernel_rfl) (by kernel_rfl) (by kernel_rfl) (fun _ _ _ h => h) ⟨Or.inl ⟨by rfl, ?_⟩, fun _ => rfl⟩ ?_
            skip
            · (intro w'; go_simp; first | done | (simpa using hq))
            try simp only [Act.put, List.setIfInBounds_toArray, List.set_cons_zero, List.set_cons_succ]
            refine wpAnyIn_take (i := 5) (v := ?_) rfl rfl (by kernel_rfl) (by kernel_rfl) (by kernel_rfl) (fun _ _ _ h => h) ⟨Or.inl ⟨by rfl, ?_⟩, fun _ => rfl⟩ ?_
            rotate_left
            · (intro w'; go_simp; try with_reducible rfl)
            try simp only [Act.put, List.setIfInBounds_toArray, List.set_cons_zero, List.set_cons_succ]
            refine wpAnyIn_take (i := 6) (v := ?_) rfl rfl (by kernel_rfl) (by kernel_rfl) (by kernel_rfl) (fun _ _ _ h => h) ⟨Or.inl ⟨by rfl, ?_⟩, fun _ => rfl⟩ ?_
            rotate_left
            · (intro w'; go_simp; try with_reducible rfl)
            try simp only [Act.put, List.setIfInBounds_toArray, List.set_cons_zero, List.set_cons_succ]
            refine wpAnyIn_take (i := 7) (v := ?_) rfl rfl (by kernel_rfl) (by kernel_rfl) (by kernel_rfl) (fun _ _ _ h => h) ⟨Or.inl ⟨by rfl, ?_⟩, fun _ => rfl⟩ ?_
            rotate_left
            · (intro w'; go_simp; try with_reducible rfl)
            try simp only [Act.put, List.setIfInBounds_toArray, List.set_cons_zero, List.set_cons_succ]
            obtain ⟨fn, tmps, assign, body, hy, hRy⟩ := hY _ ⟨j, hlt⟩ (World.drewN wr (1 + d)) (HJD.out d) (by
              have h1 := congrArg List.length HT.out
              obtain ⟨zs, h2⟩ := askL_pre2 q oth (show j + 1 ≤ n by omega)
              have h3 := congrArg List.length h2
              rw [List.length_append] at h1 h3
              simp at h1
              omega)
            dsimp only [encM] at hy
            refine wpAnyIn_ready (rs := [8]) (by kernel_rfl) (by simp) ?_
            refine AllReadyIn.cons rfl (fun K hK => ?_) AllReadyIn.nil
            rw [if_pos (by rfl)]
            go_simp
            gi_wp2
            refine ⟨fun _ => (by omega), hRy.mono ?_⟩
            rintro e W3 (⟨rfl, hJ3, hk3⟩ | ⟨rfl, hJx3⟩)
            · gi_wp2
              try simp only [Act.put, List.setIfInBounds_toArray, List.set_cons_zero, List.set_cons_succ]
              refine wpAnyIn_take (i := 9) (v := ?_) rfl rfl (by kernel_rfl) (by kernel_rfl) (by kernel_rfl) (fun _ _ _ h => h) ⟨Or.inl ⟨by rfl, ?_⟩, fun _ => rfl⟩ ?_
              rotate_left
              · (intro w'; go_simp; try with_reducible rfl)
              try simp only [Act.put, List.setIfInBounds_toArray, List.set_cons_zero, List.set_cons_succ]
              refine wpAnyIn_take (i := 10) (v := ?_) rfl rfl (by kernel_rfl) (by kernel_rfl) (by kernel_rfl) (fun _ _ _ h => h) ⟨Or.inl ⟨by rfl, ?_⟩, fun _ => rfl⟩ ?_
              rotate_left
              · (intro w'; go_simp; try with_reducible rfl)
              try simp only [Act.put, List.setIfInBounds_toArray, List.set_cons_zero, List.set_cons_succ]
              refine wpAnyIn_done (by kernel_rfl) ?_ _
              gi_wp2
              go_roundw
              case rel => exact ⟨j + 1, by omega, by go_num, by rw [HT.out]; exact hJ3, (hB.drewN (1 + d)).trans hk3⟩
              case measure => simp [intOf]; omega
            · gi_wp2
              try simp only [Act.put, List.setIfInBounds_toArray, List.set_cons_zero, List.set_cons_succ]
              refine wpAnyIn_take (i := 9) (v := ?_) rfl rfl (by kernel_rfl) (by kernel_rfl) (by kernel_rfl) (fun _ _ _ h => h) ⟨Or.inl ⟨by rfl, ?_⟩, fun _ => rfl⟩ ?_
              rotate_left
              · (intro w'; go_simp; try with_reducible rfl)
              try simp only [Act.put, List.setIfInBounds_toArray, List.set_cons_zero, List.set_cons_succ]
              refine wpAnyIn_take (i := 10) (v := ?_) rfl rfl (by kernel_rfl) (by kernel_rfl) (by kernel_rfl) (fun _ _ _ h => h) ⟨Or.inl ⟨by rfl, ?_⟩, fun _ => rfl⟩ ?_
              rotate_left
              · (intro w'; go_simp; try with_reducible rfl)
              try simp only [Act.put, List.setIfInBounds_toArray, List.set_cons_zero, List.set_cons_succ]
              refine wpAnyIn_done (by kernel_rfl) ?_ _
              gi_wp2
              refine bodyPost_ret (results_none rfl _ _ _) rfl ?_
              exact ⟨⟨_, rfl⟩, .inr ⟨_, HPX.out, hJx3⟩⟩
        · go_simp
          refine hK _ _ ?_
          clear hK K
          try simp only [Act.put, List.setIfInBounds_toArray, List.set_cons_zero, List.set_cons_succ]
          refine wpAnyIn_ready (rs := [0]) (by kernel_rfl) (by simp) ?_
          refine AllReadyIn.cons rfl (fun K hK => ?_) AllReadyIn.nil
          go_simp
          refine hK _ _ ?_
          clear hK K
          try simp only [Act.put, List.setIfInBounds_toArray, List.set_cons_zero, List.set_cons_succ]
          refine wpAnyIn_ready (rs := [2]) (by kernel_rfl) (by simp) ?_
          refine AllReadyIn.cons rfl (fun K hK => ?_) AllReadyIn.nil
          go_simp
          gi_wp2
          refine ⟨trivial, fun _ => (by omega), callsIn_wide.2 ((HQ.out _ HKD.out j hlt).mono ?_)⟩
          rintro _ _ ⟨rfl, d, rfl⟩
          have o1 : (World.drewN wr (1 + d)).cell? ⟨gO, 0, none⟩ = some (.bool oth) := o0
          gi_wp2
          try simp only [Act.put, List.setIfInBounds_toArray, List.set_cons_zero, List.set_cons_succ]
          refine wpAnyIn_take (i := 4) (v := .bool true) rfl rfl (by kernel_rfl) (by kernel_rfl) (by kernel_rfl) (fun _ _ _ h => h) ⟨Or.inl ⟨by rfl, ?_⟩, fun _ => rfl⟩ ?_
          skip
          · (intro w'; go_simp; first | done | (simpa using hq))
          try simp only [Act.put, List.setIfInBounds_toArray, List.set_cons_zero, List.set_cons_succ]
          refine wpAnyIn_take (i := 5) (v := ?_) rfl rfl (by kernel_rfl) (by kernel_rfl) (by kernel_rfl) (fun _ _ _ h => h) ⟨Or.inl ⟨by rfl, ?_⟩, fun _ => rfl⟩ ?_
          rotate_left
          · (intro w'; go_simp; try with_reducible rfl)
          try simp only [Act.put, List.setIfInBounds_toArray, List.set_cons_zero, List.set_cons_succ]
          refine wpAnyIn_take (i := 6) (v := ?_) rfl rfl (by kernel_rfl) (by kernel_rfl) (by kernel_rfl) (fun _ _ _ h => h) ⟨Or.inl ⟨by rfl, ?_⟩, fun _ => rfl⟩ ?_
          rotate_left
          · (intro w'; go_simp; try with_reducible rfl)
          try simp only [Act.put, List.setIfInBounds_toArray, List.set_cons_zero, List.set_cons_succ]
          refine wpAnyIn_take (i := 7) (v := ?_) rfl rfl (by kernel_rfl) (by kernel_rfl) (by kernel_rfl) (fun _ _ _ h => h) ⟨Or.inl ⟨by rfl, ?_⟩, fun _ => rfl⟩ ?_
          rotate_left
          · (intro w'; go_simp; try with_reducible rfl)
          try simp only [Act.put, List.setIfInBounds_toArray, List.set_cons_zero, List.set_cons_succ]
          obtain ⟨fn, tmps, assign, body, hy, hRy⟩ := hY _ ⟨j, hlt⟩ (World.drewN wr (1 + d)) (HJD.out d) (by
            have h1 := congrArg List.length HT.out
            obtain ⟨zs, h2⟩ := askL_pre2 q oth (show j + 1 ≤ n by omega)
            have h3 := congrArg List.length h2
            rw [List.length_append] at h1 h3
            simp at h1
            omega)
          dsimp only [encM] at hy
          refine wpAnyIn_ready (rs := [8]) (by kernel_rfl) (by simp) ?_
          refine AllReadyIn.cons rfl (fun K hK => ?_) AllReadyIn.nil
          rw [if_pos (by rfl)]
          go_simp
          gi_wp2
          refine ⟨fun _ => (by omega), hRy.mono ?_⟩
          rintro e W3 (⟨rfl, hJ3, hk3⟩ | ⟨rfl, hJx3⟩)
          · gi_wp2
            try simp only [Act.put, List.setIfInBounds_toArray, List.set_cons_zero, List.set_cons_succ]
            refine wpAnyIn_take (i := 9) (v := ?_) rfl rfl (by kernel_rfl) (by kernel_rfl) (by kernel_rfl) (fun _ _ _ h => h) ⟨Or.inl ⟨by rfl, ?_⟩, fun _ => rfl⟩ ?_
            rotate_left
            · (intro w'; go_simp; try with_reducible rfl)
            try simp only [Act.put, List.setIfInBounds_toArray, List.set_cons_zero, List.set_cons_succ]
            refine wpAnyIn_take (i := 10) (v := ?_) rfl rfl (by kernel_rfl) (by kernel_rfl) (by kernel_rfl) (fun _ _ _ h => h) ⟨Or.inl ⟨by rfl, ?_⟩, fun _ => rfl⟩ ?_
            rotate_left
            · (intro w'; go_simp; try with_reducible rfl)
            try simp only [Act.put, List.setIfInBounds_toArray, List.set_cons_zero, List.set_cons_succ]
            refine wpAnyIn_done (by kernel_rfl) ?_ _
            gi_wp2
            go_roundw
            case rel => exact ⟨j + 1, by omega, by go_num, by rw [HT.out]; exact hJ3, (hB.drewN (1 + d)).trans hk3⟩
            case measure => simp [intOf]; omega
          · gi_wp2
            try simp only [Act.put, List.setIfInBounds_toArray, List.set_cons_zero, List.set_cons_succ]
            refine wpAnyIn_take (i := 9) (v := ?_) rfl rfl (by kernel_rfl) (by kernel_rfl) (by kernel_rfl) (fun _ _ _ h => h) ⟨Or.inl ⟨by rfl, ?_⟩, fun _ => rfl⟩ ?_
            rotate_left
            · (intro w'; go_simp; try with_reducible rfl)
            try simp only [Act.put, List.setIfInBounds_toArray, List.set_cons_zero, List.set_cons_succ]
            refine wpAnyIn_take (i := 10) (v := ?_) rfl rfl (by kernel_rfl) (by kernel_rfl) (by kernel_rfl) (fun _ _ _ h => h) ⟨Or.inl ⟨by rfl, ?_⟩, fun _ => rfl⟩ ?_
            rotate_left
            · (intro w'; go_simp; try with_reducible rfl)
            try simp only [Act.put, List.setIfInBounds_toArray, List.set_cons_zero, List.set_cons_succ]
            refine wpAnyIn_done (by kernel_rfl) ?_ _
            gi_wp2
            refine bodyPost_ret (results_none rfl _ _ _) rfl ?_
            exact ⟨⟨_, rfl⟩, .inr ⟨_, HPX.out, hJx3⟩⟩
      · have hq : (q j != oth) = false := by simpa using hq
        have HT := Lib.hid (askL_no (n := n) hq)
        gi_wp2
        refine wpIn_region_any (by kernel_rfl) ?_
        change wpAnyIn _ _ _ _ _ _ _ _ _ (World.drew _)
        have f0 : (World.drew wr).cell? ⟨gF, 0, none⟩ = some (.slice A k c) := f0
        have o0 : (World.drew wr).cell? ⟨gO, 0, none⟩ = some (.bool oth) := o0
        refine wpAnyIn_take (i := 1) (v := ?_) rfl rfl (by kernel_rfl) (by kernel_rfl) (by kernel_rfl) (fun _ _ _ h => h) ⟨Or.inl ⟨by rfl, ?_⟩, fun _ => rfl⟩ ?_
        rotate_left
        · (intro w'; go_simp; try with_reducible rfl)
        try simp only [Act.put, List.setIfInBounds_toArray, List.set_cons_zero, List.set_cons_succ]
        refine wpAnyIn_ready (rs := [0, 3]) (by kernel_rfl) (by simp) ?_
        refine AllReadyIn.cons rfl (fun K hK => ?_) (AllReadyIn.cons rfl (fun K hK => ?_) AllReadyIn.nil)
        · go_simp
          refine hK _ _ ?_
          clear hK K
          try simp only [Act.put, List.setIfInBounds_toArray, List.set_cons_zero, List.set_cons_succ]
          refine wpAnyIn_ready (rs := [2, 3]) (by kernel_rfl) (by simp) ?_
          refine AllReadyIn.cons rfl (fun K hK => ?_) (AllReadyIn.cons rfl (fun K hK => ?_) AllReadyIn.nil)
          · go_simp
            gi_wp2
            refine ⟨trivial, fun _ => (by omega), callsIn_wide.2 ((HQ.out _ HKD.out j hlt).mono ?_)⟩
            rintro _ _ ⟨rfl, d, rfl⟩
            have o1 : (World.drewN wr (1 + d)).cell? ⟨gO, 0, none⟩ = some (.bool oth) := o0
            gi_wp2
            try simp only [Act.put, List.setIfInBounds_toArray, List.set_cons_zero, List.set_cons_succ]
            refine wpAnyIn_ready (rs := [3]) (by kernel_rfl) (by simp) ?_
            refine AllReadyIn.cons rfl (fun K hK => ?_) AllReadyIn.nil
            go_simp
            refine hK _ _ ?_
            clear hK K
            try simp only [Act.put, List.setIfInBounds_toArray, List.set_cons_zero, List.set_cons_succ]
            refine wpAnyIn_take (i := 4) (v := .bool false) rfl rfl (by kernel_rfl) (by kernel_rfl) (by kernel_rfl) (fun _ _ _ h => h) ⟨Or.inl ⟨by rfl, ?_⟩, fun _ => rfl⟩ ?_
            skip
            · (intro w'; go_simp; first | done | (simpa using hq))
            try simp only [Act.put, List.setIfInBounds_toArray, List.set_cons_zero, List.set_cons_succ]
            refine wpAnyIn_take (i := 5) (v := ?_) rfl rfl (by kernel_rfl) (by kernel_rfl) (by kernel_rfl) (fun _ _ _ h => h) ⟨Or.inl ⟨by rfl, ?_⟩, fun _ => rfl⟩ ?_
            rotate_left
            · (intro w'; go_simp; try with_reducible rfl)
            try simp only [Act.put, List.setIfInBounds_toArray, List.set_cons_zero, List.set_cons_succ]
            refine takeNoIn (i := 6) (d := 16) rfl rfl rfl (by kernel_rfl) (by kernel_rfl) (by kernel_rfl) (fun _ _ _ h => h) (by rfl) (fun _ => rfl) ?_
            try simp only [Act.put, List.setIfInBounds_toArray, List.set_cons_zero, List.set_cons_succ]
            refine takeNoIn (i := 7) (d := 17) rfl rfl rfl (by kernel_rfl) (by kernel_rfl) (by kernel_rfl) (fun _ _ _ h => h) (by rfl) (fun _ => rfl) ?_
            try simp only [Act.put, List.setIfInBounds_toArray, List.set_cons_zero, List.set_cons_succ]
            refine takeNoIn (i := 8) (d := 18) rfl rfl rfl (by kernel_rfl) (by kernel_rfl) (by kernel_rfl) (fun _ _ _ h => h) (by rfl) (fun _ => rfl) ?_
            try simp only [Act.put, List.setIfInBounds_toArray, List.set_cons_zero, List.set_cons_succ]
            refine takeNoIn (i := 9) (d := 19) rfl rfl rfl (by kernel_rfl) (by kernel_rfl) (by kernel_rfl) (fun _ _ _ h => h) (by rfl) (fun _ => rfl) ?_
            try simp only [Act.put, List.setIfInBounds_toArray, List.set_cons_zero, List.set_cons_succ]
            refine wpAnyIn_take (i := 10) (v := ?_) rfl rfl (by kernel_rfl) (by kernel_rfl) (by kernel_rfl) (fun _ _ _ h => h) ⟨Or.inl ⟨by rfl, ?_⟩, fun _ => rfl⟩ ?_
            rotate_left
            · (intro w'; go_simp; try with_reducible rfl)
            try simp only [Act.put, List.setIfInBounds_toArray, List.set_cons_zero, List.set_cons_succ]
            refine wpAnyIn_done (by kernel_rfl) ?_ _
            gi_wp2
            go_roundw
            case rel => exact ⟨j + 1, by omega, by go_num, by rw [HT.out]; exact HJD.out d, hB.drewN (1 + d)⟩
            case measure => simp [intOf]; omega
          · go_simp
            refine hK _ _ ?_
            clear hK K
            try simp only [Act.put, List.setIfInBounds_toArray, List.set_cons_zero, List.set_cons_succ]
            refine wpAnyIn_ready (rs := [2]) (by kernel_rfl) (by simp) ?_
            refine AllReadyIn.cons rfl (fun K hK => ?_) AllReadyIn.nil
            go_simp
            gi_wp2
            refine ⟨trivial, fun _ => (by omega), callsIn_wide.2 ((HQ.out _ HKD.out j hlt).mono ?_)⟩
            rintro _ _ ⟨rfl, d, rfl⟩
            have o1 : (World.drewN wr (1 + d)).cell? ⟨gO, 0, none⟩ = some (.bool oth) := o0
            gi_wp2
            try simp only [Act.put, List.setIfInBounds_toArray, List.set_cons_zero, List.set_cons_succ]
            refine wpAnyIn_take (i := 4) (v := .bool false) rfl rfl (by kernel_rfl) (by kernel_rfl) (by kernel_rfl) (fun _ _ _ h => h) ⟨Or.inl ⟨by rfl, ?_⟩, fun _ => rfl⟩ ?_
            skip
            · (intro w'; go_simp; first | done | (simpa using hq))
            try simp only [Act.put, List.setIfInBounds_toArray, List.set_cons_zero, List.set_cons_succ]
            refine wpAnyIn_take (i := 5) (v := ?_) rfl rfl (by kernel_rfl) (by kernel_rfl) (by kernel_rfl) (fun _ _ _ h => h) ⟨Or.inl ⟨by rfl, ?_⟩, fun _ => rfl⟩ ?_
            rotate_left
            · (intro w'; go_simp; try with_reducible rfl)
            try simp only [Act.put, List.setIfInBounds_toArray, List.set_cons_zero, List.set_cons_succ]
            refine takeNoIn (i := 6) (d := 16) rfl rfl rfl (by kernel_rfl) (by kernel_rfl) (by kernel_rfl) (fun _ _ _ h => h) (by rfl) (fun _ => rfl) ?_
            try simp only [Act.put, List.setIfInBounds_toArray, List.set_cons_zero, List.set_cons_succ]
            refine takeNoIn (i := 7) (d := 17) rfl rfl rfl (by kernel_rfl) (by kernel_rfl) (by kernel_rfl) (fun _ _ _ h => h) (by rfl) (fun _ => rfl) ?_
            try simp only [Act.put, List.setIfInBounds_toArray, List.set_cons_zero, List.set_cons_succ]
            refine takeNoIn (i := 8) (d := 18) rfl rfl rfl (by kernel_rfl) (by kernel_rfl) (by kernel_rfl) (fun _ _ _ h => h) (by rfl) (fun _ => rfl) ?_
            try simp only [Act.put, List.setIfInBounds_toArray, List.set_cons_zero, List.set_cons_succ]
            refine takeNoIn (i := 9) (d := 19) rfl rfl rfl (by kernel_rfl) (by kernel_rfl) (by kernel_rfl) (fun _ _ _ h => h) (by rfl) (fun _ => rfl) ?_
            try simp only [Act.put, List.setIfInBounds_toArray, List.set_cons_zero, List.set_cons_succ]
            refine wpAnyIn_take (i := 10) (v := ?_) rfl rfl (by kernel_rfl) (by kernel_rfl) (by kernel_rfl) (fun _ _ _ h => h) ⟨Or.inl ⟨by rfl, ?_⟩, fun _ => rfl⟩ ?_
            rotate_left
            · (intro w'; go_simp; try with_reducible rfl)
            try simp only [Act.put, List.setIfInBounds_toArray, List.set_cons_zero, List.set_cons_succ]
            refine wpAnyIn_done (by kernel_rfl) ?_ _
            gi_wp2
            go_roundw
            case rel => exact ⟨j + 1, by omega, by go_num, by rw [HT.out]; exact HJD.out d, hB.drewN (1 + d)⟩
            case measure => simp [intOf]; omega
        · go_simp
          refine hK _ _ ?_
          clear hK K
          try simp only [Act.put, List.setIfInBounds_toArray, List.set_cons_zero, List.set_cons_succ]
          refine wpAnyIn_ready (rs := [0]) (by kernel_rfl) (by simp) ?_
          refine AllReadyIn.cons rfl (fun K hK => ?_) AllReadyIn.nil
          go_simp
          refine hK _ _ ?_
          clear hK K
          try simp only [Act.put, List.setIfInBounds_toArray, List.set_cons_zero, List.set_cons_succ]
          refine wpAnyIn_ready (rs := [2]) (by kernel_rfl) (by simp) ?_
          refine AllReadyIn.cons rfl (fun K hK => ?_) AllReadyIn.nil
          go_simp
          gi_wp2
          refine ⟨trivial, fun _ => (by omega), callsIn_wide.2 ((HQ.out _ HKD.out j hlt).mono ?_)⟩
          rintro _ _ ⟨rfl, d, rfl⟩
          have o1 : (World.drewN wr (1 + d)).cell? ⟨gO, 0, none⟩ = some (.bool oth) := o0
          gi_wp2
          try simp only [Act.put, List.setIfInBounds_toArray, List.set_cons_zero, List.set_cons_succ]
          refine wpAnyIn_take (i := 4) (v := .bool false) rfl rfl (by kernel_rfl) (by kernel_rfl) (by kernel_rfl) (fun _ _ _ h => h) ⟨Or.inl ⟨by rfl, ?_⟩, fun _ => rfl⟩ ?_
          skip
          · (intro w'; go_simp; first | done | (simpa using hq))
          try simp only [Act.put, List.setIfInBounds_toArray, List.set_cons_zero, List.set_cons_succ]
          refine wpAnyIn_take (i := 5) (v := ?_) rfl rfl (by kernel_rfl) (by kernel_rfl) (by kernel_rfl) (fun _ _ _ h => h) ⟨Or.inl ⟨by rfl, ?_⟩, fun _ => rfl⟩ ?_
          rotate_left
          · (intro w'; go_simp; try with_reducible rfl)
          try simp only [Act.put, List.setIfInBounds_toArray, List.set_cons_zero, List.set_cons_succ]
          refine takeNoIn (i := 6) (d := 16) rfl rfl rfl (by kernel_rfl) (by kernel_rfl) (by kernel_rfl) (fun _ _ _ h => h) (by rfl) (fun _ => rfl) ?_
          try simp only [Act.put, List.setIfInBounds_toArray, List.set_cons_zero, List.set_cons_succ]
          refine takeNoIn (i := 7) (d := 17) rfl rfl rfl (by kernel_rfl) (by kernel_rfl) (by kernel_rfl) (fun _ _ _ h => h) (by rfl) (fun _ => rfl) ?_
          try simp only [Act.put, List.setIfInBounds_toArray, List.set_cons_zero, List.set_cons_succ]
          refine takeNoIn (i := 8) (d := 18) rfl rfl rfl (by kernel_rfl) (by kernel_rfl) (by kernel_rfl) (fun _ _ _ h => h) (by rfl) (fun _ => rfl) ?_
          try simp only [Act.put, List.setIfInBounds_toArray, List.set_cons_zero, List.set_cons_succ]
          refine takeNoIn (i := 9) (d := 19) rfl rfl rfl (by kernel_rfl) (by kernel_rfl) (by kernel_rfl) (fun _ _ _ h => h) (by rfl) (fun _ => rfl) ?_
          try simp only [Act.put, List.setIfInBounds_toArray, List.set_cons_zero, List.set_cons_succ]
          refine wpAnyIn_take (i := 10) (v := ?_) rfl rfl (by kernel_rfl) (by kernel_rfl) (by kernel_rfl) (fun _ _ _ h => h) ⟨Or.inl ⟨by rfl, ?_⟩, fun _ => rfl⟩ ?_
          rotate_left
          · (intro w'; go_simp; try with_reducible rfl)
          try simp only [Act.put, List.setIfInBounds_toArray, List.set_cons_zero, List.set_cons_succ]
          refine wpAnyIn_done (by kernel_rfl) ?_ _
          gi_wp2
          go_roundw
          case rel => exact ⟨j + 1, by omega, by go_num, by rw [HT.out]; exact HJD.out d, hB.drewN (1 + d)⟩
          case measure => simp [intOf]; omega
    · obtain rfl : j = n := by omega
      gi_wp2
      refine bodyPost_end (results_none rfl _ _ _) rfl ?_
      exact ⟨⟨_, rfl⟩, .inl ⟨_, rfl, hJs⟩⟩
theorem asked_any (n k c : Nat) (A : Option Addr) (oth : Bool) (w : World) : Calls Tryz.prog 57 #[.int .i64 n, .slice A k c, .bool oth] w fun e w' => ∃ gN gF gO, e = .returned (.func (.func 96) #[] #[.pointer (some ⟨gN, 0, none⟩), .pointer (some ⟨gF, 0, none⟩), .pointer (some ⟨gO, 0, none⟩)]) ∧ Blk w' gN 3 [.int .i64 n] ∧ Blk w' gF 46 [.slice A k c] ∧ Blk w' gO 4 [.bool oth] ∧ Kept [] w w' := by
  have HX := Lib.hid (((Blk.new w 3 [.int .i64 n]).alloc (.cells #[.slice A k c] 46)).alloc (.cells #[.bool oth] 4))
  have HY := Lib.hid ((Blk.new1F w (.cells #[.int .i64 n] 3) 46 [.slice A k c]).alloc (.cells #[.bool oth] 4))
  have HZ0 := Blk.new ((w.alloc (.cells #[.int .i64 n] 3)).alloc (.cells #[.slice A k c] 46)) 4 [.bool oth]
  rw [show ((w.alloc (.cells #[.int .i64 n] 3)).alloc (.cells #[.slice A k c] 46)).heap.size = w.heap.size + 1 + 1 by simp] at HZ0
  have HZ := Lib.hid HZ0
  have K0 := Lib.hid ((((Kept.refl [] w).alloc (.cells #[.int .i64 n] 3)).alloc (.cells #[.slice A k c] 46)).alloc (.cells #[.bool oth] 4))
  clear HZ0
  go_enter Tryz.func57, Tryz.ntmps57
  go_wp2_with fail
  go_ret
  exact ⟨_, _, _, rfl, HX.out, HY.out, HZ.out, K0.out⟩
end Go.Proofs.YtblfingmdipopaaGreat
