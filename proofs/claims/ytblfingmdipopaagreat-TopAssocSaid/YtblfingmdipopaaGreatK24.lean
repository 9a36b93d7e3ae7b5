/- Blocks stored and loaded whole, as one step of a region that draws. Conditions: none beside those that each lemma states. -/
import Derived.Test.YtblfingmdipopaaGreatK03
import Derived.Test.YtblfingmdipopaaGreatK15
import Derived.Test.YtblfingmdipopaaGreatK23
namespace Go.Proofs.YtblfingmdipopaaGreat
set_option linter.unusedSimpArgs false
set_option linter.unusedVariables false
open Go.ChangeShapes Go.WideShapes Go.ChangeAt Go.RowKit
open Go.RowKit (wrap32 wrap64)

section
variable {P : Program} {ops : Array Oper} {K : Act → World → Prop} {Q : Exit → Act → World → Prop} {o : Oper} {a : Act} {w : World}
/-- A block is stored whole. -/
theorem stpBlk {E : Prop} (hg : o.guard = none) (ty : TypeId) (x y : Operand) (ho : o.op = .store ty x y) (g : Nat) (cs news : List Value) (hb : Blk w g ty cs) (hl : news.length = cs.length) (hx : a.eval x = .pointer (some ⟨g, 0, none⟩)) (hy : a.eval y = .agg news.toArray)
    (hi : (P.info? ty).map (·.size) = some news.length) (h1 : news.toArray.all (·.oneCell') = true) (h : ∀ w', Blk w' g ty news → Kept [g] w w' → K (a.put o.dst undef) w') :
    if Region.wanted o (yielded ops a.tmps) = true then Oper.wp P o a w K Q else E := by
  rw [if_pos (by simp [Region.wanted, hg])]
  have h2 := Blk.setCells news w 0 cs (by omega) hb
  simp only [List.take_zero, List.nil_append] at h2
  refine wp_store_mid ty x y ho g 0 news.toArray hx hy (fun j hj => ?_) (by simpa using hi) h1 (h _ h2.1 h2.2)
  rw [Nat.zero_add, hb.cell, hb.frozen]
  exact ⟨by rw [List.getElem?_eq_getElem (by simp at hj; omega)]; rfl, rfl⟩
/-- A block is loaded whole. -/
theorem ldBlk {E : Prop} (hg : o.guard = none) (ty : TypeId) (x : Operand) (ho : o.op = .load ty x) (g : Nat) (cs : List Value) (d : TypeDesc) (hb : Blk w g ty cs) (hx : a.eval x = .pointer (some ⟨g, 0, none⟩))
    (hu : P.underlying ty = some d) (hd : d.isRow = true) (hi : (P.info? ty).map (·.size) = some cs.length) (h : K (a.put o.dst (.agg cs.toArray)) w) :
    if Region.wanted o (yielded ops a.tmps) = true then Oper.wp P o a w K Q else E := by
  rw [if_pos (by simp [Region.wanted, hg])]
  exact wp_load_mid ty x ho g 0 hx cs d hb.cell2 hu hd hi h
end
theorem quietS {P : Program} {f : FuncId} {args : Array Value} {w : World} {n : Nat} {v : Value}
    (h : Calls P f args (w.drewN n) fun e w' => e = .returned v ∧ w' = w.drewN n) : Calls P f args (w.drewN n) fun e w'' => e = .returned v ∧ ∃ m, w'' = w.drewN m :=
  h.mono fun _ _ ⟨he, hm⟩ => ⟨he, n, hm⟩
/-- The cells of a block from a place on. -/
theorem Blk.range {w : World} {g : Nat} {t : TypeId} {cs : List Value} (h : Blk w g t cs) (o : Nat) (xs : List Value) (hx : ∀ (j : Nat) (v : Value), xs[j]? = some v → cs[o + j]? = some v) : w.rangeAt g o xs := fun j v hv => by
  rw [h.cell]
  exact hx j v hv
end Go.Proofs.YtblfingmdipopaaGreat

/- fretworkref07.Empty, fretworkref07.built: the matrix of triples that rise. Conditions: rows within the matrix. -/
namespace Go.Proofs.YtblfingmdipopaaGreat
set_option linter.unusedSimpArgs false
set_option linter.unusedVariables false
open Go.ChangeShapes Go.WideShapes Go.ChangeAt Go.RowKit
open Go.RowKit (wrap32 wrap64)
set_option maxHeartbeats 8000000

set_option maxRecDepth 100000 in
theorem refEmpty_any (n m : Nat) (w : World) (hn : n ≤ 4096) : Calls Tryz.prog 79 #[.int .i64 n, .int .i64 m] w fun e w' => ∃ g, e = .returned (.agg #[.int .i64 n, .int .i64 m, .slice (some ⟨g, 0, none⟩) (n + 1) (n + 1), .slice none 0 0, .slice none 0 0]) ∧ w.heap.size ≤ g ∧ Blk w' g 3 (List.replicate (n + 1) (vI 0)) ∧ Kept [] w w' := by
  have HZ := Lib.hid (Blk.new w 31 [.int .i64 0, .int .i64 0, .slice none 0 0, .slice none 0 0, .slice none 0 0])
  have K0 := Lib.hid ((Kept.refl [] w).alloc (.cells #[.int .i64 0, .int .i64 0, .slice none 0 0, .slice none 0 0, .slice none 0 0] 31))
  have HG := Lib.hid (show w.heap.size ≤ w.heap.size from Nat.le_refl _)
  go_enter Tryz.func79, Tryz.ntmps79
  go_upto_region 1 with (fail)
  generalize w.alloc (.cells #[.int .i64 0, .int .i64 0, .slice none 0 0, .slice none 0 0, .slice none 0 0] 31) = w2 at *
  generalize hgq : w.heap.size = g at HZ ⊢
  rw [hgq] at HG
  have hsz := K0.out.size
  go_wp2_with (first
    | (at_make; refine wpList_mk _ rfl _ _ _ rfl 3 _ 8 Tryz.underlying28 infoInt rfl _ _ _ _ (n + 1) rfl rfl (by simp) (by simp) (by omega) (by unfold maxLen; omega) ?_; intro w3 hblk hk3)
    | (refine wpList_storeBlk rfl 31 (.tmp 4) (.tmp 10) rfl g _ [.int .i64 n, .int .i64 m, .slice (some ⟨w2.heap.size, 0, none⟩) (n + 1) (n + 1), .slice none 0 0, .slice none 0 0] (HZ.out.kept hk3 (by simp)) rfl rfl rfl infoRows (by simp [Value.oneCell']) ?_; intro w8 hb8 hk8))
  have hne : w2.heap.size ≠ g := by have := HZ.out.lt; omega
  have e0 := hb8.cell 0
  have e1 := hb8.cell 1
  have e2 := hb8.cell 2
  have e3 := hb8.cell 3
  have e4 := hb8.cell 4
  simp only [List.getElem?_cons_zero, List.getElem?_cons_succ] at e0 e1 e2 e3 e4
  refine bodyPost_ret (v := .agg #[.int .i64 n, .int .i64 m, .slice (some ⟨w2.heap.size, 0, none⟩) (n + 1) (n + 1), .slice none 0 0, .slice none 0 0]) (by simp [results, Tryz.results79, go_sem, e0, e1, e2, e3, e4]) rfl ?_
  exact ⟨w2.heap.size, rfl, by omega, hblk.kept hk8 (by simpa using hne), (K0.out.trans hk3).then hk8 (fun q hq => by simp at hq; subst hq; exact .inr (by rw [← hgq]; exact Nat.le_refl _))⟩
/-- The starts while one triple of row r is counted, up to j. -/
def midS (l : List Ed) (x : Ed) (j i : Nat) : Int := if i < j then belI (l ++ [x]) i else belI l i
theorem belI_snoc (l : List Ed) (x : Ed) (i : Nat) : belI (l ++ [x]) i = if x.1 < (i : Int) then belI l i + 1 else belI l i := by
  unfold belI
  rw [List.filter_append]
  by_cases h : x.1 < (i : Int)
  · simp [h]
  · simp [h]
theorem mid_start (n r : Nat) (l : List Ed) (x : Ed) (hx : x.1 = (r : Int)) : stL n (belI l) = stL n (midS l x (r + 1)) := stL_congr (fun i _ => by
  unfold midS
  rw [belI_snoc, hx]
  split
  · rw [if_neg (by omega)]
  · rfl)
theorem mid_step (n r j : Nat) (l : List Ed) (x : Ed) (hx : x.1 = (r : Int)) (hj : r < j) : stL n (midS l x (j + 1)) = (stL n (midS l x j)).set j (belI l j + 1) := by
  rw [stL_set]
  refine stL_congr (fun i _ => ?_)
  unfold midS
  by_cases h : i = j
  · subst h
    rw [if_pos (by omega), if_pos rfl, belI_snoc, hx, if_pos (by omega)]
  · rw [if_neg h]
    by_cases h2 : i < j
    · rw [if_pos (by omega), if_pos h2]
    · rw [if_neg (by omega), if_neg h2]
theorem mid_end (n : Nat) (l : List Ed) (x : Ed) : stL n (midS l x (n + 1)) = stL n (belI (l ++ [x])) := stL_congr (fun i hi => by
  unfold midS
  rw [if_pos (by omega)])

set_option maxRecDepth 100000 in
theorem refBuilt_any (n m : Nat) (l : List Ed) (A : Option Addr) (c : Nat) (w : World) (hn : n ≤ 4096) (hl : l.length ≤ 1048576) (hA : Reads w A (l.flatMap edV)) (hr : ∀ e ∈ l, 0 ≤ e.1 ∧ e.1 < n) :
    Calls Tryz.prog 56 #[.int .i64 n, .int .i64 m, .slice A l.length c] w (MtPost w n m l) := by
  have HA := Lib.hid hA
  have HR := Lib.hid hr
  clear hA hr
  obtain ⟨post, hpost⟩ : ∃ post : Ending → World → Prop, post = MtPost w n m l := ⟨_, rfl⟩
  rw [← hpost]
  have HPOST := Lib.hid hpost
  clear hpost
  have HZ := Lib.hid (Blk.new w 31 [.int .i64 0, .int .i64 0, .slice none 0 0, .slice none 0 0, .slice none 0 0])
  have K0 := Lib.hid ((Kept.refl [] w).alloc (.cells #[.int .i64 0, .int .i64 0, .slice none 0 0, .slice none 0 0, .slice none 0 0] 31))
  have HG6 := Lib.hid (show w.heap.size ≤ w.heap.size from Nat.le_refl _)
  go_enter Tryz.func56, Tryz.ntmps56
  go_upto_region 1 with (fail)
  generalize w.alloc (.cells #[.int .i64 0, .int .i64 0, .slice none 0 0, .slice none 0 0, .slice none 0 0] 31) = w2 at *
  generalize hgq : w.heap.size = g6 at HZ ⊢
  have HW := Lib.hid hgq
  rw [hgq] at HG6
  clear hgq
  go_wp2_with fail
  refine (refEmpty_any n m w2 hn).mono ?_
  rintro _ w3 ⟨g5, rfl, hg5, hb5, hk3⟩
  have H65 := Lib.hid (show g6 ≠ g5 by have := HZ.out.lt; omega)
  replace HZ := Lib.hid (HZ.out.kept hk3 (by simp))
  have HG5 := Lib.hid (Nat.le_trans K0.out.size hg5)
  replace K0 := Lib.hid (K0.out.trans hk3)
  have HS := Lib.hid (show Blk w3 g5 3 ((stL n (belI (l.take 0))).map vI) by
    rw [show (stL n (belI (l.take 0))).map vI = List.replicate (n + 1) (vI 0) from ?_]
    · exact hb5
    · unfold stL
      rw [List.map_map]
      refine List.ext_getElem (by simp) (fun i h1 h2 => ?_)
      simp [belI])
  clear hg5 hb5 hk3
  go_upto_region 2 with (first | (refine wpList_storeBlk rfl 31 (.tmp 7) (.tmp 12) rfl w3.heap.size [.int .i64 0, .int .i64 0, .slice none 0 0, .slice none 0 0, .slice none 0 0] [.int .i64 n, .int .i64 m, .slice (some ⟨g5, 0, none⟩) (n + 1) (n + 1), .slice none 0 0, .slice none 0 0] (Blk.new _ _ _) rfl rfl rfl infoRows (by simp [Value.oneCell']) ?_; intro w4 hb4 hk4))
  have hk43 := (Kept.refl [] w3).alloc (.cells #[.int .i64 0, .int .i64 0, .slice none 0 0, .slice none 0 0, .slice none 0 0] 31)
  have hk44 : Kept [] w3 w4 := hk43.then hk4 (fun q hq => by simp at hq; subst hq; exact .inr (Nat.le_refl _))
  have HG := Lib.hid hb4
  have HG7 := Lib.hid (show w.heap.size ≤ w3.heap.size ∧ g5 ≠ w3.heap.size ∧ g6 ≠ w3.heap.size from ⟨K0.out.size, by have := HS.out.lt; omega, by have := HZ.out.lt; omega⟩)
  replace HZ := Lib.hid (HZ.out.kept hk44 (by simp))
  replace HS := Lib.hid (HS.out.kept hk44 (by simp))
  replace K0 := Lib.hid (K0.out.trans hk44)
  clear hk43 hk44 hk4 hb4
  generalize w3.heap.size = g7 at HG HG7 ⊢
  go_wp2_with fail
  go_loopw [8] (fun i wr => ∃ (k : Nat) (vc vv : Value), k ≤ l.length ∧ i = .int .i64 k ∧ Hid (wr.ownsRow w.heap.size 3 1 vc k (colV (l.take k))) ∧ Hid (wr.ownsRow w.heap.size 2 1 vv k (valV (l.take k))) ∧ Hid (vc.ownBlock ≠ some g5) ∧ Hid (Blk wr g7 31 [.int .i64 n, .int .i64 m, .slice (some ⟨g5, 0, none⟩) (n + 1) (n + 1), vc, vv]) ∧ Hid (Blk wr g5 3 ((stL n (belI (l.take k))).map vI)) ∧ Hid (Blk wr g6 31 [.int .i64 0, .int .i64 0, .slice none 0 0, .slice none 0 0, .slice none 0 0]) ∧ Hid (Kept [] w wr)) (fun i _ => l.length - (intOf i).toNat)
  case atStart => exact ⟨0, .slice none 0 0, .slice none 0 0, Nat.zero_le _, rfl, Lib.hid (World.ownsRow_nil _ _ _ _), Lib.hid (World.ownsRow_nil _ _ _ _), Lib.hid (by simp [Value.ownBlock]), HG, HS, HZ, K0⟩
  case round =>
    clear HG HS HZ K0
    obtain ⟨k, vc, vv, hk, rfl, HC, HV, HN, HG, HS, HZ, K0⟩ := hrel
    by_cases hlt : k < l.length
    · have HTK := Lib.hid (List.take_succ_eq_append_getElem hlt)
      have hrow := HR.out l[k] (List.getElem_mem _)
      obtain ⟨r, hrq⟩ := Int.eq_ofNat_of_zero_le hrow.1
      obtain ⟨b, off, rfl, hbl, cw⟩ := edge_at HA.out hlt
      obtain ⟨x, hx⟩ : ∃ x, x = l[k] := ⟨_, rfl⟩
      rw [← hx] at cw HTK hrow hrq
      clear hx
      obtain ⟨x1, x2, x3⟩ := x
      dsimp only at cw hrow hrq
      subst hrq
      have hrn : r + 1 ≤ n := by omega
      have CW := Lib.hid cw
      clear hrow cw hbl
      obtain ⟨A5, c5, rfl⟩ := own_n HC.out
      obtain ⟨A6, c6, rfl⟩ := own_n HV.out
      have c1 := K0.out.cell_lt CW.out.2.1
      go_upto_region 5 with (fail)
      have HD := Lib.hid (own_kept0 HC.out (Kept.refl [] wr).drew)
      have HGd := Lib.hid (HG.out.kept (Kept.refl [] wr).drew (by simp))
      have hsz := K0.out.size
      have d3 := HG.out.cell 3
      simp only [List.getElem?_cons_zero, List.getElem?_cons_succ] at d3
      have lg := HG.out.lt
      go_region_law (refine step_app _ rfl (.tmp 20) (.tmp 26) _ rfl 3 (.int .i64 0) 1 8 Tryz.underlying28 infoInt rfl (by decide) w.heap.size (.slice A5 k c5) k _ rfl (HD.out.alloc _) (some ⟨_, 0, none⟩) 1 1 [vI x2] rfl rfl (Reads.of_blk (Blk.new _ _ _) (fun _ _ h => h)) (by simp [Value.oneCell']) (by omega) (by unfold maxLen; omega) (by simp; omega) ?_; intro va wa howna hka hba; obtain ⟨A7, c7, rfl⟩ := own_n howna; have HOa := Lib.hid howna; have HKa := Lib.hid hka; have HBa := Lib.hid hba; have HGa := Lib.hid ((HGd.out.alloc (.cells #[vI x2] 3)).kept hka (fun hm => own_ne_blk HD.out HGd.out (by decide) (by simpa using hm))); clear howna hka hba; have fa := HGa.out.frozen 3; have da := HGa.out.cell 3; have la := HGa.out.lt; simp only [List.getElem?_cons_zero, List.getElem?_cons_succ] at da)
      all_goals
        have kd := (Kept.refl [] wr).drew.alloc (.cells #[vI x2] 3)
        clear fa da la d3 lg hsz
        have hne7 : g7 ∉ (Value.slice A5 k c5).ownBlock.toList := fun hm => own_ne_blk HC.out HG.out (by decide) (by simpa using hm)
        have hne5 : g5 ∉ (Value.slice A5 k c5).ownBlock.toList := fun hm => HN.out (by simpa using hm)
        have hne6 : g6 ∉ (Value.slice A5 k c5).ownBlock.toList := fun hm => own_ne_blk HC.out HZ.out (by decide) (by simpa using hm)
        have HSN := Lib.hid (show (Value.slice A7 (k + 1) c7).ownBlock ≠ some g5 from HBa.out.elim (fun h => by rw [h]; exact HN.out) (fun h => by rw [h]; have := HS.out.lt; simp; omega))
        replace HS := Lib.hid ((HS.out.kept kd (by simp)).kept HKa.out hne5)
        replace HZ := Lib.hid ((HZ.out.kept kd (by simp)).kept HKa.out hne6)
        have Fa := ((KeptB.refl w.heap.size [3] wr.drew).alloc (.cells #[vI x2] 3)).app HKa.out (HD.out.alloc _) (by decide)
        replace HV := Lib.hid (own_keptB (own_kept0 HV.out (Kept.refl [] wr).drew) Fa (by decide))
        replace K0 := Lib.hid ((K0.out.trans (Kept.refl [] wr).drew).thenB Fa (Nat.le_refl _))
        replace HC := Lib.hid HOa.out
        clear hne7 hne5 hne6 Fa HN
        replace HG := HGa
        clear HGa HOa HKa HBa HD HGd kd
        have ko := (Kept.refl [g7] wa).setCell (p := ⟨g7, 3, none⟩) (.inl (by simp)) (.slice A7 (k + 1) c7)
        replace HC := Lib.hid (own_kept HC.out ko (fun u hu => by simp; rintro rfl; exact own_ne_blk HC.out HG.out (by decide) hu))
        replace HV := Lib.hid (own_kept HV.out ko (fun u hu => by simp; rintro rfl; exact own_ne_blk HV.out HG.out (by decide) hu))
        replace HS := Lib.hid (HS.out.kept ko (by simp; exact HG7.out.2.1))
        replace HZ := Lib.hid (HZ.out.kept ko (by simp; exact HG7.out.2.2))
        replace HG := Lib.hid (HG.out.set 3 (.slice A7 (k + 1) c7))
        simp only [List.set_cons_zero, List.set_cons_succ] at HG
        replace K0 := Lib.hid (K0.out.then ko (fun u hu => by simp at hu; subst hu; exact .inr HG7.out.1))
        clear ko
        generalize wa.setCell ⟨g7, 3, none⟩ (.slice A7 (k + 1) c7) = wb at *
        clear c1
        have c2 := K0.out.cell_lt CW.out.2.2
        go_upto_region 6 with (fail)
        have HD := Lib.hid (own_kept0 HV.out (Kept.refl [] wb).drew)
        have HGd := Lib.hid (HG.out.kept (Kept.refl [] wb).drew (by simp))
        have hsz := K0.out.size
        have d4 := HG.out.cell 4
        simp only [List.getElem?_cons_zero, List.getElem?_cons_succ] at d4
        have lg := HG.out.lt
        go_region_law (refine step_app _ rfl (.tmp 30) (.tmp 36) _ rfl 2 (.int .i64 0) 1 8 Tryz.underlying29 infoI64 rfl (by decide) w.heap.size (.slice A6 k c6) k _ rfl (HD.out.alloc _) (some ⟨_, 0, none⟩) 1 1 [vI x3] rfl rfl (Reads.of_blk (Blk.new _ _ _) (fun _ _ h => h)) (by simp [Value.oneCell']) (by omega) (by unfold maxLen; omega) (by simp; omega) ?_; intro va wa howna hka hba; obtain ⟨A8, c8, rfl⟩ := own_n howna; have HOa := Lib.hid howna; have HKa := Lib.hid hka; have HBa := Lib.hid hba; have HGa := Lib.hid ((HGd.out.alloc (.cells #[vI x3] 2)).kept hka (fun hm => own_ne_blk HD.out HGd.out (by decide) (by simpa using hm))); clear howna hka hba; have fa := HGa.out.frozen 4; have da := HGa.out.cell 4; have la := HGa.out.lt; simp only [List.getElem?_cons_zero, List.getElem?_cons_succ] at da)
        all_goals
          have kd := (Kept.refl [] wb).drew.alloc (.cells #[vI x3] 2)
          clear fa da la d4 lg hsz
          have Fa := ((KeptB.refl w.heap.size [2] wb.drew).alloc (.cells #[vI x3] 2)).app HKa.out (HD.out.alloc _) (by decide)
          replace HS := Lib.hid ((HS.out.kept (Kept.refl [] wb).drew (by simp)).keptB Fa (by decide))
          replace HZ := Lib.hid ((HZ.out.kept (Kept.refl [] wb).drew (by simp)).keptB Fa (by decide))
          replace HC := Lib.hid (own_keptB (own_kept0 HC.out (Kept.refl [] wb).drew) Fa (by decide))
          replace K0 := Lib.hid ((K0.out.trans (Kept.refl [] wb).drew).thenB Fa (Nat.le_refl _))
          replace HV := Lib.hid HOa.out
          clear Fa
          replace HG := HGa
          clear HGa HOa HKa HBa HD HGd kd
          have ko := (Kept.refl [g7] wa).setCell (p := ⟨g7, 4, none⟩) (.inl (by simp)) (.slice A8 (k + 1) c8)
          replace HC := Lib.hid (own_kept HC.out ko (fun u hu => by simp; rintro rfl; exact own_ne_blk HC.out HG.out (by decide) hu))
          replace HV := Lib.hid (own_kept HV.out ko (fun u hu => by simp; rintro rfl; exact own_ne_blk HV.out HG.out (by decide) hu))
          replace HS := Lib.hid (HS.out.kept ko (by simp; exact HG7.out.2.1))
          replace HZ := Lib.hid (HZ.out.kept ko (by simp; exact HG7.out.2.2))
          replace HG := Lib.hid (HG.out.set 4 (.slice A8 (k + 1) c8))
          simp only [List.set_cons_zero, List.set_cons_succ] at HG
          replace K0 := Lib.hid (K0.out.then ko (fun u hu => by simp at hu; subst hu; exact .inr HG7.out.1))
          clear ko
          generalize wa.setCell ⟨g7, 4, none⟩ (.slice A8 (k + 1) c8) = wd at *
          clear c2
          go_upto_region 7 with (fail)
          have z0 : wd.cell? ⟨b, off + k * 3, none⟩ = some (.int .i64 r) := K0.out.cell_lt CW.out.1
          go_wp2_with fail
          clear z0
          go_loopw [9] (fun i wr => ∃ j : Nat, r < j ∧ j ≤ n + 1 ∧ i = .int .i64 j ∧ Hid (wr.ownsRow w.heap.size 3 1 (.slice A7 (k + 1) c7) (k + 1) (colV (l.take (k + 1)))) ∧ Hid (wr.ownsRow w.heap.size 2 1 (.slice A8 (k + 1) c8) (k + 1) (valV (l.take (k + 1)))) ∧ Hid (Blk wr g7 31 [.int .i64 n, .int .i64 m, .slice (some ⟨g5, 0, none⟩) (n + 1) (n + 1), .slice A7 (k + 1) c7, .slice A8 (k + 1) c8]) ∧ Hid (Blk wr g5 3 ((stL n (midS (l.take k) ((r : Int), x2, x3) j)).map vI)) ∧ Hid (Blk wr g6 31 [.int .i64 0, .int .i64 0, .slice none 0 0, .slice none 0 0, .slice none 0 0]) ∧ Hid (Kept [] w wr)) (fun i _ => n + 1 - (intOf i).toNat)
          case atStart =>
            refine ⟨r + 1, by omega, by omega, by go_num, Lib.hid ?_, Lib.hid ?_, HG, Lib.hid ?_, HZ, K0⟩
            · rw [HTK.out]
              have := HC.out
              simpa [colV] using this
            · rw [HTK.out]
              have := HV.out
              simpa [valV] using this
            · rw [← mid_start n r (l.take k) ((r : Int), x2, x3) rfl]
              exact HS.out
          case round =>
            clear HC HV HG HS HZ K0
            obtain ⟨j, hrj, hjn, rfl, HC, HV, HG, HS, HZ, K0⟩ := hrel
            by_cases hjl : j ≤ n
            · have HSN2 := Lib.hid (mid_step n r j (l.take k) ((r : Int), x2, x3) rfl hrj)
              have hbi := belI_in (l.take k) j
              rw [List.length_take] at hbi
              have z1 : wr.cell? ⟨g5, j, none⟩ = some (.int .i64 (belI (l.take k) j)) := by
                rw [HS.out.cell, List.getElem?_map, stL_at n _ hjl]
                unfold midS
                rw [if_neg (Nat.lt_irrefl _)]
                rfl
              obtain ⟨q, hq⟩ : ∃ q, q = belI (l.take k) j := ⟨_, rfl⟩
              rw [← hq] at hbi z1 HSN2
              clear hq
              have f1 := HS.out.frozen j
              have l5 := HS.out.lt
              have l7 := HG.out.lt
              have d2 := HG.out.cell 2
              simp only [List.getElem?_cons_zero, List.getElem?_cons_succ] at d2
              go_upto_region 9 with (fail)
              have ko := (Kept.refl [g5] wr).setCell (p := ⟨g5, j, none⟩) (.inl (by simp)) (.int .i64 (q + 1))
              replace HC := Lib.hid (own_kept HC.out ko (fun u hu => by simp; rintro rfl; exact HSN.out hu))
              replace HV := Lib.hid (own_kept HV.out ko (fun u hu => by simp; rintro rfl; exact own_ne_blk HV.out HS.out (by decide) hu))
              replace HG := Lib.hid (HG.out.kept ko (by simp; exact fun e => HG7.out.2.1 e.symm))
              replace HZ := Lib.hid (HZ.out.kept ko (by simp; exact H65.out))
              replace HS := Lib.hid (HS.out.set j (.int .i64 (q + 1)))
              rw [← List.map_set (f := vI), ← HSN2.out] at HS
              replace K0 := Lib.hid (K0.out.then ko (fun u hu => by simp at hu; subst hu; exact .inr HG5.out))
              clear ko z1 f1 l5 l7 d2 HSN2 hbi
              generalize wr.setCell ⟨g5, j, none⟩ (.int .i64 (q + 1)) = we at *
              go_wp2_with fail
              go_roundw
              case rel => exact ⟨j + 1, by omega, by omega, by go_num, HC, HV, HG, HS, HZ, K0⟩
              case measure => simp [intOf]; omega
            · obtain rfl : j = n + 1 := by omega
              rw [mid_end, ← HTK.out] at HS
              go_wp2_with fail
              go_roundw
              case rel => exact ⟨k + 1, .slice A7 (k + 1) c7, .slice A8 (k + 1) c8, by omega, by go_num, HC, HV, HSN, HG, HS, HZ, K0⟩
              case measure => simp [intOf]; omega
    · obtain rfl : k = l.length := by omega
      rw [List.take_length] at HS HC HV
      obtain ⟨A5, c5, rfl⟩ := own_n HC.out
      obtain ⟨A6, c6, rfl⟩ := own_n HV.out
      have HM := Lib.hid (show MtAt wr w.heap.size (.slice (some ⟨g5, 0, none⟩) (n + 1) (n + 1)) (.slice A5 l.length c5) (.slice A6 l.length c6) n l from ⟨own_of_blk HS.out HG5.out (by simp [startP, stL]) (by unfold maxLen; omega), HC.out, HV.out⟩)
      clear HC HV HS
      go_wp2_with (first | (refine wpList_loadBlk rfl 31 (.tmp 7) rfl g7 [.int .i64 n, .int .i64 m, .slice (some ⟨g5, 0, none⟩) (n + 1) (n + 1), .slice A5 l.length c5, .slice A6 l.length c6] _ HG.out rfl Tryz.underlying31 rfl infoRows ?_) | (refine wpList_storeBlk rfl 31 (.tmp 6) (.tmp 57) rfl g6 _ [.int .i64 n, .int .i64 m, .slice (some ⟨g5, 0, none⟩) (n + 1) (n + 1), .slice A5 l.length c5, .slice A6 l.length c6] HZ.out rfl rfl rfl infoRows (by simp [Value.oneCell']) ?_; intro w8 hb8 hk8))
      have e0 := hb8.cell 0
      have e1 := hb8.cell 1
      have e2 := hb8.cell 2
      have e3 := hb8.cell 3
      have e4 := hb8.cell 4
      simp only [List.getElem?_cons_zero, List.getElem?_cons_succ] at e0 e1 e2 e3 e4
      refine bodyPost_ret (v := .agg #[.int .i64 n, .int .i64 m, .slice (some ⟨g5, 0, none⟩) (n + 1) (n + 1), .slice A5 l.length c5, .slice A6 l.length c6]) (by simp [results, Tryz.results56, go_sem, e0, e1, e2, e3, e4]) rfl ?_
      rw [HPOST.out]
      have f8 : KeptB w.heap.size [31] wr w8 := (KeptB.refl _ _ wr).step (L := [g6]) hk8 (fun u hu => by simp at hu; subst hu; exact ⟨by rw [HW.out]; exact Nat.le_refl _, _, _, _, HZ.out, by simp⟩)
      exact ⟨_, _, _, rfl, HM.out.keptB f8 (by decide) (by decide), K0.out.thenB f8 (Nat.le_refl _)⟩
end Go.Proofs.YtblfingmdipopaaGreat
