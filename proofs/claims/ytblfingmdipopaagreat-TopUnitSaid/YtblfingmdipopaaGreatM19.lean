/- csr.empty, csr.built: the matrix of triples that rise. Conditions: rows within the matrix. -/
import Derived.Test.YtblfingmdipopaaGreatM18
namespace Go.Proofs.YtblfingmdipopaaGreat
set_option linter.unusedSimpArgs false
set_option linter.unusedVariables false
open Go.ChangeShapes Go.WideShapes Go.ChangeAt Go.RowKit
open Go.RowKit (wrap32 wrap64)
set_option maxHeartbeats 8000000
theorem infoRows : (Tryz.prog.info? 31).map (·.size) = some 5 := by kernel_rfl
theorem infoI64 : Info Tryz.prog 2 (.int .i64 0) 1 8 := by unfold Info; kernel_rfl
theorem infoTrI : Info Tryz.prog 84 (.agg #[.int .i64 0, .int .i64 0, .int .i64 0]) 3 24 := by unfold Info; kernel_rfl
def stL (n : Nat) (f : Nat → Int) : List Int := (List.range (n + 1)).map f
theorem stL_at (n : Nat) (f : Nat → Int) {j : Nat} (h : j ≤ n) : (stL n f)[j]? = some (f j) := by
  unfold stL
  rw [List.getElem?_map, List.getElem?_range (by omega)]
  rfl
theorem stL_set (n : Nat) (f : Nat → Int) (j : Nat) (v : Int) : (stL n f).set j v = stL n (fun i => if i = j then v else f i) := by
  unfold stL
  refine List.ext_getElem (by simp) (fun i h1 h2 => ?_)
  rw [List.getElem_set]
  simp
  by_cases h : j = i
  · rw [if_pos h, if_pos h.symm]
  · rw [if_neg h, if_neg (fun e => h e.symm)]
theorem stL_congr {n : Nat} {f g : Nat → Int} (h : ∀ i, i ≤ n → f i = g i) : stL n f = stL n g := by
  unfold stL
  refine List.map_congr_left (fun i hi => h i ?_)
  have := List.mem_range.1 hi
  omega
/-- How many edges go from the vertex ahead of i, and how many from those below i. -/
def cntI (l : List Ed) (i : Nat) : Int := ((l.filter (fun e => decide (e.1 + 1 = (i : Int)))).length : Int)
def belI (l : List Ed) (i : Nat) : Int := ((l.filter (fun e => decide (e.1 < (i : Int)))).length : Int)
theorem cntI_snoc (l : List Ed) (x : Ed) (i : Nat) : cntI (l ++ [x]) i = if x.1 + 1 = (i : Int) then cntI l i + 1 else cntI l i := by
  unfold cntI
  rw [List.filter_append]
  by_cases h : x.1 + 1 = (i : Int)
  · simp [h]
  · simp [h]
theorem cntI_in (l : List Ed) (i : Nat) : 0 ≤ cntI l i ∧ cntI l i ≤ l.length := by
  have := List.length_filter_le (fun e : Ed => decide (e.1 + 1 = (i : Int))) l
  unfold cntI
  omega
theorem belI_in (l : List Ed) (i : Nat) : 0 ≤ belI l i ∧ belI l i ≤ l.length := by
  have := List.length_filter_le (fun e : Ed => decide (e.1 < (i : Int))) l
  unfold belI
  omega
theorem belI_succ (l : List Ed) (i : Nat) : belI l (i + 1) = cntI l (i + 1) + belI l i := by
  unfold belI cntI
  have hi : ((i + 1 : Nat) : Int) = (i : Int) + 1 := by omega
  rw [hi]
  induction l with
  | nil => rfl
  | cons x l ih =>
    simp only [List.filter_cons, decide_eq_true_eq]
    by_cases h1 : x.1 < (i : Int)
    · rw [if_pos (show x.1 < (i : Int) + 1 by omega), if_neg (show ¬ x.1 + 1 = (i : Int) + 1 by omega), if_pos h1]
      simp only [List.length_cons]
      omega
    · by_cases h2 : x.1 = (i : Int)
      · rw [if_pos (show x.1 < (i : Int) + 1 by omega), if_pos (show x.1 + 1 = (i : Int) + 1 by omega), if_neg h1]
        simp only [List.length_cons]
        omega
      · rw [if_neg (show ¬ x.1 < (i : Int) + 1 by omega), if_neg (show ¬ x.1 + 1 = (i : Int) + 1 by omega), if_neg h1]
        exact ih
theorem cntI_zero {l : List Ed} (h : ∀ e ∈ l, 0 ≤ e.1) : cntI l 0 = 0 := by
  unfold cntI
  rw [List.filter_eq_nil_iff.2 (fun e he => by have := h e he; simp; omega)]
  rfl
theorem belI_zero {l : List Ed} (h : ∀ e ∈ l, 0 ≤ e.1) : belI l 0 = 0 := by
  unfold belI
  rw [List.filter_eq_nil_iff.2 (fun e he => by have := h e he; simp; omega)]
  rfl
/-- The starts of the rows of a matrix of these triples. -/
def startP (n : Nat) (l : List Ed) : List Int := stL n (belI l)
def mixS (l : List Ed) (k : Nat) (i : Nat) : Int := if i ≤ k then belI l i else cntI l i
abbrev colV (l : List Ed) : List Value := l.map (fun e => vI e.2.1)
abbrev valV (l : List Ed) : List Value := l.map (fun e => vI e.2.2)
theorem mix_zero (n : Nat) {l : List Ed} (h : ∀ e ∈ l, 0 ≤ e.1) : stL n (cntI l) = stL n (mixS l 0) := stL_congr (fun i _ => by
  unfold mixS
  by_cases hi : i ≤ 0
  · obtain rfl : i = 0 := by omega
    rw [if_pos hi, cntI_zero h, belI_zero h]
  · rw [if_neg hi])
theorem mix_succ (n k : Nat) (l : List Ed) : stL n (mixS l (k + 1)) = (stL n (mixS l k)).set (k + 1) (cntI l (k + 1) + belI l k) := by
  rw [stL_set]
  refine stL_congr (fun i _ => ?_)
  unfold mixS
  by_cases hi : i = k + 1
  · subst hi
    rw [if_pos (Nat.le_refl _), if_pos rfl, belI_succ]
  · by_cases h2 : i ≤ k
    · rw [if_pos (by omega), if_neg hi, if_pos h2]
    · rw [if_neg (by omega), if_neg hi, if_neg h2]
theorem mix_end (n : Nat) (l : List Ed) : stL n (mixS l n) = startP n l := stL_congr (fun i hi => by unfold mixS; rw [if_pos hi])
theorem cnt_step (n : Nat) (l : List Ed) {k r : Nat} (h : k < l.length) (hr : (l[k]).1 = (r : Int)) : stL n (cntI (l.take (k + 1))) = (stL n (cntI (l.take k))).set (r + 1) (cntI (l.take k) (r + 1) + 1) := by
  rw [List.take_succ_eq_append_getElem h, stL_set]
  refine stL_congr (fun i _ => ?_)
  rw [cntI_snoc, hr]
  by_cases hi : i = r + 1
  · subst hi
    rw [if_pos (by omega), if_pos rfl]
  · rw [if_neg (by omega), if_neg hi]
/-- A matrix of these triples lies there, in rows of the call's own. -/
structure MtAt (w : World) (base : Nat) (v1 v2 v3 : Value) (n : Nat) (l : List Ed) : Prop where
  o1 : w.ownsRow base 3 1 v1 (n + 1) ((startP n l).map vI)
  o2 : w.ownsRow base 3 1 v2 l.length (colV l)
  o3 : w.ownsRow base 2 1 v3 l.length (valV l)
theorem MtAt.kept0 {w w' : World} {base : Nat} {v1 v2 v3 : Value} {n : Nat} {l : List Ed} (h : MtAt w base v1 v2 v3 n l) (k : Kept [] w w') : MtAt w' base v1 v2 v3 n l := ⟨own_kept0 h.o1 k, own_kept0 h.o2 k, own_kept0 h.o3 k⟩
theorem MtAt.keptB {w w' : World} {base base' : Nat} {T : List TypeId} {v1 v2 v3 : Value} {n : Nat} {l : List Ed} (h : MtAt w base v1 v2 v3 n l) (k : KeptB base' T w w') (h1 : 3 ∉ T) (h2 : 2 ∉ T) : MtAt w' base v1 v2 v3 n l := ⟨own_keptB h.o1 k h1, own_keptB h.o2 k h1, own_keptB h.o3 k h2⟩
theorem MtAt.le {w : World} {base base' : Nat} {v1 v2 v3 : Value} {n : Nat} {l : List Ed} (h : MtAt w base v1 v2 v3 n l) (k : base' ≤ base) : MtAt w base' v1 v2 v3 n l := ⟨own_le h.o1 k, own_le h.o2 k, own_le h.o3 k⟩
/-- A block that a call made is a row of its own. -/
theorem own_of_blk {w : World} {base g n : Nat} {t : TypeId} {cs : List Value} (h : Blk w g t cs) (hb : base ≤ g) (hn : cs.length = n) (hm : n ≤ maxLen) : w.ownsRow base t 1 (.slice (some ⟨g, 0, none⟩) n n) n cs :=
  ⟨by omega, .inr ⟨g, n, cs.toArray, rfl, hb, h, Nat.le_refl _, hm, by simp [hn], by simp [List.take_of_length_le, hn]⟩⟩
/-- A matrix of these triples, that a call hands back. -/
def MtPost (w : World) (n m : Nat) (l : List Ed) (e : Ending) (w' : World) : Prop := ∃ v1 v2 v3, e = .returned (.agg #[.int .i64 n, .int .i64 m, v1, v2, v3]) ∧ MtAt w' w.heap.size v1 v2 v3 n l ∧ Kept [] w w'
set_option maxRecDepth 100000 in
theorem empty_any (n m : Nat) (w : World) (hn : n ≤ 4096) : Calls Tryz.prog 104 #[.int .i64 n, .int .i64 m] w fun e w' => ∃ g, e = .returned (.agg #[.int .i64 n, .int .i64 m, .slice (some ⟨g, 0, none⟩) (n + 1) (n + 1), .slice none 0 0, .slice none 0 0]) ∧ w.heap.size ≤ g ∧ Blk w' g 3 (List.replicate (n + 1) (vI 0)) ∧ Kept [] w w' := by
  have HZ := Lib.hid (Blk.new w 31 [.int .i64 0, .int .i64 0, .slice none 0 0, .slice none 0 0, .slice none 0 0])
  have K0 := Lib.hid ((Kept.refl [] w).alloc (.cells #[.int .i64 0, .int .i64 0, .slice none 0 0, .slice none 0 0, .slice none 0 0] 31))
  have HG := Lib.hid (show w.heap.size ≤ w.heap.size from Nat.le_refl _)
  go_enter Tryz.func104, Tryz.ntmps104
  go_upto_region 1 with (fail)
  generalize w.alloc (.cells #[.int .i64 0, .int .i64 0, .slice none 0 0, .slice none 0 0, .slice none 0 0] 31) = w2 at *
  generalize hgq : w.heap.size = g at HZ ⊢
  rw [hgq] at HG
  have hsz := K0.out.size
  go_wp2_with (first
    | (at_make; refine wpList_mk _ rfl _ _ _ rfl 3 _ 8 Tryz.underlying28 infoInt rfl _ _ _ _ (n + 1) rfl rfl (by simp) (by simp) (by omega) (by unfold maxLen; omega) ?_; intro w3 hblk hk3)
    | (refine wpList_storeBlk rfl 31 (.tmp 4) (.tmp 10) rfl g _ [.int .i64 n, .int .i64 m, .slice (some ⟨w2.heap.size, 0, none⟩) (n + 1) (n + 1), .slice none 0 0, .slice none 0 0] (HZ.out.kept hk3 (by simp)) rfl rfl rfl infoRows (by simp [Value.oneCell']) ?_; intro w8 hb8 hk8))
  have hne : w2.heap.size ≠ g := by have := HZ.out.lt; omega
  have e0 := hb8.cell 0
  have e1 := hb8.cell 1
  have e2 := hb8.cell 2
  have e3 := hb8.cell 3
  have e4 := hb8.cell 4
  simp only [List.getElem?_cons_zero, List.getElem?_cons_succ] at e0 e1 e2 e3 e4
  refine bodyPost_ret (v := .agg #[.int .i64 n, .int .i64 m, .slice (some ⟨w2.heap.size, 0, none⟩) (n + 1) (n + 1), .slice none 0 0, .slice none 0 0]) (by simp [results, Tryz.results104, go_sem, e0, e1, e2, e3, e4]) rfl ?_
  exact ⟨w2.heap.size, rfl, by omega, hblk.kept hk8 (by simpa using hne), (K0.out.trans hk3).then hk8 (fun q hq => by simp at hq; subst hq; exact .inr (by rw [← hgq]; exact Nat.le_refl _))⟩
set_option maxRecDepth 100000 in
theorem built_any (n m : Nat) (l : List Ed) (A : Option Addr) (c : Nat) (w : World) (hn : n ≤ 4096) (hl : l.length ≤ 1048576) (hA : Reads w A (l.flatMap edV)) (hr : ∀ e ∈ l, 0 ≤ e.1 ∧ e.1 < n) :
    Calls Tryz.prog 90 #[.int .i64 n, .int .i64 m, .slice A l.length c] w (MtPost w n m l) := by
  have HA := Lib.hid hA
  have HR := Lib.hid hr
  have HM0 := Lib.hid (mix_zero n (fun e he => (hr e he).1))
  clear hA hr
  obtain ⟨post, hpost⟩ : ∃ post : Ending → World → Prop, post = MtPost w n m l := ⟨_, rfl⟩
  rw [← hpost]
  have HPOST := Lib.hid hpost
  clear hpost
  have HZ := Lib.hid (Blk.new w 31 [.int .i64 0, .int .i64 0, .slice none 0 0, .slice none 0 0, .slice none 0 0])
  have K0 := Lib.hid ((Kept.refl [] w).alloc (.cells #[.int .i64 0, .int .i64 0, .slice none 0 0, .slice none 0 0, .slice none 0 0] 31))
  have HG6 := Lib.hid (show w.heap.size ≤ w.heap.size from Nat.le_refl _)
  go_enter Tryz.func90, Tryz.ntmps90
  go_upto_region 1 with (fail)
  generalize w.alloc (.cells #[.int .i64 0, .int .i64 0, .slice none 0 0, .slice none 0 0, .slice none 0 0] 31) = w2 at *
  generalize hgq : w.heap.size = g6 at HZ ⊢
  have HW := Lib.hid hgq
  rw [hgq] at HG6
  clear hgq
  go_wp2_with fail
  refine (empty_any n m w2 hn).mono ?_
  rintro _ w3 ⟨g5, rfl, hg5, hb5, hk3⟩
  have H65 := Lib.hid (show g6 ≠ g5 by have := HZ.out.lt; omega)
  replace HZ := Lib.hid (HZ.out.kept hk3 (by simp))
  have HG5 := Lib.hid (Nat.le_trans K0.out.size hg5)
  replace K0 := Lib.hid (K0.out.trans hk3)
  have HS := Lib.hid (show Blk w3 g5 3 ((stL n (cntI (l.take 0))).map vI) by
    rw [show (stL n (cntI (l.take 0))).map vI = List.replicate (n + 1) (vI 0) from ?_]
    · exact hb5
    · unfold stL
      rw [List.map_map]
      refine List.ext_getElem (by simp) (fun i h1 h2 => ?_)
      simp [cntI])
  clear hg5 hb5 hk3
  go_upto_region 2 with (first | (refine wpList_storeBlk rfl 31 (.tmp 7) (.tmp 13) rfl w3.heap.size [.int .i64 0, .int .i64 0, .slice none 0 0, .slice none 0 0, .slice none 0 0] [.int .i64 n, .int .i64 m, .slice (some ⟨g5, 0, none⟩) (n + 1) (n + 1), .slice none 0 0, .slice none 0 0] (Blk.new _ _ _) rfl rfl rfl infoRows (by simp [Value.oneCell']) ?_; intro w4 hb4 hk4))
  have hk43 := (Kept.refl [] w3).alloc (.cells #[.int .i64 0, .int .i64 0, .slice none 0 0, .slice none 0 0, .slice none 0 0] 31)
  have hk44 : Kept [] w3 w4 := hk43.then hk4 (fun q hq => by simp at hq; subst hq; exact .inr (Nat.le_refl _))
  have HG := Lib.hid hb4
  have HG7 := Lib.hid (show w.heap.size ≤ w3.heap.size ∧ g5 ≠ w3.heap.size ∧ g6 ≠ w3.heap.size from ⟨K0.out.size, by have := HS.out.lt; omega, by have := HZ.out.lt; omega⟩)
  replace HZ := Lib.hid (HZ.out.kept hk44 (by simp))
  replace HS := Lib.hid (HS.out.kept hk44 (by simp))
  replace K0 := Lib.hid (K0.out.trans hk44)
  clear hk43 hk44 hk4 hb4
  generalize w3.heap.size = g7 at HG HG7 ⊢
  go_wp2_with fail
  go_loopw [16] (fun i wr => ∃ (k : Nat) (vc vv : Value), k ≤ l.length ∧ i = .int .i64 k ∧ Hid (wr.ownsRow w.heap.size 3 1 vc k (colV (l.take k))) ∧ Hid (wr.ownsRow w.heap.size 2 1 vv k (valV (l.take k))) ∧ Hid (vc.ownBlock ≠ some g5) ∧ Hid (Blk wr g7 31 [.int .i64 n, .int .i64 m, .slice (some ⟨g5, 0, none⟩) (n + 1) (n + 1), vc, vv]) ∧ Hid (Blk wr g5 3 ((stL n (cntI (l.take k))).map vI)) ∧ Hid (Blk wr g6 31 [.int .i64 0, .int .i64 0, .slice none 0 0, .slice none 0 0, .slice none 0 0]) ∧ Hid (Kept [] w wr)) (fun i _ => l.length - (intOf i).toNat)
  case atStart => exact ⟨0, .slice none 0 0, .slice none 0 0, Nat.zero_le _, rfl, Lib.hid (World.ownsRow_nil _ _ _ _), Lib.hid (World.ownsRow_nil _ _ _ _), Lib.hid (by simp [Value.ownBlock]), HG, HS, HZ, K0⟩
  case round =>
    clear HG HS HZ K0
    obtain ⟨k, vc, vv, hk, rfl, HC, HV, HN, HG, HS, HZ, K0⟩ := hrel
    by_cases hlt : k < l.length
    · have HTK := Lib.hid (List.take_succ_eq_append_getElem hlt)
      have hrow := HR.out l[k] (List.getElem_mem _)
      obtain ⟨r, hrq⟩ := Int.eq_ofNat_of_zero_le hrow.1
      have HSN := Lib.hid (cnt_step n l hlt hrq)
      obtain ⟨b, off, rfl, hbl, c0, c1, c2⟩ := edge_at (HA.out.kept0 K0.out) hlt
      obtain ⟨x, hx⟩ : ∃ x, x = l[k] := ⟨_, rfl⟩
      rw [← hx] at c0 c1 c2 HTK hrow hrq
      clear hx
      obtain ⟨x1, x2, x3⟩ := x
      dsimp only at c0 c1 c2 hrow hrq
      subst hrq
      have hrn : r + 1 ≤ n := by omega
      clear hrow
      have hci := cntI_in (l.take k) (r + 1)
      rw [List.length_take] at hci
      have z0 : wr.cell? ⟨g5, r + 1, none⟩ = some (.int .i64 (cntI (l.take k) (r + 1))) := by rw [HS.out.cell, List.getElem?_map, stL_at n _ hrn]; rfl
      obtain ⟨q, hq⟩ : ∃ q, q = cntI (l.take k) (r + 1) := ⟨_, rfl⟩
      rw [← hq] at hci z0 HSN
      clear hq
      go_upto_region 5 with (fail)
      have kd := Lib.hid ((Kept.refl [] wr).alloc (.cells #[.int .i64 r, .int .i64 x2, .int .i64 x3] 84))
      have HE := Lib.hid (Blk.new wr 84 [.int .i64 r, .int .i64 x2, .int .i64 x3])
      have HN9 := Lib.hid (show wr.heap.size ≠ g7 ∧ wr.heap.size ≠ g5 from ⟨by have := HG.out.lt; omega, by have := HS.out.lt; omega⟩)
      have HN8 := Lib.hid (fun q hq => (HC.out.lt q hq).2 : ∀ q, vc.ownBlock = some q → q < wr.heap.size)
      have HN7 := Lib.hid (fun q hq => (HV.out.lt q hq).2 : ∀ q, vv.ownBlock = some q → q < wr.heap.size)
      replace HC := Lib.hid (own_kept0 HC.out kd.out)
      replace HV := Lib.hid (own_kept0 HV.out kd.out)
      replace HG := Lib.hid (HG.out.kept kd.out (by simp))
      replace HS := Lib.hid (HS.out.kept kd.out (by simp))
      replace HZ := Lib.hid (HZ.out.kept kd.out (by simp))
      replace K0 := Lib.hid (K0.out.trans kd.out)
      replace z0 := kd.out.cell_lt z0
      clear kd c0 c1 c2 hbl
      generalize wr.alloc (.cells #[.int .i64 r, .int .i64 x2, .int .i64 x3] 84) = w5 at *
      generalize wr.heap.size = g9 at HE HN9 HN8 HN7 ⊢
      have d2 := HG.out.cell 2
      have e0 := HE.out.cell 0
      have f0 := HS.out.frozen (r + 1)
      have l5 := HS.out.lt
      have l7 := HG.out.lt
      simp only [List.getElem?_cons_zero, List.getElem?_cons_succ] at d2 e0
      go_upto_region 6 with (fail)
      have ko := (Kept.refl [g5] w5).setCell (p := ⟨g5, r + 1, none⟩) (.inl (by simp)) (.int .i64 (q + 1))
      replace HC := Lib.hid (own_kept HC.out ko (fun u hu => by simp; rintro rfl; exact HN.out hu))
      replace HV := Lib.hid (own_kept HV.out ko (fun u hu => by simp; rintro rfl; exact own_ne_blk HV.out HS.out (by decide) hu))
      replace HG := Lib.hid (HG.out.kept ko (by simp; exact fun e => HG7.out.2.1 e.symm))
      replace HZ := Lib.hid (HZ.out.kept ko (by simp; exact H65.out))
      replace HE := Lib.hid (HE.out.kept ko (by simp; exact HN9.out.2))
      replace HS := Lib.hid (HS.out.set (r + 1) (.int .i64 (q + 1)))
      rw [← List.map_set (f := vI), ← HSN.out] at HS
      replace K0 := Lib.hid (K0.out.then ko (fun u hu => by simp at hu; subst hu; exact .inr HG5.out))
      clear ko z0 d2 e0 f0 l5 l7 HSN hci
      generalize w5.setCell ⟨g5, r + 1, none⟩ (.int .i64 (q + 1)) = w6 at *
      obtain ⟨A5, c5, rfl⟩ := own_n HC.out
      obtain ⟨A6, c6, rfl⟩ := own_n HV.out
      have hsz := K0.out.size
      have d3 := HG.out.cell 3
      have e1 := HE.out.cell 1
      have l7 := HG.out.lt
      simp only [List.getElem?_cons_zero, List.getElem?_cons_succ] at d3 e1
      go_upto_region 7 with (first | (at_builtin; refine wpList_app _ rfl (.tmp 30) (.tmp 33) _ rfl 3 (.int .i64 0) 1 8 Tryz.underlying28 infoInt rfl (by decide) w.heap.size (.slice A5 k c5) k _ rfl (HC.out.alloc _) (some ⟨_, 0, none⟩) 1 1 [vI x2] rfl rfl (Reads.of_blk (Blk.new _ _ _) (fun _ _ h => h)) (by simp [Value.oneCell']) (by omega) (by unfold maxLen; omega) (by simp; omega) ?_; intro va wa howna hka hba; obtain ⟨A7, c7, rfl⟩ := own_n howna; have hks := ((Kept.refl [] w6).alloc (.cells #[vI x2] 3)); have hne7 : g7 ∉ (Value.slice A5 k c5).ownBlock.toList := fun hm => own_ne_blk HC.out HG.out (by decide) (by simpa using hm); have hne5 : g5 ∉ (Value.slice A5 k c5).ownBlock.toList := fun hm => HN.out (by simpa using hm); have hne6 : g6 ∉ (Value.slice A5 k c5).ownBlock.toList := fun hm => own_ne_blk HC.out HZ.out (by decide) (by simpa using hm); have hne9 : g9 ∉ (Value.slice A5 k c5).ownBlock.toList := fun hm => own_ne_blk HC.out HE.out (by decide) (by simpa using hm); replace HG := Lib.hid ((HG.out.kept hks (by simp)).kept hka hne7); replace HZ := Lib.hid ((HZ.out.kept hks (by simp)).kept hka hne6); replace HE := Lib.hid ((HE.out.kept hks (by simp)).kept hka hne9); have HSN := Lib.hid (show (Value.slice A7 (k + 1) c7).ownBlock ≠ some g5 from by exact hba.elim (fun h => by rw [h]; exact HN.out) (fun h => by rw [h]; have := HS.out.lt; simp; omega)); replace HS := Lib.hid ((HS.out.kept hks (by simp)).kept hka hne5); have Fa := (((KeptB.refl w.heap.size [3] w6).alloc (.cells #[vI x2] 3)).app hka (HC.out.alloc _) (by decide)); replace HV := Lib.hid (own_keptB HV.out Fa (by decide)); replace K0 := Lib.hid (K0.out.thenB Fa (Nat.le_refl _)); replace HC := Lib.hid howna; clear hks hne7 hne5 hne6 hne9 hka hba howna Fa d3 e1 l7 HN hsz; have f3 := HG.out.frozen 3; have d3 := HG.out.cell 3; have l7 := HG.out.lt; simp only [List.getElem?_cons_zero, List.getElem?_cons_succ] at d3))
      have ko := (Kept.refl [g7] wa).setCell (p := ⟨g7, 3, none⟩) (.inl (by simp)) (.slice A7 (k + 1) c7)
      replace HC := Lib.hid (own_kept HC.out ko (fun u hu => by simp; rintro rfl; exact own_ne_blk HC.out HG.out (by decide) hu))
      replace HV := Lib.hid (own_kept HV.out ko (fun u hu => by simp; rintro rfl; exact own_ne_blk HV.out HG.out (by decide) hu))
      replace HS := Lib.hid (HS.out.kept ko (by simp; exact HG7.out.2.1))
      replace HZ := Lib.hid (HZ.out.kept ko (by simp; exact HG7.out.2.2))
      replace HE := Lib.hid (HE.out.kept ko (by simp; exact HN9.out.1))
      replace HG := Lib.hid (HG.out.set 3 (.slice A7 (k + 1) c7))
      simp only [List.set_cons_zero, List.set_cons_succ] at HG
      replace K0 := Lib.hid (K0.out.then ko (fun u hu => by simp at hu; subst hu; exact .inr HG7.out.1))
      clear ko f3 d3 l7
      generalize wa.setCell ⟨g7, 3, none⟩ (.slice A7 (k + 1) c7) = wb at *
      have hsz := K0.out.size
      have d4 := HG.out.cell 4
      have e2 := HE.out.cell 2
      have l7 := HG.out.lt
      simp only [List.getElem?_cons_zero, List.getElem?_cons_succ] at d4 e2
      go_upto_region 8 with (first | (at_builtin; refine wpList_app _ rfl (.tmp 37) (.tmp 40) _ rfl 2 (.int .i64 0) 1 8 Tryz.underlying29 infoI64 rfl (by decide) w.heap.size (.slice A6 k c6) k _ rfl (HV.out.alloc _) (some ⟨_, 0, none⟩) 1 1 [vI x3] rfl rfl (Reads.of_blk (Blk.new _ _ _) (fun _ _ h => h)) (by simp [Value.oneCell']) (by omega) (by unfold maxLen; omega) (by simp; omega) ?_; intro vb wc hownb hkb hbb; obtain ⟨A8, c8, rfl⟩ := own_n hownb; have Fa := (((KeptB.refl w.heap.size [2] wb).alloc (.cells #[vI x3] 2)).app hkb (HV.out.alloc _) (by decide)); replace HG := Lib.hid (HG.out.keptB Fa (by decide)); replace HZ := Lib.hid (HZ.out.keptB Fa (by decide)); replace HS := Lib.hid (HS.out.keptB Fa (by decide)); replace HC := Lib.hid (own_keptB HC.out Fa (by decide)); replace K0 := Lib.hid (K0.out.thenB Fa (Nat.le_refl _)); replace HV := Lib.hid hownb; clear hkb hbb hownb Fa d4 e2 l7 hsz HE; have f4 := HG.out.frozen 4; have d4 := HG.out.cell 4; have l7 := HG.out.lt; simp only [List.getElem?_cons_zero, List.getElem?_cons_succ] at d4))
      have ko := (Kept.refl [g7] wc).setCell (p := ⟨g7, 4, none⟩) (.inl (by simp)) (.slice A8 (k + 1) c8)
      replace HC := Lib.hid (own_kept HC.out ko (fun u hu => by simp; rintro rfl; exact own_ne_blk HC.out HG.out (by decide) hu))
      replace HV := Lib.hid (own_kept HV.out ko (fun u hu => by simp; rintro rfl; exact own_ne_blk HV.out HG.out (by decide) hu))
      replace HS := Lib.hid (HS.out.kept ko (by simp; exact HG7.out.2.1))
      replace HZ := Lib.hid (HZ.out.kept ko (by simp; exact HG7.out.2.2))
      replace HG := Lib.hid (HG.out.set 4 (.slice A8 (k + 1) c8))
      simp only [List.set_cons_zero, List.set_cons_succ] at HG
      replace K0 := Lib.hid (K0.out.then ko (fun u hu => by simp at hu; subst hu; exact .inr HG7.out.1))
      clear ko f4 d4 l7
      generalize wc.setCell ⟨g7, 4, none⟩ (.slice A8 (k + 1) c8) = wd at *
      go_wp2_with fail
      go_roundw
      case rel =>
        refine ⟨k + 1, .slice A7 (k + 1) c7, .slice A8 (k + 1) c8, by omega, by go_num, Lib.hid ?_, Lib.hid ?_, HSN, HG, HS, HZ, K0⟩
        · rw [HTK.out]
          have := HC.out
          simpa [colV] using this
        · rw [HTK.out]
          have := HV.out
          simpa [valV] using this
      case measure => simp [intOf]; omega
    · obtain rfl : k = l.length := by omega
      rw [List.take_length] at *
      rw [HM0.out] at HS
      go_upto_region 9 with (fail)
      generalize hw5 : wr = w5 at *
      clear hw5
      go_wp2_with fail
      go_loopw [45] (fun i wr => ∃ k : Nat, k ≤ n ∧ i = .int .i64 k ∧ Hid (wr.ownsRow w.heap.size 3 1 vc l.length (colV l)) ∧ Hid (wr.ownsRow w.heap.size 2 1 vv l.length (valV l)) ∧ Hid (Blk wr g7 31 [.int .i64 n, .int .i64 m, .slice (some ⟨g5, 0, none⟩) (n + 1) (n + 1), vc, vv]) ∧ Hid (Blk wr g5 3 ((stL n (mixS l k)).map vI)) ∧ Hid (Blk wr g6 31 [.int .i64 0, .int .i64 0, .slice none 0 0, .slice none 0 0, .slice none 0 0]) ∧ Hid (Kept [] w wr)) (fun i _ => n - (intOf i).toNat)
      case atStart => exact ⟨0, Nat.zero_le _, rfl, HC, HV, HG, HS, HZ, K0⟩
      case round =>
        clear HG HS HZ K0 HC HV
        obtain ⟨k, hk, rfl, HC, HV, HG, HS, HZ, K0⟩ := hrel
        by_cases hlt : k < n
        · have d2 := HG.out.cell 2
          have b0 := belI_in l k
          have b1 := cntI_in l (k + 1)
          have HSN := Lib.hid (mix_succ n k l)
          obtain ⟨p, hp⟩ : ∃ p, p = belI l k := ⟨_, rfl⟩
          obtain ⟨q, hq⟩ : ∃ q, q = cntI l (k + 1) := ⟨_, rfl⟩
          rw [← hp] at b0 HSN
          rw [← hq] at b1 HSN
          have HP := Lib.hid hp.symm
          have HQ := Lib.hid hq.symm
          clear hp hq
          simp only [List.getElem?_cons_zero, List.getElem?_cons_succ] at d2
          go_upto_region 12 with (fail)
          refine wp_region_held_drew (S := (fun w' => w'.cell? ⟨g7, 2, none⟩ = some (.slice (some ⟨g5, 0, none⟩) (n + 1) (n + 1)))) (by kernel_rfl) ?_ (fun hHeld => ?_)
          · exact d2
          have kz := (Kept.refl [] wr).drew
          replace HC := Lib.hid (own_kept0 HC.out kz)
          replace HV := Lib.hid (own_kept0 HV.out kz)
          replace HG := Lib.hid (HG.out.kept kz (by simp))
          replace HS := Lib.hid (HS.out.kept kz (by simp))
          replace HZ := Lib.hid (HZ.out.kept kz (by simp))
          replace K0 := Lib.hid (K0.out.trans kz)
          clear kz
          generalize wr.drew = w3 at *
          have d2 := HG.out.cell 2
          simp only [List.getElem?_cons_zero, List.getElem?_cons_succ] at d2
          have z0 : w3.cell? ⟨g5, k, none⟩ = some (.int .i64 p) := by rw [HS.out.cell, List.getElem?_map, stL_at n _ (by omega)]; simp [mixS, HP.out]
          have z1 : w3.cell? ⟨g5, k + 1, none⟩ = some (.int .i64 q) := by rw [HS.out.cell, List.getElem?_map, stL_at n _ (by omega)]; simp only [mixS]; rw [if_neg (by omega), HQ.out]; rfl
          have f1 := HS.out.frozen (k + 1)
          have hwq : IntKind.i64.wrap (q + p) = q + p := by rw [IntKind.wrap_i64]; omega
          have hwk : IntKind.i64.wrap ((k : Int) + 1) = (k : Int) + 1 := by rw [IntKind.wrap_i64]; omega
          have l5 := HS.out.lt
          have l7 := HG.out.lt
          refine tkYes (i := 0) (v := ?_) rfl rfl (by kernel_rfl) (by kernel_rfl) (by kernel_rfl) (fun _ _ _ h => h) (by rfl) ?_ (by assumption) ?_
          rotate_left
          · (intro w' hSw; (try dsimp only at hSw); go_simp; try with_reducible rfl)
          try simp only [Act.put, List.setIfInBounds_toArray, List.set_cons_zero, List.set_cons_succ]
          refine tkYes (i := 1) (v := ?_) rfl rfl (by kernel_rfl) (by kernel_rfl) (by kernel_rfl) (fun _ _ _ h => h) (by rfl) ?_ (by assumption) ?_
          rotate_left
          · (intro w' hSw; (try dsimp only at hSw); go_simp; try with_reducible rfl)
          try simp only [Act.put, List.setIfInBounds_toArray, List.set_cons_zero, List.set_cons_succ]
          refine tkYes (i := 2) (v := ?_) rfl rfl (by kernel_rfl) (by kernel_rfl) (by kernel_rfl) (fun _ _ _ h => h) (by rfl) ?_ (by assumption) ?_
          rotate_left
          · (intro w' hSw; (try dsimp only at hSw); go_simp; try with_reducible rfl)
          try simp only [Act.put, List.setIfInBounds_toArray, List.set_cons_zero, List.set_cons_succ]
          refine tkYes (i := 3) (v := .int .i64 ((k : Int) + 1)) rfl rfl (by kernel_rfl) (by kernel_rfl) (by kernel_rfl) (fun _ _ _ h => h) (by rfl) ?_ (by assumption) ?_
          skip
          · (intro w' hSw; (try dsimp only at hSw); go_simp; try (rw [hwk]))
          try simp only [Act.put, List.setIfInBounds_toArray, List.set_cons_zero, List.set_cons_succ]
          refine tkYes (i := 4) (v := .pointer (some ⟨g5, k + 1, none⟩)) rfl rfl (by kernel_rfl) (by kernel_rfl) (by kernel_rfl) (fun _ _ _ h => h) (by rfl) ?_ (by assumption) ?_
          skip
          · (intro w' hSw; (try dsimp only at hSw); go_simp; (intro hbad; omega))
          try simp only [Act.put, List.setIfInBounds_toArray, List.set_cons_zero, List.set_cons_succ]
          refine tkYes (i := 6) (v := ?_) rfl rfl (by kernel_rfl) (by kernel_rfl) (by kernel_rfl) (fun _ _ _ h => h) (by rfl) ?_ (by assumption) ?_
          rotate_left
          · (intro w' hSw; (try dsimp only at hSw); go_simp; try with_reducible rfl)
          try simp only [Act.put, List.setIfInBounds_toArray, List.set_cons_zero, List.set_cons_succ]
          refine tkYes (i := 7) (v := ?_) rfl rfl (by kernel_rfl) (by kernel_rfl) (by kernel_rfl) (fun _ _ _ h => h) (by rfl) ?_ (by assumption) ?_
          rotate_left
          · (intro w' hSw; (try dsimp only at hSw); go_simp; try with_reducible rfl)
          try simp only [Act.put, List.setIfInBounds_toArray, List.set_cons_zero, List.set_cons_succ]
          refine tkYes (i := 8) (v := ?_) rfl rfl (by kernel_rfl) (by kernel_rfl) (by kernel_rfl) (fun _ _ _ h => h) (by rfl) ?_ (by assumption) ?_
          rotate_left
          · (intro w' hSw; (try dsimp only at hSw); go_simp; try with_reducible rfl)
          try simp only [Act.put, List.setIfInBounds_toArray, List.set_cons_zero, List.set_cons_succ]
          refine tkYes (i := 9) (v := .pointer (some ⟨g5, k, none⟩)) rfl rfl (by kernel_rfl) (by kernel_rfl) (by kernel_rfl) (fun _ _ _ h => h) (by rfl) ?_ (by assumption) ?_
          skip
          · (intro w' hSw; (try dsimp only at hSw); go_simp; (intro hbad; omega))
          try simp only [Act.put, List.setIfInBounds_toArray, List.set_cons_zero, List.set_cons_succ]
          refine wpAnyH_ready (rs := [5, 10]) (by kernel_rfl) (by simp) ?_
          refine AllReadyH.cons rfl (fun K hK => ?_) (AllReadyH.cons rfl (fun K hK => ?_) AllReadyH.nil)
          · go_simp
            refine hK.out _ _ ?_ (fun hHeld => ?_)
            · exact d2
            clear hK K
            try simp only [Act.put, List.setIfInBounds_toArray, List.set_cons_zero, List.set_cons_succ]
            refine wpAnyH_ready (rs := [10]) (by kernel_rfl) (by simp) ?_
            refine AllReadyH.cons rfl (fun K hK => ?_) AllReadyH.nil
            go_simp
            refine hK.out _ _ ?_ (fun hHeld => ?_)
            · exact d2
            clear hK K
            try simp only [Act.put, List.setIfInBounds_toArray, List.set_cons_zero, List.set_cons_succ]
            refine tkYes (i := 11) (v := .int .i64 (q + p)) rfl rfl (by kernel_rfl) (by kernel_rfl) (by kernel_rfl) (fun _ _ _ h => h) (by rfl) ?_ (by assumption) ?_
            skip
            · (intro w' hSw; (try dsimp only at hSw); go_simp; try (rw [hwq]))
            try simp only [Act.put, List.setIfInBounds_toArray, List.set_cons_zero, List.set_cons_succ]
            refine tkYes (i := 12) (v := .pointer (some ⟨g5, k + 1, none⟩)) rfl rfl (by kernel_rfl) (by kernel_rfl) (by kernel_rfl) (fun _ _ _ h => h) (by rfl) ?_ (by assumption) ?_
            skip
            · (intro w' hSw; (try dsimp only at hSw); go_simp; (intro hbad; omega))
            try simp only [Act.put, List.setIfInBounds_toArray, List.set_cons_zero, List.set_cons_succ]
            refine wpAnyH_ready (rs := [13]) (by kernel_rfl) (by simp) ?_
            refine AllReadyH.cons rfl (fun K hK => ?_) AllReadyH.nil
            go_simp
            have ko := (Kept.refl [g5] w3).setCell (p := ⟨g5, k + 1, none⟩) (.inl (by simp)) (.int .i64 (q + p))
            replace HC := Lib.hid (own_kept HC.out ko (fun u hu => by simp; rintro rfl; exact HN.out hu))
            replace HV := Lib.hid (own_kept HV.out ko (fun u hu => by simp; rintro rfl; exact own_ne_blk HV.out HS.out (by decide) hu))
            replace HG := Lib.hid (HG.out.kept ko (by simp; exact fun e => HG7.out.2.1 e.symm))
            replace HZ := Lib.hid (HZ.out.kept ko (by simp; exact H65.out))
            replace HS := Lib.hid (HS.out.set (k + 1) (.int .i64 (q + p)))
            rw [← List.map_set (f := vI), ← HSN.out] at HS
            replace K0 := Lib.hid (K0.out.then ko (fun u hu => by simp at hu; subst hu; exact .inr HG5.out))
            clear ko z0 z1 d2 f1 l5 l7 HSN b0 b1
            generalize w3.setCell ⟨g5, k + 1, none⟩ (.int .i64 (q + p)) = w4 at *
            refine hK.out _ _ ?_ (fun hHeld => ?_)
            · exact HG.out.cell 2
            clear hK K
            try simp only [Act.put, List.setIfInBounds_toArray, List.set_cons_zero, List.set_cons_succ]
            refine wpAnyH_done (by kernel_rfl) ?_ _
            go_wp2_with fail
            go_roundw
            case rel => exact ⟨k + 1, by omega, by go_num, HC, HV, HG, HS, HZ, K0⟩
            case measure => simp [intOf]; omega
          · go_simp
            refine hK.out _ _ ?_ (fun hHeld => ?_)
            · exact d2
            clear hK K
            try simp only [Act.put, List.setIfInBounds_toArray, List.set_cons_zero, List.set_cons_succ]
            refine wpAnyH_ready (rs := [5]) (by kernel_rfl) (by simp) ?_
            refine AllReadyH.cons rfl (fun K hK => ?_) AllReadyH.nil
            go_simp
            refine hK.out _ _ ?_ (fun hHeld => ?_)
            · exact d2
            clear hK K
            try simp only [Act.put, List.setIfInBounds_toArray, List.set_cons_zero, List.set_cons_succ]
            refine tkYes (i := 11) (v := .int .i64 (q + p)) rfl rfl (by kernel_rfl) (by kernel_rfl) (by kernel_rfl) (fun _ _ _ h => h) (by rfl) ?_ (by assumption) ?_
            skip
            · (intro w' hSw; (try dsimp only at hSw); go_simp; try (rw [hwq]))
            try simp only [Act.put, List.setIfInBounds_toArray, List.set_cons_zero, List.set_cons_succ]
            refine tkYes (i := 12) (v := .pointer (some ⟨g5, k + 1, none⟩)) rfl rfl (by kernel_rfl) (by kernel_rfl) (by kernel_rfl) (fun _ _ _ h => h) (by rfl) ?_ (by assumption) ?_
            skip
            · (intro w' hSw; (try dsimp only at hSw); go_simp; (intro hbad; omega))
            try simp only [Act.put, List.setIfInBounds_toArray, List.set_cons_zero, List.set_cons_succ]
            refine wpAnyH_ready (rs := [13]) (by kernel_rfl) (by simp) ?_
            refine AllReadyH.cons rfl (fun K hK => ?_) AllReadyH.nil
            go_simp
            have ko := (Kept.refl [g5] w3).setCell (p := ⟨g5, k + 1, none⟩) (.inl (by simp)) (.int .i64 (q + p))
            replace HC := Lib.hid (own_kept HC.out ko (fun u hu => by simp; rintro rfl; exact HN.out hu))
            replace HV := Lib.hid (own_kept HV.out ko (fun u hu => by simp; rintro rfl; exact own_ne_blk HV.out HS.out (by decide) hu))
            replace HG := Lib.hid (HG.out.kept ko (by simp; exact fun e => HG7.out.2.1 e.symm))
            replace HZ := Lib.hid (HZ.out.kept ko (by simp; exact H65.out))
            replace HS := Lib.hid (HS.out.set (k + 1) (.int .i64 (q + p)))
            rw [← List.map_set (f := vI), ← HSN.out] at HS
            replace K0 := Lib.hid (K0.out.then ko (fun u hu => by simp at hu; subst hu; exact .inr HG5.out))
            clear ko z0 z1 d2 f1 l5 l7 HSN b0 b1
            generalize w3.setCell ⟨g5, k + 1, none⟩ (.int .i64 (q + p)) = w4 at *
            refine hK.out _ _ ?_ (fun hHeld => ?_)
            · exact HG.out.cell 2
            clear hK K
            try simp only [Act.put, List.setIfInBounds_toArray, List.set_cons_zero, List.set_cons_succ]
            refine wpAnyH_done (by kernel_rfl) ?_ _
            go_wp2_with fail
            go_roundw
            case rel => exact ⟨k + 1, by omega, by go_num, HC, HV, HG, HS, HZ, K0⟩
            case measure => simp [intOf]; omega
        · obtain rfl : k = n := by omega
          rw [mix_end] at HS
          obtain ⟨A5, c5, rfl⟩ := own_n HC.out
          obtain ⟨A6, c6, rfl⟩ := own_n HV.out
          have HM := Lib.hid (show MtAt wr w.heap.size (.slice (some ⟨g5, 0, none⟩) (k + 1) (k + 1)) (.slice A5 l.length c5) (.slice A6 l.length c6) k l from ⟨own_of_blk HS.out HG5.out (by simp [startP, stL]) (by unfold maxLen; omega), HC.out, HV.out⟩)
          clear HC HV HS
          go_wp2_with (first | (refine wpList_loadBlk rfl 31 (.tmp 7) rfl g7 [.int .i64 k, .int .i64 m, .slice (some ⟨g5, 0, none⟩) (k + 1) (k + 1), .slice A5 l.length c5, .slice A6 l.length c6] _ HG.out rfl Tryz.underlying31 rfl infoRows ?_) | (refine wpList_storeBlk rfl 31 (.tmp 6) (.tmp 62) rfl g6 _ [.int .i64 k, .int .i64 m, .slice (some ⟨g5, 0, none⟩) (k + 1) (k + 1), .slice A5 l.length c5, .slice A6 l.length c6] HZ.out rfl rfl rfl infoRows (by simp [Value.oneCell']) ?_; intro w8 hb8 hk8))
          have e0 := hb8.cell 0
          have e1 := hb8.cell 1
          have e2 := hb8.cell 2
          have e3 := hb8.cell 3
          have e4 := hb8.cell 4
          simp only [List.getElem?_cons_zero, List.getElem?_cons_succ] at e0 e1 e2 e3 e4
          refine bodyPost_ret (v := .agg #[.int .i64 k, .int .i64 m, .slice (some ⟨g5, 0, none⟩) (k + 1) (k + 1), .slice A5 l.length c5, .slice A6 l.length c6]) (by simp [results, Tryz.results90, go_sem, e0, e1, e2, e3, e4]) rfl ?_
          rw [HPOST.out]
          have f8 : KeptB w.heap.size [31] wr w8 := (KeptB.refl _ _ wr).step (L := [g6]) hk8 (fun u hu => by simp at hu; subst hu; exact ⟨by rw [HW.out]; exact Nat.le_refl _, _, _, _, HZ.out, by simp⟩)
          exact ⟨_, _, _, rfl, HM.out.keptB f8 (by decide) (by decide), K0.out.thenB f8 (Nat.le_refl _)⟩
end Go.Proofs.YtblfingmdipopaaGreat
