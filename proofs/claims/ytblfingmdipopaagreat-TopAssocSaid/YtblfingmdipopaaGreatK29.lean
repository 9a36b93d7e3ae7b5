/- fretworkref10.New, fretworkref10.Of: dense vectors of fewer than 61 places. Conditions: the vector can be. -/
import Derived.Test.YtblfingmdipopaaGreatK28
namespace Go.Proofs.YtblfingmdipopaaGreat
set_option linter.unusedSimpArgs false
set_option linter.unusedVariables false
open Go.ChangeShapes Go.WideShapes Go.ChangeAt Go.RowKit
open Go.RowKit (wrap32 wrap64)
set_option maxHeartbeats 8000000

section
variable {P : Program} {ops : Array Oper} {K : Act → World → Prop} {Q : Exit → Act → World → Prop} {o : Oper} {a : Act} {w : World}
/-- 'make([]T, n)' of elements of one cell, in a region whose order is open. -/
theorem stpMk {E : Prop} (hg : o.guard = none) (l c : Operand) (t : TypeId) (hop : o.op = Op.makeSlice t l c) (e : TypeId) (z : Value) (bytes : Nat)
    (h1 : P.underlying t = some (.slice e)) (hinfo : Info P e z 1 bytes) (hz : z.cells = #[z]) (kl kc : IntKind) (L C : Int) (n : Nat) (hl : a.eval l = .int kl L) (hc : a.eval c = .int kc C)
    (hL : L = (n : Int)) (hC : C = (n : Int)) (b2 : bytes * n ≤ 281474976710656) (b3 : n ≤ maxLen)
    (hK : ∀ w', Blk w' w.heap.size e (List.replicate n z) → Kept [] w w' → K (a.put o.dst (.slice (some ⟨w.heap.size, 0, none⟩) n n)) w') :
    if Region.wanted o (yielded ops a.tmps) = true then Oper.wp P o a w K Q else E := by
  rw [if_pos (by simp [Region.wanted, hg])]
  obtain ⟨i, hi, hiz, his, hib⟩ := info_parts hinfo
  have h63' : (n : Int) ≤ 9223372036854775807 := by
    have h := b3
    simp [maxLen] at h
    omega
  have hb' : (i.bytes : Int) * (n : Int) ≤ 281474976710656 := by
    rw [hib]
    have h : ((bytes * n : Nat) : Int) ≤ 281474976710656 := by omega
    rwa [Int.natCast_mul] at h
  have hr := run_make (P := P) w t e i z h1 hi hiz kl kc n n (by omega) (Int.le_refl _) hb' h63'
  simp only [Int.toNat_natCast] at hr
  subst hL
  subst hC
  unfold Oper.wp
  simp [execOp, hop, hl, hc, hr, Result.andThen]
  refine hK _ ?_ ((Kept.refl _ _).alloc _)
  have := Blk.new w e (madeCells z.cells (n * i.size)).toList
  rw [his, Nat.mul_one, hz, toList_madeCells_one] at this
  rw [his, Nat.mul_one]
  have e2 : madeCells z.cells n = (List.replicate n z).toArray := by rw [hz, ← toList_madeCells_one, Array.toArray_toList]
  rw [e2]
  exact this
end
theorem infoDense : (Tryz.prog.info? 48).map (·.size) = some 3 := by kernel_rfl
/-- The values of a dense vector. -/
def valsP (N : Nat) (X : List Ed) : List Int := X.foldl (fun V e => V.set e.2.1.toNat e.2.2) (List.replicate N 0)
theorem valsP_snoc (N : Nat) (X : List Ed) (e : Ed) : valsP N (X ++ [e]) = (valsP N X).set e.2.1.toNat e.2.2 := by simp [valsP]
theorem valsP_len (N : Nat) (X : List Ed) : (valsP N X).length = N := by
  have h : ∀ (X : List Ed) (V : List Int), (X.foldl (fun V e => V.set e.2.1.toNat e.2.2) V).length = V.length := by
    intro X
    induction X with
    | nil => intro V; rfl
    | cons e X ih => intro V; rw [List.foldl_cons, ih, List.length_set]
  unfold valsP
  rw [h]
  simp
/-- A dense vector that a call made: its bits, and its values. -/
structure DnAt (w : World) (base : Nat) (vh vv : Value) (N b : Nat) (V : List Int) : Prop where
  o1 : w.ownsRow base 98 1 vh (wordsN N) (bitsV N b)
  o2 : w.ownsRow base 2 1 vv N (V.map vI)
theorem DnAt.kept0 {w w' : World} {base : Nat} {vh vv : Value} {N b : Nat} {V : List Int} (h : DnAt w base vh vv N b V) (k : Kept [] w w') : DnAt w' base vh vv N b V := ⟨own_kept0 h.o1 k, own_kept0 h.o2 k⟩
theorem DnAt.keptB {w w' : World} {base base' : Nat} {T : List TypeId} {vh vv : Value} {N b : Nat} {V : List Int} (h : DnAt w base vh vv N b V) (k : KeptB base' T w w') (h1 : 98 ∉ T) (h2 : 2 ∉ T) : DnAt w' base vh vv N b V := ⟨own_keptB h.o1 k h1, own_keptB h.o2 k h2⟩
theorem DnAt.le {w : World} {base base' : Nat} {vh vv : Value} {N b : Nat} {V : List Int} (h : DnAt w base vh vv N b V) (k : base' ≤ base) : DnAt w base' vh vv N b V := ⟨own_le h.o1 k, own_le h.o2 k⟩
/-- A dense vector that a call hands back. -/
def DnPost (w : World) (N b : Nat) (V : List Int) (e : Ending) (w' : World) : Prop := ∃ vh vv, e = .returned (.agg #[.int .i64 N, vh, vv]) ∧ DnAt w' w.heap.size vh vv N b V ∧ Kept [] w w'

set_option maxRecDepth 100000 in
theorem refNew10_any (N : Nat) (hN : N ≤ 60) (w : World) : Calls Tryz.prog 30 #[.int .i64 N] w (DnPost w N 0 (List.replicate N 0)) := by
  obtain ⟨post, hpost⟩ : ∃ post : Ending → World → Prop, post = DnPost w N 0 (List.replicate N 0) := ⟨_, rfl⟩
  rw [← hpost]
  have HPOST := Lib.hid hpost
  clear hpost
  have HZ := Lib.hid (Blk.new w 48 [.int .i64 0, .slice none 0 0, .slice none 0 0])
  have K0 := Lib.hid ((Kept.refl [] w).alloc (.cells #[.int .i64 0, .slice none 0 0, .slice none 0 0] 48))
  have HGZ := Lib.hid (show w.heap.size ≤ w.heap.size from Nat.le_refl _)
  have h1 : ¬ (N : Int) < 0 := by omega
  have h2 : ¬ (4096 : Int) < (N : Int) := by omega
  go_enter Tryz.func30, Tryz.ntmps30
  go_upto_region 1 with (fail)
  generalize w.alloc (.cells #[.int .i64 0, .slice none 0 0, .slice none 0 0] 48) = w1 at *
  generalize hgq : w.heap.size = gz at HZ ⊢
  rw [hgq] at HGZ
  have HGE := Lib.hid (show w.heap.size ≤ gz by omega)
  clear hgq HGZ
  go_upto_region 3 with (fail)
  clear h1 h2
  refine wp_region_held_drew (S := (fun _ => True)) (by kernel_rfl) ?_ (fun hHeld => ?_)
  · trivial
  replace HZ := Lib.hid (HZ.out.kept (Kept.refl [] w1).drew (by simp))
  replace K0 := Lib.hid (K0.out.trans (Kept.refl [] w1).drew)
  generalize w1.drew = w6 at *
  refine tkYes (i := 0) (v := ?_) rfl rfl (by kernel_rfl) (by kernel_rfl) (by kernel_rfl) (fun _ _ _ h => h) (by rfl) ?_ (by assumption) ?_
  rotate_left
  · (intro w' hSw; (try dsimp only at hSw); go_simp; try with_reducible rfl)
  try simp only [Act.put, List.setIfInBounds_toArray, List.set_cons_zero, List.set_cons_succ]
  refine tkYes (i := 1) (v := ?_) rfl rfl (by kernel_rfl) (by kernel_rfl) (by kernel_rfl) (fun _ _ _ h => h) (by rfl) ?_ (by assumption) ?_
  rotate_left
  · (intro w' hSw; (try dsimp only at hSw); go_simp; try with_reducible rfl)
  try simp only [Act.put, List.setIfInBounds_toArray, List.set_cons_zero, List.set_cons_succ]
  refine tkYes (i := 3) (v := ?_) rfl rfl (by kernel_rfl) (by kernel_rfl) (by kernel_rfl) (fun _ _ _ h => h) (by rfl) ?_ (by assumption) ?_
  rotate_left
  · (intro w' hSw; (try dsimp only at hSw); go_simp; try with_reducible rfl)
  try simp only [Act.put, List.setIfInBounds_toArray, List.set_cons_zero, List.set_cons_succ]
  refine wpAnyH_ready (rs := [2, 4]) (by kernel_rfl) (by simp) ?_
  refine AllReadyH.cons rfl (fun K hK => ?_) (AllReadyH.cons rfl (fun K hK => ?_) AllReadyH.nil)
  · go_simp
    refine (refNew_any N hN _).mono ?_
    rintro _ y1 ⟨vh, rfl, ho, hk⟩
    have HH := Lib.hid (own_base ho K0.out.size)
    replace HZ := Lib.hid (HZ.out.kept hk (by simp))
    replace K0 := Lib.hid (K0.out.trans hk)
    clear ho hk
    obtain ⟨Ah, ch, rfl⟩ := own_n HH.out
    go_wp2_with fail
    refine hK.out _ _ ?_ (fun hHeld => ?_)
    · trivial
    clear hK K
    try simp only [Act.put, List.setIfInBounds_toArray, List.set_cons_zero, List.set_cons_succ]
    refine wpAnyH_ready (rs := [4]) (by kernel_rfl) (by simp) ?_
    refine AllReadyH.cons rfl (fun K hK => ?_) AllReadyH.nil
    refine stpMk rfl (.tmp 12) (.tmp 12) _ rfl 2 (.int .i64 0) 8 Tryz.underlying29 infoI64 rfl .i64 .i64 _ _ N rfl rfl (by simp) (by simp) (by omega) (by unfold maxLen; omega) ?_
    intro y2 hblk hk
    have HVB := Lib.hid hblk
    have HGV := Lib.hid K0.out.size
    replace HZ := Lib.hid (HZ.out.kept hk (by simp))
    replace HH := Lib.hid (own_kept0 HH.out hk)
    replace K0 := Lib.hid (K0.out.trans hk)
    clear hblk hk
    go_simp
    refine hK.out _ _ ?_ (fun hHeld => ?_)
    · trivial
    clear hK K
    try simp only [Act.put, List.setIfInBounds_toArray, List.set_cons_zero, List.set_cons_succ]
    refine tkYes (i := 5) (v := ?_) rfl rfl (by kernel_rfl) (by kernel_rfl) (by kernel_rfl) (fun _ _ _ h => h) (by rfl) ?_ (by assumption) ?_
    rotate_left
    · (intro w' hSw; (try dsimp only at hSw); go_simp; try with_reducible rfl)
    try simp only [Act.put, List.setIfInBounds_toArray, List.set_cons_zero, List.set_cons_succ]
    refine wpAnyH_ready (rs := [6]) (by kernel_rfl) (by simp) ?_
    refine AllReadyH.cons rfl (fun K hK => ?_) AllReadyH.nil
    refine stpBlk rfl 48 (.tmp 2) (.tmp 14) rfl gz _ [.int .i64 N, .slice Ah (wordsN N) ch, .slice (some ⟨y1.heap.size, 0, none⟩) N N] HZ.out rfl rfl rfl infoDense (by simp [Value.oneCell']) ?_
    intro w8 hb8 hk8
    go_simp
    refine hK.out _ _ ?_ (fun hHeld => ?_)
    · trivial
    clear hK K
    try simp only [Act.put, List.setIfInBounds_toArray, List.set_cons_zero, List.set_cons_succ]
    refine wpAnyH_done (by kernel_rfl) ?_ _
    go_wp2_with fail
    have e0 := hb8.cell 0
    have e1 := hb8.cell 1
    have e2 := hb8.cell 2
    simp only [List.getElem?_cons_zero, List.getElem?_cons_succ] at e0 e1 e2
    refine bodyPost_ret (v := .agg #[.int .i64 N, .slice Ah (wordsN N) ch, .slice (some ⟨y1.heap.size, 0, none⟩) N N]) (by simp [results, Tryz.results30, go_sem, e0, e1, e2]) rfl ?_
    rw [HPOST.out]
    have f8 : KeptB w.heap.size [48] y2 w8 := (KeptB.refl _ _ y2).step (L := [gz]) hk8 (fun u hu => by simp at hu; subst hu; exact ⟨HGE.out, _, _, _, HZ.out, by simp⟩)
    have HV2 := own_of_blk (n := N) HVB.out HGV.out (by simp) (by unfold maxLen; omega)
    refine ⟨_, _, rfl, ⟨own_keptB HH.out f8 (by decide), ?_⟩, K0.out.thenB f8 (Nat.le_refl _)⟩
    have := own_keptB HV2 f8 (by decide)
    simpa using this
  · refine stpMk rfl (.tmp 12) (.tmp 12) _ rfl 2 (.int .i64 0) 8 Tryz.underlying29 infoI64 rfl .i64 .i64 _ _ N rfl rfl (by simp) (by simp) (by omega) (by unfold maxLen; omega) ?_
    intro y1 hblk hk
    have HVB := Lib.hid hblk
    have HGV := Lib.hid K0.out.size
    replace HZ := Lib.hid (HZ.out.kept hk (by simp))
    replace K0 := Lib.hid (K0.out.trans hk)
    clear hblk hk
    go_simp
    refine hK.out _ _ ?_ (fun hHeld => ?_)
    · trivial
    clear hK K
    try simp only [Act.put, List.setIfInBounds_toArray, List.set_cons_zero, List.set_cons_succ]
    refine wpAnyH_ready (rs := [2]) (by kernel_rfl) (by simp) ?_
    refine AllReadyH.cons rfl (fun K hK => ?_) AllReadyH.nil
    go_simp
    refine (refNew_any N hN _).mono ?_
    rintro _ y2 ⟨vh, rfl, ho, hk⟩
    have HH := Lib.hid (own_base ho K0.out.size)
    replace HZ := Lib.hid (HZ.out.kept hk (by simp))
    replace HVB := Lib.hid (HVB.out.kept hk (by simp))
    replace K0 := Lib.hid (K0.out.trans hk)
    clear ho hk
    obtain ⟨Ah, ch, rfl⟩ := own_n HH.out
    go_wp2_with fail
    refine hK.out _ _ ?_ (fun hHeld => ?_)
    · trivial
    clear hK K
    try simp only [Act.put, List.setIfInBounds_toArray, List.set_cons_zero, List.set_cons_succ]
    refine tkYes (i := 5) (v := ?_) rfl rfl (by kernel_rfl) (by kernel_rfl) (by kernel_rfl) (fun _ _ _ h => h) (by rfl) ?_ (by assumption) ?_
    rotate_left
    · (intro w' hSw; (try dsimp only at hSw); go_simp; try with_reducible rfl)
    try simp only [Act.put, List.setIfInBounds_toArray, List.set_cons_zero, List.set_cons_succ]
    refine wpAnyH_ready (rs := [6]) (by kernel_rfl) (by simp) ?_
    refine AllReadyH.cons rfl (fun K hK => ?_) AllReadyH.nil
    refine stpBlk rfl 48 (.tmp 2) (.tmp 14) rfl gz _ [.int .i64 N, .slice Ah (wordsN N) ch, .slice (some ⟨w6.heap.size, 0, none⟩) N N] HZ.out rfl rfl rfl infoDense (by simp [Value.oneCell']) ?_
    intro w8 hb8 hk8
    go_simp
    refine hK.out _ _ ?_ (fun hHeld => ?_)
    · trivial
    clear hK K
    try simp only [Act.put, List.setIfInBounds_toArray, List.set_cons_zero, List.set_cons_succ]
    refine wpAnyH_done (by kernel_rfl) ?_ _
    go_wp2_with fail
    have e0 := hb8.cell 0
    have e1 := hb8.cell 1
    have e2 := hb8.cell 2
    simp only [List.getElem?_cons_zero, List.getElem?_cons_succ] at e0 e1 e2
    refine bodyPost_ret (v := .agg #[.int .i64 N, .slice Ah (wordsN N) ch, .slice (some ⟨w6.heap.size, 0, none⟩) N N]) (by simp [results, Tryz.results30, go_sem, e0, e1, e2]) rfl ?_
    rw [HPOST.out]
    have f8 : KeptB w.heap.size [48] y2 w8 := (KeptB.refl _ _ y2).step (L := [gz]) hk8 (fun u hu => by simp at hu; subst hu; exact ⟨HGE.out, _, _, _, HZ.out, by simp⟩)
    have HV2 := own_of_blk (n := N) HVB.out HGV.out (by simp) (by unfold maxLen; omega)
    refine ⟨_, _, rfl, ⟨own_keptB HH.out f8 (by decide), ?_⟩, K0.out.thenB f8 (Nat.le_refl _)⟩
    have := own_keptB HV2 f8 (by decide)
    simpa using this
end Go.Proofs.YtblfingmdipopaaGreat
