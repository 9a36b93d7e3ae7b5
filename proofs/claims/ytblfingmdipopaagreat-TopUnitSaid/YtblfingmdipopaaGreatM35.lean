/- pull.adder's second closure, pull.row: what a row comes to. Conditions: values of the ring; fewer than 61 columns. -/
import Derived.Test.YtblfingmdipopaaGreatM34
namespace Go.Proofs.YtblfingmdipopaaGreat
set_option linter.unusedSimpArgs false
set_option linter.unusedVariables false
open Go.ChangeShapes Go.WideShapes Go.ChangeAt Go.RowKit
open Go.RowKit (wrap32 wrap64)
set_option maxHeartbeats 8000000
set_option maxRecDepth 100000 in
theorem told_any (gs gr gm : Nat) (r : Int) (o : Option Int) (w : World) (h : AdAt w gs gr gm r o) :
    Calls Tryz.prog 136 #[.pointer (some ⟨gm, 0, none⟩), .pointer (some ⟨gs, 0, none⟩)] w fun e w' => e = .returned (.tuple #[wdV (oW o), .bool o.isSome]) ∧ Kept [] w w' := by
  have k0 := (Kept.refl [] w).alloc (.cells (wdC (0, 0)).toArray 100)
  have HM := Lib.hid (h.b3.kept k0 (by simp))
  have HS := Lib.hid (h.b1.kept k0 (by simp))
  have HZ := Lib.hid (Blk.new w 100 (wdC (0, 0)))
  have K0 := Lib.hid k0
  have HNE := Lib.hid (show gm ≠ w.heap.size ∧ gs ≠ w.heap.size ∧ w.heap.size ≤ w.heap.size from ⟨by have := h.b3.lt; omega, by have := h.b1.lt; omega, Nat.le_refl _⟩)
  clear k0 h
  go_enter Tryz.func136, Tryz.ntmps136
  go_upto_region 1 with (fail)
  generalize w.alloc (.cells #[.int .i64 0, .int .u64 0] 100) = w1 at *
  generalize hgz : w.heap.size = gz at HZ ⊢
  rw [hgz] at HNE
  have HNE := Lib.hid (show gm ≠ gz ∧ gs ≠ gz ∧ w.heap.size ≤ gz by have := HNE.out; omega)
  clear hgz
  refine wp_region_held_drew (S := (fun w' => w'.rangeAt gm 0 (wdC (oW o)) ∧ w'.cell? ⟨gs, 0, none⟩ = some (.bool o.isSome))) (by kernel_rfl) ?_ (fun hHeld => ?_)
  · exact ⟨HM.out.cell2, HS.out.cell 0⟩
  replace HM := Lib.hid HM.out.drew
  replace HS := Lib.hid HS.out.drew
  replace HZ := Lib.hid HZ.out.drew
  replace K0 := Lib.hid K0.out.drew
  generalize w1.drew = w6 at *
  refine tkLoad (i := 0) 100 (.tmp 0) gm (0) (wdC (oW o)) _ rfl rfl (by kernel_rfl) (by kernel_rfl) (by kernel_rfl) (fun _ _ _ h => h) (by rfl) rfl rfl (fun w hw => hw.1) Tryz.underlying100 rfl infoWide (by assumption) ?_
  try simp only [Act.put, List.setIfInBounds_toArray, List.set_cons_zero, List.set_cons_succ]
  refine tkYes (i := 1) (v := ?_) rfl rfl (by kernel_rfl) (by kernel_rfl) (by kernel_rfl) (fun _ _ _ h => h) (by rfl) ?_ (by assumption) ?_
  rotate_left
  · (intro w' hSw; (try dsimp only at hSw); go_simp; try with_reducible rfl)
  try simp only [Act.put, List.setIfInBounds_toArray, List.set_cons_zero, List.set_cons_succ]
  refine wpAnyH_ready (rs := [2]) (by kernel_rfl) (by simp) ?_
  refine AllReadyH.cons rfl (fun K hK => ?_) AllReadyH.nil
  refine stpBlk rfl 100 (.tmp 2) (.tmp 4) rfl gz _ (wdC (oW o)) HZ.out rfl rfl rfl infoWide (by simp [Value.oneCell']) ?_
  intro w8 hb8 hk8
  replace HM := Lib.hid (HM.out.kept hk8 (by simp; exact HNE.out.1))
  replace HS := Lib.hid (HS.out.kept hk8 (by simp; exact HNE.out.2.1))
  replace K0 := Lib.hid (K0.out.then hk8 (fun u hu => by simp at hu; subst hu; exact .inr HNE.out.2.2))
  go_simp
  refine hK.out _ _ ?_ (fun hHeld => ?_)
  · exact ⟨HM.out.cell2, HS.out.cell 0⟩
  clear hK K
  try simp only [Act.put, List.setIfInBounds_toArray, List.set_cons_zero, List.set_cons_succ]
  refine tkYes (i := 3) (v := ?_) rfl rfl (by kernel_rfl) (by kernel_rfl) (by kernel_rfl) (fun _ _ _ h => h) (by rfl) ?_ (by assumption) ?_
  rotate_left
  · (intro w' hSw; (try dsimp only at hSw); go_simp; try with_reducible rfl)
  try simp only [Act.put, List.setIfInBounds_toArray, List.set_cons_zero, List.set_cons_succ]
  refine wpAnyH_done (by kernel_rfl) ?_ _
  go_wp2_with fail
  have e0 := hb8.cell 0
  have e1 := hb8.cell 1
  simp only [List.getElem?_cons_zero, List.getElem?_cons_succ] at e0 e1
  refine bodyPost_ret (v := .tuple #[wdV (oW o), .bool o.isSome]) (by simp [results, Tryz.results136, go_sem, e0, e1]) rfl ?_
  exact ⟨rfl, K0.out⟩
/-- One more of a row is put to its sum. -/
def stepR (r : Int) (b : Nat) (V : List Int) (o : Option Int) (e : Ed) : Option Int := if b.testBit e.2.1.toNat = true then sumO r o (mulV r e.2.2 (V.getD e.2.1.toNat 0)) else o
/-- What a row comes to. -/
def rowR (r : Int) (b : Nat) (V : List Int) (L : List Ed) : Option Int := L.foldl (stepR r b V) none
theorem rowR_snoc (r : Int) (b : Nat) (V : List Int) (L : List Ed) (e : Ed) : rowR r b V (L ++ [e]) = stepR r b V (rowR r b V L) e := by simp [rowR]
theorem part_getR {l q : List Ed} {s m : Nat} (h : (l.drop s).take m = q) {j : Nat} (hj : j < q.length) : ∃ h2 : s + j < l.length, l[s + j] = q[j] := by
  subst h
  have h1 : j < m ∧ s + j < l.length := by simp at hj; omega
  exact ⟨h1.2, by simp⟩
/-- Values of the ring, at the places that a set has. -/
def OkVec (r : Int) (b : Nat) (V : List Int) : Prop := ∀ i : Nat, b.testBit i = true → ∀ x, V[i]? = some x → OkV r x
theorem rowR_ok {r : Int} {b : Nat} {V : List Int} {N : Nat} (hb : b < 2 ^ N) (hl : V.length = N) (hv : OkVec r b V) : ∀ (L : List Ed), (∀ e ∈ L, OkV r e.2.2) → OkO r (rowR r b V L) := by
  have h : ∀ (L : List Ed) (o : Option Int), OkO r o → (∀ e ∈ L, OkV r e.2.2) → OkO r (L.foldl (stepR r b V) o) := by
    intro L
    induction L with
    | nil => intro o ho _; exact ho
    | cons e L ih =>
      intro o ho hL
      refine ih _ ?_ (fun x hx => hL x (by simp [hx]))
      unfold stepR
      split
      · rename_i hbt
        have hi : e.2.1.toNat < V.length := by
          rw [hl]
          rcases Nat.lt_or_ge e.2.1.toNat N with h' | h'
          · exact h'
          · rw [Nat.testBit_lt_two_pow (Nat.lt_of_lt_of_le hb (Nat.pow_le_pow_right (by decide) h'))] at hbt
            cases hbt
        refine sumO_ok ho (mulV_ok (hL e (by simp)) (hv _ hbt _ ?_))
        rw [List.getD_eq_getElem?_getD, List.getElem?_eq_getElem hi]
        rfl
      · exact ho
  exact fun L hL => h L none trivial hL
set_option maxRecDepth 100000 in
theorem pRow_any (r : Int) (hr : RingV r) (n m N b base base' i : Nat) (l X : List Ed) (V : List Int) (v1 v2 v3 vh vv : Value) (w : World) (hN : N ≤ 60) (hi : i < n) (hmN : m = N) (hmo : MtOkM n m l) (hm : MtAt w base v1 v2 v3 n l) (hok : DnOk N X b V) (hd : DnAt w base' vh vv N b V) (hv : ∀ e ∈ l, OkV r e.2.2) (hvv : OkVec r b V) :
    Calls Tryz.prog 58 #[.int .i64 r, .agg #[.int .i64 n, .int .i64 m, v1, v2, v3], .int .i64 i, .agg #[.int .i64 N, vh, vv]] w fun e w' => e = .returned (.tuple #[wdV (oW (rowR r b V (rowL l i))), .bool (rowR r b V (rowL l i)).isSome]) ∧ Kept [] w w' := by
  obtain ⟨b1, c1, A2, c2, A3, c3, rfl, rfl, rfl, hc2, hc3⟩ := hm.form
  obtain ⟨Ah, ch, rfl⟩ := own_n hd.o1
  obtain ⟨Av, cv, rfl⟩ := own_n hd.o2
  have HOR := Lib.hid (fun k => rowR_ok (N := N) hok.lt hok.len hvv ((rowL l i).take k) (fun e he => hv e (List.mem_filter.1 (List.mem_of_mem_take he)).1) : ∀ k, OkO r (rowR r b V ((rowL l i).take k)))
  have HRV := Lib.hid hr
  have HV := Lib.hid hv
  have HVV := Lib.hid hvv
  have HX := Lib.hid (((Blk.new w 31 [.int .i64 n, .int .i64 m, .slice (some ⟨b1, 0, none⟩) (n + 1) c1, .slice A2 l.length c2, .slice A3 l.length c3]).alloc (.cells #[.int .i64 N, .slice Ah (wordsN N) ch, .slice Av N cv] 48)).alloc (.cells #[.int .i64 0, .int .u64 0] 100))
  have HY := Lib.hid ((Blk.new1F w (.cells #[.int .i64 n, .int .i64 m, .slice (some ⟨b1, 0, none⟩) (n + 1) c1, .slice A2 l.length c2, .slice A3 l.length c3] 31) 48 [.int .i64 N, .slice Ah (wordsN N) ch, .slice Av N cv]).alloc (.cells #[.int .i64 0, .int .u64 0] 100))
  have HZ0 := Blk.new ((w.alloc (.cells #[.int .i64 n, .int .i64 m, .slice (some ⟨b1, 0, none⟩) (n + 1) c1, .slice A2 l.length c2, .slice A3 l.length c3] 31)).alloc (.cells #[.int .i64 N, .slice Ah (wordsN N) ch, .slice Av N cv] 48)) 100 (wdC (0, 0))
  rw [show ((w.alloc (.cells #[.int .i64 n, .int .i64 m, .slice (some ⟨b1, 0, none⟩) (n + 1) c1, .slice A2 l.length c2, .slice A3 l.length c3] 31)).alloc (.cells #[.int .i64 N, .slice Ah (wordsN N) ch, .slice Av N cv] 48)).heap.size = w.heap.size + 1 + 1 by simp] at HZ0
  have HZ := Lib.hid HZ0
  have K0 := Lib.hid ((((Kept.refl [] w).alloc (.cells #[.int .i64 n, .int .i64 m, .slice (some ⟨b1, 0, none⟩) (n + 1) c1, .slice A2 l.length c2, .slice A3 l.length c3] 31)).alloc (.cells #[.int .i64 N, .slice Ah (wordsN N) ch, .slice Av N cv] 48)).alloc (.cells #[.int .i64 0, .int .u64 0] 100))
  have HM := Lib.hid (hm.kept0 K0.out)
  have HD := Lib.hid (hd.kept0 K0.out)
  have HOK := Lib.hid hok
  have HMO := Lib.hid hmo
  have HGZ := Lib.hid (show w.heap.size ≤ w.heap.size + 1 + 1 by omega)
  have hnn := hmo.num
  have b0 := belI_in l i
  have b1' := belI_in l (i + 1)
  have b2 := bel_mono l i
  obtain ⟨s, hs⟩ : ∃ s : Nat, s = (belI l i).toNat := ⟨_, rfl⟩
  obtain ⟨e, he⟩ : ∃ e : Nat, e = (belI l (i + 1)).toNat := ⟨_, rfl⟩
  have hse : s ≤ e := by omega
  have hel : e ≤ l.length := by omega
  have hll := hmo.len
  have HPT := Lib.hid (row_part (risesL_sortR hmo.rises) i)
  rw [← hs, ← he] at HPT
  have HB0 := Lib.hid (show belI l i = (s : Int) by omega)
  have HB1 := Lib.hid (show belI l (i + 1) = (e : Int) by omega)
  have HRE := Lib.hid (show (rowL l i).length = e - s by
    rw [← HPT.out]
    simp
    omega)
  have HGET := Lib.hid (fun j hj => part_getR HPT.out hj : ∀ j (hj : j < (rowL l i).length), ∃ h2 : s + j < l.length, l[s + j] = (rowL l i)[j])
  have HRI := Lib.hid (fun x hx => hmo.inn x (List.mem_filter.1 hx).1 : ∀ x ∈ rowL l i, (0 ≤ x.1 ∧ x.1 < (n : Int)) ∧ 0 ≤ x.2.1 ∧ x.2.1 < (m : Int))
  have HRVV := Lib.hid (fun x hx => hv x (List.mem_filter.1 hx).1 : ∀ x ∈ rowL l i, OkV r x.2.2)
  have HMN := Lib.hid hmN
  clear hmN hs he b0 b1' b2 hm hd hok hmo hv hvv hr HZ0
  have hwk : IntKind.i64.wrap ((i : Int) + 1) = (i : Int) + 1 := by rw [IntKind.wrap_i64]; omega
  obtain ⟨post, hpost⟩ : ∃ post : Ending → World → Prop, post = (fun e w' => e = .returned (.tuple #[wdV (oW (rowR r b V (rowL l i))), .bool (rowR r b V (rowL l i)).isSome]) ∧ Kept [] w w') := ⟨_, rfl⟩
  rw [← hpost]
  have HPOST := Lib.hid hpost
  clear hpost
  go_enter Tryz.func58, Tryz.ntmps58
  go_upto_region 1 with (fail)
  generalize (((w.alloc (.cells #[.int .i64 n, .int .i64 m, .slice (some ⟨b1, 0, none⟩) (n + 1) c1, .slice A2 l.length c2, .slice A3 l.length c3] 31)).alloc (.cells #[.int .i64 N, .slice Ah (wordsN N) ch, .slice Av N cv] 48)).alloc (.cells #[.int .i64 0, .int .u64 0] 100)) = w1 at *
  generalize w.heap.size + 1 + 1 = gz at HZ HGZ ⊢
  generalize w.heap.size + 1 = g7 at HY ⊢
  generalize hg5 : w.heap.size = g5 at HX ⊢
  clear hg5
  go_wp2_with fail
  refine (adder_any r _).mono ?_
  rintro _ w2 ⟨gs, gr, gm, rfl, ha, hge, hk⟩
  have HA := Lib.hid ha
  have HGE := Lib.hid (show w.heap.size ≤ gs ∧ w.heap.size ≤ gr ∧ w.heap.size ≤ gm by have := K0.out.size; omega)
  have HNZ := Lib.hid (show ¬ gz = gs ∧ ¬ gz = gm by have := HZ.out.lt; omega)
  replace HX := Lib.hid (HX.out.kept hk (by simp))
  replace HY := Lib.hid (HY.out.kept hk (by simp))
  replace HZ := Lib.hid (HZ.out.kept hk (by simp))
  replace HM := Lib.hid (HM.out.kept0 hk)
  replace HD := Lib.hid (HD.out.kept0 hk)
  replace K0 := Lib.hid (K0.out.trans hk)
  clear hk ha hge
  have z0 := HM.out.start (j := i) (by omega)
  rw [HB0.out] at z0
  have y2 := HX.out.cell 2
  simp only [List.getElem?_cons_zero, List.getElem?_cons_succ] at y2
  go_wp2_with fail
  clear z0 y2
  go_loopw [12] (fun x wr => ∃ j : Nat, j ≤ (rowL l i).length ∧ x = .int .i64 ((s + j : Nat) : Int) ∧ Hid (AdAt wr gs gr gm r (rowR r b V ((rowL l i).take j))) ∧ Hid (Blk wr g5 31 [.int .i64 n, .int .i64 m, .slice (some ⟨b1, 0, none⟩) (n + 1) c1, .slice A2 l.length c2, .slice A3 l.length c3]) ∧ Hid (Blk wr g7 48 [.int .i64 N, .slice Ah (wordsN N) ch, .slice Av N cv]) ∧ Hid (Blk wr gz 100 (wdC (0, 0))) ∧ Hid (MtAt wr base (.slice (some ⟨b1, 0, none⟩) (n + 1) c1) (.slice A2 l.length c2) (.slice A3 l.length c3) n l) ∧ Hid (DnAt wr base' (.slice Ah (wordsN N) ch) (.slice Av N cv) N b V) ∧ Hid (Kept [] w wr)) (fun x _ => (s + (rowL l i).length) - (intOf x).toNat)
  case atStart => exact ⟨0, Nat.zero_le _, rfl, HA, HX, HY, HZ, HM, HD, K0⟩
  case round =>
    clear HA HX HY HZ HM HD K0
    obtain ⟨j, hj, rfl, HA, HX, HY, HZ, HM, HD, K0⟩ := hrel
    have hlen := HRE.out
    have z1 := HM.out.start (j := i + 1) (by omega)
    rw [HB1.out] at z1
    have y2 := HX.out.cell 2
    have y3 := HX.out.cell 3
    have y4 := HX.out.cell 4
    simp only [List.getElem?_cons_zero, List.getElem?_cons_succ] at y2 y3 y4
    have q1 := HY.out.cell 1
    have q2 := HY.out.cell 2
    simp only [List.getElem?_cons_zero, List.getElem?_cons_succ] at q1 q2
    by_cases hlt : j < (rowL l i).length
    · obtain ⟨hsl, hG⟩ := HGET.out j hlt
      have HTK := Lib.hid (List.take_succ_eq_append_getElem hlt)
      have hri := HRI.out _ (List.getElem_mem hlt)
      have hvl := HRVV.out _ (List.getElem_mem hlt)
      obtain ⟨bB, oB, hBq, hbB, cB⟩ := cols_at (Reads.of_own HM.out.o2) hsl
      obtain ⟨bD, oD, hDq, hbD, cD⟩ := vals_at (Reads.of_own HM.out.o3) hsl
      rw [hG] at cB cD
      have hG3 : (l[s + j]).2.2 = ((rowL l i)[j]).2.2 := by rw [hG]
      clear hG
      subst hBq hDq
      obtain ⟨x, hx⟩ : ∃ x, x = (rowL l i)[j] := ⟨_, rfl⟩
      rw [← hx] at cB cD HTK hri hvl hG3
      clear hx
      obtain ⟨x1, x2, x3⟩ := x
      dsimp only at cB cD hri hvl hG3
      have HG3 := Lib.hid hG3
      clear hG3
      obtain ⟨p, rfl⟩ := Int.eq_ofNat_of_zero_le hri.2.1
      have hpN : p < N := by have := HMN.out; omega
      have HVL := Lib.hid hvl
      have hjs : ((s + j : Nat) : Int) < (e : Int) := by omega
      clear hri hvl
      go_upto_region 6 with (fail)
      clear z1 y2 y3 y4 q1 q2 cB
      have q1 := HY.out.cell 1
      simp only [List.getElem?_cons_zero, List.getElem?_cons_succ] at q1
      go_wp2_with fail
      refine (fHas_w N b p Ah ch _ hN HOK.out.lt hpN (Reads.of_own HD.out.o1)).mono ?_
      rintro _ wq ⟨rfl, nq, rfl⟩
      clear q1
      have HVA := Lib.hid (fun wx hx => by
        obtain ⟨bD', oD', hq, _, c⟩ := vals_at (Reads.of_own (MtAt.o3 hx)) hsl
        injection hq with hq
        injection hq with hq1 hq2
        subst hq1 hq2
        rw [HG3.out] at c
        exact c : ∀ wx : World, MtAt wx base (.slice (some ⟨b1, 0, none⟩) (n + 1) c1) (.slice (some ⟨bB, oB, none⟩) l.length c2) (.slice (some ⟨bD, oD, none⟩) l.length c3) n l → wx.cell? ⟨bD, oD + (s + j), none⟩ = some (.int .i64 x3))
      clear cD
      replace HX := Lib.hid (HX.out.kept ((Kept.refl [] wr).drewN nq) (by simp))
      replace HY := Lib.hid (HY.out.kept ((Kept.refl [] wr).drewN nq) (by simp))
      replace HZ := Lib.hid (HZ.out.kept ((Kept.refl [] wr).drewN nq) (by simp))
      replace HM := Lib.hid (HM.out.kept0 ((Kept.refl [] wr).drewN nq))
      replace HD := Lib.hid (HD.out.kept0 ((Kept.refl [] wr).drewN nq))
      replace HA := Lib.hid (HA.out.kept0 ((Kept.refl [] wr).drewN nq))
      replace K0 := Lib.hid (K0.out.trans ((Kept.refl [] wr).drewN nq))
      generalize wr.drewN nq = wr at *
      by_cases hbt : b.testBit p = true
      · rw [hbt]
        have hpv : p < V.length := by rw [HOK.out.len]; exact hpN
        obtain ⟨bV, oV, hVq, hbV, hcV⟩ := ints_at (Reads.of_own HD.out.o2) hpv
        subst hVq
        have HXV := Lib.hid (HVV.out p hbt V[p] (List.getElem?_eq_getElem hpv))
        have HVB := Lib.hid (fun wx hx => by
          obtain ⟨b', o', hq, _, c⟩ := ints_at (Reads.of_own (DnAt.o2 hx)) hpv
          injection hq with hq
          injection hq with hq1 hq2
          subst hq1 hq2
          exact c p hpv : ∀ wx : World, DnAt wx base' (.slice Ah (wordsN N) ch) (.slice (some ⟨bV, oV, none⟩) N cv) N b V → wx.cell? ⟨bV, oV + p, none⟩ = some (.int .i64 V[p]))
        have HST := Lib.hid (show stepR r b V (rowR r b V ((rowL l i).take j)) (x1, (p : Int), x3) = sumO r (rowR r b V ((rowL l i).take j)) (mulV r x3 V[p]) by
          unfold stepR
          rw [if_pos (by simpa using hbt), List.getD_eq_getElem?_getD]
          simp [List.getElem?_eq_getElem hpv])
        have HOO := Lib.hid (HOR.out j)
        obtain ⟨xv, hxv⟩ : ∃ xv, xv = V[p] := ⟨_, rfl⟩
        rw [← hxv] at HXV HVB HST
        obtain ⟨o, ho⟩ : ∃ o, o = rowR r b V ((rowL l i).take j) := ⟨_, rfl⟩
        rw [← ho] at HA HOO
        have HO := Lib.hid ho
        clear hxv hbt hcV ho
        go_upto_region 7 with (fail)
        refine wp_region_held_drew (S := (fun w' => w'.cell? ⟨g5, 4, none⟩ = some (.slice (some ⟨bD, oD, none⟩) l.length c3) ∧ w'.cell? ⟨g7, 2, none⟩ = some (.slice (some ⟨bV, oV, none⟩) N cv) ∧ w'.cell? ⟨bD, oD + (s + j), none⟩ = some (.int .i64 x3) ∧ w'.cell? ⟨bV, oV + p, none⟩ = some (.int .i64 xv))) (by kernel_rfl) ?_ (fun hHeld => ?_)
        · exact ⟨HX.out.cell 4, HY.out.cell 2, HVA.out _ (HM.out.kept0 (Kept.refl [] wr).drew), HVB.out _ (HD.out.kept0 (Kept.refl [] wr).drew)⟩
        replace HX := Lib.hid (HX.out.kept (Kept.refl [] wr).drew (by simp))
        replace HY := Lib.hid (HY.out.kept (Kept.refl [] wr).drew (by simp))
        replace HZ := Lib.hid (HZ.out.kept (Kept.refl [] wr).drew (by simp))
        replace HM := Lib.hid (HM.out.kept0 (Kept.refl [] wr).drew)
        replace HD := Lib.hid (HD.out.kept0 (Kept.refl [] wr).drew)
        replace HA := Lib.hid (HA.out.kept0 (Kept.refl [] wr).drew)
        replace K0 := Lib.hid (K0.out.trans (Kept.refl [] wr).drew)
        generalize wr.drew = w6 at *
        refine tkYes (i := 0) (v := ?_) rfl rfl (by kernel_rfl) (by kernel_rfl) (by kernel_rfl) (fun _ _ _ h => h) (by rfl) ?_ (by assumption) ?_
        rotate_left
        · (intro w' hSw; (try dsimp only at hSw); go_simp; try with_reducible rfl)
        try simp only [Act.put, List.setIfInBounds_toArray, List.set_cons_zero, List.set_cons_succ]
        refine tkYes (i := 1) (v := ?_) rfl rfl (by kernel_rfl) (by kernel_rfl) (by kernel_rfl) (fun _ _ _ h => h) (by rfl) ?_ (by assumption) ?_
        rotate_left
        · (intro w' hSw; (try dsimp only at hSw); go_simp; try with_reducible rfl)
        try simp only [Act.put, List.setIfInBounds_toArray, List.set_cons_zero, List.set_cons_succ]
        refine tkYes (i := 2) (v := ?_) rfl rfl (by kernel_rfl) (by kernel_rfl) (by kernel_rfl) (fun _ _ _ h => h) (by rfl) ?_ (by assumption) ?_
        rotate_left
        · (intro w' hSw; (try dsimp only at hSw); go_simp; try with_reducible rfl)
        try simp only [Act.put, List.setIfInBounds_toArray, List.set_cons_zero, List.set_cons_succ]
        refine tkYes (i := 3) (v := ?_) rfl rfl (by kernel_rfl) (by kernel_rfl) (by kernel_rfl) (fun _ _ _ h => h) (by rfl) ?_ (by assumption) ?_
        rotate_left
        · (intro w' hSw; (try dsimp only at hSw); go_simp; try with_reducible rfl)
        try simp only [Act.put, List.setIfInBounds_toArray, List.set_cons_zero, List.set_cons_succ]
        refine tkYes (i := 4) (v := ?_) rfl rfl (by kernel_rfl) (by kernel_rfl) (by kernel_rfl) (fun _ _ _ h => h) (by rfl) ?_ (by assumption) ?_
        rotate_left
        · (intro w' hSw; (try dsimp only at hSw); go_simp; try with_reducible rfl)
        try simp only [Act.put, List.setIfInBounds_toArray, List.set_cons_zero, List.set_cons_succ]
        refine tkYes (i := 5) (v := .pointer (some ⟨bD, oD + (s + j), none⟩)) rfl rfl (by kernel_rfl) (by kernel_rfl) (by kernel_rfl) (fun _ _ _ h => h) (by rfl) ?_ (by assumption) ?_
        skip
        · (intro w' hSw; (try dsimp only at hSw); go_simp; first | done | (rw [if_pos (by omega), show ((s : Int) + (j : Int)).toNat = s + j by omega]))
        try simp only [Act.put, List.setIfInBounds_toArray, List.set_cons_zero, List.set_cons_succ]
        refine tkYes (i := 6) (v := ?_) rfl rfl (by kernel_rfl) (by kernel_rfl) (by kernel_rfl) (fun _ _ _ h => h) (by rfl) ?_ (by assumption) ?_
        rotate_left
        · (intro w' hSw; (try dsimp only at hSw); go_simp; try with_reducible rfl)
        try simp only [Act.put, List.setIfInBounds_toArray, List.set_cons_zero, List.set_cons_succ]
        refine tkYes (i := 7) (v := ?_) rfl rfl (by kernel_rfl) (by kernel_rfl) (by kernel_rfl) (fun _ _ _ h => h) (by rfl) ?_ (by assumption) ?_
        rotate_left
        · (intro w' hSw; (try dsimp only at hSw); go_simp; try with_reducible rfl)
        try simp only [Act.put, List.setIfInBounds_toArray, List.set_cons_zero, List.set_cons_succ]
        refine tkYes (i := 8) (v := ?_) rfl rfl (by kernel_rfl) (by kernel_rfl) (by kernel_rfl) (fun _ _ _ h => h) (by rfl) ?_ (by assumption) ?_
        rotate_left
        · (intro w' hSw; (try dsimp only at hSw); go_simp; try with_reducible rfl)
        try simp only [Act.put, List.setIfInBounds_toArray, List.set_cons_zero, List.set_cons_succ]
        refine tkYes (i := 9) (v := ?_) rfl rfl (by kernel_rfl) (by kernel_rfl) (by kernel_rfl) (fun _ _ _ h => h) (by rfl) ?_ (by assumption) ?_
        rotate_left
        · (intro w' hSw; (try dsimp only at hSw); go_simp; try with_reducible rfl)
        try simp only [Act.put, List.setIfInBounds_toArray, List.set_cons_zero, List.set_cons_succ]
        refine tkYes (i := 10) (v := .pointer (some ⟨bV, oV + p, none⟩)) rfl rfl (by kernel_rfl) (by kernel_rfl) (by kernel_rfl) (fun _ _ _ h => h) (by rfl) ?_ (by assumption) ?_
        skip
        · (intro w' hSw; (try dsimp only at hSw); go_simp; first | done | (intro hbad; omega))
        try simp only [Act.put, List.setIfInBounds_toArray, List.set_cons_zero, List.set_cons_succ]
        refine tkYes (i := 11) (v := ?_) rfl rfl (by kernel_rfl) (by kernel_rfl) (by kernel_rfl) (fun _ _ _ h => h) (by rfl) ?_ (by assumption) ?_
        rotate_left
        · (intro w' hSw; (try dsimp only at hSw); go_simp; try with_reducible rfl)
        try simp only [Act.put, List.setIfInBounds_toArray, List.set_cons_zero, List.set_cons_succ]
        refine wpAnyH_ready (rs := [12]) (by kernel_rfl) (by simp) ?_
        refine AllReadyH.cons rfl (fun K hK => ?_) AllReadyH.nil
        go_simp
        refine (mul_val HRV.out HVL.out HXV.out _).mono ?_
        rintro _ y1 ⟨rfl, hk⟩
        replace HX := Lib.hid (HX.out.kept hk (by simp))
        replace HY := Lib.hid (HY.out.kept hk (by simp))
        replace HZ := Lib.hid (HZ.out.kept hk (by simp))
        replace HM := Lib.hid (HM.out.kept0 hk)
        replace HD := Lib.hid (HD.out.kept0 hk)
        replace HA := Lib.hid (HA.out.kept0 hk)
        replace K0 := Lib.hid (K0.out.trans hk)
        clear hk
        go_wp2_with fail
        refine hK.out _ _ ?_ (fun hHeld => ?_)
        · exact ⟨HX.out.cell 4, HY.out.cell 2, HVA.out _ HM.out, HVB.out _ HD.out⟩
        clear hK K
        try simp only [Act.put, List.setIfInBounds_toArray, List.set_cons_zero, List.set_cons_succ]
        refine wpAnyH_ready (rs := [13]) (by kernel_rfl) (by simp) ?_
        refine AllReadyH.cons rfl (fun K hK => ?_) AllReadyH.nil
        go_simp
        refine (more_any w.heap.size gs gr gm r (mulV r x3 xv) o _ HRV.out HOO.out (mulV_ok HVL.out HXV.out) HA.out HGE.out.1 HGE.out.2.2 K0.out.size).mono ?_
        rintro _ y2 ⟨rfl, ha2, hk, hkk⟩
        replace HA := Lib.hid ha2
        replace HZ := Lib.hid (HZ.out.kept hkk (by simp; exact HNZ.out))
        replace HX := Lib.hid (HX.out.keptB hk (by decide))
        replace HY := Lib.hid (HY.out.keptB hk (by decide))
        replace HM := Lib.hid (HM.out.keptB hk (by decide) (by decide))
        replace HD := Lib.hid (HD.out.keptB hk (by decide) (by decide))
        replace K0 := Lib.hid (K0.out.thenB hk (Nat.le_refl _))
        clear hk ha2 hkk
        go_wp2_with fail
        refine hK.out _ _ ?_ (fun hHeld => ?_)
        · exact ⟨HX.out.cell 4, HY.out.cell 2, HVA.out _ HM.out, HVB.out _ HD.out⟩
        clear hK K
        try simp only [Act.put, List.setIfInBounds_toArray, List.set_cons_zero, List.set_cons_succ]
        refine wpAnyH_done (by kernel_rfl) ?_ _
        go_wp2_with fail
        go_roundw
        case rel =>
          refine ⟨j + 1, by omega, by go_num, Lib.hid ?_, HX, HY, HZ, HM, HD, K0⟩
          rw [HTK.out, rowR_snoc, HST.out, ← HO.out]
          exact HA.out
        case measure => simp [intOf]; omega
      · have hbf : b.testBit p = false := by simpa using hbt
        rw [hbf]
        have HST := Lib.hid (show stepR r b V (rowR r b V ((rowL l i).take j)) (x1, (p : Int), x3) = rowR r b V ((rowL l i).take j) by
          unfold stepR
          rw [if_neg (by simpa using hbt)])
        clear hbt hbf
        go_wp2_with fail
        go_roundw
        case rel =>
          refine ⟨j + 1, by omega, by go_num, Lib.hid ?_, HX, HY, HZ, HM, HD, K0⟩
          rw [HTK.out, rowR_snoc, HST.out]
          exact HA.out
        case measure => simp [intOf]; omega
    · obtain rfl : j = (rowL l i).length := by omega
      rw [List.take_length] at HA
      have hje : ¬ ((s + (rowL l i).length : Nat) : Int) < (e : Int) := by omega
      go_wp2_with fail
      refine (told_any gs gr gm r _ _ HA.out).mono ?_
      rintro _ w7 ⟨rfl, hk7⟩
      replace HZ := Lib.hid (HZ.out.kept hk7 (by simp))
      replace K0 := Lib.hid (K0.out.trans hk7)
      obtain ⟨o, ho⟩ : ∃ o, o = rowR r b V (rowL l i) := ⟨_, rfl⟩
      rw [← ho] at HPOST
      rw [← ho]
      clear ho
      go_wp2_with (first | (refine wpList_storeBlk rfl 100 (.tmp 8) (.tmp 59) rfl gz _ (wdC (oW o)) HZ.out rfl rfl rfl infoWide (by simp [Value.oneCell']) ?_; intro w8 hb8 hk8))
      have e0 := hb8.cell 0
      have e1 := hb8.cell 1
      simp only [List.getElem?_cons_zero, List.getElem?_cons_succ] at e0 e1
      refine bodyPost_ret (v := .tuple #[wdV (oW o), .bool o.isSome]) (by simp [results, Tryz.results58, go_sem, e0, e1]) rfl ?_
      rw [HPOST.out]
      exact ⟨rfl, K0.out.then hk8 (fun u hu => by simp at hu; subst hu; exact .inr HGZ.out)⟩
end Go.Proofs.YtblfingmdipopaaGreat
