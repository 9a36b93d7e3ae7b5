/- Frames: the walk of the lists that are read. -/
import Derived.Test.YtdjidnccockmmaaFr15
import Derived.Test.YtdjidnccockmmaaTake
namespace Go.Proofs.Ytdjidnccockmmaa
set_option linter.unusedSimpArgs false
set_option linter.unusedVariables false
open Go.ChangeShapes Go.WideShapes Go.ChangeAt Go.RowKit
open Go.RowKit (wrap32 wrap64)
set_option maxHeartbeats 8000000

theorem rd_len {t : TypeId} {w : World} {p : Nat} {R : Rd} (h : RdAt t w p R) : R.b.length ≤ 1073741824 := h.big

/-- The same, with a triple that is filled, at T. -/
structure LtAt (w0 w : World) (base p b g : Nat) (R : Rd) (F : Fr) (v1 v2 v3 : Value) (T : Nat) (cs : List Value) : Prop where
  ls : LsAt w0 w base p b g R F v1 v2 v3
  blk : Blk w T 105 cs
  ne : v3.ownBlock ≠ some T
  le : base ≤ T
theorem LtAt.call {w0 w w' : World} {base p b g : Nat} {R R' : Rd} {F : Fr} {v1 v2 v3 : Value} {T : Nat} {cs : List Value} (h : LtAt w0 w base p b g R F v1 v2 v3 T cs) (hr : RdAt 87 w' p R') (hk : Kept [p] w w') : LtAt w0 w' base p b g R' F v1 v2 v3 T cs :=
  ⟨h.ls.call hr hk, h.blk.kept hk (rd_ne h.ls.rd h.blk (by decide)), h.ne, h.le⟩
theorem LtAt.set {w0 w : World} {base p b g : Nat} {R : Rd} {F : Fr} {v1 v2 v3 : Value} {T : Nat} {cs : List Value} (h : LtAt w0 w base p b g R F v1 v2 v3 T cs) (j : Nat) (u : Value) : LtAt w0 (w.setCell ⟨T, j, none⟩ u) base p b g R F v1 v2 v3 T (cs.set j u) := by
  have hB : KeptB base [105] w (w.setCell ⟨T, j, none⟩ u) := (KeptB.refl _ _ _).set h.blk h.le (by decide) j _
  have ls := h.ls
  exact ⟨⟨ls.rd.keptB hB (by decide) (by decide), ls.box.keptB hB (by decide), ls.fr.keptB hB (by decide), own_keptB ls.o1 hB (by decide), own_keptB ls.o2 hB (by decide),
    own_kept ls.o3 ((Kept.refl [T] w).setCell (p := ⟨T, j, none⟩) (.inl (List.mem_singleton.2 rfl)) u) (fun g' hg hm => by simp at hm; subst hm; exact h.ne hg), ls.kept.trans (hB.mono (by decide)), ls.hp, ls.hg, ls.hb⟩, h.blk.set j u, h.ne, h.le⟩
theorem own_sl {w : World} {base : Nat} {e : TypeId} {size n : Nat} {v : Value} {xs : List Value} (h : w.ownsRow base e size v n xs) : ∃ A N c, v = .slice A N c := by
  obtain ⟨A, c, rfl, _⟩ := own_form h
  exact ⟨A, n, c, rfl⟩
theorem fr_items {F F' : Fr} {l : List (Int × Int)} (h : F' = { F with items := F'.items }) : ({ F' with items := l } : Fr) = { F with items := ({ F' with items := l } : Fr).items } := by rw [h]
theorem fr_sums {F F' : Fr} {l : List (Int × Int × Nat)} (h : F' = { F with sums := F'.sums }) : ({ F' with sums := l } : Fr) = { F with sums := ({ F' with sums := l } : Fr).sums } := by rw [h]
theorem fr_trips {F F' : Fr} {l : List (Int × Int × Int)} (h : F' = { F with trips := F'.trips }) : ({ F' with trips := l } : Fr) = { F with trips := ({ F' with trips := l } : Fr).trips } := by rw [h]
theorem rd_range {R R' : Rd} {k low most e n : Int} (h : R.rd k low most e = .ok (n, R')) : low ≤ n ∧ n ≤ most := by
  unfold Rd.rd at h
  split at h
  · cases h
  · split at h
    · rename_i h2
      injection h with h
      injection h with h _
      subst h
      exact h2
    · cases h
set_option maxRecDepth 100000 in
theorem lists_any (base p g : Nat) (R : Rd) (F : Fr) (w : World) (hr : RdAt 87 w p R) (hf : Blk w g 60 (lsC F (.slice none 0 0) (.slice none 0 0) (.slice none 0 0))) (hp : base ≤ p) (hg : base ≤ g) (hb : base ≤ w.heap.size) (h1 : F.items = []) (h2 : F.sums = []) (h3 : F.trips = []) :
    Calls Try.prog 84 #[.agg #[.pointer (some ⟨p, 0, none⟩)], .pointer (some ⟨g, 0, none⟩)] w (LsPost w base p w.heap.size g (Rd.lists F R)) := by
  have hnil : ∀ (wx : World) (e : TypeId) (s : Nat), wx.ownsRow base e s (.slice none 0 0) 0 [] := fun wx e s => World.ownsRow_nil wx base e s
  have LS := Lib.hid (show LsAt w (w.alloc (.cells #[.pointer (some ⟨p, 0, none⟩)] 120)) base p w.heap.size g R F (.slice none 0 0) (.slice none 0 0) (.slice none 0 0) from
    ⟨hr.kept0 ((Kept.refl [] w).alloc _), Blk.new _ _ _, hf.alloc _, by rw [h1]; exact hnil _ _ _, by rw [h2]; exact hnil _ _ _, by rw [h3]; exact hnil _ _ _, (KeptB.refl _ _ _).alloc _, hp, hg, hb⟩)
  have Z1 := Lib.hid h1
  have Z2 := Lib.hid h2
  have Z3 := Lib.hid h3
  generalize hr0 : Rd.lists F R = r0
  have EQ := Lib.hid (Eq.symm hr0)
  obtain ⟨b, hbb⟩ : ∃ b, b = w.heap.size := ⟨_, rfl⟩
  have HBB := Lib.hid hbb
  clear hr hf h1 h2 h3 hnil hr0 hbb
  go_enter Try.func84, Try.ntmps84
  go_upto_region 1 with (fail)
  rw [← HBB.out] at LS
  rw [← HBB.out]
  generalize w.alloc (.cells #[.pointer (some ⟨p, 0, none⟩)] 120) = wh at LS ⊢
  have y0 := LS.out.box.cell 0
  have yb := LS.out.box.lt
  simp only [List.getElem?_cons_zero, List.getElem?_cons_succ] at y0
  go_wp2_with fail
  refine (sfour_any p R 4096 5 _ LS.out.rd).mono ?_
  intro x wn hx
  rcases hr : R.rd 4 0 4096 5 with ⟨e, a⟩ | ⟨n1, R1⟩
  · rw [hr] at hx
    obtain ⟨rfl, hk⟩ := hx
    have K := Lib.hid (LS.out.kept.call LS.out.rd hk LS.out.hp (by decide))
    have KF := Lib.hid (LS.out.fr.kept hk (rd_ne LS.out.rd LS.out.fr (by decide)))
    have E1 := Lib.hid hr
    clear hk hr
    go_wp2_with fail
    refine ⟨rfl, ?_⟩
    rw [show r0 = .error (e, a) from EQ.out.trans (by simp only [Rd.lists, E1.out, Except.bind])]
    exact ⟨rfl, K.out, _, rfl, KF.out⟩
  rw [hr] at hx
  obtain ⟨rfl, hrd, hk⟩ := hx
  have LS := Lib.hid (LS.out.call hrd hk)
  have En1 := Lib.hid hr
  clear hk hr hrd y0 yb
  have d5 := LS.out.fr.cell 5
  have f5 := LS.out.fr.frozen 5
  have yg := LS.out.fr.lt
  simp only [List.getElem?_cons_zero, List.getElem?_cons_succ] at d5
  go_upto_region 2 with (fail)
  have LS := Lib.hid (LS.out.setN n1)
  generalize wn.setCell ⟨g, 5, none⟩ (.int .i64 n1) = wh at LS ⊢
  have EQ := Lib.hid (EQ.out.trans (show Rd.lists F R = Rd.lists1 { F with vn := n1 } R1 by simp only [Rd.lists, En1.out, Except.bind]))
  have Z1 := Lib.hid (show ({ F with vn := n1 } : Fr).items = [] from Z1.out)
  have Z2 := Lib.hid (show ({ F with vn := n1 } : Fr).sums = [] from Z2.out)
  have Z3 := Lib.hid (show ({ F with vn := n1 } : Fr).trips = [] from Z3.out)
  have N1 := Lib.hid (show 0 ≤ ({ F with vn := n1 } : Fr).vn ∧ ({ F with vn := n1 } : Fr).vn ≤ 4096 from rd_range En1.out)
  generalize ({ F with vn := n1 } : Fr) = F1 at LS EQ Z1 Z2 Z3 N1
  clear En1 d5 f5 yg
  have y0 := LS.out.box.cell 0
  have yb := LS.out.box.lt
  have d5 := LS.out.fr.cell 5
  have yg := LS.out.fr.lt
  simp only [List.getElem?_cons_zero, List.getElem?_cons_succ] at y0 d5
  rcases hr : R1.rd 4 0 F1.vn 5 with ⟨e, a⟩ | ⟨n2, R2⟩
  · have E1 := Lib.hid hr
    clear hr
    go_wp2_with fail
    refine wp_region_held_drew (S := (fun w' => w'.cell? ⟨b, 0, none⟩ = some (.pointer (some ⟨p, 0, none⟩)) ∧ w'.cell? ⟨g, 5, none⟩ = some (.int .i64 F1.vn))) (by kernel_rfl) ?_ (fun hHeld => ?_)
    · exact ⟨y0, d5⟩
    refine tkYes (i := 0) (v := ?_) rfl rfl (by kernel_rfl) (by kernel_rfl) (by kernel_rfl) (fun _ _ _ h => h) (by rfl) ?_ (by assumption) ?_
    rotate_left
    · (intro w' hSw; (try dsimp only at hSw); go_simp; try with_reducible rfl)
    try simp only [Act.put, List.setIfInBounds_toArray, List.set_cons_zero, List.set_cons_succ]
    refine tkYes (i := 1) (v := ?_) rfl rfl (by kernel_rfl) (by kernel_rfl) (by kernel_rfl) (fun _ _ _ h => h) (by rfl) ?_ (by assumption) ?_
    rotate_left
    · (intro w' hSw; (try dsimp only at hSw); go_simp; try with_reducible rfl)
    try simp only [Act.put, List.setIfInBounds_toArray, List.set_cons_zero, List.set_cons_succ]
    refine tkYes (i := 2) (v := ?_) rfl rfl (by kernel_rfl) (by kernel_rfl) (by kernel_rfl) (fun _ _ _ h => h) (by rfl) ?_ (by assumption) ?_
    rotate_left
    · (intro w' hSw; (try dsimp only at hSw); go_simp; try with_reducible rfl)
    try simp only [Act.put, List.setIfInBounds_toArray, List.set_cons_zero, List.set_cons_succ]
    refine tkYes (i := 3) (v := ?_) rfl rfl (by kernel_rfl) (by kernel_rfl) (by kernel_rfl) (fun _ _ _ h => h) (by rfl) ?_ (by assumption) ?_
    rotate_left
    · (intro w' hSw; (try dsimp only at hSw); go_simp; try with_reducible rfl)
    try simp only [Act.put, List.setIfInBounds_toArray, List.set_cons_zero, List.set_cons_succ]
    refine tkYes (i := 4) (v := ?_) rfl rfl (by kernel_rfl) (by kernel_rfl) (by kernel_rfl) (fun _ _ _ h => h) (by rfl) ?_ (by assumption) ?_
    rotate_left
    · (intro w' hSw; (try dsimp only at hSw); go_simp; try with_reducible rfl)
    try simp only [Act.put, List.setIfInBounds_toArray, List.set_cons_zero, List.set_cons_succ]
    refine tkYes (i := 5) (v := ?_) rfl rfl (by kernel_rfl) (by kernel_rfl) (by kernel_rfl) (fun _ _ _ h => h) (by rfl) ?_ (by assumption) ?_
    rotate_left
    · (intro w' hSw; (try dsimp only at hSw); go_simp; try with_reducible rfl)
    try simp only [Act.put, List.setIfInBounds_toArray, List.set_cons_zero, List.set_cons_succ]
    refine tkYes (i := 7) (v := ?_) rfl rfl (by kernel_rfl) (by kernel_rfl) (by kernel_rfl) (fun _ _ _ h => h) (by rfl) ?_ (by assumption) ?_
    rotate_left
    · (intro w' hSw; (try dsimp only at hSw); go_simp; try with_reducible rfl)
    try simp only [Act.put, List.setIfInBounds_toArray, List.set_cons_zero, List.set_cons_succ]
    refine wpAnyH_ready (rs := [6]) (by kernel_rfl) (by simp) ?_
    refine AllReadyH.cons rfl (fun K hK => ?_) AllReadyH.nil
    go_simp
    refine (sfour_any p R1 F1.vn 5 _ (LS.out.rd.kept0 ((Kept.refl [] _).drew))).mono ?_
    intro x wn hx
    rw [E1.out] at hx
    obtain ⟨rfl, hk⟩ := hx
    have K := Lib.hid ((LS.out.kept0 ((Kept.refl [] _).drew)).kept.call (LS.out.rd.kept0 ((Kept.refl [] _).drew)) hk LS.out.hp (by decide))
    have KF := Lib.hid (LS.out.fr.drew.kept hk (rd_ne LS.out.rd LS.out.fr (by decide)))
    clear hk
    go_wp2_with fail
    refine ⟨rfl, ?_⟩
    rw [show r0 = .error (e, a) from EQ.out.trans (by simp only [Rd.lists1, E1.out, Except.bind])]
    exact ⟨rfl, K.out, _, rfl, KF.out⟩
  have En2 := Lib.hid hr
  clear hr
  go_upto_region 3 with (fail)
  go_region_held3 (fun w' => w'.cell? ⟨b, 0, none⟩ = some (.pointer (some ⟨p, 0, none⟩)) ∧ w'.cell? ⟨g, 5, none⟩ = some (.int .i64 F1.vn)) (first | assumption | exact ⟨y0, d5⟩) (first | (go_at_call 108; refine (sfour_any p R1 F1.vn 5 _ (LS.out.rd.kept0 ((Kept.refl [] _).drew))).mono ?_; intro x wn hx; rw [En2.out] at hx; obtain ⟨rfl, hrd, hk⟩ := hx; have LS2 := Lib.hid ((LS.out.kept0 ((Kept.refl [] _).drew)).call hrd hk); have hS : wn.cell? ⟨b, 0, none⟩ = some (.pointer (some ⟨p, 0, none⟩)) ∧ wn.cell? ⟨g, 5, none⟩ = some (.int .i64 F1.vn) := ⟨LS2.out.box.cell 0, LS2.out.fr.cell 5⟩; clear hrd hk))
  clear y0 yb d5 yg hS
  have LS := LS2
  clear LS2
  have EQ := Lib.hid (EQ.out.trans (show Rd.lists1 F1 R1 = Rd.lists2 F1 n2 R2 by simp only [Rd.lists1, En2.out, Except.bind]))
  have N2 := Lib.hid (rd_range En2.out)
  clear En2
  obtain ⟨m2, rfl⟩ : ∃ m : Nat, n2 = m := ⟨n2.toNat, by have := N2.out; omega⟩
  have hm2 : m2 ≤ 4096 := by have := N2.out; have := N1.out; omega
  have hv1 : IntKind.i64.wrap (F1.vn - 1) = F1.vn - 1 := IntWalk.i64_in _ (by have := N1.out; omega)
  have HV1 := Lib.hid hv1
  clear N2 hv1
  go_wp2_with fail
  go_loopw [4, 20] (fun t i wr => ∃ (k : Nat) (lv : Int) (Rk : Rd) (F' : Fr) (v1 : Value), k ≤ m2 ∧ t = .int .i64 lv ∧ i = .int .i64 k ∧ Hid (LsAt w wr base p b g Rk F' v1 (.slice none 0 0) (.slice none 0 0)) ∧ Hid (F' = { F1 with items := F'.items }) ∧ Hid (F'.items.length = k) ∧ Hid (Rd.items F1.vn m2 (-1) R2 [] = Rd.items F1.vn (m2 - k) lv Rk F'.items)) (fun _ i _ => m2 - (intOf i).toNat)
  case atStart => exact ⟨0, -1, R2, F1, _, Nat.zero_le _, rfl, rfl, LS, Lib.hid rfl, Lib.hid (by rw [Z1.out]; rfl), Lib.hid (by rw [Z1.out]; rfl)⟩
  case round =>
    clear LS
    obtain ⟨k, lv, Rk, F', v1, hk, rfl, rfl, LS, HFR, HLN, HSUB⟩ := hrel
    have HVN := Lib.hid (show F'.vn = F1.vn by rw [HFR.out])
    by_cases hlt : k < m2
    · have HT := Lib.hid HSUB.out
      have HSUB := Lib.hid (show Rd.items F1.vn (m2 - k) lv Rk F'.items = Rd.items F1.vn (m2 - (k + 1) + 1) lv Rk F'.items by rw [show m2 - k = m2 - (k + 1) + 1 by omega])
      have y0 := LS.out.box.cell 0
      have yb := LS.out.box.lt
      have d5 := LS.out.fr.cell 5
      have yg := LS.out.fr.lt
      simp only [List.getElem?_cons_zero, List.getElem?_cons_succ] at y0 d5
      have hv1 : IntKind.i64.wrap (F'.vn - 1) = F'.vn - 1 := by rw [HVN.out]; exact HV1.out
      rcases hr : Rk.rise lv (F'.vn - 1) with ⟨e, a⟩ | ⟨x1, Ra⟩
      · have E1 := Lib.hid hr
        clear hr
        go_wp2_with fail
        refine wp_region_held_drew (S := (fun w' => w'.cell? ⟨b, 0, none⟩ = some (.pointer (some ⟨p, 0, none⟩)) ∧ w'.cell? ⟨g, 5, none⟩ = some (.int .i64 F'.vn))) (by kernel_rfl) ?_ (fun hHeld => ?_)
        · exact ⟨y0, d5⟩
        refine tkYes (i := 0) (v := ?_) rfl rfl (by kernel_rfl) (by kernel_rfl) (by kernel_rfl) (fun _ _ _ h => h) (by rfl) ?_ (by assumption) ?_
        rotate_left
        · (intro w' hSw; (try dsimp only at hSw); go_simp; try with_reducible rfl)
        try simp only [Act.put, List.setIfInBounds_toArray, List.set_cons_zero, List.set_cons_succ]
        refine tkYes (i := 1) (v := ?_) rfl rfl (by kernel_rfl) (by kernel_rfl) (by kernel_rfl) (fun _ _ _ h => h) (by rfl) ?_ (by assumption) ?_
        rotate_left
        · (intro w' hSw; (try dsimp only at hSw); go_simp; try with_reducible rfl)
        try simp only [Act.put, List.setIfInBounds_toArray, List.set_cons_zero, List.set_cons_succ]
        refine tkYes (i := 2) (v := ?_) rfl rfl (by kernel_rfl) (by kernel_rfl) (by kernel_rfl) (fun _ _ _ h => h) (by rfl) ?_ (by assumption) ?_
        rotate_left
        · (intro w' hSw; (try dsimp only at hSw); go_simp; try with_reducible rfl)
        try simp only [Act.put, List.setIfInBounds_toArray, List.set_cons_zero, List.set_cons_succ]
        refine tkYes (i := 3) (v := ?_) rfl rfl (by kernel_rfl) (by kernel_rfl) (by kernel_rfl) (fun _ _ _ h => h) (by rfl) ?_ (by assumption) ?_
        rotate_left
        · (intro w' hSw; (try dsimp only at hSw); go_simp; try with_reducible rfl)
        try simp only [Act.put, List.setIfInBounds_toArray, List.set_cons_zero, List.set_cons_succ]
        refine tkYes (i := 4) (v := ?_) rfl rfl (by kernel_rfl) (by kernel_rfl) (by kernel_rfl) (fun _ _ _ h => h) (by rfl) ?_ (by assumption) ?_
        rotate_left
        · (intro w' hSw; (try dsimp only at hSw); go_simp; try with_reducible rfl)
        try simp only [Act.put, List.setIfInBounds_toArray, List.set_cons_zero, List.set_cons_succ]
        refine tkYes (i := 5) (v := ?_) rfl rfl (by kernel_rfl) (by kernel_rfl) (by kernel_rfl) (fun _ _ _ h => h) (by rfl) ?_ (by assumption) ?_
        rotate_left
        · (intro w' hSw; (try dsimp only at hSw); go_simp; try with_reducible rfl)
        try simp only [Act.put, List.setIfInBounds_toArray, List.set_cons_zero, List.set_cons_succ]
        refine tkYes (i := 6) (v := ?_) rfl rfl (by kernel_rfl) (by kernel_rfl) (by kernel_rfl) (fun _ _ _ h => h) (by rfl) ?_ (by assumption) ?_
        rotate_left
        · (intro w' hSw; (try dsimp only at hSw); go_simp; try with_reducible rfl)
        try simp only [Act.put, List.setIfInBounds_toArray, List.set_cons_zero, List.set_cons_succ]
        refine tkYes (i := 7) (v := ?_) rfl rfl (by kernel_rfl) (by kernel_rfl) (by kernel_rfl) (fun _ _ _ h => h) (by rfl) ?_ (by assumption) ?_
        rotate_left
        · (intro w' hSw; (try dsimp only at hSw); go_simp; try with_reducible rfl)
        try simp only [Act.put, List.setIfInBounds_toArray, List.set_cons_zero, List.set_cons_succ]
        refine wpAnyH_ready (rs := [8]) (by kernel_rfl) (by simp) ?_
        refine AllReadyH.cons rfl (fun K hK => ?_) AllReadyH.nil
        go_simp
        refine (srising_any p Rk lv (F'.vn - 1) _ (LS.out.rd.kept0 ((Kept.refl [] _).drew))).mono ?_
        intro x wn hx
        rw [E1.out] at hx
        obtain ⟨rfl, hk⟩ := hx
        have K := Lib.hid ((LS.out.kept0 ((Kept.refl [] _).drew)).kept.call (LS.out.rd.kept0 ((Kept.refl [] _).drew)) hk LS.out.hp (by decide))
        have KF := Lib.hid (LS.out.fr.drew.kept hk (rd_ne LS.out.rd LS.out.fr (by decide)))
        clear hk
        go_wp2_with fail
        refine ⟨rfl, ?_⟩
        rw [show r0 = .error (e, a) from EQ.out.trans (by simp only [Rd.lists2, Int.toNat_natCast]; rw [HT.out, HSUB.out]; simp only [Rd.items, (show Rk.rise lv (F1.vn - 1) = .error (e, a) by rw [← HVN.out]; exact E1.out), Except.bind])]
        exact ⟨rfl, K.out, _, rfl, KF.out⟩
      have Ex := Lib.hid hr
      clear hr
      go_upto_region 5 with (fail)
      go_region_held3 (fun w' => w'.cell? ⟨b, 0, none⟩ = some (.pointer (some ⟨p, 0, none⟩)) ∧ w'.cell? ⟨g, 5, none⟩ = some (.int .i64 F'.vn)) (first | assumption | exact ⟨y0, d5⟩) (first | (go_at_call 110; refine (srising_any p Rk lv (F'.vn - 1) _ (LS.out.rd.kept0 ((Kept.refl [] _).drew))).mono ?_; intro x wn hx; rw [Ex.out] at hx; obtain ⟨rfl, hrd, hk⟩ := hx; have LS2 := Lib.hid ((LS.out.kept0 ((Kept.refl [] _).drew)).call hrd hk); have hS : wn.cell? ⟨b, 0, none⟩ = some (.pointer (some ⟨p, 0, none⟩)) ∧ wn.cell? ⟨g, 5, none⟩ = some (.int .i64 F'.vn) := ⟨LS2.out.box.cell 0, LS2.out.fr.cell 5⟩; clear hrd hk))
      clear y0 yb d5 yg hS hv1
      have LS := LS2
      clear LS2
      have y0 := LS.out.box.cell 0
      have yb := LS.out.box.lt
      have d6 := LS.out.fr.cell 6
      have yg := LS.out.fr.lt
      simp only [List.getElem?_cons_zero, List.getElem?_cons_succ] at y0 d6
      rcases hr : Ra.word with ⟨e, a⟩ | ⟨y1, Rb⟩
      · have E1 := Lib.hid hr
        clear hr
        go_wp2_with fail
        refine wp_region_held_drew (S := (fun w' => w'.cell? ⟨b, 0, none⟩ = some (.pointer (some ⟨p, 0, none⟩)) ∧ w'.cell? ⟨g, 6, none⟩ = some v1)) (by kernel_rfl) ?_ (fun hHeld => ?_)
        · exact ⟨y0, d6⟩
        refine tkYes (i := 0) (v := ?_) rfl rfl (by kernel_rfl) (by kernel_rfl) (by kernel_rfl) (fun _ _ _ h => h) (by rfl) ?_ (by assumption) ?_
        rotate_left
        · (intro w' hSw; (try dsimp only at hSw); go_simp; try with_reducible rfl)
        try simp only [Act.put, List.setIfInBounds_toArray, List.set_cons_zero, List.set_cons_succ]
        refine tkYes (i := 1) (v := ?_) rfl rfl (by kernel_rfl) (by kernel_rfl) (by kernel_rfl) (fun _ _ _ h => h) (by rfl) ?_ (by assumption) ?_
        rotate_left
        · (intro w' hSw; (try dsimp only at hSw); go_simp; try with_reducible rfl)
        try simp only [Act.put, List.setIfInBounds_toArray, List.set_cons_zero, List.set_cons_succ]
        refine tkYes (i := 2) (v := ?_) rfl rfl (by kernel_rfl) (by kernel_rfl) (by kernel_rfl) (fun _ _ _ h => h) (by rfl) ?_ (by assumption) ?_
        rotate_left
        · (intro w' hSw; (try dsimp only at hSw); go_simp; try with_reducible rfl)
        try simp only [Act.put, List.setIfInBounds_toArray, List.set_cons_zero, List.set_cons_succ]
        refine tkYes (i := 3) (v := ?_) rfl rfl (by kernel_rfl) (by kernel_rfl) (by kernel_rfl) (fun _ _ _ h => h) (by rfl) ?_ (by assumption) ?_
        rotate_left
        · (intro w' hSw; (try dsimp only at hSw); go_simp; try with_reducible rfl)
        try simp only [Act.put, List.setIfInBounds_toArray, List.set_cons_zero, List.set_cons_succ]
        refine tkYes (i := 4) (v := ?_) rfl rfl (by kernel_rfl) (by kernel_rfl) (by kernel_rfl) (fun _ _ _ h => h) (by rfl) ?_ (by assumption) ?_
        rotate_left
        · (intro w' hSw; (try dsimp only at hSw); go_simp; try with_reducible rfl)
        try simp only [Act.put, List.setIfInBounds_toArray, List.set_cons_zero, List.set_cons_succ]
        refine tkYes (i := 5) (v := ?_) rfl rfl (by kernel_rfl) (by kernel_rfl) (by kernel_rfl) (fun _ _ _ h => h) (by rfl) ?_ (by assumption) ?_
        rotate_left
        · (intro w' hSw; (try dsimp only at hSw); go_simp; try with_reducible rfl)
        try simp only [Act.put, List.setIfInBounds_toArray, List.set_cons_zero, List.set_cons_succ]
        refine tkYes (i := 6) (v := ?_) rfl rfl (by kernel_rfl) (by kernel_rfl) (by kernel_rfl) (fun _ _ _ h => h) (by rfl) ?_ (by assumption) ?_
        rotate_left
        · (intro w' hSw; (try dsimp only at hSw); go_simp; try with_reducible rfl)
        try simp only [Act.put, List.setIfInBounds_toArray, List.set_cons_zero, List.set_cons_succ]
        refine tkYes (i := 7) (v := ?_) rfl rfl (by kernel_rfl) (by kernel_rfl) (by kernel_rfl) (fun _ _ _ h => h) (by rfl) ?_ (by assumption) ?_
        rotate_left
        · (intro w' hSw; (try dsimp only at hSw); go_simp; try with_reducible rfl)
        try simp only [Act.put, List.setIfInBounds_toArray, List.set_cons_zero, List.set_cons_succ]
        refine wpAnyH_ready (rs := [8]) (by kernel_rfl) (by simp) ?_
        refine AllReadyH.cons rfl (fun K hK => ?_) AllReadyH.nil
        go_simp
        refine (seight_any p Ra _ (LS.out.rd.kept0 ((Kept.refl [] _).drew))).mono ?_
        intro x wn hx
        rw [E1.out] at hx
        obtain ⟨rfl, hk⟩ := hx
        have K := Lib.hid ((LS.out.kept0 ((Kept.refl [] _).drew)).kept.call (LS.out.rd.kept0 ((Kept.refl [] _).drew)) hk LS.out.hp (by decide))
        have KF := Lib.hid (LS.out.fr.drew.kept hk (rd_ne LS.out.rd LS.out.fr (by decide)))
        clear hk
        go_wp2_with fail
        refine ⟨rfl, ?_⟩
        rw [show r0 = .error (e, a) from EQ.out.trans (by simp only [Rd.lists2, Int.toNat_natCast]; rw [HT.out, HSUB.out]; simp only [Rd.items, (show Rk.rise lv (F1.vn - 1) = .ok (x1, Ra) by rw [← HVN.out]; exact Ex.out), E1.out, Except.bind])]
        exact ⟨rfl, K.out, _, rfl, KF.out⟩
      have Ey := Lib.hid hr
      clear hr
      have B1 := Lib.hid (show (F'.items.length + 1) * 16 ≤ 140737488355328 by rw [HLN.out]; omega)
      have B2 := Lib.hid (show F'.items.length + 1 ≤ maxLen by rw [HLN.out]; unfold maxLen; omega)
      go_upto_region 6 with (fail)
      go_region_law (first
        | (refine step_app _ rfl (.tmp 36) (.tmp 41) _ rfl 99 (.agg #[.int .i64 0, .int .i64 0]) 2 16 Try.underlying54 infoItem rfl (by decide) base v1 _ _ rfl (LS2.out.o1.alloc _) (some ⟨_, 0, none⟩) 1 1 (readV (x1, y1)) rfl rfl (Reads.of_blk (Blk.new _ _ _) (fun _ _ h => h)) (by simp [readV, Value.oneCell']) B1.out B2.out (Nat.le_trans LS2.out.hb (Nat.le_trans LS2.out.kept.size (by simp))) ?_; intro u w2 ho2 hk2 _; obtain ⟨A2, N2', c2, rfl⟩ := own_sl ho2; have hA := (KeptB.refl base [99] _).app hk2 (LS2.out.o1.alloc _) (by decide); have q6 := ((LS2.out.fr.alloc _).keptB hA (by decide)).cell 6; have q7 := ((LS2.out.fr.alloc _).keptB hA (by decide)).frozen 6; simp only [List.getElem?_cons_zero, List.getElem?_cons_succ] at q6; have K2 := Lib.hid hk2; have O2 := Lib.hid ho2; clear hk2 ho2 hA)
        | (go_simp; go_at_call 109; refine (seight_any p Ra _ (LS.out.rd.kept0 ((Kept.refl [] _).drew))).mono ?_; intro x wn hx; rw [Ey.out] at hx; obtain ⟨rfl, hrd, hk⟩ := hx; have LS2 := Lib.hid ((LS.out.kept0 ((Kept.refl [] _).drew)).call hrd hk); have q5 := LS2.out.fr.cell 6; have q4 := LS2.out.fr.lt; have q3 := LS2.out.box.cell 0; simp only [List.getElem?_cons_zero, List.getElem?_cons_succ] at q5 q3; clear hrd hk))
      all_goals
        go_wp2_with fail
        go_roundw
        case rel =>
          exact ⟨k + 1, x1, Rb, _, _, by omega, rfl, by go_num, Lib.hid (LsAt.app1 LS2.out ((Kept.refl [] _).alloc _) K2.out (x := (x1, y1)) O2.out), Lib.hid (fr_items HFR.out), Lib.hid (by simp [HLN.out]),
            Lib.hid (HT.out.trans (HSUB.out.trans (by
              simp only [Rd.items, (show Rk.rise lv (F1.vn - 1) = .ok (x1, Ra) by rw [← HVN.out]; exact Ex.out), Ey.out, Except.bind])))⟩
        case measure => simp [intOf]; omega
    · have hkm : k = m2 := by omega
      have HSUB := Lib.hid (show Rd.items F1.vn m2 (-1) R2 [] = .ok (F'.items, Rk) from HSUB.out.trans (by rw [hkm, Nat.sub_self]; rfl))
      clear hkm hk
      have y0 := LS.out.box.cell 0
      have yb := LS.out.box.lt
      simp only [List.getElem?_cons_zero, List.getElem?_cons_succ] at y0
      have EQ := Lib.hid (EQ.out.trans (show Rd.lists2 F1 m2 R2 = Rd.lists3 F' Rk by
        simp only [Rd.lists2, Int.toNat_natCast]
        rw [HSUB.out]
        simp only [Except.bind]
        rw [← HFR.out]))
      have Z2 := Lib.hid (show F'.sums = [] by rw [HFR.out]; exact Z2.out)
      have Z3 := Lib.hid (show F'.trips = [] by rw [HFR.out]; exact Z3.out)
      clear N1 HV1 Z1 HFR HLN HSUB HVN
      obtain ⟨F2, hF2⟩ : ∃ F2, F2 = F' := ⟨_, rfl⟩
      subst hF2
      obtain ⟨w1x, hw1x⟩ : ∃ w1x, w1x = v1 := ⟨_, rfl⟩
      subst hw1x
      go_wp2_with fail
      refine (sfour_any p Rk 4096 5 _ LS.out.rd).mono ?_
      intro x wn hx
      rcases hr : Rk.rd 4 0 4096 5 with ⟨e, a⟩ | ⟨n3, R3⟩
      · rw [hr] at hx
        obtain ⟨rfl, hk⟩ := hx
        have K := Lib.hid (LS.out.kept.call LS.out.rd hk LS.out.hp (by decide))
        have KF := Lib.hid (LS.out.fr.kept hk (rd_ne LS.out.rd LS.out.fr (by decide)))
        have E1 := Lib.hid hr
        clear hk hr
        go_wp2_with fail
        refine ⟨rfl, ?_⟩
        rw [show r0 = .error (e, a) from EQ.out.trans (by simp only [Rd.lists3, E1.out, Except.bind])]
        exact ⟨rfl, K.out, _, rfl, KF.out⟩
      rw [hr] at hx
      obtain ⟨rfl, hrd, hk⟩ := hx
      have LS := Lib.hid (LS.out.call hrd hk)
      have En3 := Lib.hid hr
      clear hk hr hrd y0 yb hlt hm2
      have EQ := Lib.hid (EQ.out.trans (show Rd.lists3 F2 Rk = Rd.lists4 F2 n3 R3 by simp only [Rd.lists3, En3.out, Except.bind]))
      have N3 := Lib.hid (rd_range En3.out)
      obtain ⟨m3, rfl⟩ : ∃ m : Nat, n3 = m := ⟨n3.toNat, by have := N3.out; omega⟩
      have hm3 : m3 ≤ 4096 := by have := N3.out; omega
      clear N3 En3
      go_wp2_with fail
      go_loopw [4, 49] (fun t i wr => ∃ (k : Nat) (lv : Int) (Rk : Rd) (F' : Fr) (v2 : Value), k ≤ m3 ∧ t = .int .i64 lv ∧ i = .int .i64 k ∧ Hid (LsAt w wr base p b g Rk F' w1x v2 (.slice none 0 0)) ∧ Hid (F' = { F2 with sums := F'.sums }) ∧ Hid (F'.sums.length = k) ∧ Hid (Rd.sums m3 (-1) R3 [] = Rd.sums (m3 - k) lv Rk F'.sums)) (fun _ i _ => m3 - (intOf i).toNat)
      case atStart => exact ⟨0, -1, R3, F2, _, Nat.zero_le _, rfl, rfl, LS, Lib.hid rfl, Lib.hid (by rw [Z2.out]; rfl), Lib.hid (by rw [Z2.out]; rfl)⟩
      case round =>
        clear LS
        obtain ⟨k, lv, Rk, F', v2, hk, rfl, rfl, LS, HFR, HLN, HSUB⟩ := hrel
        by_cases hlt : k < m3
        · have HT := Lib.hid HSUB.out
          have HSUB := Lib.hid (show Rd.sums (m3 - k) lv Rk F'.sums = Rd.sums (m3 - (k + 1) + 1) lv Rk F'.sums by rw [show m3 - k = m3 - (k + 1) + 1 by omega])
          have y0 := LS.out.box.cell 0
          have yb := LS.out.box.lt
          simp only [List.getElem?_cons_zero, List.getElem?_cons_succ] at y0
          go_wp2_with fail
          refine (srising_any p Rk lv 4095 _ LS.out.rd).mono ?_
          intro x wn hx
          rcases hr : Rk.rise lv 4095 with ⟨e, a⟩ | ⟨x1, Ra⟩
          · rw [hr] at hx
            obtain ⟨rfl, hk⟩ := hx
            have K := Lib.hid (LS.out.kept.call LS.out.rd hk LS.out.hp (by decide))
            have KF := Lib.hid (LS.out.fr.kept hk (rd_ne LS.out.rd LS.out.fr (by decide)))
            have E1 := Lib.hid hr
            clear hk hr
            go_wp2_with fail
            refine ⟨rfl, ?_⟩
            rw [show r0 = .error (e, a) from EQ.out.trans (by simp only [Rd.lists4, Int.toNat_natCast]; rw [HT.out, HSUB.out]; simp only [Rd.sums, E1.out, Except.bind])]
            exact ⟨rfl, K.out, _, rfl, KF.out⟩
          rw [hr] at hx
          obtain ⟨rfl, hrd, hk⟩ := hx
          have LS := Lib.hid (LS.out.call hrd hk)
          have Ex1 := Lib.hid hr
          clear hk hr hrd y0 yb
          have y0 := LS.out.box.cell 0
          have yb := LS.out.box.lt
          simp only [List.getElem?_cons_zero, List.getElem?_cons_succ] at y0
          go_wp2_with fail
          refine (seight_any p Ra _ LS.out.rd).mono ?_
          intro x wn hx
          rcases hr : Ra.word with ⟨e, a⟩ | ⟨h1, Rb⟩
          · rw [hr] at hx
            obtain ⟨rfl, hk⟩ := hx
            have K := Lib.hid (LS.out.kept.call LS.out.rd hk LS.out.hp (by decide))
            have KF := Lib.hid (LS.out.fr.kept hk (rd_ne LS.out.rd LS.out.fr (by decide)))
            have E1 := Lib.hid hr
            clear hk hr
            go_wp2_with fail
            refine ⟨rfl, ?_⟩
            rw [show r0 = .error (e, a) from EQ.out.trans (by simp only [Rd.lists4, Int.toNat_natCast]; rw [HT.out, HSUB.out]; simp only [Rd.sums, Ex1.out, E1.out, Except.bind])]
            exact ⟨rfl, K.out, _, rfl, KF.out⟩
          rw [hr] at hx
          obtain ⟨rfl, hrd, hk⟩ := hx
          have LS := Lib.hid (LS.out.call hrd hk)
          have Eh1 := Lib.hid hr
          clear hk hr hrd y0 yb
          go_upto_region 13 with (fail)
          have y0 := LS.out.box.cell 0
          have yb := LS.out.box.lt
          have d7 := LS.out.fr.cell 7
          have yg := LS.out.fr.lt
          simp only [List.getElem?_cons_zero, List.getElem?_cons_succ] at y0 d7
          rcases hr : Rb.word with ⟨e, a⟩ | ⟨y1, Rc⟩
          · have E1 := Lib.hid hr
            clear hr
            refine wp_region_held_drew (S := (fun w' => w'.cell? ⟨b, 0, none⟩ = some (.pointer (some ⟨p, 0, none⟩)) ∧ w'.cell? ⟨g, 7, none⟩ = some v2)) (by kernel_rfl) ?_ (fun hHeld => ?_)
            · exact ⟨y0, d7⟩
            refine tkYes (i := 0) (v := ?_) rfl rfl (by kernel_rfl) (by kernel_rfl) (by kernel_rfl) (fun _ _ _ h => h) (by rfl) ?_ (by assumption) ?_
            rotate_left
            · (intro w' hSw; (try dsimp only at hSw); go_simp; try with_reducible rfl)
            try simp only [Act.put, List.setIfInBounds_toArray, List.set_cons_zero, List.set_cons_succ]
            refine tkYes (i := 1) (v := ?_) rfl rfl (by kernel_rfl) (by kernel_rfl) (by kernel_rfl) (fun _ _ _ h => h) (by rfl) ?_ (by assumption) ?_
            rotate_left
            · (intro w' hSw; (try dsimp only at hSw); go_simp; try with_reducible rfl)
            try simp only [Act.put, List.setIfInBounds_toArray, List.set_cons_zero, List.set_cons_succ]
            refine tkYes (i := 2) (v := ?_) rfl rfl (by kernel_rfl) (by kernel_rfl) (by kernel_rfl) (fun _ _ _ h => h) (by rfl) ?_ (by assumption) ?_
            rotate_left
            · (intro w' hSw; (try dsimp only at hSw); go_simp; try with_reducible rfl)
            try simp only [Act.put, List.setIfInBounds_toArray, List.set_cons_zero, List.set_cons_succ]
            refine tkYes (i := 3) (v := ?_) rfl rfl (by kernel_rfl) (by kernel_rfl) (by kernel_rfl) (fun _ _ _ h => h) (by rfl) ?_ (by assumption) ?_
            rotate_left
            · (intro w' hSw; (try dsimp only at hSw); go_simp; try with_reducible rfl)
            try simp only [Act.put, List.setIfInBounds_toArray, List.set_cons_zero, List.set_cons_succ]
            refine tkYes (i := 4) (v := ?_) rfl rfl (by kernel_rfl) (by kernel_rfl) (by kernel_rfl) (fun _ _ _ h => h) (by rfl) ?_ (by assumption) ?_
            rotate_left
            · (intro w' hSw; (try dsimp only at hSw); go_simp; try with_reducible rfl)
            try simp only [Act.put, List.setIfInBounds_toArray, List.set_cons_zero, List.set_cons_succ]
            refine tkYes (i := 5) (v := ?_) rfl rfl (by kernel_rfl) (by kernel_rfl) (by kernel_rfl) (fun _ _ _ h => h) (by rfl) ?_ (by assumption) ?_
            rotate_left
            · (intro w' hSw; (try dsimp only at hSw); go_simp; try with_reducible rfl)
            try simp only [Act.put, List.setIfInBounds_toArray, List.set_cons_zero, List.set_cons_succ]
            refine tkYes (i := 6) (v := ?_) rfl rfl (by kernel_rfl) (by kernel_rfl) (by kernel_rfl) (fun _ _ _ h => h) (by rfl) ?_ (by assumption) ?_
            rotate_left
            · (intro w' hSw; (try dsimp only at hSw); go_simp; try with_reducible rfl)
            try simp only [Act.put, List.setIfInBounds_toArray, List.set_cons_zero, List.set_cons_succ]
            refine tkYes (i := 7) (v := ?_) rfl rfl (by kernel_rfl) (by kernel_rfl) (by kernel_rfl) (fun _ _ _ h => h) (by rfl) ?_ (by assumption) ?_
            rotate_left
            · (intro w' hSw; (try dsimp only at hSw); go_simp; try with_reducible rfl)
            try simp only [Act.put, List.setIfInBounds_toArray, List.set_cons_zero, List.set_cons_succ]
            refine wpAnyH_ready (rs := [8]) (by kernel_rfl) (by simp) ?_
            refine AllReadyH.cons rfl (fun K hK => ?_) AllReadyH.nil
            go_simp
            refine (seight_any p Rb _ (LS.out.rd.kept0 ((Kept.refl [] _).drew))).mono ?_
            intro x wn hx
            rw [E1.out] at hx
            obtain ⟨rfl, hk⟩ := hx
            have K := Lib.hid ((LS.out.kept0 ((Kept.refl [] _).drew)).kept.call (LS.out.rd.kept0 ((Kept.refl [] _).drew)) hk LS.out.hp (by decide))
            have KF := Lib.hid (LS.out.fr.drew.kept hk (rd_ne LS.out.rd LS.out.fr (by decide)))
            clear hk
            go_wp2_with fail
            refine ⟨rfl, ?_⟩
            rw [show r0 = .error (e, a) from EQ.out.trans (by simp only [Rd.lists4, Int.toNat_natCast]; rw [HT.out, HSUB.out]; simp only [Rd.sums, Ex1.out, Eh1.out, E1.out, Except.bind])]
            exact ⟨rfl, K.out, _, rfl, KF.out⟩
          have Ey := Lib.hid hr
          clear hr
          have B1 := Lib.hid (show (F'.sums.length + 1) * 24 ≤ 140737488355328 by rw [HLN.out]; omega)
          have B2 := Lib.hid (show F'.sums.length + 1 ≤ maxLen by rw [HLN.out]; unfold maxLen; omega)
          go_region_law (first
            | (refine step_app _ rfl (.tmp 60) (.tmp 68) _ rfl 103 (.agg #[.int .i64 0, .int .i64 0, .int .u64 0]) 3 24 Try.underlying57 infoSum rfl (by decide) base v2 _ _ rfl (LS2.out.o2.alloc _) (some ⟨_, 0, none⟩) 1 1 ([.int .i64 x1, .int .i64 h1, .int .u64 (IntKind.u64.wrap y1)]) rfl rfl (Reads.of_blk (Blk.new _ _ _) (fun _ _ h => h)) (by simp [sumV, Value.oneCell']) B1.out B2.out (Nat.le_trans LS2.out.hb (Nat.le_trans LS2.out.kept.size (by simp))) ?_; intro u w2 ho2 hk2 _; obtain ⟨A2, N2', c2, rfl⟩ := own_sl ho2; have hA := (KeptB.refl base [103] _).app hk2 (LS2.out.o2.alloc _) (by decide); have q6 := ((LS2.out.fr.alloc _).keptB hA (by decide)).cell 7; have q7 := ((LS2.out.fr.alloc _).keptB hA (by decide)).frozen 7; simp only [List.getElem?_cons_zero, List.getElem?_cons_succ] at q6; have K2 := Lib.hid hk2; have O2 := Lib.hid ho2; clear hk2 ho2 hA)
            | (go_simp; go_at_call 109; refine (seight_any p Rb _ (LS.out.rd.kept0 ((Kept.refl [] _).drew))).mono ?_; intro x wn hx; rw [Ey.out] at hx; obtain ⟨rfl, hrd, hk⟩ := hx; have LS2 := Lib.hid ((LS.out.kept0 ((Kept.refl [] _).drew)).call hrd hk); have q5 := LS2.out.fr.cell 7; have q4 := LS2.out.fr.lt; have q3 := LS2.out.box.cell 0; simp only [List.getElem?_cons_zero, List.getElem?_cons_succ] at q5 q3; clear hrd hk))
          all_goals
            have O2 := Lib.hid (show w2.ownsRow base 103 3 (.slice A2 N2' c2) (F'.sums.length + 1) (F'.sums.flatMap sumV ++ sumV (x1, h1, u64of y1)) from (by have h := O2.out; rw [wrap_u64of] at h; exact h))
            go_wp2_with fail
            go_roundw
            case rel =>
              exact ⟨k + 1, x1, Rc, _, _, by omega, rfl, by go_num, Lib.hid (LsAt.app2 LS2.out ((Kept.refl [] _).alloc _) K2.out O2.out), Lib.hid (fr_sums HFR.out), Lib.hid (by simp [HLN.out]),
                Lib.hid (HT.out.trans (HSUB.out.trans (by
                  simp only [Rd.sums, Ex1.out, Eh1.out, Ey.out, Except.bind])))⟩
            case measure => simp [intOf]; omega
        · have hkm : k = m3 := by omega
          have HSUB := Lib.hid (show Rd.sums m3 (-1) R3 [] = .ok (F'.sums, Rk) from HSUB.out.trans (by rw [hkm, Nat.sub_self]; rfl))
          clear hkm hk
          have y0 := LS.out.box.cell 0
          have yb := LS.out.box.lt
          simp only [List.getElem?_cons_zero, List.getElem?_cons_succ] at y0
          have EQ := Lib.hid (EQ.out.trans (show Rd.lists4 F2 m3 R3 = Rd.lists5 F' Rk by
            simp only [Rd.lists4, Int.toNat_natCast]
            rw [HSUB.out]
            simp only [Except.bind]
            rw [← HFR.out]))
          have Z3 := Lib.hid (show F'.trips = [] by rw [HFR.out]; exact Z3.out)
          clear Z2 HFR HLN HSUB
          obtain ⟨F3, hF3⟩ : ∃ F3, F3 = F' := ⟨_, rfl⟩
          subst hF3
          obtain ⟨w2x, hw2x⟩ : ∃ w2x, w2x = v2 := ⟨_, rfl⟩
          subst hw2x
          go_wp2_with fail
          refine (sfour_any p Rk 65536 5 _ LS.out.rd).mono ?_
          intro x wn hx
          rcases hr : Rk.rd 4 0 65536 5 with ⟨e, a⟩ | ⟨n4, R4⟩
          · rw [hr] at hx
            obtain ⟨rfl, hk⟩ := hx
            have K := Lib.hid (LS.out.kept.call LS.out.rd hk LS.out.hp (by decide))
            have KF := Lib.hid (LS.out.fr.kept hk (rd_ne LS.out.rd LS.out.fr (by decide)))
            have E1 := Lib.hid hr
            clear hk hr
            go_wp2_with fail
            refine ⟨rfl, ?_⟩
            rw [show r0 = .error (e, a) from EQ.out.trans (by simp only [Rd.lists5, E1.out, Except.bind])]
            exact ⟨rfl, K.out, _, rfl, KF.out⟩
          rw [hr] at hx
          obtain ⟨rfl, hrd, hk⟩ := hx
          have LS := Lib.hid (LS.out.call hrd hk)
          have En4 := Lib.hid hr
          clear hk hr hrd y0 yb hlt hm3
          have EQ := Lib.hid (EQ.out.trans (show Rd.lists5 F3 Rk = Rd.lists6 F3 n4 R4 by simp only [Rd.lists5, En4.out, Except.bind]))
          have N4 := Lib.hid (rd_range En4.out)
          obtain ⟨m4, rfl⟩ : ∃ m : Nat, n4 = m := ⟨n4.toNat, by have := N4.out; omega⟩
          have hm4 : m4 ≤ 65536 := by have := N4.out; omega
          clear N4 En4
          go_wp2_with fail
          go_loopw [75] (fun i wr => ∃ (k : Nat) (Rk : Rd) (F' : Fr) (v3 : Value), k ≤ m4 ∧ i = .int .i64 k ∧ Hid (LsAt w wr base p b g Rk F' w1x w2x v3) ∧ Hid (F' = { F3 with trips := F'.trips }) ∧ Hid (F'.trips.length = k) ∧ Hid (Rd.trips m4 R4 [] = Rd.trips (m4 - k) Rk F'.trips)) (fun i _ => m4 - (intOf i).toNat)
          case atStart => exact ⟨0, R4, F3, _, Nat.zero_le _, rfl, LS, Lib.hid rfl, Lib.hid (by rw [Z3.out]; rfl), Lib.hid (by rw [Z3.out]; rfl)⟩
          case round =>
            clear LS
            obtain ⟨k, Rk, F', v3, hk, rfl, LS, HFR, HLN, HSUB⟩ := hrel
            by_cases hlt : k < m4
            · have HT := Lib.hid HSUB.out
              have HSUB := Lib.hid (show Rd.trips (m4 - k) Rk F'.trips = Rd.trips (m4 - (k + 1) + 1) Rk F'.trips by rw [show m4 - k = m4 - (k + 1) + 1 by omega])
              have y0 := LS.out.box.cell 0
              have yb := LS.out.box.lt
              simp only [List.getElem?_cons_zero, List.getElem?_cons_succ] at y0
              go_wp2_with fail
              refine (sfour_any p Rk 4095 3 _ LS.out.rd).mono ?_
              intro x wn hx
              rcases hr : Rk.rd 4 0 4095 3 with ⟨e, a⟩ | ⟨x1, Ra⟩
              · rw [hr] at hx
                obtain ⟨rfl, hk⟩ := hx
                have K := Lib.hid (LS.out.kept.call LS.out.rd hk LS.out.hp (by decide))
                have KF := Lib.hid (LS.out.fr.kept hk (rd_ne LS.out.rd LS.out.fr (by decide)))
                have E1 := Lib.hid hr
                clear hk hr
                go_wp2_with fail
                refine ⟨rfl, ?_⟩
                rw [show r0 = .error (e, a) from EQ.out.trans (by simp only [Rd.lists6, Int.toNat_natCast]; rw [HT.out, HSUB.out]; simp only [Rd.trips, E1.out, Except.bind])]
                exact ⟨rfl, K.out, _, rfl, KF.out⟩
              rw [hr] at hx
              obtain ⟨rfl, hrd, hk⟩ := hx
              have LS := Lib.hid (LS.out.call hrd hk)
              have Ex1 := Lib.hid hr
              clear hk hr hrd y0 yb
              go_upto_region 18 with (fail)
              have LT := Lib.hid (show LtAt w (wn.alloc (.cells #[.int .i64 x1, .int .i64 0, .int .i64 0] 105)) base p b g Ra F' w1x w2x v3 wn.heap.size [.int .i64 x1, .int .i64 0, .int .i64 0] from
                ⟨LS.out.kept0 ((Kept.refl [] _).alloc _), Blk.new _ _ _, fun hv => Nat.lt_irrefl _ (LS.out.o3.lt _ hv).2, Nat.le_trans LS.out.hb LS.out.kept.size⟩)
              obtain ⟨T, hT⟩ : ∃ T, T = wn.heap.size := ⟨_, rfl⟩
              rw [← hT] at LT ⊢
              generalize wn.alloc (.cells #[.int .i64 x1, .int .i64 0, .int .i64 0] 105) = wh at LT ⊢
              clear LS hT
              have LS := Lib.hid LT.out.ls
              have y0 := LS.out.box.cell 0
              have yb := LS.out.box.lt
              simp only [List.getElem?_cons_zero, List.getElem?_cons_succ] at y0
              go_wp2_with fail
              refine (sfour_any p Ra 4095 3 _ LS.out.rd).mono ?_
              intro x wn hx
              rcases hr : Ra.rd 4 0 4095 3 with ⟨e, a⟩ | ⟨y1, Rb⟩
              · rw [hr] at hx
                obtain ⟨rfl, hk⟩ := hx
                have K := Lib.hid (LS.out.kept.call LS.out.rd hk LS.out.hp (by decide))
                have KF := Lib.hid (LS.out.fr.kept hk (rd_ne LS.out.rd LS.out.fr (by decide)))
                have E1 := Lib.hid hr
                clear hk hr
                go_wp2_with fail
                refine ⟨rfl, ?_⟩
                rw [show r0 = .error (e, a) from EQ.out.trans (by simp only [Rd.lists6, Int.toNat_natCast]; rw [HT.out, HSUB.out]; simp only [Rd.trips, Ex1.out, E1.out, Except.bind])]
                exact ⟨rfl, K.out, _, rfl, KF.out⟩
              rw [hr] at hx
              obtain ⟨rfl, hrd, hk⟩ := hx
              have LS := Lib.hid (LS.out.call hrd hk)
              have Ey1 := Lib.hid hr
              have LT := Lib.hid (LT.out.call hrd hk)
              clear hk hr hrd y0 yb
              have t1 := LT.out.blk.cell 1
              have t2 := LT.out.blk.frozen 1
              have t3 := LT.out.blk.lt
              simp only [List.getElem?_cons_zero, List.getElem?_cons_succ] at t1
              go_upto_region 19 with (fail)
              have LT := Lib.hid (LT.out.set 1 (.int .i64 y1))
              simp only [List.set_cons_zero, List.set_cons_succ] at LT
              generalize wn.setCell ⟨T, 1, none⟩ (.int .i64 y1) = wh at LT ⊢
              clear LS t1 t2 t3
              have LS := Lib.hid LT.out.ls
              have y0 := LS.out.box.cell 0
              have yb := LS.out.box.lt
              simp only [List.getElem?_cons_zero, List.getElem?_cons_succ] at y0
              go_wp2_with fail
              refine (seight_any p Rb _ LS.out.rd).mono ?_
              intro x wn hx
              rcases hr : Rb.word with ⟨e, a⟩ | ⟨z1, Rc⟩
              · rw [hr] at hx
                obtain ⟨rfl, hk⟩ := hx
                have K := Lib.hid (LS.out.kept.call LS.out.rd hk LS.out.hp (by decide))
                have KF := Lib.hid (LS.out.fr.kept hk (rd_ne LS.out.rd LS.out.fr (by decide)))
                have E1 := Lib.hid hr
                clear hk hr
                go_wp2_with fail
                refine ⟨rfl, ?_⟩
                rw [show r0 = .error (e, a) from EQ.out.trans (by simp only [Rd.lists6, Int.toNat_natCast]; rw [HT.out, HSUB.out]; simp only [Rd.trips, Ex1.out, Ey1.out, E1.out, Except.bind])]
                exact ⟨rfl, K.out, _, rfl, KF.out⟩
              rw [hr] at hx
              obtain ⟨rfl, hrd, hk⟩ := hx
              have LS := Lib.hid (LS.out.call hrd hk)
              have Ez1 := Lib.hid hr
              have LT := Lib.hid (LT.out.call hrd hk)
              clear hk hr hrd y0 yb
              have t1 := LT.out.blk.cell 2
              have t2 := LT.out.blk.frozen 2
              have t3 := LT.out.blk.lt
              simp only [List.getElem?_cons_zero, List.getElem?_cons_succ] at t1
              go_upto_region 20 with (fail)
              have LT := Lib.hid (LT.out.set 2 (.int .i64 z1))
              simp only [List.set_cons_zero, List.set_cons_succ] at LT
              generalize wn.setCell ⟨T, 2, none⟩ (.int .i64 z1) = wh at LT ⊢
              clear LS t1 t2 t3
              have LS := Lib.hid LT.out.ls
              have t0 := LT.out.blk.cell 0
              have t1 := LT.out.blk.cell 1
              have t2 := LT.out.blk.cell 2
              have t3 := LT.out.blk.lt
              simp only [List.getElem?_cons_zero, List.getElem?_cons_succ] at t0 t1 t2
              have d8 := LS.out.fr.cell 8
              have yg := LS.out.fr.lt
              simp only [List.getElem?_cons_zero, List.getElem?_cons_succ] at d8
              have B1 := Lib.hid (show (F'.trips.length + 1) * 24 ≤ 140737488355328 by rw [HLN.out]; omega)
              have B2 := Lib.hid (show F'.trips.length + 1 ≤ maxLen by rw [HLN.out]; unfold maxLen; omega)
              have LSD := Lib.hid (LS.out.kept0 ((Kept.refl [] _).drew))
              go_region_law ((refine step_app _ rfl (.tmp 90) (.tmp 92) _ rfl 105 (.agg #[.int .i64 0, .int .i64 0, .int .i64 0]) 3 24 Try.underlying58 infoTriple rfl (by decide) base v3 _ _ rfl (LSD.out.o3.alloc _) (some ⟨_, 0, none⟩) 1 1 (tripV (x1, y1, z1)) rfl rfl (Reads.of_blk (Blk.new _ _ _) (fun _ _ h => h)) (by simp [tripV, Value.oneCell']) B1.out B2.out (Nat.le_trans LSD.out.hb (Nat.le_trans LSD.out.kept.size (by simp))) ?_; intro u w2 ho2 hk2 _; obtain ⟨A2, N2', c2, rfl⟩ := own_sl ho2; have hA := (KeptB.refl base [105] _).app hk2 (LSD.out.o3.alloc _) (by decide); have q6 := ((LSD.out.fr.alloc _).keptB hA (by decide)).cell 8; have q7 := ((LSD.out.fr.alloc _).keptB hA (by decide)).frozen 8; simp only [List.getElem?_cons_zero, List.getElem?_cons_succ] at q6; have K2 := Lib.hid hk2; have O2 := Lib.hid ho2; clear hk2 ho2 hA))
              all_goals
                go_wp2_with fail
                go_roundw
                case rel =>
                  exact ⟨k + 1, Rc, _, _, by omega, by go_num, Lib.hid (LsAt.app3 LSD.out ((Kept.refl [] _).alloc _) K2.out (x := (x1, y1, z1)) O2.out), Lib.hid (fr_trips HFR.out), Lib.hid (by simp [HLN.out]),
                    Lib.hid (HT.out.trans (HSUB.out.trans (by
                      simp only [Rd.trips, Ex1.out, Ey1.out, Ez1.out, Except.bind])))⟩
                case measure => simp [intOf]; omega
            · have hkm : k = m4 := by omega
              have HSUB := Lib.hid (show Rd.trips m4 R4 [] = .ok (F'.trips, Rk) from HSUB.out.trans (by rw [hkm, Nat.sub_self]; rfl))
              clear hkm hk
              have y0 := LS.out.box.cell 0
              have yb := LS.out.box.lt
              simp only [List.getElem?_cons_zero, List.getElem?_cons_succ] at y0
              have EQ := Lib.hid (EQ.out.trans (show Rd.lists6 F3 m4 R4 = Rd.end7 F' Rk by
                simp only [Rd.lists6, Int.toNat_natCast]
                rw [HSUB.out]
                simp only [Except.bind]
                rw [← HFR.out]))
              clear Z3 HFR HLN HSUB
              by_cases hE : Rk.atEnd = true
              · have HE := Lib.hid hE
                clear hE
                go_wp2_with fail
                go_quiet ((first | (go_at_call 31; exact quiet_draw (end_is p Rk true _ (LS.out.rd.kept0 ((Kept.refl [] _).drewN _)) HE.out)) | (go_at_call 30; exact quiet_eq (at_rd p Rk _ (LS.out.rd.kept0 ((Kept.refl [] _).drewN _)))) | (go_at_call 111; exact quiet_eq (unless_ok _ _ _))))
                go_wp2_with fail
                go_end0
                rw [show r0 = .ok (F', Rk) from EQ.out.trans (by simp only [Rd.end7]; rw [if_pos HE.out])]
                rw [← HBB.out]
                exact ⟨rfl, _, _, _, LS.out.kept0 ((Kept.refl [] _).drewN _)⟩
              · have HE := Lib.hid (show Rk.atEnd = false by simpa using hE)
                clear hE
                go_wp2_with fail
                refine wp_region_held_drew (S := (fun w' => w'.cell? ⟨b, 0, none⟩ = some (.pointer (some ⟨p, 0, none⟩)))) (by kernel_rfl) ?_ (fun hHeld => ?_)
                · exact y0
                refine tkYes (i := 0) (v := ?_) rfl rfl (by kernel_rfl) (by kernel_rfl) (by kernel_rfl) (fun _ _ _ h => h) (by rfl) ?_ (by assumption) ?_
                rotate_left
                · (intro w' hSw; (try dsimp only at hSw); go_simp; try with_reducible rfl)
                try simp only [Act.put, List.setIfInBounds_toArray, List.set_cons_zero, List.set_cons_succ]
                refine tkYes (i := 1) (v := ?_) rfl rfl (by kernel_rfl) (by kernel_rfl) (by kernel_rfl) (fun _ _ _ h => h) (by rfl) ?_ (by assumption) ?_
                rotate_left
                · (intro w' hSw; (try dsimp only at hSw); go_simp; try with_reducible rfl)
                try simp only [Act.put, List.setIfInBounds_toArray, List.set_cons_zero, List.set_cons_succ]
                refine tkYes (i := 3) (v := ?_) rfl rfl (by kernel_rfl) (by kernel_rfl) (by kernel_rfl) (fun _ _ _ h => h) (by rfl) ?_ (by assumption) ?_
                rotate_left
                · (intro w' hSw; (try dsimp only at hSw); go_simp; try with_reducible rfl)
                try simp only [Act.put, List.setIfInBounds_toArray, List.set_cons_zero, List.set_cons_succ]
                refine tkYes (i := 4) (v := ?_) rfl rfl (by kernel_rfl) (by kernel_rfl) (by kernel_rfl) (fun _ _ _ h => h) (by rfl) ?_ (by assumption) ?_
                rotate_left
                · (intro w' hSw; (try dsimp only at hSw); go_simp; try with_reducible rfl)
                try simp only [Act.put, List.setIfInBounds_toArray, List.set_cons_zero, List.set_cons_succ]
                refine wpAnyH_ready (rs := [2]) (by kernel_rfl) (by simp) ?_
                refine AllReadyH.cons rfl (fun K hK => ?_) AllReadyH.nil
                go_simp
                refine (end_is p Rk false _ (LS.out.rd.kept0 ((Kept.refl [] _).drew)) HE.out).mono ?_
                rintro x wn ⟨rfl, k1, rfl⟩
                go_wp2_with fail
                refine hK.out _ _ ?_ (fun hHeld => ?_)
                · exact y0
                clear hK K
                try simp only [Act.put, List.setIfInBounds_toArray, List.set_cons_zero, List.set_cons_succ]
                refine wpAnyH_ready (rs := [5]) (by kernel_rfl) (by simp) ?_
                refine AllReadyH.cons rfl (fun K hK => ?_) AllReadyH.nil
                go_simp
                refine (at_rd p Rk _ (LS.out.rd.kept0 ((Kept.refl [] _).drewN _))).mono ?_
                rintro x wn ⟨rfl, rfl⟩
                go_wp2_with fail
                refine hK.out _ _ ?_ (fun hHeld => ?_)
                · exact y0
                clear hK K
                try simp only [Act.put, List.setIfInBounds_toArray, List.set_cons_zero, List.set_cons_succ]
                refine wpAnyH_ready (rs := [6]) (by kernel_rfl) (by simp) ?_
                refine AllReadyH.cons rfl (fun K hK => ?_) AllReadyH.nil
                go_simp
                refine (unless_bad _ _ _).mono ?_
                rintro x wn ⟨rfl, rfl⟩
                go_wp2_with fail
                refine ⟨rfl, ?_⟩
                rw [show r0 = .error (4, (Rk.pos : Int)) from EQ.out.trans (by simp only [Rd.end7]; rw [if_neg (by simp [HE.out])])]
                exact ⟨rfl, (LS.out.kept0 ((Kept.refl [] _).drewN _)).kept, _, rfl, LS.out.fr.drewN _⟩
end Go.Proofs.Ytdjidnccockmmaa
