/- dcsc.none, dcsc.Of: a matrix by its columns. -/
import Derived.Test.YtibjpjpbmkdddaaD3
namespace Go.Proofs.Ytibjpjpbmkdddaa
set_option linter.unusedSimpArgs false
set_option linter.unusedVariables false
open Go.ChangeShapes Go.WideShapes Go.ChangeAt Go.RowKit
open Go.RowKit (wrap32 wrap64)
set_option maxHeartbeats 8000000

def DcPost (w : World) (n : Nat) (l : List Ed) (e : Ending) (w' : World) : Prop := ∃ v1 v2 v3 v4, e = .returned (.agg #[.int .i64 n, .int .i64 n, v1, v2, v3, v4]) ∧ DcAt w' w.heap.size v1 v2 v3 v4 l ∧ Kept [] w w'
set_option maxRecDepth 100000 in
theorem none_any (w : World) : Calls Try.prog 53 #[] w fun e w' => ∃ g, e = .returned (.agg #[.int .i64 0, .int .i64 0, .slice none 0 0, .slice (some ⟨g, 0, none⟩) 1 1, .slice none 0 0, .slice none 0 0]) ∧ w.heap.size ≤ g ∧ Blk w' g 3 [vI 0] ∧ Kept [] w w' := by
  have HZ := Lib.hid (Blk.new w 49 [.int .i64 0, .int .i64 0, .slice none 0 0, .slice none 0 0, .slice none 0 0, .slice none 0 0])
  have K0 := Lib.hid ((Kept.refl [] w).alloc (.cells #[.int .i64 0, .int .i64 0, .slice none 0 0, .slice none 0 0, .slice none 0 0, .slice none 0 0] 49))
  have HG := Lib.hid (show w.heap.size ≤ w.heap.size from Nat.le_refl _)
  go_enter Try.func53, Try.ntmps53
  go_upto_region 1 with (fail)
  generalize w.alloc (.cells #[.int .i64 0, .int .i64 0, .slice none 0 0, .slice none 0 0, .slice none 0 0, .slice none 0 0] 49) = w2 at *
  generalize hgq : w.heap.size = g at HZ ⊢
  rw [hgq] at HG
  have hsz := K0.out.size
  have HB := Lib.hid (Blk.new w2 3 [vI 0])
  have HZ2 := Lib.hid (HZ.out.alloc (.cells #[vI 0] 3))
  go_wp2_with (first | (refine wpList_storeBlk rfl 49 (.tmp 0) (.tmp 2) rfl g _ [.int .i64 0, .int .i64 0, .slice none 0 0, .slice (some ⟨w2.heap.size, 0, none⟩) 1 1, .slice none 0 0, .slice none 0 0] HZ2.out rfl rfl rfl infoCols (by simp [Value.oneCell']) ?_; intro w8 hb8 hk8))
  have hne : w2.heap.size ≠ g := by have := HZ.out.lt; omega
  have e0 := hb8.cell 0
  have e1 := hb8.cell 1
  have e2 := hb8.cell 2
  have e3 := hb8.cell 3
  have e4 := hb8.cell 4
  have e5 := hb8.cell 5
  simp only [List.getElem?_cons_zero, List.getElem?_cons_succ] at e0 e1 e2 e3 e4 e5
  refine bodyPost_ret (v := .agg #[.int .i64 0, .int .i64 0, .slice none 0 0, .slice (some ⟨w2.heap.size, 0, none⟩) 1 1, .slice none 0 0, .slice none 0 0]) (by simp [results, Try.results53, go_sem, e0, e1, e2, e3, e4, e5]) rfl ?_
  exact ⟨w2.heap.size, rfl, by omega, HB.out.kept hk8 (by simpa using hne), (K0.out.alloc (.cells #[vI 0] 3)).then hk8 (fun q hq => by simp at hq; subst hq; exact .inr (by rw [← hgq]; exact Nat.le_refl _))⟩

/-- Two rows are none of them in the other's block. -/
def NeB (a b : Value) : Prop := ∀ g, a.ownBlock = some g → b.ownBlock = some g → False
theorem NeB.symm {a b : Value} (h : NeB a b) : NeB b a := fun g h1 h2 => h g h2 h1
theorem NeB.nil (b : Value) : NeB (.slice none 0 0) b := fun g h => by simp [Value.ownBlock] at h
theorem NeB.app {v v' X : Value} {sz : Nat} (h : NeB v X) (hba : v'.ownBlock = v.ownBlock ∨ v'.ownBlock = some sz) (hX : ∀ q, X.ownBlock = some q → q < sz) : NeB v' X := fun g h1 h2 => by
  rcases hba with e | e
  · exact h g (e ▸ h1) h2
  · rw [e] at h1
    injection h1 with h1
    have := hX g h2
    omega
theorem own_other {w wa : World} {o : Obj} {v X : Value} {base n : Nat} {e : TypeId} {size : Nat} {xs : List Value} (h : w.ownsRow base e size X n xs) (hne : NeB v X) (hk : Kept v.ownBlock.toList (w.alloc o) wa) : wa.ownsRow base e size X n xs :=
  own_kept (own_kept0 h ((Kept.refl [] w).alloc o)) hk (fun q hq hm => hne q (by simpa using hm) hq)
theorem own_lt1 {w : World} {o : Obj} {X : Value} {base n : Nat} {e : TypeId} {size : Nat} {xs : List Value} (h : w.ownsRow base e size X n xs) : ∀ q, X.ownBlock = some q → q < (w.alloc o).heap.size := fun q hq => by
  have := (h.lt q hq).2
  simp
  omega
theorem own_setI {w : World} {base : Nat} {e : TypeId} {n g cap : Nat} {xs : List Int} (h : w.ownsRow base e 1 (.slice (some ⟨g, 0, none⟩) n cap) n (xs.map vI)) (hn : xs.length = n) (i : Nat) (hi : i < n) (x : Int) :
    (w.setCell ⟨g, i, none⟩ (vI x)).ownsRow base e 1 (.slice (some ⟨g, 0, none⟩) n cap) n ((xs.set i x).map vI) ∧ Kept [g] w (w.setCell ⟨g, i, none⟩ (vI x)) ∧ w.there g i 1 := by
  have h' : w.ownsRow base e 1 (.slice (some ⟨g, 0, none⟩) n cap) n (xs.flatMap (fun y => [vI y])) := by rw [flatMap_one]; exact h
  have h3 := own_setRec (f := fun y : Int => [vI y]) (k := 1) (fun _ => rfl) h' hn i hi x
  rw [Nat.mul_one, flatMap_one] at h3
  exact h3
theorem own_some {w : World} {base : Nat} {e : TypeId} {size n : Nat} {A : Option Addr} {m c : Nat} {xs : List Value} (h : w.ownsRow base e size (.slice A m c) n xs) (hn : 0 < n) : ∃ g, A = some ⟨g, 0, none⟩ ∧ g < w.heap.size ∧ m = n ∧ base ≤ g := by
  rcases h.2 with ⟨_, e0⟩ | ⟨g, cap, cur, e1, hb, hg, _⟩
  · omega
  · injection e1 with e1 e2
    exact ⟨g, e1, (Array.getElem?_eq_some_iff.1 hg).1, e2, hb⟩

set_option maxRecDepth 100000 in
theorem dcof_any (n base : Nat) (l l' : List Ed) (v1 v2 v3 : Value) (w : World) (hok : MtOk n l) (hok' : MtOk n l') (hp : (l.map turnE).Perm l') (hm : MtAt w base v1 v2 v3 n l) :
    Calls Try.prog 14 #[.agg #[.int .i64 n, .int .i64 n, v1, v2, v3]] w (DcPost w n l') := by
  obtain ⟨b1, c1, A2, c2, A3, c3, rfl, rfl, rfl, _, _⟩ := hm.form
  have HX := Lib.hid ((Blk.new w 44 [.int .i64 n, .int .i64 n, .slice (some ⟨b1, 0, none⟩) (n + 1) c1, .slice A2 l.length c2, .slice A3 l.length c3]).alloc (.cells #[.int .i64 0, .int .i64 0, .slice none 0 0, .slice none 0 0, .slice none 0 0, .slice none 0 0] 49))
  have HZ := Lib.hid (Blk.new1F w (.cells #[.int .i64 n, .int .i64 n, .slice (some ⟨b1, 0, none⟩) (n + 1) c1, .slice A2 l.length c2, .slice A3 l.length c3] 44) 49 [.int .i64 0, .int .i64 0, .slice none 0 0, .slice none 0 0, .slice none 0 0, .slice none 0 0])
  have K0 := Lib.hid (((Kept.refl [] w).alloc (.cells #[.int .i64 n, .int .i64 n, .slice (some ⟨b1, 0, none⟩) (n + 1) c1, .slice A2 l.length c2, .slice A3 l.length c3] 44)).alloc (.cells #[.int .i64 0, .int .i64 0, .slice none 0 0, .slice none 0 0, .slice none 0 0, .slice none 0 0] 49))
  have HM := Lib.hid (hm.kept0 K0.out)
  have HOK := Lib.hid hok
  have HOK' := Lib.hid hok'
  have HPM := Lib.hid hp
  have HSR := Lib.hid (risesL_sortR hok'.rises)
  have hll := hok'.len
  have HGZ := Lib.hid (show w.heap.size ≤ w.heap.size + 1 by omega)
  obtain ⟨post, hpost⟩ : ∃ post : Ending → World → Prop, post = DcPost w n l' := ⟨_, rfl⟩
  rw [← hpost]
  have HPOST := Lib.hid hpost
  clear hpost hm hok hok' hp
  go_enter Try.func14, Try.ntmps14
  go_upto_region 1 with (fail)
  generalize ((w.alloc (.cells #[.int .i64 n, .int .i64 n, .slice (some ⟨b1, 0, none⟩) (n + 1) c1, .slice A2 l.length c2, .slice A3 l.length c3] 44)).alloc (.cells #[.int .i64 0, .int .i64 0, .slice none 0 0, .slice none 0 0, .slice none 0 0, .slice none 0 0] 49)) = w1 at *
  generalize w.heap.size + 1 = gz at HZ HGZ ⊢
  generalize hgq : w.heap.size = g1 at HX ⊢
  clear hgq
  go_wp2_with fail
  refine (none_any w1).mono ?_
  rintro _ w2 ⟨gS, rfl, hgS, hbS, hk2⟩
  replace HX := Lib.hid (HX.out.kept hk2 (by simp))
  replace HZ := Lib.hid (HZ.out.kept hk2 (by simp))
  replace HM := Lib.hid (HM.out.kept0 hk2)
  have HS := Lib.hid (show w2.ownsRow w.heap.size 3 1 (.slice (some ⟨gS, 0, none⟩) 1 1) 1 [vI 0] from own_of_blk hbS (Nat.le_trans K0.out.size hgS) rfl (by decide))
  replace K0 := Lib.hid (K0.out.trans hk2)
  clear hk2 hgS hbS
  go_upto_region 2 with (first | (refine wpList_storeBlk rfl 49 (.tmp 3) (.tmp 7) rfl w2.heap.size [.int .i64 0, .int .i64 0, .slice none 0 0, .slice none 0 0, .slice none 0 0, .slice none 0 0] [.int .i64 0, .int .i64 0, .slice none 0 0, .slice (some ⟨gS, 0, none⟩) 1 1, .slice none 0 0, .slice none 0 0] (Blk.new _ _ _) rfl rfl rfl infoCols (by simp [Value.oneCell']) ?_; intro wz hb4 hk4))
  have hk43 := (Kept.refl [] w2).alloc (.cells #[.int .i64 0, .int .i64 0, .slice none 0 0, .slice none 0 0, .slice none 0 0, .slice none 0 0] 49)
  have hk44 : Kept [] w2 wz := hk43.then hk4 (fun q hq => by simp at hq; subst hq; exact .inr (Nat.le_refl _))
  have HG := Lib.hid hb4
  have HG3 := Lib.hid (show w.heap.size ≤ w2.heap.size ∧ gz ≠ w2.heap.size ∧ True from ⟨K0.out.size, by have := HZ.out.lt; omega, trivial⟩)
  replace HZ := Lib.hid (HZ.out.kept hk44 (by simp))
  replace HX := Lib.hid (HX.out.kept hk44 (by simp))
  replace HM := Lib.hid (HM.out.kept0 hk44)
  replace HS := Lib.hid (own_kept0 HS.out hk44)
  replace K0 := Lib.hid (K0.out.trans hk44)
  clear hk43 hk44 hk4 hb4
  generalize w2.heap.size = g3 at HG HG3 ⊢
  go_wp2_with (first | (refine wpList_loadBlk rfl 44 (.tmp 1) rfl g1 [.int .i64 n, .int .i64 n, .slice (some ⟨b1, 0, none⟩) (n + 1) c1, .slice A2 l.length c2, .slice A3 l.length c3] _ HX.out rfl Try.underlying44 rfl infoRows ?_))
  refine (right_true n base l _ _ _ wz HOK.out HM.out).mono ?_
  rintro _ wy ⟨rfl, hk2⟩
  replace HX := Lib.hid (HX.out.kept hk2 (by simp))
  replace HZ := Lib.hid (HZ.out.kept hk2 (by simp))
  replace HG := Lib.hid (HG.out.kept hk2 (by simp))
  replace HM := Lib.hid (HM.out.kept0 hk2)
  replace HS := Lib.hid (own_kept0 HS.out hk2)
  replace K0 := Lib.hid (K0.out.trans hk2)
  clear hk2
  generalize wy = wz at *
  have y0 := HX.out.cell 0
  have y1 := HX.out.cell 1
  simp only [List.getElem?_cons_zero, List.getElem?_cons_succ] at y0 y1
  go_upto_region 4 with (fail)
  refine wp_region_held_drew (S := (fun w' => w'.cell? ⟨g1, 0, none⟩ = some (.int .i64 n) ∧ w'.cell? ⟨g1, 1, none⟩ = some (.int .i64 n))) (by kernel_rfl) ?_ (fun hHeld => ?_)
  · exact ⟨y0, y1⟩
  have kz := (Kept.refl [] wz).drew
  replace HX := Lib.hid (HX.out.kept kz (by simp))
  replace HZ := Lib.hid (HZ.out.kept kz (by simp))
  replace HG := Lib.hid (HG.out.kept kz (by simp))
  replace HM := Lib.hid (HM.out.kept0 kz)
  replace HS := Lib.hid (own_kept0 HS.out kz)
  replace K0 := Lib.hid (K0.out.trans kz)
  clear kz y0 y1
  generalize wz.drew = wz at *
  refine tkYes (i := 0) (v := ?_) rfl rfl (by kernel_rfl) (by kernel_rfl) (by kernel_rfl) (fun _ _ _ h => h) (by rfl) ?_ (by assumption) ?_
  rotate_left
  · (intro w' hSw; (try dsimp only at hSw); go_simp; try with_reducible rfl)
  try simp only [Act.put, List.setIfInBounds_toArray, List.set_cons_zero, List.set_cons_succ]
  refine tkYes (i := 1) (v := ?_) rfl rfl (by kernel_rfl) (by kernel_rfl) (by kernel_rfl) (fun _ _ _ h => h) (by rfl) ?_ (by assumption) ?_
  rotate_left
  · (intro w' hSw; (try dsimp only at hSw); go_simp; try with_reducible rfl)
  try simp only [Act.put, List.setIfInBounds_toArray, List.set_cons_zero, List.set_cons_succ]
  refine tkYes (i := 2) (v := ?_) rfl rfl (by kernel_rfl) (by kernel_rfl) (by kernel_rfl) (fun _ _ _ h => h) (by rfl) ?_ (by assumption) ?_
  rotate_left
  · (intro w' hSw; (try dsimp only at hSw); go_simp; try with_reducible rfl)
  try simp only [Act.put, List.setIfInBounds_toArray, List.set_cons_zero, List.set_cons_succ]
  refine tkYes (i := 3) (v := ?_) rfl rfl (by kernel_rfl) (by kernel_rfl) (by kernel_rfl) (fun _ _ _ h => h) (by rfl) ?_ (by assumption) ?_
  rotate_left
  · (intro w' hSw; (try dsimp only at hSw); go_simp; try with_reducible rfl)
  try simp only [Act.put, List.setIfInBounds_toArray, List.set_cons_zero, List.set_cons_succ]
  refine tkYes (i := 4) (v := ?_) rfl rfl (by kernel_rfl) (by kernel_rfl) (by kernel_rfl) (fun _ _ _ h => h) (by rfl) ?_ (by assumption) ?_
  rotate_left
  · (intro w' hSw; (try dsimp only at hSw); go_simp; try with_reducible rfl)
  try simp only [Act.put, List.setIfInBounds_toArray, List.set_cons_zero, List.set_cons_succ]
  have d0 := HG.out.cell 0
  have q0 := HG.out.frozen 0
  have l3 := HG.out.lt
  simp only [List.getElem?_cons_zero, List.getElem?_cons_succ] at d0
  refine wpAnyH_ready (rs := [5]) (by kernel_rfl) (by simp) ?_
  refine AllReadyH.cons rfl (fun K hK => ?_) AllReadyH.nil
  go_simp
  have f8 := Lib.hid ((KeptB.refl w.heap.size [49] wz).set HG.out HG3.out.1 (by simp) 0 (.int .i64 n))
  replace HG := Lib.hid (HG.out.set 0 (.int .i64 n))
  simp only [List.set_cons_zero, List.set_cons_succ] at HG
  replace HX := Lib.hid (HX.out.keptB f8.out (by decide))
  replace HZ := Lib.hid (HZ.out.kept ((Kept.refl [g3] wz).setCell (p := ⟨g3, 0, none⟩) (.inl (by simp)) (.int .i64 n)) (by simp; exact HG3.out.2.1))
  replace HM := Lib.hid (HM.out.keptB f8.out (by decide) (by decide))
  replace HS := Lib.hid (own_keptB HS.out f8.out (by decide))
  replace K0 := Lib.hid (K0.out.thenB f8.out (Nat.le_refl _))
  clear f8 d0 q0 l3
  generalize wz.setCell ⟨g3, 0, none⟩ (.int .i64 n) = wz at *
  refine hK.out _ _ ?_ (fun hHeld => ?_)
  · exact ⟨HX.out.cell 0, HX.out.cell 1⟩
  clear hK K
  try simp only [Act.put, List.setIfInBounds_toArray, List.set_cons_zero, List.set_cons_succ]
  refine tkYes (i := 6) (v := ?_) rfl rfl (by kernel_rfl) (by kernel_rfl) (by kernel_rfl) (fun _ _ _ h => h) (by rfl) ?_ (by assumption) ?_
  rotate_left
  · (intro w' hSw; (try dsimp only at hSw); go_simp; try with_reducible rfl)
  try simp only [Act.put, List.setIfInBounds_toArray, List.set_cons_zero, List.set_cons_succ]
  have d1 := HG.out.cell 1
  have q1 := HG.out.frozen 1
  have l3 := HG.out.lt
  simp only [List.getElem?_cons_zero, List.getElem?_cons_succ] at d1
  refine wpAnyH_ready (rs := [7]) (by kernel_rfl) (by simp) ?_
  refine AllReadyH.cons rfl (fun K hK => ?_) AllReadyH.nil
  go_simp
  have f8 := Lib.hid ((KeptB.refl w.heap.size [49] wz).set HG.out HG3.out.1 (by simp) 1 (.int .i64 n))
  replace HG := Lib.hid (HG.out.set 1 (.int .i64 n))
  simp only [List.set_cons_zero, List.set_cons_succ] at HG
  replace HX := Lib.hid (HX.out.keptB f8.out (by decide))
  replace HZ := Lib.hid (HZ.out.kept ((Kept.refl [g3] wz).setCell (p := ⟨g3, 1, none⟩) (.inl (by simp)) (.int .i64 n)) (by simp; exact HG3.out.2.1))
  replace HM := Lib.hid (HM.out.keptB f8.out (by decide) (by decide))
  replace HS := Lib.hid (own_keptB HS.out f8.out (by decide))
  replace K0 := Lib.hid (K0.out.thenB f8.out (Nat.le_refl _))
  clear f8 d1 q1 l3
  generalize wz.setCell ⟨g3, 1, none⟩ (.int .i64 n) = wz at *
  refine hK.out _ _ ?_ (fun hHeld => ?_)
  · exact ⟨HX.out.cell 0, HX.out.cell 1⟩
  clear hK K
  try simp only [Act.put, List.setIfInBounds_toArray, List.set_cons_zero, List.set_cons_succ]
  refine wpAnyH_done (by kernel_rfl) ?_ _
  go_wp2_with (first | (refine wpList_loadBlk rfl 44 (.tmp 1) rfl g1 [.int .i64 n, .int .i64 n, .slice (some ⟨b1, 0, none⟩) (n + 1) c1, .slice A2 l.length c2, .slice A3 l.length c3] _ HX.out rfl Try.underlying44 rfl infoRows ?_))
  refine (turn_any n base l l' _ _ _ wz HOK.out HOK'.out HPM.out HM.out).mono ?_
  rintro _ wx ⟨u1, u2, u3, rfl, hm7, hk7⟩
  replace HZ := Lib.hid (HZ.out.kept hk7 (by simp))
  replace HG := Lib.hid (HG.out.kept hk7 (by simp))
  replace HS := Lib.hid (own_kept0 HS.out hk7)
  replace K0 := Lib.hid (K0.out.trans hk7)
  have HMT := Lib.hid hm7
  clear hk7 hm7 HX HM
  go_wp2_with fail
  refine (triples_any n _ l' _ _ _ wx HOK'.out HMT.out).mono ?_
  rintro _ w4 ⟨v6, rfl, ho6, hk4⟩
  obtain ⟨A6, c6, rfl⟩ := own_n ho6
  have HT := Lib.hid (own_le (base' := w.heap.size) ho6 K0.out.size)
  replace HZ := Lib.hid (HZ.out.kept hk4 (by simp))
  replace HG := Lib.hid (HG.out.kept hk4 (by simp))
  replace HS := Lib.hid (own_kept0 HS.out hk4)
  replace K0 := Lib.hid (K0.out.trans hk4)
  clear ho6 hk4 HMT
  go_wp2_with fail
  go_loopw [22] (fun x wr => ∃ (k : Nat) (vA vS vR vV : Value), k ≤ l'.length ∧ x = .int .i64 k ∧ Hid (wr.ownsRow w.heap.size 3 1 vA (atP (l'.take k)).length ((atP (l'.take k)).map vI)) ∧ Hid (wr.ownsRow w.heap.size 3 1 vS ((atP (l'.take k)).length + 1) ((stP (l'.take k)).map vI)) ∧ Hid (wr.ownsRow w.heap.size 3 1 vR k (colV (l'.take k))) ∧ Hid (wr.ownsRow w.heap.size 2 1 vV k (valV (l'.take k))) ∧ Hid (NeB vA vS) ∧ Hid (NeB vA vR) ∧ Hid (NeB vS vR) ∧ Hid (Blk wr g3 49 [.int .i64 n, .int .i64 n, vA, vS, vR, vV]) ∧ Hid (Blk wr gz 49 [.int .i64 0, .int .i64 0, .slice none 0 0, .slice none 0 0, .slice none 0 0, .slice none 0 0]) ∧ Hid (wr.ownsRow w.heap.size 30 3 (.slice A6 l'.length c6) l'.length (l'.flatMap edV)) ∧ Hid (Kept [] w wr)) (fun x _ => l'.length - (intOf x).toNat)
  case atStart => exact ⟨0, .slice none 0 0, .slice (some ⟨gS, 0, none⟩) 1 1, .slice none 0 0, .slice none 0 0, Nat.zero_le _, rfl, Lib.hid (World.ownsRow_nil _ _ _ _), Lib.hid (by simpa [stP, atP] using HS.out), Lib.hid (World.ownsRow_nil _ _ _ _), Lib.hid (World.ownsRow_nil _ _ _ _), Lib.hid (NeB.nil _), Lib.hid (NeB.nil _), Lib.hid (NeB.nil _).symm, HG, HZ, HT, K0⟩
  case round =>
    clear HG HZ HT K0 HS
    obtain ⟨k, vA, vS, vR, vV, hk, rfl, HA, HS, HR, HV, NAS, NAR, NSR, HG, HZ, HT, K0⟩ := hrel
    by_cases hlt : k < l'.length
    · have htk := List.take_succ_eq_append_getElem hlt
      have hak := at_ok_take HSR.out k hk
      have hsk := sortR_take HSR.out (k + 1)
      rw [htk] at hsk
      have HSN := Lib.hid (stP_snoc hak hsk)
      have HAN := Lib.hid (atP_snoc (l'.take k) l'[k])
      have HTK := Lib.hid htk
      clear htk hak hsk
      have hal := atP_len (l'.take k)
      have hpl : (l'.take k).length = k := by simp; omega
      rw [hpl] at hal
      obtain ⟨b, off, hb6, hbl, c0, c1', c2'⟩ := edge_at (Reads.of_own HT.out) hlt
      subst hb6
      obtain ⟨x, hx⟩ : ∃ x, x = l'[k] := ⟨_, rfl⟩
      rw [← hx] at c0 c1' c2' HSN HAN HTK
      clear hx
      obtain ⟨x1, x2, x3⟩ := x
      dsimp only at c0 c1' c2' HSN HAN
      obtain ⟨p, hp⟩ : ∃ p, p = l'.take k := ⟨_, rfl⟩
      rw [← hp] at HSN HAN HTK hal hpl HA HS HR HV
      clear hp
      have HPL := Lib.hid hpl
      clear hpl
      obtain ⟨N, hN⟩ : ∃ N, N = (atP p).length := ⟨_, rfl⟩
      rw [← hN] at HA HS hal
      have HNq := Lib.hid hN
      clear hN
      obtain ⟨AA, cA, rfl⟩ := own_n HA.out
      obtain ⟨AS, cS, rfl⟩ := own_n HS.out
      obtain ⟨AR, cR, rfl⟩ := own_n HR.out
      obtain ⟨AV, cV, rfl⟩ := own_n HV.out
      go_upto_region 8 with (fail)
      have HE := Lib.hid (Blk.new wr 30 [.int .i64 x1, .int .i64 x2, .int .i64 x3])
      have kd := (Kept.refl [] wr).alloc (.cells #[.int .i64 x1, .int .i64 x2, .int .i64 x3] 30)
      replace HA := Lib.hid (own_kept0 HA.out kd)
      replace HS := Lib.hid (own_kept0 HS.out kd)
      replace HR := Lib.hid (own_kept0 HR.out kd)
      replace HV := Lib.hid (own_kept0 HV.out kd)
      replace HT := Lib.hid (own_kept0 HT.out kd)
      replace HG := Lib.hid (HG.out.kept kd (by simp))
      replace HZ := Lib.hid (HZ.out.kept kd (by simp))
      replace K0 := Lib.hid (K0.out.trans kd)
      clear kd c0 c1' c2' hbl
      generalize wr.alloc (.cells #[.int .i64 x1, .int .i64 x2, .int .i64 x3] 30) = w5 at *
      generalize wr.heap.size = ge at HE ⊢
      have d2 := HG.out.cell 2
      have e0 := HE.out.cell 0
      simp only [List.getElem?_cons_zero, List.getElem?_cons_succ] at d2 e0
      rcases Nat.eq_zero_or_pos N with h0 | h0
      · subst h0
        have HLN := Lib.hid (show ¬ (atP p).getLast? = some x1 by rw [List.eq_nil_of_length_eq_zero HNq.out.symm]; simp)
        have HEA := Lib.hid (show atP (p ++ [(x1, x2, x3)]) = atP p ++ [x1] by rw [HAN.out, if_neg HLN.out])
        rw [if_neg HLN.out] at HSN
        go_upto_region 9 with (fail)
        go_quiet (fail)
        have kz := (Kept.refl [] w5).drewN nq
        replace HA := Lib.hid (own_kept0 HA.out kz)
        replace HS := Lib.hid (own_kept0 HS.out kz)
        replace HR := Lib.hid (own_kept0 HR.out kz)
        replace HV := Lib.hid (own_kept0 HV.out kz)
        replace HT := Lib.hid (own_kept0 HT.out kz)
        replace HG := Lib.hid (HG.out.kept kz (by simp))
        replace HZ := Lib.hid (HZ.out.kept kz (by simp))
        replace HE := Lib.hid (HE.out.kept kz (by simp))
        replace K0 := Lib.hid (K0.out.trans kz)
        clear kz d2 e0
        generalize w5.drewN nq = w6 at *
        go_upto_region 10 with (fail)
        have hsz := K0.out.size
        have d2 := HG.out.cell 2
        have l3 := HG.out.lt
        have e0 := HE.out.cell 0
        simp only [List.getElem?_cons_zero, List.getElem?_cons_succ] at d2 e0
        go_upto_region 11 with (first | (at_builtin; refine wpList_app _ rfl (.tmp 43) (.tmp 46) _ rfl 3 (.int .i64 0) 1 8 Try.underlying41 infoInt rfl (by decide) w.heap.size (.slice AA 0 cA) (0) _ rfl (HA.out.alloc _) (some ⟨_, 0, none⟩) 1 1 [vI x1] rfl rfl (Reads.of_blk (Blk.new _ _ _) (fun _ _ h => h)) (by simp [Value.oneCell']) (by omega) (by unfold maxLen; omega) (by simp; omega) ?_; intro va wa howna hka hba; obtain ⟨AA2, cA2, rfl⟩ := own_n howna; have NAS0 := NAS.out; have NAR0 := NAR.out; have NSR0 := NSR.out; have Fa := ((KeptB.refl w.heap.size [3] w6).alloc (.cells #[vI x1] 3)).app hka (HA.out.alloc _) (by decide); replace NAS := Lib.hid (NAS.out.app hba (own_lt1 HS.out)); replace NAR := Lib.hid (NAR.out.app hba (own_lt1 HR.out)); replace HS := Lib.hid (own_other HS.out (NAS0) hka); replace HR := Lib.hid (own_other HR.out (NAR0) hka); replace HV := Lib.hid (own_keptB HV.out Fa (by decide)); clear NAS0 NAR0 NSR0; replace HT := Lib.hid (own_keptB HT.out Fa (by decide)); replace HG := Lib.hid (HG.out.keptB Fa (by decide)); replace HZ := Lib.hid (HZ.out.keptB Fa (by decide)); replace HE := Lib.hid (HE.out.keptB Fa (by decide)); replace K0 := Lib.hid (K0.out.thenB Fa (Nat.le_refl _)); replace HA := Lib.hid howna; clear hka hba howna Fa hsz d2 l3 e0; have f3 := HG.out.frozen 2; have d2 := HG.out.cell 2; have l3 := HG.out.lt; simp only [List.getElem?_cons_zero, List.getElem?_cons_succ] at d2))
        have ko := (KeptB.refl w.heap.size [49] wa).set HG.out HG3.out.1 (by simp) 2 (.slice AA2 (0 + 1) cA2)
        replace HZ := Lib.hid (HZ.out.kept ((Kept.refl [g3] wa).setCell (p := ⟨g3, 2, none⟩) (.inl (by simp)) (.slice AA2 (0 + 1) cA2)) (by simp; exact HG3.out.2.1))
        replace HE := Lib.hid (HE.out.keptB ko (by decide))
        replace HA := Lib.hid (own_keptB HA.out ko (by decide))
        replace HS := Lib.hid (own_keptB HS.out ko (by decide))
        replace HR := Lib.hid (own_keptB HR.out ko (by decide))
        replace HV := Lib.hid (own_keptB HV.out ko (by decide))
        replace HT := Lib.hid (own_keptB HT.out ko (by decide))
        replace HG := Lib.hid (HG.out.set 2 (.slice AA2 (0 + 1) cA2))
        simp only [List.set_cons_zero, List.set_cons_succ] at HG
        replace K0 := Lib.hid (K0.out.thenB ko (Nat.le_refl _))
        clear ko f3 d2 l3
        generalize wa.setCell ⟨g3, 2, none⟩ (.slice AA2 (0 + 1) cA2) = w7 at *
        have hsz := K0.out.size
        have d3 := HG.out.cell 3
        have l3 := HG.out.lt

        simp only [List.getElem?_cons_zero, List.getElem?_cons_succ] at d3 
        go_upto_region 12 with (first | (at_builtin; refine wpList_app _ rfl (.tmp 50) (.tmp 51) _ rfl 3 (.int .i64 0) 1 8 Try.underlying41 infoInt rfl (by decide) w.heap.size (.slice AS (0 + 1) cS) (0 + 1) _ rfl (HS.out.alloc _) (some ⟨_, 0, none⟩) 1 1 [vI 0] rfl rfl (Reads.of_blk (Blk.new _ _ _) (fun _ _ h => h)) (by simp [Value.oneCell']) (by omega) (by unfold maxLen; omega) (by simp; omega) ?_; intro va wa howna hka hba; obtain ⟨AS2, cS2, rfl⟩ := own_n howna; have NAS0 := NAS.out; have NAR0 := NAR.out; have NSR0 := NSR.out; have Fa := ((KeptB.refl w.heap.size [3] w7).alloc (.cells #[vI 0] 3)).app hka (HS.out.alloc _) (by decide); replace NAS := Lib.hid (NAS.out.symm.app hba (own_lt1 HA.out)).symm; replace NSR := Lib.hid (NSR.out.app hba (own_lt1 HR.out)); replace HA := Lib.hid (own_other HA.out (NAS0.symm) hka); replace HR := Lib.hid (own_other HR.out (NSR0) hka); replace HV := Lib.hid (own_keptB HV.out Fa (by decide)); clear NAS0 NAR0 NSR0; replace HT := Lib.hid (own_keptB HT.out Fa (by decide)); replace HG := Lib.hid (HG.out.keptB Fa (by decide)); replace HZ := Lib.hid (HZ.out.keptB Fa (by decide)); replace HE := Lib.hid (HE.out.keptB Fa (by decide)); replace K0 := Lib.hid (K0.out.thenB Fa (Nat.le_refl _)); replace HS := Lib.hid howna; clear hka hba howna Fa hsz d3 l3 ; have f3 := HG.out.frozen 3; have d3 := HG.out.cell 3; have l3 := HG.out.lt; simp only [List.getElem?_cons_zero, List.getElem?_cons_succ] at d3))
        have ko := (KeptB.refl w.heap.size [49] wa).set HG.out HG3.out.1 (by simp) 3 (.slice AS2 (0 + 1 + 1) cS2)
        replace HZ := Lib.hid (HZ.out.kept ((Kept.refl [g3] wa).setCell (p := ⟨g3, 3, none⟩) (.inl (by simp)) (.slice AS2 (0 + 1 + 1) cS2)) (by simp; exact HG3.out.2.1))
        replace HE := Lib.hid (HE.out.keptB ko (by decide))
        replace HA := Lib.hid (own_keptB HA.out ko (by decide))
        replace HS := Lib.hid (own_keptB HS.out ko (by decide))
        replace HR := Lib.hid (own_keptB HR.out ko (by decide))
        replace HV := Lib.hid (own_keptB HV.out ko (by decide))
        replace HT := Lib.hid (own_keptB HT.out ko (by decide))
        replace HG := Lib.hid (HG.out.set 3 (.slice AS2 (0 + 1 + 1) cS2))
        simp only [List.set_cons_zero, List.set_cons_succ] at HG
        replace K0 := Lib.hid (K0.out.thenB ko (Nat.le_refl _))
        clear ko f3 d3 l3
        generalize wa.setCell ⟨g3, 3, none⟩ (.slice AS2 (0 + 1 + 1) cS2) = w6 at *
        have hsz := K0.out.size
        have d4 := HG.out.cell 4
        have l3 := HG.out.lt
        have e1 := HE.out.cell 1
        simp only [List.getElem?_cons_zero, List.getElem?_cons_succ] at d4 e1
        go_upto_region 13 with (first | (at_builtin; refine wpList_app _ rfl (.tmp 55) (.tmp 58) _ rfl 3 (.int .i64 0) 1 8 Try.underlying41 infoInt rfl (by decide) w.heap.size (.slice AR k cR) (k) _ rfl (HR.out.alloc _) (some ⟨_, 0, none⟩) 1 1 [vI x2] rfl rfl (Reads.of_blk (Blk.new _ _ _) (fun _ _ h => h)) (by simp [Value.oneCell']) (by omega) (by unfold maxLen; omega) (by simp; omega) ?_; intro va wa howna hka hba; obtain ⟨AR2, cR2, rfl⟩ := own_n howna; have NAS0 := NAS.out; have NAR0 := NAR.out; have NSR0 := NSR.out; have Fa := ((KeptB.refl w.heap.size [3] w6).alloc (.cells #[vI x2] 3)).app hka (HR.out.alloc _) (by decide); replace NAR := Lib.hid (NAR.out.symm.app hba (own_lt1 HA.out)).symm; replace NSR := Lib.hid (NSR.out.symm.app hba (own_lt1 HS.out)).symm; replace HA := Lib.hid (own_other HA.out (NAR0.symm) hka); replace HS := Lib.hid (own_other HS.out (NSR0.symm) hka); replace HV := Lib.hid (own_keptB HV.out Fa (by decide)); clear NAS0 NAR0 NSR0; replace HT := Lib.hid (own_keptB HT.out Fa (by decide)); replace HG := Lib.hid (HG.out.keptB Fa (by decide)); replace HZ := Lib.hid (HZ.out.keptB Fa (by decide)); replace HE := Lib.hid (HE.out.keptB Fa (by decide)); replace K0 := Lib.hid (K0.out.thenB Fa (Nat.le_refl _)); replace HR := Lib.hid howna; clear hka hba howna Fa hsz d4 l3 e1; have f3 := HG.out.frozen 4; have d4 := HG.out.cell 4; have l3 := HG.out.lt; simp only [List.getElem?_cons_zero, List.getElem?_cons_succ] at d4))
        have ko := (KeptB.refl w.heap.size [49] wa).set HG.out HG3.out.1 (by simp) 4 (.slice AR2 (k + 1) cR2)
        replace HZ := Lib.hid (HZ.out.kept ((Kept.refl [g3] wa).setCell (p := ⟨g3, 4, none⟩) (.inl (by simp)) (.slice AR2 (k + 1) cR2)) (by simp; exact HG3.out.2.1))
        replace HE := Lib.hid (HE.out.keptB ko (by decide))
        replace HA := Lib.hid (own_keptB HA.out ko (by decide))
        replace HS := Lib.hid (own_keptB HS.out ko (by decide))
        replace HR := Lib.hid (own_keptB HR.out ko (by decide))
        replace HV := Lib.hid (own_keptB HV.out ko (by decide))
        replace HT := Lib.hid (own_keptB HT.out ko (by decide))
        replace HG := Lib.hid (HG.out.set 4 (.slice AR2 (k + 1) cR2))
        simp only [List.set_cons_zero, List.set_cons_succ] at HG
        replace K0 := Lib.hid (K0.out.thenB ko (Nat.le_refl _))
        clear ko f3 d4 l3
        generalize wa.setCell ⟨g3, 4, none⟩ (.slice AR2 (k + 1) cR2) = w8 at *
        have hsz := K0.out.size
        have d5 := HG.out.cell 5
        have l3 := HG.out.lt
        have e2 := HE.out.cell 2
        simp only [List.getElem?_cons_zero, List.getElem?_cons_succ] at d5 e2
        go_upto_region 14 with (first | (at_builtin; refine wpList_app _ rfl (.tmp 62) (.tmp 65) _ rfl 2 (.int .i64 0) 1 8 Try.underlying42 infoI64 rfl (by decide) w.heap.size (.slice AV k cV) (k) _ rfl (HV.out.alloc _) (some ⟨_, 0, none⟩) 1 1 [vI x3] rfl rfl (Reads.of_blk (Blk.new _ _ _) (fun _ _ h => h)) (by simp [Value.oneCell']) (by omega) (by unfold maxLen; omega) (by simp; omega) ?_; intro va wa howna hka hba; obtain ⟨AV2, cV2, rfl⟩ := own_n howna; have Fa := ((KeptB.refl w.heap.size [2] w8).alloc (.cells #[vI x3] 2)).app hka (HV.out.alloc _) (by decide); replace HA := Lib.hid (own_keptB HA.out Fa (by decide)); replace HS := Lib.hid (own_keptB HS.out Fa (by decide)); replace HR := Lib.hid (own_keptB HR.out Fa (by decide)); replace HT := Lib.hid (own_keptB HT.out Fa (by decide)); replace HG := Lib.hid (HG.out.keptB Fa (by decide)); replace HZ := Lib.hid (HZ.out.keptB Fa (by decide)); replace HE := Lib.hid (HE.out.keptB Fa (by decide)); replace K0 := Lib.hid (K0.out.thenB Fa (Nat.le_refl _)); replace HV := Lib.hid howna; clear hka hba howna Fa hsz d5 l3 e2; have f3 := HG.out.frozen 5; have d5 := HG.out.cell 5; have l3 := HG.out.lt; simp only [List.getElem?_cons_zero, List.getElem?_cons_succ] at d5))
        have ko := (KeptB.refl w.heap.size [49] wa).set HG.out HG3.out.1 (by simp) 5 (.slice AV2 (k + 1) cV2)
        replace HZ := Lib.hid (HZ.out.kept ((Kept.refl [g3] wa).setCell (p := ⟨g3, 5, none⟩) (.inl (by simp)) (.slice AV2 (k + 1) cV2)) (by simp; exact HG3.out.2.1))
        replace HE := Lib.hid (HE.out.keptB ko (by decide))
        replace HA := Lib.hid (own_keptB HA.out ko (by decide))
        replace HS := Lib.hid (own_keptB HS.out ko (by decide))
        replace HR := Lib.hid (own_keptB HR.out ko (by decide))
        replace HV := Lib.hid (own_keptB HV.out ko (by decide))
        replace HT := Lib.hid (own_keptB HT.out ko (by decide))
        replace HG := Lib.hid (HG.out.set 5 (.slice AV2 (k + 1) cV2))
        simp only [List.set_cons_zero, List.set_cons_succ] at HG
        replace K0 := Lib.hid (K0.out.thenB ko (Nat.le_refl _))
        clear ko f3 d5 l3
        generalize wa.setCell ⟨g3, 5, none⟩ (.slice AV2 (k + 1) cV2) = w9 at *
        obtain ⟨gS, hAS, hgS, _, hbS⟩ := own_some HS.out (by omega)
        subst hAS
        have HSL := Lib.hid (show (stP p ++ [0]).length = 0 + 1 + 1 by simp [stP_length, ← HNq.out])
        have HSM := Lib.hid (show w9.ownsRow w.heap.size 3 1 (.slice (some ⟨gS, 0, none⟩) (0 + 1 + 1) cS2) (0 + 1 + 1) ((stP p ++ [0]).map vI) by have := HS.out; simpa using this)
        have HSI := Lib.hid (own_setI HSM.out HSL.out (0 + 1) (by omega) ((k : Int) + 1))
        obtain ⟨_, _, eq1, _, hcS⟩ := ints_at (Reads.of_own HSM.out) (show 0 + 1 < (stP p ++ [0]).length by rw [HSL.out]; omega)
        injection eq1 with eq1
        injection eq1 with eq1 eq2
        subst eq1 eq2
        obtain ⟨zz, cS0⟩ : ∃ zz, w9.cell? ⟨gS, 0 + (0 + 1), none⟩ = some (.int .i64 zz) := ⟨_, hcS (0 + 1) (by rw [HSL.out]; omega)⟩
        rw [Nat.zero_add] at cS0
        have fS0 := (HSI.out.2.2 0 (by omega)).2
        rw [Nat.add_zero] at fS0
        clear hcS
        have d2 := HG.out.cell 2
        have d3 := HG.out.cell 3
        have d4 := HG.out.cell 4
        have l3 := HG.out.lt
        simp only [List.getElem?_cons_zero, List.getElem?_cons_succ] at d2 d3 d4
        go_upto_region 15 with (fail)
        obtain ⟨hos, hks, _⟩ := HSI.out
        have Fa := (KeptB.refl w.heap.size [3] w9).app (v := .slice (some ⟨gS, 0, none⟩) (0 + 1 + 1) cS2) (show Kept [gS] _ _ from hks) HSM.out (by decide)
        have HA9 := Lib.hid (own_kept HA.out hks (fun q hq hm => NAS.out q hq (by simp at hm; subst hm; rfl)))
        have HR9 := Lib.hid (own_kept HR.out hks (fun q hq hm => NSR.out q (by simp at hm; subst hm; rfl) hq))
        have HV9 := Lib.hid (own_keptB HV.out Fa (by decide))
        have HT9 := Lib.hid (own_keptB HT.out Fa (by decide))
        have HG9 := Lib.hid (HG.out.keptB Fa (by decide))
        have HZ9 := Lib.hid (HZ.out.keptB Fa (by decide))
        have K9 := Lib.hid (K0.out.thenB Fa (Nat.le_refl _))
        have HS9 := Lib.hid hos
        clear HA HR HV HT HG HZ HE K0 HS HSM HSI hos hks Fa d2 d3 d4 l3 cS0 fS0
        generalize w9.setCell ⟨gS, 0 + 1, none⟩ (vI ((k : Int) + 1)) = wq at *
        go_wp2_with fail
        go_roundw
        case rel =>
          refine ⟨k + 1, .slice AA2 (0 + 1) cA2, .slice (some ⟨gS, 0, none⟩) (0 + 1 + 1) cS2, .slice AR2 (k + 1) cR2, .slice AV2 (k + 1) cV2, by omega, by go_num, Lib.hid ?_, Lib.hid ?_, Lib.hid ?_, Lib.hid ?_, NAS, NAR, NSR, HG9, HZ9, HT9, K9⟩
          · rw [HTK.out, HEA.out]
            simpa [← HNq.out] using HA9.out
          · rw [HTK.out, HSN.out, HEA.out, HPL.out]
            simpa [← HNq.out] using HS9.out
          · rw [HTK.out]
            simpa [colV] using HR9.out
          · rw [HTK.out]
            simpa [valV] using HV9.out
        case measure => simp [intOf]; omega
      · obtain ⟨m, rfl⟩ : ∃ m, N = m + 1 := ⟨N - 1, by omega⟩
        have HML := Lib.hid (show m < (atP p).length by have := HNq.out; omega)
        have HLL := Lib.hid (show (atP p).getLast? = some ((atP p)[m]'HML.out) by
          rw [List.getLast?_eq_getElem?, List.getElem?_eq_getElem (by have := HNq.out; omega)]
          congr 2
          have := HNq.out
          omega)
        obtain ⟨gA, hAA, hgA, _, _⟩ := own_some HA.out (by omega)
        subst hAA
        obtain ⟨_, _, eq1, _, hcA⟩ := ints_at (Reads.of_own HA.out) HML.out
        injection eq1 with eq1
        injection eq1 with eq1 eq2
        subst eq1 eq2
        have cA0 := hcA m HML.out
        rw [Nat.zero_add] at cA0
        clear hcA
        obtain ⟨y, hy⟩ : ∃ y, y = (atP p)[m]'HML.out := ⟨_, rfl⟩
        rw [← hy] at cA0 HLL
        clear hy
        have hm0 : ((m : Int) + 1 == 0) = false := by rw [beq_eq_false_iff_ne]; omega
        have hwm : IntKind.i64.wrap (m : Int) = (m : Int) := by rw [IntKind.wrap_i64]; omega
        by_cases hyx : y = x1
        · rw [hyx] at cA0 HLL
          have HLA := HLL
          have HEA := Lib.hid (show atP (p ++ [(x1, x2, x3)]) = atP p by rw [HAN.out, if_pos (by rw [HLA.out])])
          rw [if_pos (by rw [HLA.out])] at HSN
          go_upto_region 9 with (fail)
          go_quiet (fail)
          have kz := (Kept.refl [] w5).drewN nq
          replace HA := Lib.hid (own_kept0 HA.out kz)
          replace HS := Lib.hid (own_kept0 HS.out kz)
          replace HR := Lib.hid (own_kept0 HR.out kz)
          replace HV := Lib.hid (own_kept0 HV.out kz)
          replace HT := Lib.hid (own_kept0 HT.out kz)
          replace HG := Lib.hid (HG.out.kept kz (by simp))
          replace HZ := Lib.hid (HZ.out.kept kz (by simp))
          replace HE := Lib.hid (HE.out.kept kz (by simp))
          replace K0 := Lib.hid (K0.out.trans kz)
          clear kz cA0 h0 hm0 hwm hyx d2 e0
          generalize w5.drewN nq = w6 at *
          go_upto_region 12 with (fail)
          have hsz := K0.out.size
          have d4 := HG.out.cell 4
          have l3 := HG.out.lt
          have e1 := HE.out.cell 1
          simp only [List.getElem?_cons_zero, List.getElem?_cons_succ] at d4 e1
          go_upto_region 13 with (first | (at_builtin; refine wpList_app _ rfl (.tmp 55) (.tmp 58) _ rfl 3 (.int .i64 0) 1 8 Try.underlying41 infoInt rfl (by decide) w.heap.size (.slice AR k cR) (k) _ rfl (HR.out.alloc _) (some ⟨_, 0, none⟩) 1 1 [vI x2] rfl rfl (Reads.of_blk (Blk.new _ _ _) (fun _ _ h => h)) (by simp [Value.oneCell']) (by omega) (by unfold maxLen; omega) (by simp; omega) ?_; intro va wa howna hka hba; obtain ⟨AR2, cR2, rfl⟩ := own_n howna; have NAS0 := NAS.out; have NAR0 := NAR.out; have NSR0 := NSR.out; have Fa := ((KeptB.refl w.heap.size [3] w6).alloc (.cells #[vI x2] 3)).app hka (HR.out.alloc _) (by decide); replace NAR := Lib.hid (NAR.out.symm.app hba (own_lt1 HA.out)).symm; replace NSR := Lib.hid (NSR.out.symm.app hba (own_lt1 HS.out)).symm; replace HA := Lib.hid (own_other HA.out (NAR0.symm) hka); replace HS := Lib.hid (own_other HS.out (NSR0.symm) hka); replace HV := Lib.hid (own_keptB HV.out Fa (by decide)); clear NAS0 NAR0 NSR0; replace HT := Lib.hid (own_keptB HT.out Fa (by decide)); replace HG := Lib.hid (HG.out.keptB Fa (by decide)); replace HZ := Lib.hid (HZ.out.keptB Fa (by decide)); replace HE := Lib.hid (HE.out.keptB Fa (by decide)); replace K0 := Lib.hid (K0.out.thenB Fa (Nat.le_refl _)); replace HR := Lib.hid howna; clear hka hba howna Fa hsz d4 l3 e1; have f3 := HG.out.frozen 4; have d4 := HG.out.cell 4; have l3 := HG.out.lt; simp only [List.getElem?_cons_zero, List.getElem?_cons_succ] at d4))
          have ko := (KeptB.refl w.heap.size [49] wa).set HG.out HG3.out.1 (by simp) 4 (.slice AR2 (k + 1) cR2)
          replace HZ := Lib.hid (HZ.out.kept ((Kept.refl [g3] wa).setCell (p := ⟨g3, 4, none⟩) (.inl (by simp)) (.slice AR2 (k + 1) cR2)) (by simp; exact HG3.out.2.1))
          replace HE := Lib.hid (HE.out.keptB ko (by decide))
          replace HA := Lib.hid (own_keptB HA.out ko (by decide))
          replace HS := Lib.hid (own_keptB HS.out ko (by decide))
          replace HR := Lib.hid (own_keptB HR.out ko (by decide))
          replace HV := Lib.hid (own_keptB HV.out ko (by decide))
          replace HT := Lib.hid (own_keptB HT.out ko (by decide))
          replace HG := Lib.hid (HG.out.set 4 (.slice AR2 (k + 1) cR2))
          simp only [List.set_cons_zero, List.set_cons_succ] at HG
          replace K0 := Lib.hid (K0.out.thenB ko (Nat.le_refl _))
          clear ko f3 d4 l3
          generalize wa.setCell ⟨g3, 4, none⟩ (.slice AR2 (k + 1) cR2) = w8 at *
          have hsz := K0.out.size
          have d5 := HG.out.cell 5
          have l3 := HG.out.lt
          have e2 := HE.out.cell 2
          simp only [List.getElem?_cons_zero, List.getElem?_cons_succ] at d5 e2
          go_upto_region 14 with (first | (at_builtin; refine wpList_app _ rfl (.tmp 62) (.tmp 65) _ rfl 2 (.int .i64 0) 1 8 Try.underlying42 infoI64 rfl (by decide) w.heap.size (.slice AV k cV) (k) _ rfl (HV.out.alloc _) (some ⟨_, 0, none⟩) 1 1 [vI x3] rfl rfl (Reads.of_blk (Blk.new _ _ _) (fun _ _ h => h)) (by simp [Value.oneCell']) (by omega) (by unfold maxLen; omega) (by simp; omega) ?_; intro va wa howna hka hba; obtain ⟨AV2, cV2, rfl⟩ := own_n howna; have Fa := ((KeptB.refl w.heap.size [2] w8).alloc (.cells #[vI x3] 2)).app hka (HV.out.alloc _) (by decide); replace HA := Lib.hid (own_keptB HA.out Fa (by decide)); replace HS := Lib.hid (own_keptB HS.out Fa (by decide)); replace HR := Lib.hid (own_keptB HR.out Fa (by decide)); replace HT := Lib.hid (own_keptB HT.out Fa (by decide)); replace HG := Lib.hid (HG.out.keptB Fa (by decide)); replace HZ := Lib.hid (HZ.out.keptB Fa (by decide)); replace HE := Lib.hid (HE.out.keptB Fa (by decide)); replace K0 := Lib.hid (K0.out.thenB Fa (Nat.le_refl _)); replace HV := Lib.hid howna; clear hka hba howna Fa hsz d5 l3 e2; have f3 := HG.out.frozen 5; have d5 := HG.out.cell 5; have l3 := HG.out.lt; simp only [List.getElem?_cons_zero, List.getElem?_cons_succ] at d5))
          have ko := (KeptB.refl w.heap.size [49] wa).set HG.out HG3.out.1 (by simp) 5 (.slice AV2 (k + 1) cV2)
          replace HZ := Lib.hid (HZ.out.kept ((Kept.refl [g3] wa).setCell (p := ⟨g3, 5, none⟩) (.inl (by simp)) (.slice AV2 (k + 1) cV2)) (by simp; exact HG3.out.2.1))
          replace HE := Lib.hid (HE.out.keptB ko (by decide))
          replace HA := Lib.hid (own_keptB HA.out ko (by decide))
          replace HS := Lib.hid (own_keptB HS.out ko (by decide))
          replace HR := Lib.hid (own_keptB HR.out ko (by decide))
          replace HV := Lib.hid (own_keptB HV.out ko (by decide))
          replace HT := Lib.hid (own_keptB HT.out ko (by decide))
          replace HG := Lib.hid (HG.out.set 5 (.slice AV2 (k + 1) cV2))
          simp only [List.set_cons_zero, List.set_cons_succ] at HG
          replace K0 := Lib.hid (K0.out.thenB ko (Nat.le_refl _))
          clear ko f3 d5 l3
          generalize wa.setCell ⟨g3, 5, none⟩ (.slice AV2 (k + 1) cV2) = w9 at *
          obtain ⟨gS, hAS, hgS, _, hbS⟩ := own_some HS.out (by omega)
          subst hAS
          have HSL := Lib.hid (show (stP p).length = (m + 1) + 1 by simp [stP_length, ← HNq.out])
          have HSM := Lib.hid (show w9.ownsRow w.heap.size 3 1 (.slice (some ⟨gS, 0, none⟩) ((m + 1) + 1) cS) ((m + 1) + 1) ((stP p).map vI) by have := HS.out; simpa using this)
          have HSI := Lib.hid (own_setI HSM.out HSL.out ((m + 1)) (by omega) ((k : Int) + 1))
          obtain ⟨_, _, eq1, _, hcS⟩ := ints_at (Reads.of_own HSM.out) (show (m + 1) < (stP p).length by rw [HSL.out]; omega)
          injection eq1 with eq1
          injection eq1 with eq1 eq2
          subst eq1 eq2
          obtain ⟨zz, cS0⟩ : ∃ zz, w9.cell? ⟨gS, 0 + ((m + 1)), none⟩ = some (.int .i64 zz) := ⟨_, hcS ((m + 1)) (by rw [HSL.out]; omega)⟩
          rw [Nat.zero_add] at cS0
          have fS0 := (HSI.out.2.2 0 (by omega)).2
          rw [Nat.add_zero] at fS0
          clear hcS
          have d2 := HG.out.cell 2
          have d3 := HG.out.cell 3
          have d4 := HG.out.cell 4
          have l3 := HG.out.lt
          simp only [List.getElem?_cons_zero, List.getElem?_cons_succ] at d2 d3 d4
          go_upto_region 15 with (fail)
          obtain ⟨hos, hks, _⟩ := HSI.out
          have Fa := (KeptB.refl w.heap.size [3] w9).app (v := .slice (some ⟨gS, 0, none⟩) ((m + 1) + 1) cS) (show Kept [gS] _ _ from hks) HSM.out (by decide)
          have HA9 := Lib.hid (own_kept HA.out hks (fun q hq hm => NAS.out q hq (by simp at hm; subst hm; rfl)))
          have HR9 := Lib.hid (own_kept HR.out hks (fun q hq hm => NSR.out q (by simp at hm; subst hm; rfl) hq))
          have HV9 := Lib.hid (own_keptB HV.out Fa (by decide))
          have HT9 := Lib.hid (own_keptB HT.out Fa (by decide))
          have HG9 := Lib.hid (HG.out.keptB Fa (by decide))
          have HZ9 := Lib.hid (HZ.out.keptB Fa (by decide))
          have K9 := Lib.hid (K0.out.thenB Fa (Nat.le_refl _))
          have HS9 := Lib.hid hos
          clear HA HR HV HT HG HZ HE K0 HS HSM HSI hos hks Fa d2 d3 d4 l3 cS0 fS0
          generalize w9.setCell ⟨gS, (m + 1), none⟩ (vI ((k : Int) + 1)) = wq at *
          go_wp2_with fail
          go_roundw
          case rel =>
            refine ⟨k + 1, .slice (some ⟨gA, 0, none⟩) (m + 1) cA, .slice (some ⟨gS, 0, none⟩) ((m + 1) + 1) cS, .slice AR2 (k + 1) cR2, .slice AV2 (k + 1) cV2, by omega, by go_num, Lib.hid ?_, Lib.hid ?_, Lib.hid ?_, Lib.hid ?_, NAS, NAR, NSR, HG9, HZ9, HT9, K9⟩
            · rw [HTK.out, HEA.out]
              simpa [← HNq.out] using HA9.out
            · rw [HTK.out, HSN.out, HEA.out, HPL.out]
              simpa [← HNq.out] using HS9.out
            · rw [HTK.out]
              simpa [colV] using HR9.out
            · rw [HTK.out]
              simpa [valV] using HV9.out
          case measure => simp [intOf]; omega
        · have HLN := Lib.hid (show ¬ (atP p).getLast? = some x1 by rw [HLL.out]; simpa using hyx)
          have HEA := Lib.hid (show atP (p ++ [(x1, x2, x3)]) = atP p ++ [x1] by rw [HAN.out, if_neg HLN.out])
          rw [if_neg HLN.out] at HSN
          go_upto_region 9 with (fail)
          go_quiet (fail)
          have kz := (Kept.refl [] w5).drewN nq
          replace HA := Lib.hid (own_kept0 HA.out kz)
          replace HS := Lib.hid (own_kept0 HS.out kz)
          replace HR := Lib.hid (own_kept0 HR.out kz)
          replace HV := Lib.hid (own_kept0 HV.out kz)
          replace HT := Lib.hid (own_kept0 HT.out kz)
          replace HG := Lib.hid (HG.out.kept kz (by simp))
          replace HZ := Lib.hid (HZ.out.kept kz (by simp))
          replace HE := Lib.hid (HE.out.kept kz (by simp))
          replace K0 := Lib.hid (K0.out.trans kz)
          clear kz cA0 h0 hm0 hwm d2 e0
          generalize w5.drewN nq = w6 at *
          go_upto_region 10 with (fail)
          have hsz := K0.out.size
          have d2 := HG.out.cell 2
          have l3 := HG.out.lt
          have e0 := HE.out.cell 0
          simp only [List.getElem?_cons_zero, List.getElem?_cons_succ] at d2 e0
          go_upto_region 11 with (first | (at_builtin; refine wpList_app _ rfl (.tmp 43) (.tmp 46) _ rfl 3 (.int .i64 0) 1 8 Try.underlying41 infoInt rfl (by decide) w.heap.size (.slice (some ⟨gA, 0, none⟩) (m + 1) cA) ((m + 1)) _ rfl (HA.out.alloc _) (some ⟨_, 0, none⟩) 1 1 [vI x1] rfl rfl (Reads.of_blk (Blk.new _ _ _) (fun _ _ h => h)) (by simp [Value.oneCell']) (by omega) (by unfold maxLen; omega) (by simp; omega) ?_; intro va wa howna hka hba; obtain ⟨AA2, cA2, rfl⟩ := own_n howna; have NAS0 := NAS.out; have NAR0 := NAR.out; have NSR0 := NSR.out; have Fa := ((KeptB.refl w.heap.size [3] w6).alloc (.cells #[vI x1] 3)).app hka (HA.out.alloc _) (by decide); replace NAS := Lib.hid (NAS.out.app hba (own_lt1 HS.out)); replace NAR := Lib.hid (NAR.out.app hba (own_lt1 HR.out)); replace HS := Lib.hid (own_other HS.out (NAS0) hka); replace HR := Lib.hid (own_other HR.out (NAR0) hka); replace HV := Lib.hid (own_keptB HV.out Fa (by decide)); clear NAS0 NAR0 NSR0; replace HT := Lib.hid (own_keptB HT.out Fa (by decide)); replace HG := Lib.hid (HG.out.keptB Fa (by decide)); replace HZ := Lib.hid (HZ.out.keptB Fa (by decide)); replace HE := Lib.hid (HE.out.keptB Fa (by decide)); replace K0 := Lib.hid (K0.out.thenB Fa (Nat.le_refl _)); replace HA := Lib.hid howna; clear hka hba howna Fa hsz d2 l3 e0; have f3 := HG.out.frozen 2; have d2 := HG.out.cell 2; have l3 := HG.out.lt; simp only [List.getElem?_cons_zero, List.getElem?_cons_succ] at d2))
          have ko := (KeptB.refl w.heap.size [49] wa).set HG.out HG3.out.1 (by simp) 2 (.slice AA2 ((m + 1) + 1) cA2)
          replace HZ := Lib.hid (HZ.out.kept ((Kept.refl [g3] wa).setCell (p := ⟨g3, 2, none⟩) (.inl (by simp)) (.slice AA2 ((m + 1) + 1) cA2)) (by simp; exact HG3.out.2.1))
          replace HE := Lib.hid (HE.out.keptB ko (by decide))
          replace HA := Lib.hid (own_keptB HA.out ko (by decide))
          replace HS := Lib.hid (own_keptB HS.out ko (by decide))
          replace HR := Lib.hid (own_keptB HR.out ko (by decide))
          replace HV := Lib.hid (own_keptB HV.out ko (by decide))
          replace HT := Lib.hid (own_keptB HT.out ko (by decide))
          replace HG := Lib.hid (HG.out.set 2 (.slice AA2 ((m + 1) + 1) cA2))
          simp only [List.set_cons_zero, List.set_cons_succ] at HG
          replace K0 := Lib.hid (K0.out.thenB ko (Nat.le_refl _))
          clear ko f3 d2 l3
          generalize wa.setCell ⟨g3, 2, none⟩ (.slice AA2 ((m + 1) + 1) cA2) = w7 at *
          have hsz := K0.out.size
          have d3 := HG.out.cell 3
          have l3 := HG.out.lt

          simp only [List.getElem?_cons_zero, List.getElem?_cons_succ] at d3 
          go_upto_region 12 with (first | (at_builtin; refine wpList_app _ rfl (.tmp 50) (.tmp 51) _ rfl 3 (.int .i64 0) 1 8 Try.underlying41 infoInt rfl (by decide) w.heap.size (.slice AS ((m + 1) + 1) cS) ((m + 1) + 1) _ rfl (HS.out.alloc _) (some ⟨_, 0, none⟩) 1 1 [vI 0] rfl rfl (Reads.of_blk (Blk.new _ _ _) (fun _ _ h => h)) (by simp [Value.oneCell']) (by omega) (by unfold maxLen; omega) (by simp; omega) ?_; intro va wa howna hka hba; obtain ⟨AS2, cS2, rfl⟩ := own_n howna; have NAS0 := NAS.out; have NAR0 := NAR.out; have NSR0 := NSR.out; have Fa := ((KeptB.refl w.heap.size [3] w7).alloc (.cells #[vI 0] 3)).app hka (HS.out.alloc _) (by decide); replace NAS := Lib.hid (NAS.out.symm.app hba (own_lt1 HA.out)).symm; replace NSR := Lib.hid (NSR.out.app hba (own_lt1 HR.out)); replace HA := Lib.hid (own_other HA.out (NAS0.symm) hka); replace HR := Lib.hid (own_other HR.out (NSR0) hka); replace HV := Lib.hid (own_keptB HV.out Fa (by decide)); clear NAS0 NAR0 NSR0; replace HT := Lib.hid (own_keptB HT.out Fa (by decide)); replace HG := Lib.hid (HG.out.keptB Fa (by decide)); replace HZ := Lib.hid (HZ.out.keptB Fa (by decide)); replace HE := Lib.hid (HE.out.keptB Fa (by decide)); replace K0 := Lib.hid (K0.out.thenB Fa (Nat.le_refl _)); replace HS := Lib.hid howna; clear hka hba howna Fa hsz d3 l3 ; have f3 := HG.out.frozen 3; have d3 := HG.out.cell 3; have l3 := HG.out.lt; simp only [List.getElem?_cons_zero, List.getElem?_cons_succ] at d3))
          have ko := (KeptB.refl w.heap.size [49] wa).set HG.out HG3.out.1 (by simp) 3 (.slice AS2 ((m + 1) + 1 + 1) cS2)
          replace HZ := Lib.hid (HZ.out.kept ((Kept.refl [g3] wa).setCell (p := ⟨g3, 3, none⟩) (.inl (by simp)) (.slice AS2 ((m + 1) + 1 + 1) cS2)) (by simp; exact HG3.out.2.1))
          replace HE := Lib.hid (HE.out.keptB ko (by decide))
          replace HA := Lib.hid (own_keptB HA.out ko (by decide))
          replace HS := Lib.hid (own_keptB HS.out ko (by decide))
          replace HR := Lib.hid (own_keptB HR.out ko (by decide))
          replace HV := Lib.hid (own_keptB HV.out ko (by decide))
          replace HT := Lib.hid (own_keptB HT.out ko (by decide))
          replace HG := Lib.hid (HG.out.set 3 (.slice AS2 ((m + 1) + 1 + 1) cS2))
          simp only [List.set_cons_zero, List.set_cons_succ] at HG
          replace K0 := Lib.hid (K0.out.thenB ko (Nat.le_refl _))
          clear ko f3 d3 l3
          generalize wa.setCell ⟨g3, 3, none⟩ (.slice AS2 ((m + 1) + 1 + 1) cS2) = w6 at *
          have hsz := K0.out.size
          have d4 := HG.out.cell 4
          have l3 := HG.out.lt
          have e1 := HE.out.cell 1
          simp only [List.getElem?_cons_zero, List.getElem?_cons_succ] at d4 e1
          go_upto_region 13 with (first | (at_builtin; refine wpList_app _ rfl (.tmp 55) (.tmp 58) _ rfl 3 (.int .i64 0) 1 8 Try.underlying41 infoInt rfl (by decide) w.heap.size (.slice AR k cR) (k) _ rfl (HR.out.alloc _) (some ⟨_, 0, none⟩) 1 1 [vI x2] rfl rfl (Reads.of_blk (Blk.new _ _ _) (fun _ _ h => h)) (by simp [Value.oneCell']) (by omega) (by unfold maxLen; omega) (by simp; omega) ?_; intro va wa howna hka hba; obtain ⟨AR2, cR2, rfl⟩ := own_n howna; have NAS0 := NAS.out; have NAR0 := NAR.out; have NSR0 := NSR.out; have Fa := ((KeptB.refl w.heap.size [3] w6).alloc (.cells #[vI x2] 3)).app hka (HR.out.alloc _) (by decide); replace NAR := Lib.hid (NAR.out.symm.app hba (own_lt1 HA.out)).symm; replace NSR := Lib.hid (NSR.out.symm.app hba (own_lt1 HS.out)).symm; replace HA := Lib.hid (own_other HA.out (NAR0.symm) hka); replace HS := Lib.hid (own_other HS.out (NSR0.symm) hka); replace HV := Lib.hid (own_keptB HV.out Fa (by decide)); clear NAS0 NAR0 NSR0; replace HT := Lib.hid (own_keptB HT.out Fa (by decide)); replace HG := Lib.hid (HG.out.keptB Fa (by decide)); replace HZ := Lib.hid (HZ.out.keptB Fa (by decide)); replace HE := Lib.hid (HE.out.keptB Fa (by decide)); replace K0 := Lib.hid (K0.out.thenB Fa (Nat.le_refl _)); replace HR := Lib.hid howna; clear hka hba howna Fa hsz d4 l3 e1; have f3 := HG.out.frozen 4; have d4 := HG.out.cell 4; have l3 := HG.out.lt; simp only [List.getElem?_cons_zero, List.getElem?_cons_succ] at d4))
          have ko := (KeptB.refl w.heap.size [49] wa).set HG.out HG3.out.1 (by simp) 4 (.slice AR2 (k + 1) cR2)
          replace HZ := Lib.hid (HZ.out.kept ((Kept.refl [g3] wa).setCell (p := ⟨g3, 4, none⟩) (.inl (by simp)) (.slice AR2 (k + 1) cR2)) (by simp; exact HG3.out.2.1))
          replace HE := Lib.hid (HE.out.keptB ko (by decide))
          replace HA := Lib.hid (own_keptB HA.out ko (by decide))
          replace HS := Lib.hid (own_keptB HS.out ko (by decide))
          replace HR := Lib.hid (own_keptB HR.out ko (by decide))
          replace HV := Lib.hid (own_keptB HV.out ko (by decide))
          replace HT := Lib.hid (own_keptB HT.out ko (by decide))
          replace HG := Lib.hid (HG.out.set 4 (.slice AR2 (k + 1) cR2))
          simp only [List.set_cons_zero, List.set_cons_succ] at HG
          replace K0 := Lib.hid (K0.out.thenB ko (Nat.le_refl _))
          clear ko f3 d4 l3
          generalize wa.setCell ⟨g3, 4, none⟩ (.slice AR2 (k + 1) cR2) = w8 at *
          have hsz := K0.out.size
          have d5 := HG.out.cell 5
          have l3 := HG.out.lt
          have e2 := HE.out.cell 2
          simp only [List.getElem?_cons_zero, List.getElem?_cons_succ] at d5 e2
          go_upto_region 14 with (first | (at_builtin; refine wpList_app _ rfl (.tmp 62) (.tmp 65) _ rfl 2 (.int .i64 0) 1 8 Try.underlying42 infoI64 rfl (by decide) w.heap.size (.slice AV k cV) (k) _ rfl (HV.out.alloc _) (some ⟨_, 0, none⟩) 1 1 [vI x3] rfl rfl (Reads.of_blk (Blk.new _ _ _) (fun _ _ h => h)) (by simp [Value.oneCell']) (by omega) (by unfold maxLen; omega) (by simp; omega) ?_; intro va wa howna hka hba; obtain ⟨AV2, cV2, rfl⟩ := own_n howna; have Fa := ((KeptB.refl w.heap.size [2] w8).alloc (.cells #[vI x3] 2)).app hka (HV.out.alloc _) (by decide); replace HA := Lib.hid (own_keptB HA.out Fa (by decide)); replace HS := Lib.hid (own_keptB HS.out Fa (by decide)); replace HR := Lib.hid (own_keptB HR.out Fa (by decide)); replace HT := Lib.hid (own_keptB HT.out Fa (by decide)); replace HG := Lib.hid (HG.out.keptB Fa (by decide)); replace HZ := Lib.hid (HZ.out.keptB Fa (by decide)); replace HE := Lib.hid (HE.out.keptB Fa (by decide)); replace K0 := Lib.hid (K0.out.thenB Fa (Nat.le_refl _)); replace HV := Lib.hid howna; clear hka hba howna Fa hsz d5 l3 e2; have f3 := HG.out.frozen 5; have d5 := HG.out.cell 5; have l3 := HG.out.lt; simp only [List.getElem?_cons_zero, List.getElem?_cons_succ] at d5))
          have ko := (KeptB.refl w.heap.size [49] wa).set HG.out HG3.out.1 (by simp) 5 (.slice AV2 (k + 1) cV2)
          replace HZ := Lib.hid (HZ.out.kept ((Kept.refl [g3] wa).setCell (p := ⟨g3, 5, none⟩) (.inl (by simp)) (.slice AV2 (k + 1) cV2)) (by simp; exact HG3.out.2.1))
          replace HE := Lib.hid (HE.out.keptB ko (by decide))
          replace HA := Lib.hid (own_keptB HA.out ko (by decide))
          replace HS := Lib.hid (own_keptB HS.out ko (by decide))
          replace HR := Lib.hid (own_keptB HR.out ko (by decide))
          replace HV := Lib.hid (own_keptB HV.out ko (by decide))
          replace HT := Lib.hid (own_keptB HT.out ko (by decide))
          replace HG := Lib.hid (HG.out.set 5 (.slice AV2 (k + 1) cV2))
          simp only [List.set_cons_zero, List.set_cons_succ] at HG
          replace K0 := Lib.hid (K0.out.thenB ko (Nat.le_refl _))
          clear ko f3 d5 l3
          generalize wa.setCell ⟨g3, 5, none⟩ (.slice AV2 (k + 1) cV2) = w9 at *
          obtain ⟨gS, hAS, hgS, _, hbS⟩ := own_some HS.out (by omega)
          subst hAS
          have HSL := Lib.hid (show (stP p ++ [0]).length = (m + 1) + 1 + 1 by simp [stP_length, ← HNq.out])
          have HSM := Lib.hid (show w9.ownsRow w.heap.size 3 1 (.slice (some ⟨gS, 0, none⟩) ((m + 1) + 1 + 1) cS2) ((m + 1) + 1 + 1) ((stP p ++ [0]).map vI) by have := HS.out; simpa using this)
          have HSI := Lib.hid (own_setI HSM.out HSL.out ((m + 1) + 1) (by omega) ((k : Int) + 1))
          obtain ⟨_, _, eq1, _, hcS⟩ := ints_at (Reads.of_own HSM.out) (show (m + 1) + 1 < (stP p ++ [0]).length by rw [HSL.out]; omega)
          injection eq1 with eq1
          injection eq1 with eq1 eq2
          subst eq1 eq2
          obtain ⟨zz, cS0⟩ : ∃ zz, w9.cell? ⟨gS, 0 + ((m + 1) + 1), none⟩ = some (.int .i64 zz) := ⟨_, hcS ((m + 1) + 1) (by rw [HSL.out]; omega)⟩
          rw [Nat.zero_add] at cS0
          have fS0 := (HSI.out.2.2 0 (by omega)).2
          rw [Nat.add_zero] at fS0
          clear hcS
          have d2 := HG.out.cell 2
          have d3 := HG.out.cell 3
          have d4 := HG.out.cell 4
          have l3 := HG.out.lt
          simp only [List.getElem?_cons_zero, List.getElem?_cons_succ] at d2 d3 d4
          go_upto_region 15 with (fail)
          obtain ⟨hos, hks, _⟩ := HSI.out
          have Fa := (KeptB.refl w.heap.size [3] w9).app (v := .slice (some ⟨gS, 0, none⟩) ((m + 1) + 1 + 1) cS2) (show Kept [gS] _ _ from hks) HSM.out (by decide)
          have HA9 := Lib.hid (own_kept HA.out hks (fun q hq hm => NAS.out q hq (by simp at hm; subst hm; rfl)))
          have HR9 := Lib.hid (own_kept HR.out hks (fun q hq hm => NSR.out q (by simp at hm; subst hm; rfl) hq))
          have HV9 := Lib.hid (own_keptB HV.out Fa (by decide))
          have HT9 := Lib.hid (own_keptB HT.out Fa (by decide))
          have HG9 := Lib.hid (HG.out.keptB Fa (by decide))
          have HZ9 := Lib.hid (HZ.out.keptB Fa (by decide))
          have K9 := Lib.hid (K0.out.thenB Fa (Nat.le_refl _))
          have HS9 := Lib.hid hos
          clear HA HR HV HT HG HZ HE K0 HS HSM HSI hos hks Fa d2 d3 d4 l3 cS0 fS0
          generalize w9.setCell ⟨gS, (m + 1) + 1, none⟩ (vI ((k : Int) + 1)) = wq at *
          go_wp2_with fail
          go_roundw
          case rel =>
            refine ⟨k + 1, .slice AA2 ((m + 1) + 1) cA2, .slice (some ⟨gS, 0, none⟩) ((m + 1) + 1 + 1) cS2, .slice AR2 (k + 1) cR2, .slice AV2 (k + 1) cV2, by omega, by go_num, Lib.hid ?_, Lib.hid ?_, Lib.hid ?_, Lib.hid ?_, NAS, NAR, NSR, HG9, HZ9, HT9, K9⟩
            · rw [HTK.out, HEA.out]
              simpa [← HNq.out] using HA9.out
            · rw [HTK.out, HSN.out, HEA.out, HPL.out]
              simpa [← HNq.out] using HS9.out
            · rw [HTK.out]
              simpa [colV] using HR9.out
            · rw [HTK.out]
              simpa [valV] using HV9.out
          case measure => simp [intOf]; omega
    · obtain rfl : k = l'.length := by omega
      rw [List.take_length] at HA HS HR HV
      obtain ⟨AA, cA, rfl⟩ := own_n HA.out
      obtain ⟨AS, cS, rfl⟩ := own_n HS.out
      obtain ⟨AR, cR, rfl⟩ := own_n HR.out
      obtain ⟨AV, cV, rfl⟩ := own_n HV.out
      have HD := Lib.hid (show DcAt wr w.heap.size _ _ _ _ l' from ⟨HA.out, HS.out, HR.out, HV.out⟩)
      clear HA HS HR HV HT NAS NAR NSR
      go_wp2_with (first | (refine wpList_loadBlk rfl 49 (.tmp 3) rfl g3 [.int .i64 n, .int .i64 n, .slice AA (atP l').length cA, .slice AS ((atP l').length + 1) cS, .slice AR l'.length cR, .slice AV l'.length cV] _ HG.out rfl Try.underlying49 rfl infoCols ?_) | (refine wpList_storeBlk rfl 49 (.tmp 2) (.tmp 78) rfl gz _ [.int .i64 n, .int .i64 n, .slice AA (atP l').length cA, .slice AS ((atP l').length + 1) cS, .slice AR l'.length cR, .slice AV l'.length cV] HZ.out rfl rfl rfl infoCols (by simp [Value.oneCell']) ?_; intro w8 hb8 hk8))
      have e0 := hb8.cell 0
      have e1 := hb8.cell 1
      have e2 := hb8.cell 2
      have e3 := hb8.cell 3
      have e4 := hb8.cell 4
      have e5 := hb8.cell 5
      simp only [List.getElem?_cons_zero, List.getElem?_cons_succ] at e0 e1 e2 e3 e4 e5
      refine bodyPost_ret (v := .agg #[.int .i64 n, .int .i64 n, .slice AA (atP l').length cA, .slice AS ((atP l').length + 1) cS, .slice AR l'.length cR, .slice AV l'.length cV]) (by simp [results, Try.results14, go_sem, e0, e1, e2, e3, e4, e5]) rfl ?_
      rw [HPOST.out]
      have f8 : KeptB w.heap.size [49] wr w8 := (KeptB.refl _ _ wr).step (L := [gz]) hk8 (fun u hu => by simp at hu; subst hu; exact ⟨HGZ.out, _, _, _, HZ.out, by simp⟩)
      exact ⟨_, _, _, _, rfl, HD.out.keptB f8 (by decide) (by decide), K0.out.thenB f8 (Nat.le_refl _)⟩
end Go.Proofs.Ytibjpjpbmkdddaa
