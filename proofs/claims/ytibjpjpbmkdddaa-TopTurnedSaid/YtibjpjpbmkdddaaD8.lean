/- 'TopTurned' returns true for every graph. Conditions: none. -/
import Derived.Test.YtibjpjpbmkdddaaD7
import Derived.Test.YtibjpjpbmkdddaaC2
import Derived.Test.YtibjpjpbmkdddaaTg
import Derived.Test.YtibjpjpbmkdddaaLz
namespace Go.Proofs.Ytibjpjpbmkdddaa
set_option linter.unusedSimpArgs false
set_option linter.unusedVariables false
open Go.ChangeShapes Go.WideShapes Go.ChangeAt Go.RowKit
open Go.RowKit (wrap32 wrap64)
set_option maxHeartbeats 8000000

theorem right_ofT {n : Int} {l : List Ed} (h1 : 0 ≤ n ∧ n ≤ 4096) (h2 : l.length ≤ 65536) (h3 : ∀ e ∈ l, (0 ≤ e.1 ∧ e.1 < n) ∧ (0 ≤ e.2.1 ∧ e.2.1 < n) ∧ (0 ≤ e.2.2 ∧ e.2.2 ≤ 2147483647)) : rightP n l = 0 := by
  have a1 : l.any (outE n) = false := by rw [List.any_eq_false]; intro e he; have := h3 e he; simp [outE, outV]; omega
  have a2 : l.any badW = false := by rw [List.any_eq_false]; intro e he; have := h3 e he; simp [badW]; omega
  unfold rightP
  rw [if_neg (by omega), if_neg (by omega), if_neg (by omega), if_neg (by rw [a1]; decide), if_neg (by rw [a2]; decide)]
/-- Triples that rise, turned: what is canonical of them is they, in another order. -/
theorem turned_perm {m : List Ed} (hr : RisesL m) (hi : ∀ e ∈ m, In64 e.2.2) : (m.map turnE).Perm (canonP (turnL m)) := by
  have hs := canonP_spec (turnL_in hi)
  have hk : ∀ {x y : Ed}, x ∈ m → y ∈ m → keyOf (turnE x) = keyOf (turnE y) → x = y := fun {x y} hx hy h => by
    refine risesL_one hr hx hy ?_
    have h1 : ((turnE x).1, (turnE x).2.1) = ((turnE y).1, (turnE y).2.1) := h
    injection h1 with h2 h3
    exact Prod.ext h3 h2
  refine (List.perm_ext_iff_of_nodup ?_ ?_).2 (fun e => ⟨fun he => ?_, fun he => ?_⟩)
  · rw [List.Nodup, List.pairwise_map]
    refine List.Pairwise.imp ?_ (show m.Nodup from List.Pairwise.imp (fun {a b} hab (e : a = b) => by rw [e] at hab; simp [keyLt] at hab) hr)
    intro a b hab h
    apply hab
    have h2 := congrArg turnE h
    exact h2
  · exact List.Pairwise.imp (fun {a b} hab (e : a = b) => by rw [e] at hab; simp [keyLt] at hab) hs.1
  · obtain ⟨x, hx, hkx, _⟩ := hs.2.2 e (by rw [turnL_map]; exact he)
    have hx2 := hs.2.1 x hx
    rw [turnL_map] at hx2
    obtain ⟨y, hy, rfl⟩ := List.mem_map.1 hx2
    obtain ⟨z, hz, rfl⟩ := List.mem_map.1 he
    rw [hk hz hy hkx.symm]
    exact hx
  · have := hs.2.1 e he
    rwa [turnL_map] at this
theorem cnt_row (N : Nat) (l : List Ed) : ∀ k, k ≤ l.length → ∀ v, v < N → (cntL selO N (l.take k))[v]? = some ((rowL (l.take k) v).length : Int)
  | 0, _, v, hv => by simp [cntL, rowL, hv]
  | k + 1, hk, v, hv => by
    have ih := cnt_row N l k (by omega) v hv
    have hL := (cntL_facts selO N (l.take k)).1
    have hg : (cntL selO N (l.take k)).getD v 0 = ((rowL (l.take k) v).length : Int) := by rw [List.getD_eq_getElem?_getD, ih]; rfl
    rw [cntL_succ selO N l (show k < l.length by omega), List.take_succ_eq_append_getElem (by omega)]
    have hr : rowL (l.take k ++ [l[k]]) v = rowL (l.take k) v ++ (if (l[k]).1 = (v : Int) then [l[k]] else []) := by
      unfold rowL
      rw [List.filter_append]
      by_cases h : (l[k]).1 = (v : Int) <;> simp [h]
    rw [hr]
    unfold cntS
    rw [show selO l[k] = (l[k]).1 from rfl]
    by_cases h : (l[k]).1 = (v : Int)
    · rw [if_pos (by omega), if_pos h, h, Int.toNat_natCast, hg, List.getElem?_set]
      simp [hL, hv]
    · rw [if_neg h]
      split
      · rw [List.getElem?_set, if_neg (by omega), ih]
        simp
      · rw [ih]
        simp
theorem outs_row (N : Nat) (l : List Ed) (hN : N ≤ 4096) {v : Nat} (hv : v < N) : (countP selO N l)[v]? = some ((rowL l v).length : Int) := by
  rw [countP_in hN]
  have := cnt_row N l l.length (Nat.le_refl _) v hv
  rwa [List.take_length] at this
theorem outs_len (N : Nat) (l : List Ed) (hN : N ≤ 4096) : (countP selO N l).length = N := by
  rw [countP_in hN]
  exact (cntL_facts selO N l).1
theorem canon_unit : canonP (turnL [(0, 0, 4)]) = [(0, 0, 4)] := by
  rw [turnL_map, canonP_E (by intro e he; simp [turnE] at he; subst he; unfold In64; decide)]
  decide
theorem ok_canon {n : Nat} {l : List Ed} (hn : n ≤ 4096) (hl : l.length ≤ 65536) (hi : ∀ e ∈ l, In64 e.2.2) (h : ∀ e ∈ l, (0 ≤ e.1 ∧ e.1 < n) ∧ (0 ≤ e.2.1 ∧ e.2.1 < n)) : MtOk n (canonP l) :=
  ⟨(canonP_spec hi).1, fun e he => h e ((canonP_spec hi).2.1 e he), Nat.le_trans (canonP_length l) hl, hn⟩

set_option maxRecDepth 100000 in
theorem topTurned_walk (nn : Int) (l : List Ed) (A : Option Addr) (c : Nat) (w : World) (hA : Reads w A (l.flatMap edV)) (hl : l.length ≤ maxLen) :
    Calls Try.prog 4 #[.agg #[.int .i64 nn, .slice A l.length c]] w fun e w' => e = .returned (.bool true) ∧ Kept [] w w' := by
  have HX := Lib.hid (Blk.new w 24 (grV nn A l.length c))
  have K0 := Lib.hid ((Kept.refl [] w).alloc (.cells #[.int .i64 nn, .slice A l.length c] 24))
  have HA := Lib.hid hA
  clear hA
  go_enter Try.func4, Try.ntmps4
  go_wp2_with fail
  refine (graph21_any nn l A c _ hl (HA.out.kept0 K0.out)).mono ?_
  rintro _ w2 ⟨v2, rfl, ho2, hk2⟩
  have hN0 := grN_in nn
  have hIL := grL_in nn l
  have hI := grL_i64 nn l
  have hLL := grL_len nn l
  generalize grL nn l = L at *
  generalize grN nn = N at *
  obtain ⟨n, rfl⟩ := Int.eq_ofNat_of_zero_le hN0.1
  have hn : n ≤ 23 := by omega
  clear hN0
  obtain ⟨AL, cL, rfl⟩ := own_n ho2
  have HLen := Lib.hid (show L.length ≤ 1048576 by omega)
  have HI := Lib.hid hI
  have HR1 := Lib.hid (right_ofT (n := n) (l := L) (by omega) (by omega) (fun e he => by have := hIL e he; exact ⟨this.1, this.2.1, this.2.2⟩))
  have HIL := Lib.hid (fun e he => (hIL e he).2.1 : ∀ e ∈ L, 0 ≤ e.2.1 ∧ e.2.1 < n)
  have hTL : ∀ e ∈ turnL L, (0 ≤ e.1 ∧ e.1 < n) ∧ (0 ≤ e.2.1 ∧ e.2.1 < n) ∧ (0 ≤ e.2.2 ∧ e.2.2 ≤ 2147483647) := fun e he => by
    rw [turnL_map] at he
    obtain ⟨y, hy, rfl⟩ := List.mem_map.1 he
    have := hIL y hy
    exact ⟨this.2.1, this.1, this.2.2⟩
  have hM1 : ∀ e ∈ canonP (turnL L), (0 ≤ e.1 ∧ e.1 < n) ∧ (0 ≤ e.2.1 ∧ e.2.1 < n) ∧ (0 ≤ e.2.2 ∧ e.2.2 ≤ 2147483647) := fun e he => hTL e ((canonP_spec (turnL_in hI)).2.1 e he)
  have hM1L : (canonP (turnL L)).length ≤ 60 := Nat.le_trans (canonP_length _) (by rw [turnL_map, List.length_map]; exact hLL)
  have HOK1 := Lib.hid (ok_canon (n := n) (by omega) (show (turnL L).length ≤ 65536 by rw [turnL_map, List.length_map]; omega) (turnL_in hI) (fun e he => ⟨(hTL e he).1, (hTL e he).2.1⟩))
  have HOK2 := Lib.hid (ok_canon (n := n) (by omega) (show L.length ≤ 65536 by omega) hI (fun e he => ⟨(hIL e he).1, (hIL e he).2.1⟩))
  have HR2 := Lib.hid (right_ofT (n := n) (l := canonP (turnL L)) (by omega) (by omega) hM1)
  have HM2 := Lib.hid (turn_turn hI)
  have HPM := Lib.hid (turned_perm (canonP_spec (turnL_in hI)).1 (canonP_in (turnL_in hI)))
  rw [HM2.out] at HPM
  have HI1 := Lib.hid (canonP_in (turnL_in hI))
  have HIL1 := Lib.hid (fun e he => (hM1 e he).2.1 : ∀ e ∈ canonP (turnL L), 0 ≤ e.2.1 ∧ e.2.1 < n)
  have HL1 := Lib.hid (show (canonP (turnL L)).length ≤ 1048576 by omega)
  obtain ⟨M1, hM1q⟩ : ∃ M1, M1 = canonP (turnL L) := ⟨_, rfl⟩
  obtain ⟨M2, hM2q⟩ : ∃ M2, M2 = canonP L := ⟨_, rfl⟩
  rw [← hM1q] at HOK1 HR2 HM2 HPM HI1 HIL1 HL1
  rw [← hM2q] at HOK2 HM2 HPM
  have HM1Q := Lib.hid hM1q.symm
  have HM2Q := Lib.hid hM2q.symm
  clear hM1q hM2q hIL hI hLL hTL hM1 hM1L
  have HSZ0 := Lib.hid (show w.heap.size ≤ w.heap.size from Nat.le_refl _)
  have HLO := Lib.hid (own_le (base' := w.heap.size) ho2 K0.out.size)
  replace HX := Lib.hid (HX.out.kept hk2 (by simp))
  replace K0 := Lib.hid (K0.out.trans hk2)
  clear ho2 hk2
  go_upto_region 2 with (first | (refine wpList_storeBlk rfl 24 (.tmp 1) (.tmp 13) rfl _ _ [.int .i64 n, .slice AL L.length cL] HX.out rfl rfl rfl infoGraph (by simp [Value.oneCell']) ?_; intro w3 hb3 hk3))
  have f8 : KeptB w.heap.size [24] w2 w3 := (KeptB.refl _ _ w2).step (L := [w.heap.size]) hk3 (fun u hu => by simp at hu; subst hu; exact ⟨HSZ0.out, _, _, _, HX.out, by simp⟩)
  replace HLO := Lib.hid (own_keptB HLO.out f8 (by decide))
  replace K0 := Lib.hid (K0.out.thenB f8 (Nat.le_refl _))
  replace HX := Lib.hid hb3
  clear f8 hb3 hk3 HSZ0
  generalize hgq : w.heap.size = g1 at HX ⊢
  have HQ := Lib.hid hgq
  clear hgq
  go_wp2_with (first | (refine wpList_loadBlk rfl 24 (.tmp 1) rfl g1 [.int .i64 n, .slice AL L.length cL] _ HX.out rfl Try.underlying24 rfl infoGraph ?_))
  refine (csrGraph_any n L AL cL w3 HOK2.out.num HLen.out (Reads.of_own HLO.out) HR1.out HI.out HIL.out).mono ?_
  rintro _ w4 ⟨vm, rfl, a1, a2, a3, e1, hmt, hk4⟩
  injection e1 with e1
  subst e1
  rw [HM1Q.out] at hmt
  obtain ⟨p1, q1, P2, q2, P3, q3, rfl, rfl, rfl, _, _⟩ := hmt.form
  have HM := Lib.hid hmt
  replace HX := Lib.hid (HX.out.kept hk4 (by simp))
  replace HLO := Lib.hid (own_kept0 HLO.out hk4)
  replace K0 := Lib.hid (K0.out.trans hk4)
  clear hk4 hmt
  generalize w3.heap.size = b1 at HM
  go_upto_region 3 with (first | (refine wpList_storeBlk rfl 44 (.tmp 3) (.tmp 17) rfl w4.heap.size [.int .i64 0, .int .i64 0, .slice none 0 0, .slice none 0 0, .slice none 0 0] [.int .i64 n, .int .i64 n, .slice (some ⟨p1, 0, none⟩) (n + 1) q1, .slice P2 M1.length q2, .slice P3 M1.length q3] (Blk.new _ _ _) rfl rfl rfl infoRows (by simp [Value.oneCell']) ?_; intro w5 hb5 hk5))
  have hk55 : Kept [] w4 w5 := ((Kept.refl [] w4).alloc (.cells #[.int .i64 0, .int .i64 0, .slice none 0 0, .slice none 0 0, .slice none 0 0] 44)).then hk5 (fun q hq => by simp at hq; subst hq; exact .inr (Nat.le_refl _))
  have H3 := Lib.hid hb5
  replace HX := Lib.hid (HX.out.kept hk55 (by simp))
  replace HM := Lib.hid (HM.out.kept0 hk55)
  replace HLO := Lib.hid (own_kept0 HLO.out hk55)
  replace K0 := Lib.hid (K0.out.trans hk55)
  clear hk5 hk55 hb5
  generalize w4.heap.size = g3 at H3 ⊢
  go_wp2_with (first | (refine wpList_loadBlk rfl 24 (.tmp 1) rfl g1 [.int .i64 n, .slice AL L.length cL] _ HX.out rfl Try.underlying24 rfl infoGraph ?_))
  refine (topT n L AL cL w5 HLen.out (Reads.of_own HLO.out) HI.out).mono ?_
  rintro _ w6 ⟨v6, rfl, ho6, hk6⟩
  rw [show canonP (madeP turnE allE L) = M1 from HM1Q.out] at ho6
  obtain ⟨A6, c6, rfl⟩ := own_n ho6
  have HR6 := Lib.hid (Reads.of_own ho6)
  replace HX := Lib.hid (HX.out.kept hk6 (by simp))
  replace H3 := Lib.hid (H3.out.kept hk6 (by simp))
  replace HM := Lib.hid (HM.out.kept0 hk6)
  replace HLO := Lib.hid (own_kept0 HLO.out hk6)
  replace K0 := Lib.hid (K0.out.trans hk6)
  clear ho6 hk6
  go_wp2_with fail
  refine (csrGraph_any n M1 A6 c6 w6 HOK2.out.num HL1.out HR6.out HR2.out HI1.out HIL1.out).mono ?_
  rintro _ w7 ⟨vt, rfl, a1, a2, a3, e1, hmt, hk7⟩
  injection e1 with e1
  subst e1
  rw [HM2.out] at hmt
  obtain ⟨r1, s1, R2, s2, R3, s3, rfl, rfl, rfl, _, _⟩ := hmt.form
  have HT := Lib.hid hmt
  replace HX := Lib.hid (HX.out.kept hk7 (by simp))
  replace H3 := Lib.hid (H3.out.kept hk7 (by simp))
  replace HM := Lib.hid (HM.out.kept0 hk7)
  replace HLO := Lib.hid (own_kept0 HLO.out hk7)
  replace K0 := Lib.hid (K0.out.trans hk7)
  clear hk7 hmt HR6
  generalize w6.heap.size = b2 at HT
  go_upto_region 4 with (first | (refine wpList_storeBlk rfl 44 (.tmp 5) (.tmp 23) rfl w7.heap.size [.int .i64 0, .int .i64 0, .slice none 0 0, .slice none 0 0, .slice none 0 0] [.int .i64 n, .int .i64 n, .slice (some ⟨r1, 0, none⟩) (n + 1) s1, .slice R2 M2.length s2, .slice R3 M2.length s3] (Blk.new _ _ _) rfl rfl rfl infoRows (by simp [Value.oneCell']) ?_; intro w8 hb8 hk8))
  have hk88 : Kept [] w7 w8 := ((Kept.refl [] w7).alloc (.cells #[.int .i64 0, .int .i64 0, .slice none 0 0, .slice none 0 0, .slice none 0 0] 44)).then hk8 (fun q hq => by simp at hq; subst hq; exact .inr (Nat.le_refl _))
  have H5 := Lib.hid hb8
  replace HX := Lib.hid (HX.out.kept hk88 (by simp))
  replace H3 := Lib.hid (H3.out.kept hk88 (by simp))
  replace HM := Lib.hid (HM.out.kept0 hk88)
  replace HT := Lib.hid (HT.out.kept0 hk88)
  replace HLO := Lib.hid (own_kept0 HLO.out hk88)
  replace K0 := Lib.hid (K0.out.trans hk88)
  clear hk8 hk88 hb8
  generalize w7.heap.size = g5 at H5 ⊢
  go_wp2_with (first | (refine wpList_loadBlk rfl 24 (.tmp 1) rfl g1 [.int .i64 n, .slice AL L.length cL] _ HX.out rfl Try.underlying24 rfl infoGraph ?_))
  refine (canon_any n L AL cL w8 HLen.out (Reads.of_own HLO.out) HI.out).mono ?_
  rintro _ w9 ⟨v9, rfl, ho9, hk9⟩
  rw [HM2Q.out] at ho9
  obtain ⟨A9, c9, rfl⟩ := own_n ho9
  have HR9 := Lib.hid (Reads.of_own ho9)
  have HL2 := Lib.hid (show M2.length ≤ 1048576 from Nat.le_trans HOK2.out.len (by decide))
  replace HX := Lib.hid (HX.out.kept hk9 (by simp))
  replace H3 := Lib.hid (H3.out.kept hk9 (by simp))
  replace H5 := Lib.hid (H5.out.kept hk9 (by simp))
  replace HM := Lib.hid (HM.out.kept0 hk9)
  replace HT := Lib.hid (HT.out.kept0 hk9)
  replace HLO := Lib.hid (own_kept0 HLO.out hk9)
  replace K0 := Lib.hid (K0.out.trans hk9)
  clear ho9 hk9
  go_wp2_with fail
  refine (outs_any n M2 A9 c9 w9 HL2.out HR9.out).mono ?_
  rintro _ wa ⟨AO, cO, rfl, hro, hka⟩
  have HO := Lib.hid hro
  replace HX := Lib.hid (HX.out.kept hka (by simp))
  replace H3 := Lib.hid (H3.out.kept hka (by simp))
  replace H5 := Lib.hid (H5.out.kept hka (by simp))
  replace HM := Lib.hid (HM.out.kept0 hka)
  replace HT := Lib.hid (HT.out.kept0 hka)
  replace K0 := Lib.hid (K0.out.trans hka)
  clear hka hro HR9 HLO
  have HON := Lib.hid (outs_len n M2 HOK2.out.num)
  rw [HON.out]
  go_wp2_with (first | (refine wpList_loadBlk rfl 44 (.tmp 3) rfl g3 [.int .i64 n, .int .i64 n, .slice (some ⟨p1, 0, none⟩) (n + 1) q1, .slice P2 M1.length q2, .slice P3 M1.length q3] _ H3.out rfl Try.underlying44 rfl infoRows ?_))
  refine (dcof_any n b1 M1 M2 _ _ _ wa HOK1.out HOK2.out HPM.out HM.out).mono ?_
  rintro _ wb ⟨k1, k2, k3, k4, rfl, hdc, hkb⟩
  obtain ⟨D1, f1, d2, f2, D3, f3, D4, f4, rfl, rfl, rfl, rfl, _, _⟩ := hdc.form
  have HD := Lib.hid hdc
  replace HX := Lib.hid (HX.out.kept hkb (by simp))
  replace H3 := Lib.hid (H3.out.kept hkb (by simp))
  replace H5 := Lib.hid (H5.out.kept hkb (by simp))
  replace HM := Lib.hid (HM.out.kept0 hkb)
  replace HT := Lib.hid (HT.out.kept0 hkb)
  replace HO := Lib.hid (HO.out.kept0 hkb)
  replace K0 := Lib.hid (K0.out.trans hkb)
  clear hkb hdc
  generalize wa.heap.size = b3 at HD
  go_upto_region 6 with (first | (refine wpList_storeBlk rfl 49 (.tmp 8) (.tmp 29) rfl wb.heap.size [.int .i64 0, .int .i64 0, .slice none 0 0, .slice none 0 0, .slice none 0 0, .slice none 0 0] [.int .i64 n, .int .i64 n, .slice D1 (atP M2).length f1, .slice (some ⟨d2, 0, none⟩) ((atP M2).length + 1) f2, .slice D3 M2.length f3, .slice D4 M2.length f4] (Blk.new _ _ _) rfl rfl rfl infoCols (by simp [Value.oneCell']) ?_; intro wz hbc hkc))
  have hkcc : Kept [] wb wz := ((Kept.refl [] wb).alloc (.cells #[.int .i64 0, .int .i64 0, .slice none 0 0, .slice none 0 0, .slice none 0 0, .slice none 0 0] 49)).then hkc (fun q hq => by simp at hq; subst hq; exact .inr (Nat.le_refl _))
  have H8 := Lib.hid hbc
  replace HX := Lib.hid (HX.out.kept hkcc (by simp))
  replace H3 := Lib.hid (H3.out.kept hkcc (by simp))
  replace H5 := Lib.hid (H5.out.kept hkcc (by simp))
  replace HM := Lib.hid (HM.out.kept0 hkcc)
  replace HT := Lib.hid (HT.out.kept0 hkcc)
  replace HD := Lib.hid (HD.out.kept0 hkcc)
  replace HO := Lib.hid (HO.out.kept0 hkcc)
  replace K0 := Lib.hid (K0.out.trans hkcc)
  clear hkc hkcc hbc
  generalize wb.heap.size = g8 at H8 ⊢
  refine wp_region_held_drew (S := (fun w' => w'.rangeAt g3 0 [.int .i64 n, .int .i64 n, .slice (some ⟨p1, 0, none⟩) (n + 1) q1, .slice P2 M1.length q2, .slice P3 M1.length q3] ∧ w'.rangeAt g5 0 [.int .i64 n, .int .i64 n, .slice (some ⟨r1, 0, none⟩) (n + 1) s1, .slice R2 M2.length s2, .slice R3 M2.length s3] ∧ w'.cell? ⟨g1, 0, none⟩ = some (.int .i64 n))) (by kernel_rfl) ?_ (fun hHeld => ?_)
  · exact ⟨H3.out.cell2, H5.out.cell2, HX.out.cell 0⟩
  have kz := (Kept.refl [] wz).drew
  replace HX := Lib.hid (HX.out.kept kz (by simp))
  replace H3 := Lib.hid (H3.out.kept kz (by simp))
  replace H5 := Lib.hid (H5.out.kept kz (by simp))
  replace H8 := Lib.hid (H8.out.kept kz (by simp))
  replace HM := Lib.hid (HM.out.kept0 kz)
  replace HT := Lib.hid (HT.out.kept0 kz)
  replace HD := Lib.hid (HD.out.kept0 kz)
  replace HO := Lib.hid (HO.out.kept0 kz)
  replace K0 := Lib.hid (K0.out.trans kz)
  clear kz
  generalize wz.drew = wz at *
  refine tkYes (i := 0) (v := ?_) rfl rfl (by kernel_rfl) (by kernel_rfl) (by kernel_rfl) (fun _ _ _ h => h) (by rfl) ?_ (by assumption) ?_
  rotate_left
  · (intro w' hSw; (try dsimp only at hSw); go_simp; try with_reducible rfl)
  try simp only [Act.put, List.setIfInBounds_toArray, List.set_cons_zero, List.set_cons_succ]
  refine tkYes (i := 1) (v := ?_) rfl rfl (by kernel_rfl) (by kernel_rfl) (by kernel_rfl) (fun _ _ _ h => h) (by rfl) ?_ (by assumption) ?_
  rotate_left
  · (intro w' hSw; (try dsimp only at hSw); go_simp; try with_reducible rfl)
  try simp only [Act.put, List.setIfInBounds_toArray, List.set_cons_zero, List.set_cons_succ]
  refine tkYes (i := 2) (v := ?_) rfl rfl (by kernel_rfl) (by kernel_rfl) (by kernel_rfl) (fun _ _ _ h => h) (by rfl) ?_ (by assumption) ?_
  rotate_left
  · (intro w' hSw; (try dsimp only at hSw); go_simp; try with_reducible rfl)
  try simp only [Act.put, List.setIfInBounds_toArray, List.set_cons_zero, List.set_cons_succ]
  refine tkYes (i := 3) (v := ?_) rfl rfl (by kernel_rfl) (by kernel_rfl) (by kernel_rfl) (fun _ _ _ h => h) (by rfl) ?_ (by assumption) ?_
  rotate_left
  · (intro w' hSw; (try dsimp only at hSw); go_simp; try with_reducible rfl)
  try simp only [Act.put, List.setIfInBounds_toArray, List.set_cons_zero, List.set_cons_succ]
  refine tkYes (i := 4) (v := ?_) rfl rfl (by kernel_rfl) (by kernel_rfl) (by kernel_rfl) (fun _ _ _ h => h) (by rfl) ?_ (by assumption) ?_
  rotate_left
  · (intro w' hSw; (try dsimp only at hSw); go_simp; try with_reducible rfl)
  try simp only [Act.put, List.setIfInBounds_toArray, List.set_cons_zero, List.set_cons_succ]
  refine tkYes (i := 5) (v := ?_) rfl rfl (by kernel_rfl) (by kernel_rfl) (by kernel_rfl) (fun _ _ _ h => h) (by rfl) ?_ (by assumption) ?_
  rotate_left
  · (intro w' hSw; (try dsimp only at hSw); go_simp; try with_reducible rfl)
  try simp only [Act.put, List.setIfInBounds_toArray, List.set_cons_zero, List.set_cons_succ]
  refine tkYes (i := 6) (v := ?_) rfl rfl (by kernel_rfl) (by kernel_rfl) (by kernel_rfl) (fun _ _ _ h => h) (by rfl) ?_ (by assumption) ?_
  rotate_left
  · (intro w' hSw; (try dsimp only at hSw); go_simp; try with_reducible rfl)
  try simp only [Act.put, List.setIfInBounds_toArray, List.set_cons_zero, List.set_cons_succ]
  refine tkYes (i := 7) (v := ?_) rfl rfl (by kernel_rfl) (by kernel_rfl) (by kernel_rfl) (fun _ _ _ h => h) (by rfl) ?_ (by assumption) ?_
  rotate_left
  · (intro w' hSw; (try dsimp only at hSw); go_simp; try with_reducible rfl)
  try simp only [Act.put, List.setIfInBounds_toArray, List.set_cons_zero, List.set_cons_succ]
  refine tkYes (i := 8) (v := ?_) rfl rfl (by kernel_rfl) (by kernel_rfl) (by kernel_rfl) (fun _ _ _ h => h) (by rfl) ?_ (by assumption) ?_
  rotate_left
  · (intro w' hSw; (try dsimp only at hSw); go_simp; try with_reducible rfl)
  try simp only [Act.put, List.setIfInBounds_toArray, List.set_cons_zero, List.set_cons_succ]
  refine tkYes (i := 9) (v := ?_) rfl rfl (by kernel_rfl) (by kernel_rfl) (by kernel_rfl) (fun _ _ _ h => h) (by rfl) ?_ (by assumption) ?_
  rotate_left
  · (intro w' hSw; (try dsimp only at hSw); go_simp; try with_reducible rfl)
  try simp only [Act.put, List.setIfInBounds_toArray, List.set_cons_zero, List.set_cons_succ]
  refine tkYes (i := 10) (v := ?_) rfl rfl (by kernel_rfl) (by kernel_rfl) (by kernel_rfl) (fun _ _ _ h => h) (by rfl) ?_ (by assumption) ?_
  rotate_left
  · (intro w' hSw; (try dsimp only at hSw); go_simp; try with_reducible rfl)
  try simp only [Act.put, List.setIfInBounds_toArray, List.set_cons_zero, List.set_cons_succ]
  refine tkYes (i := 11) (v := ?_) rfl rfl (by kernel_rfl) (by kernel_rfl) (by kernel_rfl) (fun _ _ _ h => h) (by rfl) ?_ (by assumption) ?_
  rotate_left
  · (intro w' hSw; (try dsimp only at hSw); go_simp; try with_reducible rfl)
  try simp only [Act.put, List.setIfInBounds_toArray, List.set_cons_zero, List.set_cons_succ]
  refine tkYes (i := 12) (v := ?_) rfl rfl (by kernel_rfl) (by kernel_rfl) (by kernel_rfl) (fun _ _ _ h => h) (by rfl) ?_ (by assumption) ?_
  rotate_left
  · (intro w' hSw; (try dsimp only at hSw); go_simp; try with_reducible rfl)
  try simp only [Act.put, List.setIfInBounds_toArray, List.set_cons_zero, List.set_cons_succ]
  refine tkYes (i := 13) (v := ?_) rfl rfl (by kernel_rfl) (by kernel_rfl) (by kernel_rfl) (fun _ _ _ h => h) (by rfl) ?_ (by assumption) ?_
  rotate_left
  · (intro w' hSw; (try dsimp only at hSw); go_simp; try with_reducible rfl)
  try simp only [Act.put, List.setIfInBounds_toArray, List.set_cons_zero, List.set_cons_succ]
  refine tkLoad (i := 14) 44 (.tmp 3) g3 (0) [.int .i64 n, .int .i64 n, .slice (some ⟨p1, 0, none⟩) (n + 1) q1, .slice P2 M1.length q2, .slice P3 M1.length q3] _ rfl rfl (by kernel_rfl) (by kernel_rfl) (by kernel_rfl) (fun _ _ _ h => h) (by rfl) rfl rfl (fun w hw => hw.1) Try.underlying44 rfl infoRows (by assumption) ?_
  try simp only [Act.put, List.setIfInBounds_toArray, List.set_cons_zero, List.set_cons_succ]
  refine tkLoad (i := 16) 44 (.tmp 5) g5 (0) [.int .i64 n, .int .i64 n, .slice (some ⟨r1, 0, none⟩) (n + 1) s1, .slice R2 M2.length s2, .slice R3 M2.length s3] _ rfl rfl (by kernel_rfl) (by kernel_rfl) (by kernel_rfl) (fun _ _ _ h => h) (by rfl) rfl rfl (fun w hw => hw.2.1) Try.underlying44 rfl infoRows (by assumption) ?_
  try simp only [Act.put, List.setIfInBounds_toArray, List.set_cons_zero, List.set_cons_succ]
  refine wpAnyH_ready (rs := [15]) (by kernel_rfl) (by simp) ?_
  refine AllReadyH.cons rfl (fun K hK => ?_) AllReadyH.nil
  go_simp
  go_at_call 16
  refine (turn_any n b1 M1 M2 _ _ _ _ HOK1.out HOK2.out HPM.out HM.out).mono ?_
  rintro _ wn ⟨z1, z2, z3, rfl, hmz, hkn⟩
  replace HX := Lib.hid (HX.out.kept hkn (by simp))
  replace H3 := Lib.hid (H3.out.kept hkn (by simp))
  replace H5 := Lib.hid (H5.out.kept hkn (by simp))
  replace H8 := Lib.hid (H8.out.kept hkn (by simp))
  replace HM := Lib.hid (HM.out.kept0 hkn)
  replace HT := Lib.hid (HT.out.kept0 hkn)
  replace HD := Lib.hid (HD.out.kept0 hkn)
  replace HO := Lib.hid (HO.out.kept0 hkn)
  replace K0 := Lib.hid (K0.out.trans hkn)
  have HZ := Lib.hid hmz
  clear hmz
  clear hkn
  go_wp2_with fail
  refine hK.out _ _ ?_ (fun hHeld => ?_)
  · exact ⟨H3.out.cell2, H5.out.cell2, HX.out.cell 0⟩
  clear hK K
  try simp only [Act.put, List.setIfInBounds_toArray, List.set_cons_zero, List.set_cons_succ]
  refine wpAnyH_ready (rs := [17]) (by kernel_rfl) (by simp) ?_
  refine AllReadyH.cons rfl (fun K hK => ?_) AllReadyH.nil
  go_simp
  go_at_call 15
  refine (same_true n _ b2 M2 _ _ _ _ _ _ _ HOK2.out.num HOK2.out.len HZ.out HT.out).mono ?_
  rintro _ wn ⟨rfl, hkn⟩
  replace HX := Lib.hid (HX.out.kept hkn (by simp))
  replace H3 := Lib.hid (H3.out.kept hkn (by simp))
  replace H5 := Lib.hid (H5.out.kept hkn (by simp))
  replace H8 := Lib.hid (H8.out.kept hkn (by simp))
  replace HM := Lib.hid (HM.out.kept0 hkn)
  replace HT := Lib.hid (HT.out.kept0 hkn)
  replace HD := Lib.hid (HD.out.kept0 hkn)
  replace HO := Lib.hid (HO.out.kept0 hkn)
  replace K0 := Lib.hid (K0.out.trans hkn)
  clear HZ
  clear hkn
  go_wp2_with fail
  refine hK.out _ _ ?_ (fun hHeld => ?_)
  · exact ⟨H3.out.cell2, H5.out.cell2, HX.out.cell 0⟩
  clear hK K
  try simp only [Act.put, List.setIfInBounds_toArray, List.set_cons_zero, List.set_cons_succ]
  refine tkYes (i := 18) (v := ?_) rfl rfl (by kernel_rfl) (by kernel_rfl) (by kernel_rfl) (fun _ _ _ h => h) (by rfl) ?_ (by assumption) ?_
  rotate_left
  · (intro w' hSw; (try dsimp only at hSw); go_simp; try with_reducible rfl)
  try simp only [Act.put, List.setIfInBounds_toArray, List.set_cons_zero, List.set_cons_succ]
  refine tkYes (i := 19) (v := ?_) rfl rfl (by kernel_rfl) (by kernel_rfl) (by kernel_rfl) (fun _ _ _ h => h) (by rfl) ?_ (by assumption) ?_
  rotate_left
  · (intro w' hSw; (try dsimp only at hSw); go_simp; try with_reducible rfl)
  try simp only [Act.put, List.setIfInBounds_toArray, List.set_cons_zero, List.set_cons_succ]
  refine wpAnyH_done (by kernel_rfl) ?_ _
  go_wp2_with fail
  go_loopw [9] (fun x wr => ∃ v : Nat, v ≤ n ∧ x = .int .i64 v ∧ Hid (Blk wr g1 24 [.int .i64 n, .slice AL L.length cL]) ∧ Hid (Blk wr g3 44 [.int .i64 n, .int .i64 n, .slice (some ⟨p1, 0, none⟩) (n + 1) q1, .slice P2 M1.length q2, .slice P3 M1.length q3]) ∧ Hid (Blk wr g5 44 [.int .i64 n, .int .i64 n, .slice (some ⟨r1, 0, none⟩) (n + 1) s1, .slice R2 M2.length s2, .slice R3 M2.length s3]) ∧ Hid (Blk wr g8 49 [.int .i64 n, .int .i64 n, .slice D1 (atP M2).length f1, .slice (some ⟨d2, 0, none⟩) ((atP M2).length + 1) f2, .slice D3 M2.length f3, .slice D4 M2.length f4]) ∧ Hid (MtAt wr b1 (.slice (some ⟨p1, 0, none⟩) (n + 1) q1) (.slice P2 M1.length q2) (.slice P3 M1.length q3) n M1) ∧ Hid (MtAt wr b2 (.slice (some ⟨r1, 0, none⟩) (n + 1) s1) (.slice R2 M2.length s2) (.slice R3 M2.length s3) n M2) ∧ Hid (DcAt wr b3 (.slice D1 (atP M2).length f1) (.slice (some ⟨d2, 0, none⟩) ((atP M2).length + 1) f2) (.slice D3 M2.length f3) (.slice D4 M2.length f4) M2) ∧ Hid (Reads wr AO ((countP selO n M2).map vI)) ∧ Hid (Kept [] w wr)) (fun x _ => n - (intOf x).toNat)
  case atStart => exact ⟨0, Nat.zero_le _, rfl, HX, H3, H5, H8, HM, HT, HD, HO, K0⟩
  case round =>
    clear HX H3 H5 H8 HM HT HD HO K0
    obtain ⟨v, hvn, rfl, HX, H3, H5, H8, HM, HT, HD, HO, K0⟩ := hrel
    have y0 := HX.out.cell 0
    simp only [List.getElem?_cons_zero, List.getElem?_cons_succ] at y0
    by_cases hv : v < n
    · obtain ⟨bo, oo, hAO, _, _⟩ := ints_at HO.out (k := v) (by rw [HON.out]; exact hv)
      subst hAO
      have HCO := Lib.hid (fun wx hx => by
        obtain ⟨b, o, e, _, hc⟩ := ints_at hx (k := v) (by rw [HON.out]; exact hv)
        injection e with e
        injection e with e1 e2
        subst e1 e2
        have h1 := hc v (by rw [HON.out]; exact hv)
        have h2 := outs_row n M2 HOK2.out.num hv
        rw [List.getElem?_eq_getElem (by rw [HON.out]; exact hv)] at h2
        injection h2 with h2
        rw [h2] at h1
        exact h1 : ∀ wx : World, Reads wx (some ⟨bo, oo, none⟩) ((countP selO n M2).map vI) → wx.cell? ⟨bo, oo + v, none⟩ = some (.int .i64 ((rowL M2 v).length : Int)))
      have HRL := Lib.hid (show (rowL M2 v).length ≤ 1048576 from Nat.le_trans (List.length_filter_le _ _) (Nat.le_trans HOK2.out.len (by decide)))
      go_upto_region 11 with (fail)
      clear y0
      refine wp_region_held_drew (S := (fun w' => w'.rangeAt g8 0 [.int .i64 n, .int .i64 n, .slice D1 (atP M2).length f1, .slice (some ⟨d2, 0, none⟩) ((atP M2).length + 1) f2, .slice D3 M2.length f3, .slice D4 M2.length f4] ∧ w'.rangeAt g5 0 [.int .i64 n, .int .i64 n, .slice (some ⟨r1, 0, none⟩) (n + 1) s1, .slice R2 M2.length s2, .slice R3 M2.length s3] ∧ w'.cell? ⟨bo, oo + v, none⟩ = some (.int .i64 ((rowL M2 v).length : Int)))) (by kernel_rfl) ?_ (fun hHeld => ?_)
      · exact ⟨H8.out.cell2, H5.out.cell2, HCO.out _ HO.out⟩
      have kz := (Kept.refl [] wr).drew
      replace HX := Lib.hid (HX.out.kept kz (by simp))
      replace H3 := Lib.hid (H3.out.kept kz (by simp))
      replace H5 := Lib.hid (H5.out.kept kz (by simp))
      replace H8 := Lib.hid (H8.out.kept kz (by simp))
      replace HM := Lib.hid (HM.out.kept0 kz)
      replace HT := Lib.hid (HT.out.kept0 kz)
      replace HD := Lib.hid (HD.out.kept0 kz)
      replace HO := Lib.hid (HO.out.kept0 kz)
      replace K0 := Lib.hid (K0.out.trans kz)
      clear kz
      generalize wr.drew = wz at *
      refine tkLoad (i := 0) 49 (.tmp 8) g8 (0) [.int .i64 n, .int .i64 n, .slice D1 (atP M2).length f1, .slice (some ⟨d2, 0, none⟩) ((atP M2).length + 1) f2, .slice D3 M2.length f3, .slice D4 M2.length f4] _ rfl rfl (by kernel_rfl) (by kernel_rfl) (by kernel_rfl) (fun _ _ _ h => h) (by rfl) rfl rfl (fun w hw => hw.1) Try.underlying49 rfl infoCols (by assumption) ?_
      try simp only [Act.put, List.setIfInBounds_toArray, List.set_cons_zero, List.set_cons_succ]
      refine tkYes (i := 1) (v := ?_) rfl rfl (by kernel_rfl) (by kernel_rfl) (by kernel_rfl) (fun _ _ _ h => h) (by rfl) ?_ (by assumption) ?_
      rotate_left
      · (intro w' hSw; (try dsimp only at hSw); go_simp; try with_reducible rfl)
      try simp only [Act.put, List.setIfInBounds_toArray, List.set_cons_zero, List.set_cons_succ]
      refine tkYes (i := 4) (v := ?_) rfl rfl (by kernel_rfl) (by kernel_rfl) (by kernel_rfl) (fun _ _ _ h => h) (by rfl) ?_ (by assumption) ?_
      rotate_left
      · (intro w' hSw; (try dsimp only at hSw); go_simp; try with_reducible rfl)
      try simp only [Act.put, List.setIfInBounds_toArray, List.set_cons_zero, List.set_cons_succ]
      refine tkYes (i := 5) (v := ?_) rfl rfl (by kernel_rfl) (by kernel_rfl) (by kernel_rfl) (fun _ _ _ h => h) (by rfl) ?_ (by assumption) ?_
      rotate_left
      · (intro w' hSw; (try dsimp only at hSw); go_simp; try with_reducible rfl)
      try simp only [Act.put, List.setIfInBounds_toArray, List.set_cons_zero, List.set_cons_succ]
      refine tkYes (i := 6) (v := .pointer (some ⟨bo, oo + v, none⟩)) rfl rfl (by kernel_rfl) (by kernel_rfl) (by kernel_rfl) (fun _ _ _ h => h) (by rfl) ?_ (by assumption) ?_
      skip
      · (intro w' hSw; (try dsimp only at hSw); go_simp; try (intro hbad; omega))
      try simp only [Act.put, List.setIfInBounds_toArray, List.set_cons_zero, List.set_cons_succ]
      refine tkYes (i := 7) (v := ?_) rfl rfl (by kernel_rfl) (by kernel_rfl) (by kernel_rfl) (fun _ _ _ h => h) (by rfl) ?_ (by assumption) ?_
      rotate_left
      · (intro w' hSw; (try dsimp only at hSw); go_simp; try with_reducible rfl)
      try simp only [Act.put, List.setIfInBounds_toArray, List.set_cons_zero, List.set_cons_succ]
      refine wpAnyH_ready (rs := [2]) (by kernel_rfl) (by simp) ?_
      refine AllReadyH.cons rfl (fun K hK => ?_) AllReadyH.nil
      go_simp
      go_at_call 17
      refine (column_any n b3 v M2 _ _ _ _ _ HOK2.out HD.out).mono ?_
      rintro _ wn ⟨y1, rfl, hy1, hkn⟩
      replace HX := Lib.hid (HX.out.kept hkn (by simp))
      replace H3 := Lib.hid (H3.out.kept hkn (by simp))
      replace H5 := Lib.hid (H5.out.kept hkn (by simp))
      replace H8 := Lib.hid (H8.out.kept hkn (by simp))
      replace HM := Lib.hid (HM.out.kept0 hkn)
      replace HT := Lib.hid (HT.out.kept0 hkn)
      replace HD := Lib.hid (HD.out.kept0 hkn)
      replace HO := Lib.hid (HO.out.kept0 hkn)
      replace K0 := Lib.hid (K0.out.trans hkn)
      obtain ⟨Y1, j1, rfl⟩ := own_n hy1
      have HY1 := Lib.hid hy1
      clear hy1
      clear hkn
      go_wp2_with fail
      refine hK.out _ _ ?_ (fun hHeld => ?_)
      · exact ⟨H8.out.cell2, H5.out.cell2, HCO.out _ HO.out⟩
      clear hK K
      try simp only [Act.put, List.setIfInBounds_toArray, List.set_cons_zero, List.set_cons_succ]
      refine tkYes (i := 3) (v := ?_) rfl rfl (by kernel_rfl) (by kernel_rfl) (by kernel_rfl) (fun _ _ _ h => h) (by rfl) ?_ (by assumption) ?_
      rotate_left
      · (intro w' hSw; (try dsimp only at hSw); go_simp; try with_reducible rfl)
      try simp only [Act.put, List.setIfInBounds_toArray, List.set_cons_zero, List.set_cons_succ]
      refine tkYes (i := 8) (v := ?_) rfl rfl (by kernel_rfl) (by kernel_rfl) (by kernel_rfl) (fun _ _ _ h => h) (by rfl) ?_ (by assumption) ?_
      rotate_left
      · (intro w' hSw; (try dsimp only at hSw); go_simp; try with_reducible rfl)
      try simp only [Act.put, List.setIfInBounds_toArray, List.set_cons_zero, List.set_cons_succ]
      refine tkYes (i := 9) (v := ?_) rfl rfl (by kernel_rfl) (by kernel_rfl) (by kernel_rfl) (fun _ _ _ h => h) (by rfl) ?_ (by assumption) ?_
      rotate_left
      · (intro w' hSw; (try dsimp only at hSw); go_simp; try with_reducible rfl)
      try simp only [Act.put, List.setIfInBounds_toArray, List.set_cons_zero, List.set_cons_succ]
      refine tkLoad (i := 10) 49 (.tmp 8) g8 (0) [.int .i64 n, .int .i64 n, .slice D1 (atP M2).length f1, .slice (some ⟨d2, 0, none⟩) ((atP M2).length + 1) f2, .slice D3 M2.length f3, .slice D4 M2.length f4] _ rfl rfl (by kernel_rfl) (by kernel_rfl) (by kernel_rfl) (fun _ _ _ h => h) (by rfl) rfl rfl (fun w hw => hw.1) Try.underlying49 rfl infoCols (by assumption) ?_
      try simp only [Act.put, List.setIfInBounds_toArray, List.set_cons_zero, List.set_cons_succ]
      refine tkYes (i := 11) (v := ?_) rfl rfl (by kernel_rfl) (by kernel_rfl) (by kernel_rfl) (fun _ _ _ h => h) (by rfl) ?_ (by assumption) ?_
      rotate_left
      · (intro w' hSw; (try dsimp only at hSw); go_simp; try with_reducible rfl)
      try simp only [Act.put, List.setIfInBounds_toArray, List.set_cons_zero, List.set_cons_succ]
      refine tkLoad (i := 13) 44 (.tmp 5) g5 (0) [.int .i64 n, .int .i64 n, .slice (some ⟨r1, 0, none⟩) (n + 1) s1, .slice R2 M2.length s2, .slice R3 M2.length s3] _ rfl rfl (by kernel_rfl) (by kernel_rfl) (by kernel_rfl) (fun _ _ _ h => h) (by rfl) rfl rfl (fun w hw => hw.2.1) Try.underlying44 rfl infoRows (by assumption) ?_
      try simp only [Act.put, List.setIfInBounds_toArray, List.set_cons_zero, List.set_cons_succ]
      refine tkYes (i := 14) (v := ?_) rfl rfl (by kernel_rfl) (by kernel_rfl) (by kernel_rfl) (fun _ _ _ h => h) (by rfl) ?_ (by assumption) ?_
      rotate_left
      · (intro w' hSw; (try dsimp only at hSw); go_simp; try with_reducible rfl)
      try simp only [Act.put, List.setIfInBounds_toArray, List.set_cons_zero, List.set_cons_succ]
      clear HY1
      refine wpAnyH_ready (rs := [12]) (by kernel_rfl) (by simp) ?_
      refine AllReadyH.cons rfl (fun K hK => ?_) AllReadyH.nil
      go_simp
      go_at_call 17
      refine (column_any n b3 v M2 _ _ _ _ _ HOK2.out HD.out).mono ?_
      rintro _ wn ⟨y2, rfl, hy2, hkn⟩
      replace HX := Lib.hid (HX.out.kept hkn (by simp))
      replace H3 := Lib.hid (H3.out.kept hkn (by simp))
      replace H5 := Lib.hid (H5.out.kept hkn (by simp))
      replace H8 := Lib.hid (H8.out.kept hkn (by simp))
      replace HM := Lib.hid (HM.out.kept0 hkn)
      replace HT := Lib.hid (HT.out.kept0 hkn)
      replace HD := Lib.hid (HD.out.kept0 hkn)
      replace HO := Lib.hid (HO.out.kept0 hkn)
      replace K0 := Lib.hid (K0.out.trans hkn)
      obtain ⟨Y2, j2, rfl⟩ := own_n hy2
      have HY2 := Lib.hid (Reads.of_own hy2)
      clear hy2
      clear hkn
      go_wp2_with fail
      refine hK.out _ _ ?_ (fun hHeld => ?_)
      · exact ⟨H8.out.cell2, H5.out.cell2, HCO.out _ HO.out⟩
      clear hK K
      try simp only [Act.put, List.setIfInBounds_toArray, List.set_cons_zero, List.set_cons_succ]
      refine wpAnyH_ready (rs := [15]) (by kernel_rfl) (by simp) ?_
      refine AllReadyH.cons rfl (fun K hK => ?_) AllReadyH.nil
      go_simp
      go_at_call 19
      refine (row_any n b2 v M2 _ _ _ _ hv HOK2.out HT.out).mono ?_
      rintro _ wn ⟨y3, rfl, hy3, hkn⟩
      replace HX := Lib.hid (HX.out.kept hkn (by simp))
      replace H3 := Lib.hid (H3.out.kept hkn (by simp))
      replace H5 := Lib.hid (H5.out.kept hkn (by simp))
      replace H8 := Lib.hid (H8.out.kept hkn (by simp))
      replace HM := Lib.hid (HM.out.kept0 hkn)
      replace HT := Lib.hid (HT.out.kept0 hkn)
      replace HD := Lib.hid (HD.out.kept0 hkn)
      replace HO := Lib.hid (HO.out.kept0 hkn)
      replace K0 := Lib.hid (K0.out.trans hkn)
      obtain ⟨Y3, j3, rfl⟩ := own_n hy3
      have HY3 := Lib.hid (Reads.of_own hy3)
      clear hy3
      replace HY2 := Lib.hid (HY2.out.kept0 hkn)
      clear hkn
      go_wp2_with fail
      refine hK.out _ _ ?_ (fun hHeld => ?_)
      · exact ⟨H8.out.cell2, H5.out.cell2, HCO.out _ HO.out⟩
      clear hK K
      try simp only [Act.put, List.setIfInBounds_toArray, List.set_cons_zero, List.set_cons_succ]
      refine wpAnyH_ready (rs := [16]) (by kernel_rfl) (by simp) ?_
      refine AllReadyH.cons rfl (fun K hK => ?_) AllReadyH.nil
      go_simp
      go_at_call 18
      refine (sameItems_true (rowL M2 v) Y2 Y3 j2 j3 _ HRL.out HY2.out HY3.out).mono ?_
      rintro _ wn ⟨rfl, hkn⟩
      replace HX := Lib.hid (HX.out.kept hkn (by simp))
      replace H3 := Lib.hid (H3.out.kept hkn (by simp))
      replace H5 := Lib.hid (H5.out.kept hkn (by simp))
      replace H8 := Lib.hid (H8.out.kept hkn (by simp))
      replace HM := Lib.hid (HM.out.kept0 hkn)
      replace HT := Lib.hid (HT.out.kept0 hkn)
      replace HD := Lib.hid (HD.out.kept0 hkn)
      replace HO := Lib.hid (HO.out.kept0 hkn)
      replace K0 := Lib.hid (K0.out.trans hkn)
      clear HY2 HY3
      clear hkn
      go_wp2_with fail
      refine hK.out _ _ ?_ (fun hHeld => ?_)
      · exact ⟨H8.out.cell2, H5.out.cell2, HCO.out _ HO.out⟩
      clear hK K
      try simp only [Act.put, List.setIfInBounds_toArray, List.set_cons_zero, List.set_cons_succ]
      refine tkYes (i := 17) (v := ?_) rfl rfl (by kernel_rfl) (by kernel_rfl) (by kernel_rfl) (fun _ _ _ h => h) (by rfl) ?_ (by assumption) ?_
      rotate_left
      · (intro w' hSw; (try dsimp only at hSw); go_simp; try with_reducible rfl)
      try simp only [Act.put, List.setIfInBounds_toArray, List.set_cons_zero, List.set_cons_succ]
      refine tkYes (i := 18) (v := ?_) rfl rfl (by kernel_rfl) (by kernel_rfl) (by kernel_rfl) (fun _ _ _ h => h) (by rfl) ?_ (by assumption) ?_
      rotate_left
      · (intro w' hSw; (try dsimp only at hSw); go_simp; try with_reducible rfl)
      try simp only [Act.put, List.setIfInBounds_toArray, List.set_cons_zero, List.set_cons_succ]
      refine wpAnyH_done (by kernel_rfl) ?_ _
      go_wp2_with fail
      go_roundw
      case rel => exact ⟨v + 1, by omega, by go_num, HX, H3, H5, H8, HM, HT, HD, HO, K0⟩
      case measure => simp [intOf]; omega
    · obtain rfl : n = v := by omega
      have HLN := Lib.hid (show M1.length = M2.length by have := HPM.out.length_eq; rwa [List.length_map] at this)
      have HOKU := Lib.hid (show MtOk 1 [(0, 0, 4)] from ⟨by simp [RisesL], by intro e he; simp at he; subst he; decide, by decide, by decide⟩)
      clear HX H5 HT HO
      have HE2 := Lib.hid (Blk.new wr 28 [.int .i64 0, .int .i64 0, .int .i64 4])
      have KD := Lib.hid ((Kept.refl [] wr).alloc (.cells #[.int .i64 0, .int .i64 0, .int .i64 4] 28))
      have HRE := Lib.hid (show Reads (wr.alloc (.cells #[.int .i64 0, .int .i64 0, .int .i64 4] 28)) (some ⟨wr.heap.size, 0, none⟩) ([(0, 0, 4)].flatMap edV) from Reads.of_blk HE2.out (fun _ _ h => h))
      go_wp2_with fail
      refine (show Calls Try.prog 11 #[.agg #[.int .i64 1, .slice (some ⟨wr.heap.size, 0, none⟩) 1 1]] _ _ from csrGraph_any 1 [(0, 0, 4)] (some ⟨wr.heap.size, 0, none⟩) 1 _ (by decide) (by decide) HRE.out (by decide) (by intro e he; simp at he; subst he; unfold In64; decide) (by intro e he; simp at he; subst he; decide)).mono ?_
      rintro _ wt ⟨vu, rfl, a1, a2, a3, e1, hmu, hku⟩
      injection e1 with e1
      subst e1
      rw [canon_unit] at hmu
      obtain ⟨t1, x1, T2, x2, T3, x3, rfl, rfl, rfl, _, _⟩ := hmu.form
      have HU := Lib.hid hmu
      have kq := KD.out.trans hku
      replace H3 := Lib.hid (H3.out.kept kq (by simp))
      replace H8 := Lib.hid (H8.out.kept kq (by simp))
      replace HM := Lib.hid (HM.out.kept0 kq)
      replace HD := Lib.hid (HD.out.kept0 kq)
      replace K0 := Lib.hid (K0.out.trans kq)
      clear hku kq hmu HE2 KD HRE y0 hv
      generalize (wr.alloc (.cells #[.int .i64 0, .int .i64 0, .int .i64 4] 28)).heap.size = b4 at HU
      go_upto_region 14 with (first | (refine wpList_storeBlk rfl 44 (.tmp 10) (.tmp 80) rfl wt.heap.size [.int .i64 0, .int .i64 0, .slice none 0 0, .slice none 0 0, .slice none 0 0] [.int .i64 1, .int .i64 1, .slice (some ⟨t1, 0, none⟩) (1 + 1) x1, .slice T2 1 x2, .slice T3 1 x3] (Blk.new _ _ _) rfl rfl rfl infoRows (by simp [Value.oneCell']) ?_; intro wu hbu hku))
      have hkuu : Kept [] wt wu := ((Kept.refl [] wt).alloc (.cells #[.int .i64 0, .int .i64 0, .slice none 0 0, .slice none 0 0, .slice none 0 0] 44)).then hku (fun q hq => by simp at hq; subst hq; exact .inr (Nat.le_refl _))
      have H10 := Lib.hid hbu
      replace H3 := Lib.hid (H3.out.kept hkuu (by simp))
      replace H8 := Lib.hid (H8.out.kept hkuu (by simp))
      replace HM := Lib.hid (HM.out.kept0 hkuu)
      replace HD := Lib.hid (HD.out.kept0 hkuu)
      replace HU := Lib.hid (HU.out.kept0 hkuu)
      replace K0 := Lib.hid (K0.out.trans hkuu)
      clear hku hkuu hbu
      generalize wt.heap.size = g10 at H10 ⊢
      refine wp_region_held_drew (S := (fun w' => w'.rangeAt g10 0 [.int .i64 1, .int .i64 1, .slice (some ⟨t1, 0, none⟩) (1 + 1) x1, .slice T2 1 x2, .slice T3 1 x3] ∧ w'.rangeAt g8 0 [.int .i64 n, .int .i64 n, .slice D1 (atP M2).length f1, .slice (some ⟨d2, 0, none⟩) ((atP M2).length + 1) f2, .slice D3 M2.length f3, .slice D4 M2.length f4] ∧ w'.rangeAt g3 0 [.int .i64 n, .int .i64 n, .slice (some ⟨p1, 0, none⟩) (n + 1) q1, .slice P2 M1.length q2, .slice P3 M1.length q3])) (by kernel_rfl) ?_ (fun hHeld => ?_)
      · exact ⟨H10.out.cell2, H8.out.cell2, H3.out.cell2⟩
      have kz := (Kept.refl [] wu).drew
      replace H3 := Lib.hid (H3.out.kept kz (by simp))
      replace H8 := Lib.hid (H8.out.kept kz (by simp))
      replace H10 := Lib.hid (H10.out.kept kz (by simp))
      replace HM := Lib.hid (HM.out.kept0 kz)
      replace HD := Lib.hid (HD.out.kept0 kz)
      replace HU := Lib.hid (HU.out.kept0 kz)
      replace K0 := Lib.hid (K0.out.trans kz)
      clear kz
      generalize wu.drew = wz at *
      refine tkLoad (i := 0) 44 (.tmp 10) g10 (0) [.int .i64 1, .int .i64 1, .slice (some ⟨t1, 0, none⟩) (1 + 1) x1, .slice T2 1 x2, .slice T3 1 x3] _ rfl rfl (by kernel_rfl) (by kernel_rfl) (by kernel_rfl) (fun _ _ _ h => h) (by rfl) rfl rfl (fun w hw => hw.1) Try.underlying44 rfl infoRows (by assumption) ?_
      try simp only [Act.put, List.setIfInBounds_toArray, List.set_cons_zero, List.set_cons_succ]
      refine wpAnyH_ready (rs := [1]) (by kernel_rfl) (by simp) ?_
      refine AllReadyH.cons rfl (fun K hK => ?_) AllReadyH.nil
      go_simp
      go_at_call 20
      refine (show Calls Try.prog 20 #[.agg #[.int .i64 1, .int .i64 1, .slice (some ⟨t1, 0, none⟩) (1 + 1) x1, .slice T2 1 x2, .slice T3 1 x3]] wz (fun e w' => e = .returned (.int .i64 1) ∧ Kept [] wz w') from count_any 1 b4 [(0, 0, 4)] _ _ _ wz HOKU.out HU.out).mono ?_
      rintro _ wn ⟨rfl, hkn⟩
      replace H3 := Lib.hid (H3.out.kept hkn (by simp))
      replace H8 := Lib.hid (H8.out.kept hkn (by simp))
      replace H10 := Lib.hid (H10.out.kept hkn (by simp))
      replace HM := Lib.hid (HM.out.kept0 hkn)
      replace HD := Lib.hid (HD.out.kept0 hkn)
      replace HU := Lib.hid (HU.out.kept0 hkn)
      replace K0 := Lib.hid (K0.out.trans hkn)
      clear HU
      clear hkn
      go_wp2_with fail
      refine hK.out _ _ ?_ (fun hHeld => ?_)
      · exact ⟨H10.out.cell2, H8.out.cell2, H3.out.cell2⟩
      clear hK K
      try simp only [Act.put, List.setIfInBounds_toArray, List.set_cons_zero, List.set_cons_succ]
      refine tkYes (i := 2) (v := ?_) rfl rfl (by kernel_rfl) (by kernel_rfl) (by kernel_rfl) (fun _ _ _ h => h) (by rfl) ?_ (by assumption) ?_
      rotate_left
      · (intro w' hSw; (try dsimp only at hSw); go_simp; try with_reducible rfl)
      try simp only [Act.put, List.setIfInBounds_toArray, List.set_cons_zero, List.set_cons_succ]
      refine tkYes (i := 3) (v := ?_) rfl rfl (by kernel_rfl) (by kernel_rfl) (by kernel_rfl) (fun _ _ _ h => h) (by rfl) ?_ (by assumption) ?_
      rotate_left
      · (intro w' hSw; (try dsimp only at hSw); go_simp; try with_reducible rfl)
      try simp only [Act.put, List.setIfInBounds_toArray, List.set_cons_zero, List.set_cons_succ]
      refine tkLoad (i := 4) 49 (.tmp 8) g8 (0) [.int .i64 n, .int .i64 n, .slice D1 (atP M2).length f1, .slice (some ⟨d2, 0, none⟩) ((atP M2).length + 1) f2, .slice D3 M2.length f3, .slice D4 M2.length f4] _ rfl rfl (by kernel_rfl) (by kernel_rfl) (by kernel_rfl) (fun _ _ _ h => h) (by rfl) rfl rfl (fun w hw => hw.2.1) Try.underlying49 rfl infoCols (by assumption) ?_
      try simp only [Act.put, List.setIfInBounds_toArray, List.set_cons_zero, List.set_cons_succ]
      refine tkLoad (i := 6) 44 (.tmp 3) g3 (0) [.int .i64 n, .int .i64 n, .slice (some ⟨p1, 0, none⟩) (n + 1) q1, .slice P2 M1.length q2, .slice P3 M1.length q3] _ rfl rfl (by kernel_rfl) (by kernel_rfl) (by kernel_rfl) (fun _ _ _ h => h) (by rfl) rfl rfl (fun w hw => hw.2.2) Try.underlying44 rfl infoRows (by assumption) ?_
      try simp only [Act.put, List.setIfInBounds_toArray, List.set_cons_zero, List.set_cons_succ]
      refine wpAnyH_ready (rs := [5]) (by kernel_rfl) (by simp) ?_
      refine AllReadyH.cons rfl (fun K hK => ?_) AllReadyH.nil
      go_simp
      go_at_call 21
      refine (countD_any n b3 M2 _ _ _ _ _ HOK2.out HD.out).mono ?_
      rintro _ wn ⟨rfl, hkn⟩
      replace H3 := Lib.hid (H3.out.kept hkn (by simp))
      replace H8 := Lib.hid (H8.out.kept hkn (by simp))
      replace H10 := Lib.hid (H10.out.kept hkn (by simp))
      replace HM := Lib.hid (HM.out.kept0 hkn)
      replace HD := Lib.hid (HD.out.kept0 hkn)
      replace K0 := Lib.hid (K0.out.trans hkn)
      clear hkn
      go_wp2_with fail
      refine hK.out _ _ ?_ (fun hHeld => ?_)
      · exact ⟨H10.out.cell2, H8.out.cell2, H3.out.cell2⟩
      clear hK K
      try simp only [Act.put, List.setIfInBounds_toArray, List.set_cons_zero, List.set_cons_succ]
      refine wpAnyH_ready (rs := [7]) (by kernel_rfl) (by simp) ?_
      refine AllReadyH.cons rfl (fun K hK => ?_) AllReadyH.nil
      go_simp
      go_at_call 20
      refine ((count_any n b1 M1 _ _ _ _ HOK1.out HM.out).mono (R' := fun e w' => e = .returned (.int .i64 (M2.length : Int)) ∧ Kept [] _ w') (by rintro e w' ⟨rfl, h⟩; exact ⟨by rw [HLN.out], h⟩)).mono ?_
      rintro _ wn ⟨rfl, hkn⟩
      replace H3 := Lib.hid (H3.out.kept hkn (by simp))
      replace H8 := Lib.hid (H8.out.kept hkn (by simp))
      replace H10 := Lib.hid (H10.out.kept hkn (by simp))
      replace HM := Lib.hid (HM.out.kept0 hkn)
      replace HD := Lib.hid (HD.out.kept0 hkn)
      replace K0 := Lib.hid (K0.out.trans hkn)
      clear hkn
      go_wp2_with fail
      refine hK.out _ _ ?_ (fun hHeld => ?_)
      · exact ⟨H10.out.cell2, H8.out.cell2, H3.out.cell2⟩
      clear hK K
      try simp only [Act.put, List.setIfInBounds_toArray, List.set_cons_zero, List.set_cons_succ]
      refine tkYes (i := 8) (v := ?_) rfl rfl (by kernel_rfl) (by kernel_rfl) (by kernel_rfl) (fun _ _ _ h => h) (by rfl) ?_ (by assumption) ?_
      rotate_left
      · (intro w' hSw; (try dsimp only at hSw); go_simp; try with_reducible rfl)
      try simp only [Act.put, List.setIfInBounds_toArray, List.set_cons_zero, List.set_cons_succ]
      refine tkYes (i := 9) (v := ?_) rfl rfl (by kernel_rfl) (by kernel_rfl) (by kernel_rfl) (fun _ _ _ h => h) (by rfl) ?_ (by assumption) ?_
      rotate_left
      · (intro w' hSw; (try dsimp only at hSw); go_simp; try with_reducible rfl)
      try simp only [Act.put, List.setIfInBounds_toArray, List.set_cons_zero, List.set_cons_succ]
      refine tkYes (i := 10) (v := ?_) rfl rfl (by kernel_rfl) (by kernel_rfl) (by kernel_rfl) (fun _ _ _ h => h) (by rfl) ?_ (by assumption) ?_
      rotate_left
      · (intro w' hSw; (try dsimp only at hSw); go_simp; try with_reducible rfl)
      try simp only [Act.put, List.setIfInBounds_toArray, List.set_cons_zero, List.set_cons_succ]
      refine wpAnyH_done (by kernel_rfl) ?_ _
      go_wp2_with fail
      go_ret
      exact ⟨rfl, K0.out⟩

set_option maxRecDepth 100000 in
theorem topTurned_lifted (os : Os) (started : os.Started) (H : Type) (enc : TypeId × Value → H) :
    ReturnsInHanded {} Try.checked os 4 .any (Rows.topTurnedSpec.pre6 enc Try.prog Try.f4 Rows.topTurnedRow.domain false) (Rows.topTurnedSpec.post enc Try.prog Try.f4 false true false false) := by
  refine returnsInHanded_of_change (C := Try.checked) own started (by kernel_rfl) Try.func4
    (ChangeSpec.witness6 (enc := enc) (C := Try.checked) false ⟨#[], #[.agg #[.int .i64 0, .slice none 0 0]], []⟩ 8 (by kernel_rfl) (by kernel_rfl) (by kernel_rfl) (by kernel_rfl)) ?_
  intro W base args ds gs before hval0 hW hcnd _
  have hval : ∀ (j : Nat) t v, Try.f4.params[j]? = some t → args[j]? = some v → Value.okWide Try.prog W .any base t v := hval0
  have hW' := hW
  obtain ⟨p, q, hA0, hV, rfl, hfz, hnd⟩ := hW
  have hA : DataW.TrodAll enc Try.prog W 0 (fun _ => true) true Try.f4.params.toList args.toList ds p := hA0
  rw [Try.params4] at hA hval
  obtain ⟨v0, vs0, d0, ds0, p0, q0, hargs, rfl, rfl, h0, r0⟩ := trodAll_cons hA
  obtain ⟨rfl, rfl, rfl⟩ := trodAll_nil r0
  obtain rfl : args = #[v0] := by cases args; simp_all
  obtain ⟨rfl, rfl⟩ := trodVars_none hV
  obtain ⟨n, A, c, l, rfl, l1, l2, hAr, hv, _⟩ := open_graph (hval 0 24 v0 rfl rfl) h0
  refine (topTurned_walk n l A c W hAr (Nat.le_trans l1 l2)).mono fun e W' ⟨he, hk⟩ => ?_
  exact ⟨_, he, post_true rfl Try.underlying4 rfl rfl rfl rfl laidOut (by decide +kernel) hW' hk⟩

theorem topTurned_holds : Rows.TopTurnedSaid :=
  OpenClaim.holds_of_wide 4 Try.f4 rfl rfl rfl rfl rfl rfl rfl ⟨rfl, rfl, rfl, rfl, rfl⟩ rfl rfl rfl rfl rfl (by kernel_rfl) Try.func4 (by kernel_rfl)
    (of_decide_eq_true (by kernel_rfl)) (by unfold Func.isWrapper; first | (rw [if_pos (by decide +kernel)]; kernel_rfl) | (rw [if_neg (by decide +kernel)]; exact ⟨rfl, rfl⟩))
    (fun os started H enc _ => topTurned_lifted os started H enc)
end Go.Proofs.Ytibjpjpbmkdddaa
