/- csr.order, the library's sort of triples, csr.Turn. -/
import Derived.Test.YtibjpjpbmkdddaaC6
import Derived.Test.YtibjpjpbmkdddaaE13
import Derived.Test.YtibjpjpbmkdddaaE10
namespace Go.Proofs
open Go.Shelf
def Try.laysSortT_ren : Go.Shelf.Ren := ⟨fun | 6 => 59 | 15 => 105 | 14 => 104 | 28 => 131 | 29 => 132 | 20 => 123 | 21 => 124 | 22 => 125 | 23 => 126 | 24 => 127 | 25 => 128 | 26 => 129 | 27 => 130 | 46 => 147 | 47 => 148 | 48 => 149 | 49 => 150 | 50 => 151 | 57 => 156 | n => n, fun | 22 => 26 | 24 => 30 | 25 => 72 | 3 => 3 | 39 => 154 | 0 => 0 | 53 => 133 | 55 => 122 | 4 => 4 | 46 => 176 | 45 => 175 | 50 => 180 | 5 => 5 | 9 => 9 | 66 => 193 | 70 => 197 | 76 => 202 | 77 => 203 | n => n, fun | n => n⟩
theorem Try.laysSortT : Go.Proofs.SlLaysF0.n6 Try.prog Try.laysSortT_ren := {
  mixed := by kernel_rfl,
  f6 := ⟨Try.f59.name, by decide, Try.func59.trans (congrArg some (by kernel_rfl))⟩,
  f14 := ⟨Try.f104.name, by decide, Try.func104.trans (congrArg some (by kernel_rfl))⟩,
  f15 := Try.func105.trans (congrArg some (by kernel_rfl)),
  f20 := ⟨Try.f123.name, by decide, Try.func123.trans (congrArg some (by kernel_rfl))⟩,
  f21 := ⟨Try.f124.name, by decide, Try.func124.trans (congrArg some (by kernel_rfl))⟩,
  f22 := ⟨Try.f125.name, by decide, Try.func125.trans (congrArg some (by kernel_rfl))⟩,
  f23 := ⟨Try.f126.name, by decide, Try.func126.trans (congrArg some (by kernel_rfl))⟩,
  f24 := ⟨Try.f127.name, by decide, Try.func127.trans (congrArg some (by kernel_rfl))⟩,
  f25 := ⟨Try.f128.name, by decide, Try.func128.trans (congrArg some (by kernel_rfl))⟩,
  f26 := ⟨Try.f129.name, by decide, Try.func129.trans (congrArg some (by kernel_rfl))⟩,
  f27 := ⟨Try.f130.name, by decide, Try.func130.trans (congrArg some (by kernel_rfl))⟩,
  f28 := Try.func131.trans (congrArg some (by kernel_rfl)),
  f29 := Try.func132.trans (congrArg some (by kernel_rfl)),
  f46 := ⟨Try.f147.name, by decide, Try.func147.trans (congrArg some (by kernel_rfl))⟩,
  f47 := Try.func148.trans (congrArg some (by kernel_rfl)),
  f48 := Try.func149.trans (congrArg some (by kernel_rfl)),
  f49 := ⟨Try.f150.name, by decide, Try.func150.trans (congrArg some (by kernel_rfl))⟩,
  f50 := ⟨Try.f151.name, by decide, Try.func151.trans (congrArg some (by kernel_rfl))⟩,
  f57 := ⟨Try.f156.name, by decide, Try.func156.trans (congrArg some (by kernel_rfl))⟩,
  t0 := Try.underlying0,
  a0 := Try.isAgg0,
  z0 := Try.sizeOf0,
  v0 := Try.zeroValue0,
  t3 := Try.underlying3,
  a3 := Try.isAgg3,
  z3 := Try.sizeOf3,
  v3 := Try.zeroValue3,
  t4 := Try.underlying4,
  a4 := Try.isAgg4,
  z4 := Try.sizeOf4,
  v4 := Try.zeroValue4,
  t5 := Try.underlying5,
  a5 := Try.isAgg5,
  z5 := Try.sizeOf5,
  v5 := Try.zeroValue5,
  t9 := Try.underlying9,
  a9 := Try.isAgg9,
  z9 := Try.sizeOf9,
  v9 := Try.zeroValue9,
  t22 := Try.underlying26,
  a22 := Try.isAgg26,
  z22 := Try.sizeOf26,
  v22 := Try.zeroValue26,
  t25 := Try.underlying72,
  a25 := Try.isAgg72,
  z25 := Try.sizeOf72,
  v25 := Try.zeroValue72,
  t39 := Try.underlying154,
  a39 := Try.isAgg154,
  z39 := Try.sizeOf154,
  v39 := Try.zeroValue154,
  t45 := Try.underlying175,
  a45 := Try.isAgg175,
  z45 := Try.sizeOf175,
  v45 := Try.zeroValue175,
  t46 := Try.underlying176,
  a46 := Try.isAgg176,
  z46 := Try.sizeOf176,
  v46 := Try.zeroValue176,
  t50 := Try.underlying180,
  a50 := Try.isAgg180,
  z50 := Try.sizeOf180,
  v50 := Try.zeroValue180,
  t53 := Try.underlying133,
  a53 := Try.isAgg133,
  z53 := Try.sizeOf133,
  v53 := Try.zeroValue133,
  t55 := Try.underlying122,
  a55 := Try.isAgg122,
  z55 := Try.sizeOf122,
  v55 := Try.zeroValue122,
  t66 := Try.underlying193,
  a66 := Try.isAgg193,
  z66 := Try.sizeOf193,
  v66 := Try.zeroValue193,
  t70 := Try.underlying197,
  a70 := Try.isAgg197,
  z70 := Try.sizeOf197,
  v70 := Try.zeroValue197,
  t76 := Try.underlying202,
  a76 := Try.isAgg202,
  z76 := Try.sizeOf202,
  v76 := Try.zeroValue202,
  t77 := Try.underlying203,
  a77 := Try.isAgg203,
  z77 := Try.sizeOf203,
  v77 := Try.zeroValue203 }
end Go.Proofs
namespace Go.Proofs.Ytibjpjpbmkdddaa
set_option linter.unusedSimpArgs false
set_option linter.unusedVariables false
open Go.ChangeShapes Go.WideShapes Go.ChangeAt Go.RowKit
open Go.RowKit (wrap32 wrap64)
set_option maxHeartbeats 8000000

open Go.Sort (Holds putRow putCells mapBlock onCells grow flatK size_flatK get_flatK HoldsK putRowK)
open Go.Shelf
set_option maxRecDepth 100000 in
theorem orderT_any (a b : Ed) (w : World) :
    Calls Try.prog 60 #[.agg (edV a).toArray, .agg (edV b).toArray] w fun e w' => e = .returned (.int .i64 (endsI a b)) ∧ Grown w w' := by
  obtain ⟨a1, a2, a3⟩ := a
  obtain ⟨b1, b2, b3⟩ := b
  have HX := Lib.hid ((Blk.new w 30 (edV (a1, a2, a3))).alloc (.cells (edV (b1, b2, b3)).toArray 30))
  have HY := Lib.hid (Blk.new1F w (.cells (edV (a1, a2, a3)).toArray 30) 30 (edV (b1, b2, b3)))
  have G := Lib.hid (((Grown.refl w).alloc (.cells (edV (a1, a2, a3)).toArray 30)).alloc (.cells (edV (b1, b2, b3)).toArray 30))
  go_enter Try.func60, Try.ntmps60
  go_upto_region 1 with (fail)
  refine wp_region_still_tail 10 (by kernel_rfl) (by kernel_rfl) ?_
  simp only [List.take_succ_cons, List.take_zero, List.drop_succ_cons, List.drop_zero]
  change wpStill _ _ (World.drew ((w.alloc (.cells (edV (a1, a2, a3)).toArray 30)).alloc (.cells (edV (b1, b2, b3)).toArray 30))) (fun a' => wpList _ _ _ _ a' (World.drew ((w.alloc (.cells (edV (a1, a2, a3)).toArray 30)).alloc (.cells (edV (b1, b2, b3)).toArray 30)))) _ _
  replace HX := Lib.hid HX.out.drew
  replace HY := Lib.hid HY.out.drew
  replace G := Lib.hid G.out.drew
  generalize World.drew ((w.alloc (.cells (edV (a1, a2, a3)).toArray 30)).alloc (.cells (edV (b1, b2, b3)).toArray 30)) = w2 at *
  generalize w.heap.size + 1 = g2 at HY ⊢
  generalize w.heap.size = g1 at HX ⊢
  have x0 := HX.out.cell 0
  have x1 := HX.out.cell 1
  have y0 := HY.out.cell 0
  have y1 := HY.out.cell 1
  simp only [edV, List.getElem?_cons_zero, List.getElem?_cons_succ] at x0 x1 y0 y1
  repeat still_step
  still_call (compare_int a1 b1 _)
  repeat still_step
  still_call (compare_int a2 b2 _)
  refine wpStill_nil ?_
  clear x0 x1 y0 y1
  have HO := Lib.hid (Blk.new w2 3 [.int .i64 (cmpI a1 b1), .int .i64 (cmpI a2 b2)])
  go_wp2_with fail
  refine (or2_any (cmpI a1 b1) (cmpI a2 b2) _ _ _ HO.out).mono ?_
  rintro _ w3 ⟨rfl, rfl⟩
  go_wp2_with fail
  go_ret
  exact ⟨rfl, G.out.alloc _⟩

theorem ltEnds (a b : Ed) : ltOf endsI a b = decide (a.1 < b.1 ∨ (a.1 = b.1 ∧ a.2.1 < b.2.1)) := by
  unfold ltOf
  exact decide_eq_decide.2 (endsI_neg a b)
theorem swoEnds : Go.Sort.SWO (ltOf endsI) where
  irrefl x := by rw [ltEnds]; simp
  trans x y z h1 h2 := by rw [ltEnds] at *; simp only [decide_eq_true_eq] at *; omega
  ntrans x y z h1 h2 := by rw [ltEnds] at *; simp only [decide_eq_false_iff_not] at *; omega
theorem risesL_nodup {l : List Ed} (h : RisesL l) : (l.map keyOf).Nodup := by
  rw [List.Nodup, List.pairwise_map]
  refine List.Pairwise.imp ?_ h
  intro a b hab he
  rw [he] at hab
  simp [keyLt] at hab
theorem rises_of_sorted {d l' : List Ed} (hp : d.Perm l') (hr : RisesL l') (hs : ∀ i j (hij : i < j) (hj : j < d.length), ltOf endsI d[j] (d[i]'(by omega)) = false) : d = l' := by
  have hnd : (d.map keyOf).Nodup := (hp.map keyOf).nodup_iff.2 (risesL_nodup hr)
  refine risesL_ext (List.pairwise_iff_getElem.2 (fun i j hi hj hij => ?_)) hr (fun x => hp.mem_iff)
  have h1 := hs i j hij hj
  have h2 := (List.pairwise_iff_getElem.1 hnd) i j (by simpa using hi) (by simpa using hj) hij
  rw [ltEnds, decide_eq_false_iff_not] at h1
  rw [List.getElem_map, List.getElem_map] at h2
  have h3 : ¬ (d[i].1 = d[j].1 ∧ d[i].2.1 = d[j].2.1) := fun h => h2 (Prod.ext h.1 h.2)
  show decide (d[i].1 < d[j].1 ∨ (d[i].1 = d[j].1 ∧ d[i].2.1 < d[j].2.1)) = true
  rw [decide_eq_true_eq]
  omega
theorem sortT_any (l l' : List Ed) (n base : Nat) (v : Value) (w : World) (hn : l.length = n) (h : w.ownsRow base 30 3 v n (l.flatMap edV)) (hl : n ≤ 1048576) (hp : l.Perm l') (hr : RisesL l') :
    Calls Try.prog 59 #[v, .func (.func 60) #[] #[]] w fun e w' => e = .returned (.tuple #[]) ∧ w'.ownsRow base 30 3 v n (l'.flatMap edV) ∧ Kept v.ownBlock.toList w w' := by
  rcases Nat.eq_zero_or_pos n with h0 | h0
  · subst h0
    obtain rfl : l = [] := List.eq_nil_of_length_eq_zero hn
    obtain rfl : l' = [] := List.eq_nil_of_length_eq_zero hp.length_eq.symm
    obtain ⟨A, c, rfl⟩ := own_n h
    refine (show Calls Try.prog 59 _ _ _ from AnyF.slices_SortFunc_none { Try.laysSortT with } A c _ w).mono ?_
    rintro e w' ⟨rfl, rfl⟩
    exact ⟨rfl, by simpa using h, Kept.refl _ _⟩
  · obtain ⟨g, cap, rfl, hb, hlt, hc, hm, hH⟩ := own_down h h0
    have hf : flatK edV 3 l.toArray = (l.flatMap edV).toArray := flatK_eq edV 3 (by decide) (fun _ => rfl) l.toArray
    have hf2 : flatK edV 3 l'.toArray = (l'.flatMap edV).toArray := flatK_eq edV 3 (by decide) (fun _ => rfl) l'.toArray
    have eg : ∀ args w, (callFunc 60 args).run Try.prog w = .ok (.enter 60 args) w := enters_of Try.func60 (by kernel_rfl) rfl
    have hcon := AnyQ.slices_SortFunc Try.laysSortT 3 Try.isAgg30 Try.sizeOf30 edV (fun _ => rfl) (fun x v hv => by simp [edV] at hv; rcases hv with rfl | rfl | rfl <;> rfl) endsI swoEnds 60 #[] g 0 cap l.toArray w eg
      (fun m os dk _ x y => orderT_any x y _) (by unfold HoldsK; rw [hf]; exact hH) hlt (by simp; omega)
    rw [show l.toArray.size = n by simpa using hn] at hcon
    refine (show Calls Try.prog 59 _ _ _ from hcon).mono ?_
    rintro e w' ⟨rfl, d, q, os, hpd, hsd, rfl⟩
    have hds : d.size = n := by rw [hpd.1]; simpa using hn
    have hdp : d.toList.Perm l := by
      have h3 := hpd.2.2
      rw [Array.toList_extract, Array.toList_extract] at h3
      simpa [List.extract, List.take_of_length_le, hds, hn] using h3
    have hdl : d.toList = l' := rises_of_sorted (hdp.trans hp) hr (fun i j hij hj => by
      have hj' : j < d.size := by simpa using hj
      have h4 := hsd i j (Nat.zero_le _) hij (by omega)
      rw [getElem!_pos d j hj', getElem!_pos d i (by omega)] at h4
      simpa using h4)
    have hd : d = l'.toArray := by rw [← hdl]
    subst hd
    have hlen : (l'.flatMap edV).length = (l.flatMap edV).length := by
      rw [flatMap_length _ _ 3 (fun _ _ => rfl), flatMap_length _ _ 3 (fun _ _ => rfl), hp.length_eq]
    have hk1 := kept_putRow id w q g 0 (l'.flatMap edV).toArray
    have hk2 : Kept [] (putRow id (Go.Sort.ahead w q) g 0 (l'.flatMap edV).toArray) (grow (putRow id (Go.Sort.ahead w q) g 0 (l'.flatMap edV).toArray) os) := (show Grown _ _ from ⟨0, os, rfl⟩).kept
    unfold sortWorldK putRowK
    rw [hf2]
    exact ⟨rfl, own_kept0 (own_up h hlen) hk2, by simpa [Value.ownBlock] using hk1.trans (hk2.mono (by simp))⟩

theorem infoTriple : (Try.prog.info? 30).map (·.size) = some 3 := by kernel_rfl
/-- The triples, the first k of them turned. -/
def mixT (l : List Ed) (k : Nat) : List Ed := (l.take k).map turnE ++ l.drop k
theorem mixT_zero (l : List Ed) : mixT l 0 = l := by simp [mixT]
theorem mixT_end (l : List Ed) : mixT l l.length = l.map turnE := by simp [mixT]
theorem mixT_length (l : List Ed) {k : Nat} (h : k ≤ l.length) : (mixT l k).length = l.length := by simp [mixT]; omega
theorem mixT_at (l : List Ed) {k : Nat} (h : k < l.length) : (mixT l k)[k]'(by rw [mixT_length l (by omega)]; exact h) = l[k] := by
  simp [mixT, List.getElem_append, List.length_take, Nat.min_eq_left (Nat.le_of_lt h)]
theorem mixT_succ (l : List Ed) {k : Nat} (h : k < l.length) : mixT l (k + 1) = (mixT l k).set k (turnE l[k]) := by
  unfold mixT
  rw [List.take_succ_eq_append_getElem h, List.map_append, List.set_append]
  rw [if_neg (by simp; omega)]
  simp [Nat.min_eq_left (Nat.le_of_lt h)]
  rw [List.drop_eq_getElem_cons h]
  rfl
set_option maxRecDepth 100000 in
theorem turn_any (n base : Nat) (l l' : List Ed) (v1 v2 v3 : Value) (w : World) (hok : MtOk n l) (hok' : MtOk n l') (hp : (l.map turnE).Perm l') (hm : MtAt w base v1 v2 v3 n l) :
    Calls Try.prog 16 #[.agg #[.int .i64 n, .int .i64 n, v1, v2, v3]] w (MtPost w n n l') := by
  obtain ⟨b1, c1, A2, c2, A3, c3, rfl, rfl, rfl, _, _⟩ := hm.form
  have HX := Lib.hid ((Blk.new w 44 [.int .i64 n, .int .i64 n, .slice (some ⟨b1, 0, none⟩) (n + 1) c1, .slice A2 l.length c2, .slice A3 l.length c3]).alloc (.cells #[.int .i64 0, .int .i64 0, .slice none 0 0, .slice none 0 0, .slice none 0 0] 44))
  have HZ := Lib.hid (Blk.new1F w (.cells #[.int .i64 n, .int .i64 n, .slice (some ⟨b1, 0, none⟩) (n + 1) c1, .slice A2 l.length c2, .slice A3 l.length c3] 44) 44 [.int .i64 0, .int .i64 0, .slice none 0 0, .slice none 0 0, .slice none 0 0])
  have K0 := Lib.hid (((Kept.refl [] w).alloc (.cells #[.int .i64 n, .int .i64 n, .slice (some ⟨b1, 0, none⟩) (n + 1) c1, .slice A2 l.length c2, .slice A3 l.length c3] 44)).alloc (.cells #[.int .i64 0, .int .i64 0, .slice none 0 0, .slice none 0 0, .slice none 0 0] 44))
  have HM := Lib.hid (hm.kept0 K0.out)
  have HOK := Lib.hid hok
  have HOK' := Lib.hid hok'
  have HPM := Lib.hid hp
  have hll := hok.len
  have HGZ := Lib.hid (show w.heap.size ≤ w.heap.size + 1 ∧ w.heap.size + 1 ≠ w.heap.size by omega)
  have HGX := Lib.hid (show w.heap.size ≤ w.heap.size from Nat.le_refl _)
  obtain ⟨post, hpost⟩ : ∃ post : Ending → World → Prop, post = MtPost w n n l' := ⟨_, rfl⟩
  rw [← hpost]
  have HPOST := Lib.hid hpost
  clear hpost hm hok hok' hp
  go_enter Try.func16, Try.ntmps16
  go_upto_region 1 with (fail)
  generalize ((w.alloc (.cells #[.int .i64 n, .int .i64 n, .slice (some ⟨b1, 0, none⟩) (n + 1) c1, .slice A2 l.length c2, .slice A3 l.length c3] 44)).alloc (.cells #[.int .i64 0, .int .i64 0, .slice none 0 0, .slice none 0 0, .slice none 0 0] 44)) = w1 at *
  generalize w.heap.size + 1 = gz at HZ HGZ ⊢
  generalize hgq : w.heap.size = g1 at HX ⊢
  rw [hgq] at HGX
  have HGE := Lib.hid (show w.heap.size ≤ g1 by omega)
  have HNE := Lib.hid (show gz ≠ g1 by have := HGZ.out.2; omega)
  clear hgq HGX
  go_wp2_with (first | (refine wpList_loadBlk rfl 44 (.tmp 1) rfl g1 [.int .i64 n, .int .i64 n, .slice (some ⟨b1, 0, none⟩) (n + 1) c1, .slice A2 l.length c2, .slice A3 l.length c3] _ HX.out rfl Try.underlying44 rfl infoRows ?_))
  refine (sure_same n base l _ _ _ w1 HOK.out HM.out).mono ?_
  rintro _ w2 ⟨rfl, hk2⟩
  replace HX := Lib.hid (HX.out.kept hk2 (by simp))
  replace HZ := Lib.hid (HZ.out.kept hk2 (by simp))
  replace HM := Lib.hid (HM.out.kept0 hk2)
  replace K0 := Lib.hid (K0.out.trans hk2)
  clear hk2
  go_upto_region 2 with (first | (refine wpList_storeBlk rfl 44 (.tmp 1) (.tmp 7) rfl g1 _ [.int .i64 n, .int .i64 n, .slice (some ⟨b1, 0, none⟩) (n + 1) c1, .slice A2 l.length c2, .slice A3 l.length c3] HX.out rfl rfl rfl infoRows (by simp [Value.oneCell']) ?_; intro w3 hb3 hk3))
  have f8 : KeptB w.heap.size [44] w2 w3 := (KeptB.refl _ _ w2).step (L := [g1]) hk3 (fun u hu => by simp at hu; subst hu; exact ⟨HGE.out, _, _, _, HX.out, by simp⟩)
  replace HM := Lib.hid (HM.out.keptB f8 (by decide) (by decide))
  replace HZ := Lib.hid (HZ.out.kept hk3 (by simp; exact HNE.out))
  replace K0 := Lib.hid (K0.out.thenB f8 (Nat.le_refl _))
  replace HX := Lib.hid hb3
  clear f8 hb3 hk3
  go_wp2_with (first | (refine wpList_loadBlk rfl 44 (.tmp 1) rfl g1 [.int .i64 n, .int .i64 n, .slice (some ⟨b1, 0, none⟩) (n + 1) c1, .slice A2 l.length c2, .slice A3 l.length c3] _ HX.out rfl Try.underlying44 rfl infoRows ?_))
  refine (triples_any n base l _ _ _ w3 HOK.out HM.out).mono ?_
  rintro _ w4 ⟨v5, rfl, ho5, hk4⟩
  obtain ⟨A5, c5, rfl⟩ := own_n ho5
  have HO := Lib.hid (own_le (base' := w.heap.size) ho5 K0.out.size)
  replace HX := Lib.hid (HX.out.kept hk4 (by simp))
  replace HZ := Lib.hid (HZ.out.kept hk4 (by simp))
  replace K0 := Lib.hid (K0.out.trans hk4)
  clear ho5 hk4 HM
  go_wp2_with fail
  go_loopw [12] (fun x wr => ∃ k : Nat, k ≤ l.length ∧ x = .int .i64 k ∧ Hid (wr.ownsRow w.heap.size 30 3 (.slice A5 l.length c5) l.length ((mixT l k).flatMap edV)) ∧ Hid (Blk wr g1 44 [.int .i64 n, .int .i64 n, .slice (some ⟨b1, 0, none⟩) (n + 1) c1, .slice A2 l.length c2, .slice A3 l.length c3]) ∧ Hid (Blk wr gz 44 [.int .i64 0, .int .i64 0, .slice none 0 0, .slice none 0 0, .slice none 0 0]) ∧ Hid (Kept [] w wr)) (fun x _ => l.length - (intOf x).toNat)
  case atStart => exact ⟨0, Nat.zero_le _, rfl, Lib.hid (by rw [mixT_zero]; exact HO.out), HX, HZ, K0⟩
  case round =>
    clear HX HZ K0 HO
    obtain ⟨k, hk, rfl, HO, HX, HZ, K0⟩ := hrel
    by_cases hlt : k < l.length
    · have HSU := Lib.hid (mixT_succ l hlt)
      have hml := mixT_length l hk
      obtain ⟨b, off, rfl, hbl, c0, c1', c2'⟩ := edge_at (Reads.of_own HO.out) (show k < (mixT l k).length by omega)
      obtain ⟨_, _, e0, _, _, _, hfo⟩ := own_form HO.out
      obtain ⟨g5, hg5, _, hg5l⟩ := hfo _ (by injection e0 with e0; exact e0.symm)
      injection hg5 with hq1 hq2
      subst hq1 hq2
      clear e0 hfo
      rw [mixT_at l hlt] at c0 c1' c2'
      obtain ⟨x, hx⟩ : ∃ x, x = l[k] := ⟨_, rfl⟩
      rw [← hx] at c0 c1' c2' HSU
      clear hx
      obtain ⟨x1, x2, x3⟩ := x
      dsimp only [turnE] at c0 c1' c2' HSU
      rw [Nat.zero_add] at c0 c1' c2'
      go_upto_region 6 with (fail)
      have kd := Lib.hid ((Kept.refl [] wr).alloc (.cells #[.int .i64 x1, .int .i64 x2, .int .i64 x3] 30))
      have HE := Lib.hid (Blk.new wr 30 [.int .i64 x1, .int .i64 x2, .int .i64 x3])
      replace HO := Lib.hid (own_kept0 HO.out kd.out)
      replace HX := Lib.hid (HX.out.kept kd.out (by simp))
      replace HZ := Lib.hid (HZ.out.kept kd.out (by simp))
      replace K0 := Lib.hid (K0.out.trans kd.out)
      clear kd c0 c1' c2' hbl hg5l
      generalize wr.alloc (.cells #[.int .i64 x1, .int .i64 x2, .int .i64 x3] 30) = w5 at *
      generalize wr.heap.size = ge at HE ⊢
      have e0 := HE.out.cell 0
      have e1 := HE.out.cell 1
      have e2 := HE.out.cell 2
      simp only [List.getElem?_cons_zero, List.getElem?_cons_succ] at e0 e1 e2
      have HST := Lib.hid (own_setRec (f := edV) (k := 3) (fun _ => rfl) HO.out hml k hlt (x2, x1, x3))
      clear hml
      go_wp2_with (first | (refine wpList_store_mid rfl 30 (.tmp 26) (.tmp 25) rfl b (k * 3) (edV (x2, x1, x3)).toArray rfl rfl HST.out.2.2 infoTriple (by simp [edV, Value.oneCell']) ?_))
      obtain ⟨ho6, hk6, _⟩ := HST.out
      rw [← HSU.out] at ho6
      have Fa := Lib.hid ((KeptB.refl w.heap.size [30] w5).app (v := .slice (some ⟨b, 0, none⟩) l.length c5) (show Kept [b] _ _ from hk6) HO.out (by decide))
      go_wp2_with fail
      go_roundw
      case rel => exact ⟨k + 1, by omega, by go_num, Lib.hid ho6, Lib.hid (HX.out.keptB Fa.out (by decide)), Lib.hid (HZ.out.keptB Fa.out (by decide)), Lib.hid (K0.out.thenB Fa.out (Nat.le_refl _))⟩
      case measure => simp [intOf]; omega
    · obtain rfl : k = l.length := by omega
      rw [mixT_end] at HO
      have hpl := HPM.out.length_eq
      rw [List.length_map] at hpl
      have HPL := Lib.hid hpl
      have HL5 := Lib.hid (show l.length ≤ 1048576 by omega)
      clear hpl
      go_wp2_with fail
      refine (sortT_any (l.map turnE) l' l.length w.heap.size _ wr (by simp) HO.out HL5.out HPM.out HOK'.out.rises).mono ?_
      rintro _ w6 ⟨rfl, ho6, hk6⟩
      have Fa := Lib.hid ((KeptB.refl w.heap.size [30] wr).app hk6 HO.out (by decide))
      replace HX := Lib.hid (HX.out.keptB Fa.out (by decide))
      replace HZ := Lib.hid (HZ.out.keptB Fa.out (by decide))
      replace K0 := Lib.hid (K0.out.thenB Fa.out (Nat.le_refl _))
      have HO6 := Lib.hid ho6
      clear ho6 hk6 Fa HO
      have hpl := HPL.out
      rw [hpl] at HO6 ⊢
      clear hpl HPL
      have y0 := HX.out.cell 0
      have y1 := HX.out.cell 1
      simp only [List.getElem?_cons_zero, List.getElem?_cons_succ] at y0 y1
      have HLE := Lib.hid (show l'.length ≤ 1048576 from Nat.le_trans HOK'.out.len (by decide))
      have HLI := Lib.hid (fun e he => (HOK'.out.inn e he).1 : ∀ e ∈ l', 0 ≤ e.1 ∧ e.1 < n)
      go_wp2_with fail
      refine (built_any n n l' A5 c5 w6 HOK'.out.num HLE.out (Reads.of_own HO6.out) HLI.out).mono ?_
      rintro _ w7 ⟨u1, u2, u3, rfl, hm7, hk7⟩
      obtain ⟨B1, d1, rfl⟩ := own_n hm7.o1
      obtain ⟨B2, d2, rfl⟩ := own_n hm7.o2
      obtain ⟨B3, d3, rfl⟩ := own_n hm7.o3
      have HM := Lib.hid (hm7.le K0.out.size)
      replace HZ := Lib.hid (HZ.out.kept hk7 (by simp))
      replace K0 := Lib.hid (K0.out.trans hk7)
      clear hm7 hk7 y0 y1
      go_wp2_with (first | (refine wpList_storeBlk rfl 44 (.tmp 2) (.tmp 35) rfl gz _ [.int .i64 n, .int .i64 n, .slice B1 (n + 1) d1, .slice B2 l'.length d2, .slice B3 l'.length d3] HZ.out rfl rfl rfl infoRows (by simp [Value.oneCell']) ?_; intro w8 hb8 hk8))
      have e0 := hb8.cell 0
      have e1 := hb8.cell 1
      have e2 := hb8.cell 2
      have e3 := hb8.cell 3
      have e4 := hb8.cell 4
      simp only [List.getElem?_cons_zero, List.getElem?_cons_succ] at e0 e1 e2 e3 e4
      refine bodyPost_ret (v := .agg #[.int .i64 n, .int .i64 n, .slice B1 (n + 1) d1, .slice B2 l'.length d2, .slice B3 l'.length d3]) (by simp [results, Try.results16, go_sem, e0, e1, e2, e3, e4]) rfl ?_
      rw [HPOST.out]
      have f8 : KeptB w.heap.size [44] w7 w8 := (KeptB.refl _ _ w7).step (L := [gz]) hk8 (fun u hu => by simp at hu; subst hu; exact ⟨HGZ.out.1, _, _, _, HZ.out, by simp⟩)
      exact ⟨_, _, _, rfl, HM.out.keptB f8 (by decide) (by decide), K0.out.thenB f8 (Nat.le_refl _)⟩
end Go.Proofs.Ytibjpjpbmkdddaa
