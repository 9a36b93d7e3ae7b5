/- Edges are sorted: rows of three cells and the library's sort. -/
import Derived.Test.YtfnhfmffkjljnaaGreatE9
import Derived.Shelf.SlSortCmp.NoneTotal
import Derived.Shelf.Lay
import Derived.Ground.SlsfProg
import Derived.Lib.OwnBridge
namespace Go.Proofs
open Go.Shelf
def Tryz.laysSort_ren : Go.Shelf.Ren := ⟨fun | 6 => 105 | 15 => 117 | 14 => 116 | 28 => 129 | 29 => 130 | 20 => 121 | 21 => 122 | 22 => 123 | 23 => 124 | 24 => 125 | 25 => 126 | 26 => 127 | 27 => 128 | 46 => 133 | 47 => 134 | 48 => 135 | 49 => 136 | 50 => 137 | 57 => 139 | n => n, fun | 22 => 22 | 24 => 52 | 25 => 93 | 3 => 3 | 39 => 127 | 0 => 0 | 53 => 60 | 55 => 99 | 4 => 4 | 46 => 143 | 45 => 142 | 50 => 147 | 5 => 5 | 9 => 9 | 66 => 153 | 70 => 157 | 76 => 160 | 77 => 161 | n => n, fun | n => n⟩
theorem Tryz.laysSort : Go.Proofs.SlLaysF0.n6 Tryz.prog Tryz.laysSort_ren := {
  mixed := by kernel_rfl,
  f6 := ⟨Tryz.f105.name, by decide, Tryz.func105.trans (congrArg some (by kernel_rfl))⟩,
  f14 := ⟨Tryz.f116.name, by decide, Tryz.func116.trans (congrArg some (by kernel_rfl))⟩,
  f15 := Tryz.func117.trans (congrArg some (by kernel_rfl)),
  f20 := ⟨Tryz.f121.name, by decide, Tryz.func121.trans (congrArg some (by kernel_rfl))⟩,
  f21 := ⟨Tryz.f122.name, by decide, Tryz.func122.trans (congrArg some (by kernel_rfl))⟩,
  f22 := ⟨Tryz.f123.name, by decide, Tryz.func123.trans (congrArg some (by kernel_rfl))⟩,
  f23 := ⟨Tryz.f124.name, by decide, Tryz.func124.trans (congrArg some (by kernel_rfl))⟩,
  f24 := ⟨Tryz.f125.name, by decide, Tryz.func125.trans (congrArg some (by kernel_rfl))⟩,
  f25 := ⟨Tryz.f126.name, by decide, Tryz.func126.trans (congrArg some (by kernel_rfl))⟩,
  f26 := ⟨Tryz.f127.name, by decide, Tryz.func127.trans (congrArg some (by kernel_rfl))⟩,
  f27 := ⟨Tryz.f128.name, by decide, Tryz.func128.trans (congrArg some (by kernel_rfl))⟩,
  f28 := Tryz.func129.trans (congrArg some (by kernel_rfl)),
  f29 := Tryz.func130.trans (congrArg some (by kernel_rfl)),
  f46 := ⟨Tryz.f133.name, by decide, Tryz.func133.trans (congrArg some (by kernel_rfl))⟩,
  f47 := Tryz.func134.trans (congrArg some (by kernel_rfl)),
  f48 := Tryz.func135.trans (congrArg some (by kernel_rfl)),
  f49 := ⟨Tryz.f136.name, by decide, Tryz.func136.trans (congrArg some (by kernel_rfl))⟩,
  f50 := ⟨Tryz.f137.name, by decide, Tryz.func137.trans (congrArg some (by kernel_rfl))⟩,
  f57 := ⟨Tryz.f139.name, by decide, Tryz.func139.trans (congrArg some (by kernel_rfl))⟩,
  t0 := Tryz.underlying0,
  a0 := Tryz.isAgg0,
  z0 := Tryz.sizeOf0,
  v0 := Tryz.zeroValue0,
  t3 := Tryz.underlying3,
  a3 := Tryz.isAgg3,
  z3 := Tryz.sizeOf3,
  v3 := Tryz.zeroValue3,
  t4 := Tryz.underlying4,
  a4 := Tryz.isAgg4,
  z4 := Tryz.sizeOf4,
  v4 := Tryz.zeroValue4,
  t5 := Tryz.underlying5,
  a5 := Tryz.isAgg5,
  z5 := Tryz.sizeOf5,
  v5 := Tryz.zeroValue5,
  t9 := Tryz.underlying9,
  a9 := Tryz.isAgg9,
  z9 := Tryz.sizeOf9,
  v9 := Tryz.zeroValue9,
  t22 := Tryz.underlying22,
  a22 := Tryz.isAgg22,
  z22 := Tryz.sizeOf22,
  v22 := Tryz.zeroValue22,
  t25 := Tryz.underlying93,
  a25 := Tryz.isAgg93,
  z25 := Tryz.sizeOf93,
  v25 := Tryz.zeroValue93,
  t39 := Tryz.underlying127,
  a39 := Tryz.isAgg127,
  z39 := Tryz.sizeOf127,
  v39 := Tryz.zeroValue127,
  t45 := Tryz.underlying142,
  a45 := Tryz.isAgg142,
  z45 := Tryz.sizeOf142,
  v45 := Tryz.zeroValue142,
  t46 := Tryz.underlying143,
  a46 := Tryz.isAgg143,
  z46 := Tryz.sizeOf143,
  v46 := Tryz.zeroValue143,
  t50 := Tryz.underlying147,
  a50 := Tryz.isAgg147,
  z50 := Tryz.sizeOf147,
  v50 := Tryz.zeroValue147,
  t53 := Tryz.underlying60,
  a53 := Tryz.isAgg60,
  z53 := Tryz.sizeOf60,
  v53 := Tryz.zeroValue60,
  t55 := Tryz.underlying99,
  a55 := Tryz.isAgg99,
  z55 := Tryz.sizeOf99,
  v55 := Tryz.zeroValue99,
  t66 := Tryz.underlying153,
  a66 := Tryz.isAgg153,
  z66 := Tryz.sizeOf153,
  v66 := Tryz.zeroValue153,
  t70 := Tryz.underlying157,
  a70 := Tryz.isAgg157,
  z70 := Tryz.sizeOf157,
  v70 := Tryz.zeroValue157,
  t76 := Tryz.underlying160,
  a76 := Tryz.isAgg160,
  z76 := Tryz.sizeOf160,
  v76 := Tryz.zeroValue160,
  t77 := Tryz.underlying161,
  a77 := Tryz.isAgg161,
  z77 := Tryz.sizeOf161,
  v77 := Tryz.zeroValue161 }
end Go.Proofs
namespace Go.Proofs.YtfnhfmffkjljnaaGreat
set_option linter.unusedSimpArgs false
set_option linter.unusedVariables false
open Go.ChangeShapes Go.WideShapes Go.ChangeAt Go.RowKit
open Go.RowKit (wrap32 wrap64)
open Go.Sort (Holds putRow putCells mapBlock onCells grow flatK size_flatK get_flatK HoldsK putRowK)
open Go.Shelf
set_option maxHeartbeats 4000000

theorem own_down {w : World} {base : Nat} {e : TypeId} {k : Nat} {v : Value} {n : Nat} {xs : List Value} (h : w.ownsRow base e k v n xs) (h0 : 0 < n) :
    ∃ g cap, v = .slice (some ⟨g, 0, none⟩) n cap ∧ base ≤ g ∧ g < w.heap.size ∧ n ≤ cap ∧ cap ≤ maxLen ∧ Holds id w g 0 xs.toArray := by
  rcases h.2 with ⟨_, e0⟩ | ⟨g, cap, cur, rfl, hb, hg, hn, hm, hs, ht⟩
  · omega
  · have hlt : g < w.heap.size := (Array.getElem?_eq_some_iff.1 hg).1
    refine ⟨g, cap, rfl, hb, hlt, hn, hm, fun j hj => ?_⟩
    have hj' : j < xs.length := by simpa using hj
    refine ⟨?_, by simp [World.frozen?, hg]⟩
    have e1 : (cur.toList.take (n * k))[j]? = xs[j]? := by rw [ht]
    rw [List.getElem?_take, if_pos (by have := h.1; omega), Array.getElem?_toList, List.getElem?_eq_getElem hj'] at e1
    simp only [World.cell?, hg, Nat.zero_add]
    simp only [Option.isSome_none, Bool.false_eq_true, if_false]
    rw [e1]
    simp [getElem!_pos, hj']
theorem own_up {w : World} {base : Nat} {e : TypeId} {k g n cap q : Nat} {xs ys : List Value} (h : w.ownsRow base e k (.slice (some ⟨g, 0, none⟩) n cap) n xs) (hy : ys.length = xs.length) :
    (putRow id (Go.Sort.ahead w q) g 0 ys.toArray).ownsRow base e k (.slice (some ⟨g, 0, none⟩) n cap) n ys := by
  rcases h.2 with ⟨e0, _⟩ | ⟨g', cap', cur, e0, hb, hg, hn, hm, hs, ht⟩
  · cases e0
  · injection e0 with e1 _ e3
    injection e1 with e1
    injection e1 with e1
    subst e1; subst e3
    have hlen := h.1
    have hle : n * k ≤ cap * k := Nat.mul_le_mul_right _ hn
    refine ⟨by omega, .inr ⟨g, cap, putCells id 0 ys.toArray cur, rfl, hb, ?_, hn, hm, by simpa [putCells] using hs, ?_⟩⟩
    · simp [putRow, mapBlock, Go.Sort.ahead, Array.getElem?_modify, hg, onCells]
    · apply List.ext_getElem?
      intro j
      rw [List.getElem?_take, Array.getElem?_toList]
      by_cases hj : j < n * k
      · have hjc : j < cur.size := by omega
        simp only [if_pos hj, putCells, Array.getElem?_mapIdx, Array.getElem?_eq_getElem hjc, Option.map_some]
        rw [if_pos (by simp; omega), List.getElem?_eq_getElem (by omega)]
        simp [getElem!_pos, show j < ys.length by omega]
      · rw [if_neg hj, List.getElem?_eq_none (by omega)]
theorem kept_putRow {α : Type} [Inhabited α] (enc : α → Value) (w : World) (q g off : Nat) (d : Array α) : Kept [g] w (putRow enc (Go.Sort.ahead w q) g off d) :=
  ⟨rfl, rfl, rfl, by simp [putRow, mapBlock, Go.Sort.ahead], fun k hk hg => by
    have hne : g ≠ k := by rintro rfl; simp at hg
    simp [putRow, mapBlock, Go.Sort.ahead, Array.getElem?_modify, hne]⟩
theorem flatK_eq {α : Type} [Inhabited α] (enc : α → List Value) (k : Nat) (h0 : 0 < k) (hk : ∀ x, (enc x).length = k) (d : Array α) : flatK enc k d = (d.toList.flatMap enc).toArray := by
  have hlen : (d.toList.flatMap enc).length = d.size * k := by rw [flatMap_length _ _ k (fun x _ => hk x)]; simp
  apply Array.ext
  · rw [size_flatK, List.size_toArray]; exact hlen.symm
  · intro t h1 h2
    rw [size_flatK] at h1
    have hq : t / k < d.size := Nat.div_lt_of_lt_mul (by rw [Nat.mul_comm]; exact h1)
    have hr : t % k < k := Nat.mod_lt _ h0
    have e1 := get_flatK enc k d t h1
    rw [getElem!_pos _ t (by rw [size_flatK]; exact h1)] at e1
    rw [e1]
    have e2 := flatMap_get d.toList enc k (fun x _ => hk x) (t / k) (t % k) (by simpa using hq) hr
    rw [Nat.div_add_mod'] at e2
    rw [List.getElem_toArray]
    rw [List.getElem?_eq_getElem (by omega)] at e2
    have e3 : (enc (d.toList[t / k]'(by simpa using hq)))[t % k]? = some ((enc d[t / k]!)[t % k]!) := by
      rw [List.getElem?_eq_getElem (by rw [hk]; exact hr)]
      simp [getElem!_pos, hq, hk, hr]
    rw [e3] at e2
    exact (Option.some.inj e2).symm

theorem cmpI_neg (a b : Int) : cmpI a b < 0 ↔ a < b := by unfold cmpI; (repeat' split) <;> omega
theorem cmpI_zero (a b : Int) : cmpI a b = 0 ↔ a = b := by unfold cmpI; (repeat' split) <;> omega
theorem orI_neg (x y : Int) : orI x y < 0 ↔ x < 0 ∨ (x = 0 ∧ y < 0) := by unfold orI; split <;> omega
theorem orI_zero (x y : Int) : orI x y = 0 ↔ x = 0 ∧ y = 0 := by unfold orI; split <;> omega
theorem endsI_neg (a b : Ed) : endsI a b < 0 ↔ a.1 < b.1 ∨ (a.1 = b.1 ∧ a.2.1 < b.2.1) := by unfold endsI; rw [orI_neg, cmpI_neg, cmpI_zero, cmpI_neg]
theorem endsI_zero (a b : Ed) : endsI a b = 0 ↔ a.1 = b.1 ∧ a.2.1 = b.2.1 := by unfold endsI; rw [orI_zero, cmpI_zero, cmpI_zero]
theorem orderI_neg (a b : Ed) : orderI a b < 0 ↔ (a.1 < b.1 ∨ (a.1 = b.1 ∧ a.2.1 < b.2.1)) ∨ ((a.1 = b.1 ∧ a.2.1 = b.2.1) ∧ a.2.2 < b.2.2) := by unfold orderI; rw [orI_neg, endsI_neg, endsI_zero, cmpI_neg]
theorem ltOrder (a b : Ed) : ltOf orderI a b = decide ((a.1 < b.1 ∨ (a.1 = b.1 ∧ a.2.1 < b.2.1)) ∨ ((a.1 = b.1 ∧ a.2.1 = b.2.1) ∧ a.2.2 < b.2.2)) := by
  unfold ltOf
  exact decide_eq_decide.2 (orderI_neg a b)
theorem swoOrder : Go.Sort.SWO (ltOf orderI) where
  irrefl x := by rw [ltOrder]; simp
  trans x y z h1 h2 := by rw [ltOrder] at *; simp only [decide_eq_true_eq] at *; omega
  ntrans x y z h1 h2 := by rw [ltOrder] at *; simp only [decide_eq_false_iff_not] at *; omega
theorem orderTotal (x y : Ed) (h1 : ltOf orderI x y = false) (h2 : ltOf orderI y x = false) : x = y := by
  rw [ltOrder] at *
  simp only [decide_eq_false_iff_not] at *
  obtain ⟨a, b, c⟩ := x
  obtain ⟨d, e, f⟩ := y
  dsimp only at *
  obtain rfl : a = d := by omega
  obtain rfl : b = e := by omega
  obtain rfl : c = f := by omega
  rfl
/-- Edges in order. -/
def sortE (l : List Ed) : List Ed := l.mergeSort fun x y => !(ltOf orderI) y x
theorem sortE_length (l : List Ed) : (sortE l).length = l.length := by unfold sortE; rw [List.length_mergeSort]
theorem leOrder (a b : Ed) : (!(ltOf orderI) b a) = true ↔ ¬ ((b.1 < a.1 ∨ (b.1 = a.1 ∧ b.2.1 < a.2.1)) ∨ ((b.1 = a.1 ∧ b.2.1 = a.2.1) ∧ b.2.2 < a.2.2)) := by rw [ltOrder, Bool.not_eq_true', decide_eq_false_iff_not]
theorem sortE_sorted (l : List Ed) : (sortE l).Pairwise (fun a b => (!(ltOf orderI) b a) = true) := by
  unfold sortE
  refine List.pairwise_mergeSort (fun a b c h1 h2 => ?_) (fun a b => ?_) l
  · rw [leOrder] at *; omega
  · rw [Bool.or_eq_true, leOrder, leOrder]; omega
theorem sorted_unique {l m : List Ed} (hl : l.Pairwise (fun a b => (!(ltOf orderI) b a) = true)) (hm : m.Pairwise (fun a b => (!(ltOf orderI) b a) = true)) (h : l.Perm m) : l = m := by
  refine List.Perm.eq_of_pairwise (fun a b _ _ h1 h2 => ?_) hl hm h
  exact orderTotal a b (by simpa using h2) (by simpa using h1)
theorem sortE_perm {l m : List Ed} (h : l.Perm m) : sortE l = sortE m :=
  sorted_unique (sortE_sorted l) (sortE_sorted m) ((List.mergeSort_perm l _).trans (h.trans (List.mergeSort_perm m _).symm))
set_option maxRecDepth 100000 in
theorem sort_any (l : List Ed) (n base : Nat) (v : Value) (w : World) (hn : l.length = n) (h : w.ownsRow base 52 3 v n (l.flatMap edV)) (hl : n ≤ 1048576) :
    Calls Tryz.prog 105 #[v, .func (.func 106) #[] #[]] w fun e w' => e = .returned (.tuple #[]) ∧ w'.ownsRow base 52 3 v n ((sortE l).flatMap edV) ∧ Kept v.ownBlock.toList w w' := by
  rcases Nat.eq_zero_or_pos n with h0 | h0
  · subst h0
    obtain rfl : l = [] := List.eq_nil_of_length_eq_zero hn
    obtain ⟨A, c, rfl⟩ : ∃ A c, v = .slice A 0 c := by
      rcases h.2 with ⟨rfl, _⟩ | ⟨g, cap, cur, rfl, _⟩
      · exact ⟨_, _, rfl⟩
      · exact ⟨_, _, rfl⟩
    refine (show Calls Tryz.prog 105 _ _ _ from AnyF.slices_SortFunc_none { Tryz.laysSort with } A c _ w).mono ?_
    rintro e w' ⟨rfl, rfl⟩
    exact ⟨rfl, by simpa [sortE] using h, Kept.refl _ _⟩
  · obtain ⟨g, cap, rfl, hb, hlt, hc, hm, hH⟩ := own_down h h0
    have hf : flatK edV 3 l.toArray = (l.flatMap edV).toArray := flatK_eq edV 3 (by decide) (fun _ => rfl) l.toArray
    have hf2 : flatK edV 3 (sortE l).toArray = ((sortE l).flatMap edV).toArray := flatK_eq edV 3 (by decide) (fun _ => rfl) (sortE l).toArray
    have eg : ∀ args w, (callFunc 106 args).run Tryz.prog w = .ok (.enter 106 args) w := enters_of Tryz.func106 (by kernel_rfl) rfl
    have hcon := AnyQ.slices_SortFunc_total Tryz.laysSort 3 Tryz.isAgg52 Tryz.sizeOf52 edV (fun _ => rfl) (fun x v hv => by simp [edV] at hv; rcases hv with rfl | rfl | rfl <;> rfl) orderI swoOrder 106 #[] g 0 cap l.toArray w eg
      (fun m os dk _ x y => order_any x y _) (by unfold HoldsK; rw [hf]; exact hH) hlt (by simp; omega) orderTotal
    rw [show l.toArray.size = n by simpa using hn] at hcon
    refine (show Calls Tryz.prog 105 _ _ _ from hcon).mono ?_
    rintro e w' ⟨rfl, q, os, rfl⟩
    have hlen : ((sortE l).flatMap edV).length = (l.flatMap edV).length := by
      rw [flatMap_length _ _ 3 (fun _ _ => rfl), flatMap_length _ _ 3 (fun _ _ => rfl)]
      unfold sortE
      rw [List.length_mergeSort]
    have hk1 := kept_putRow id w q g 0 ((sortE l).flatMap edV).toArray
    have hk2 : Kept [] (putRow id (Go.Sort.ahead w q) g 0 ((sortE l).flatMap edV).toArray) (grow (putRow id (Go.Sort.ahead w q) g 0 ((sortE l).flatMap edV).toArray) os) := (show Grown _ _ from ⟨0, os, rfl⟩).kept
    unfold sortWorldK putRowK
    rw [show (List.mergeSort l.toArray.toList fun x y => !(ltOf orderI) y x).toArray = (sortE l).toArray from rfl, hf2]
    exact ⟨rfl, own_kept0 (own_up h hlen) hk2, by simpa [Value.ownBlock] using hk1.trans (hk2.mono (by simp))⟩
end Go.Proofs.YtfnhfmffkjljnaaGreat
