/- Edges are sorted: rows of three cells and the library's sort. -/
import Derived.Test.YtibjpjpbmkdddaaE9
import Derived.Shelf.SlSortCmp.NoneTotal
import Derived.Shelf.Lay
import Derived.Ground.SlsfProg
import Derived.Lib.OwnBridge
namespace Go.Proofs
open Go.Shelf
def Try.laysSort_ren : Go.Shelf.Ren := ⟨fun | 6 => 82 | 15 => 105 | 14 => 117 | 28 => 131 | 29 => 132 | 20 => 137 | 21 => 138 | 22 => 139 | 23 => 140 | 24 => 141 | 25 => 142 | 26 => 143 | 27 => 144 | 46 => 153 | 47 => 148 | 48 => 149 | 49 => 154 | 50 => 155 | 57 => 158 | n => n, fun | 22 => 22 | 24 => 28 | 25 => 118 | 3 => 3 | 39 => 154 | 0 => 0 | 53 => 133 | 55 => 122 | 4 => 4 | 46 => 176 | 45 => 175 | 50 => 180 | 5 => 5 | 9 => 9 | 66 => 193 | 70 => 197 | 76 => 202 | 77 => 203 | n => n, fun | n => n⟩
theorem Try.laysSort : Go.Proofs.SlLaysF0.n6 Try.prog Try.laysSort_ren := {
  mixed := by kernel_rfl,
  f6 := ⟨Try.f82.name, by decide, Try.func82.trans (congrArg some (by kernel_rfl))⟩,
  f14 := ⟨Try.f117.name, by decide, Try.func117.trans (congrArg some (by kernel_rfl))⟩,
  f15 := Try.func105.trans (congrArg some (by kernel_rfl)),
  f20 := ⟨Try.f137.name, by decide, Try.func137.trans (congrArg some (by kernel_rfl))⟩,
  f21 := ⟨Try.f138.name, by decide, Try.func138.trans (congrArg some (by kernel_rfl))⟩,
  f22 := ⟨Try.f139.name, by decide, Try.func139.trans (congrArg some (by kernel_rfl))⟩,
  f23 := ⟨Try.f140.name, by decide, Try.func140.trans (congrArg some (by kernel_rfl))⟩,
  f24 := ⟨Try.f141.name, by decide, Try.func141.trans (congrArg some (by kernel_rfl))⟩,
  f25 := ⟨Try.f142.name, by decide, Try.func142.trans (congrArg some (by kernel_rfl))⟩,
  f26 := ⟨Try.f143.name, by decide, Try.func143.trans (congrArg some (by kernel_rfl))⟩,
  f27 := ⟨Try.f144.name, by decide, Try.func144.trans (congrArg some (by kernel_rfl))⟩,
  f28 := Try.func131.trans (congrArg some (by kernel_rfl)),
  f29 := Try.func132.trans (congrArg some (by kernel_rfl)),
  f46 := ⟨Try.f153.name, by decide, Try.func153.trans (congrArg some (by kernel_rfl))⟩,
  f47 := Try.func148.trans (congrArg some (by kernel_rfl)),
  f48 := Try.func149.trans (congrArg some (by kernel_rfl)),
  f49 := ⟨Try.f154.name, by decide, Try.func154.trans (congrArg some (by kernel_rfl))⟩,
  f50 := ⟨Try.f155.name, by decide, Try.func155.trans (congrArg some (by kernel_rfl))⟩,
  f57 := ⟨Try.f158.name, by decide, Try.func158.trans (congrArg some (by kernel_rfl))⟩,
  t0 := Try.underlying0,
  a0 := Try.isAgg0,
  z0 := Try.sizeOf0,
  v0 := Try.zeroValue0,
  t3 := Try.underlying3,
  a3 := Try.isAgg3,
  z3 := Try.sizeOf3,
  v3 := Try.zeroValue3,
  t4 := Try.underlying4,
  a4 := Try.isAgg4,
  z4 := Try.sizeOf4,
  v4 := Try.zeroValue4,
  t5 := Try.underlying5,
  a5 := Try.isAgg5,
  z5 := Try.sizeOf5,
  v5 := Try.zeroValue5,
  t9 := Try.underlying9,
  a9 := Try.isAgg9,
  z9 := Try.sizeOf9,
  v9 := Try.zeroValue9,
  t22 := Try.underlying22,
  a22 := Try.isAgg22,
  z22 := Try.sizeOf22,
  v22 := Try.zeroValue22,
  t25 := Try.underlying118,
  a25 := Try.isAgg118,
  z25 := Try.sizeOf118,
  v25 := Try.zeroValue118,
  t39 := Try.underlying154,
  a39 := Try.isAgg154,
  z39 := Try.sizeOf154,
  v39 := Try.zeroValue154,
  t45 := Try.underlying175,
  a45 := Try.isAgg175,
  z45 := Try.sizeOf175,
  v45 := Try.zeroValue175,
  t46 := Try.underlying176,
  a46 := Try.isAgg176,
  z46 := Try.sizeOf176,
  v46 := Try.zeroValue176,
  t50 := Try.underlying180,
  a50 := Try.isAgg180,
  z50 := Try.sizeOf180,
  v50 := Try.zeroValue180,
  t53 := Try.underlying133,
  a53 := Try.isAgg133,
  z53 := Try.sizeOf133,
  v53 := Try.zeroValue133,
  t55 := Try.underlying122,
  a55 := Try.isAgg122,
  z55 := Try.sizeOf122,
  v55 := Try.zeroValue122,
  t66 := Try.underlying193,
  a66 := Try.isAgg193,
  z66 := Try.sizeOf193,
  v66 := Try.zeroValue193,
  t70 := Try.underlying197,
  a70 := Try.isAgg197,
  z70 := Try.sizeOf197,
  v70 := Try.zeroValue197,
  t76 := Try.underlying202,
  a76 := Try.isAgg202,
  z76 := Try.sizeOf202,
  v76 := Try.zeroValue202,
  t77 := Try.underlying203,
  a77 := Try.isAgg203,
  z77 := Try.sizeOf203,
  v77 := Try.zeroValue203 }
end Go.Proofs
namespace Go.Proofs.Ytibjpjpbmkdddaa
set_option linter.unusedSimpArgs false
set_option linter.unusedVariables false
open Go.ChangeShapes Go.WideShapes Go.ChangeAt Go.RowKit
open Go.RowKit (wrap32 wrap64)
open Go.Sort (Holds putRow putCells mapBlock onCells grow flatK size_flatK get_flatK HoldsK putRowK)
open Go.Shelf
set_option maxHeartbeats 4000000

theorem own_down {w : World} {base : Nat} {e : TypeId} {k : Nat} {v : Value} {n : Nat} {xs : List Value} (h : w.ownsRow base e k v n xs) (h0 : 0 < n) :
    ∃ g cap, v = .slice (some ⟨g, 0, none⟩) n cap ∧ base ≤ g ∧ g < w.heap.size ∧ n ≤ cap ∧ cap ≤ maxLen ∧ Holds id w g 0 xs.toArray := by
  rcases h.2 with ⟨_, e0⟩ | ⟨g, cap, cur, rfl, hb, hg, hn, hm, hs, ht⟩
  · omega
  · have hlt : g < w.heap.size := (Array.getElem?_eq_some_iff.1 hg).1
    refine ⟨g, cap, rfl, hb, hlt, hn, hm, fun j hj => ?_⟩
    have hj' : j < xs.length := by simpa using hj
    refine ⟨?_, by simp [World.frozen?, hg]⟩
    have e1 : (cur.toList.take (n * k))[j]? = xs[j]? := by rw [ht]
    rw [List.getElem?_take, if_pos (by have := h.1; omega), Array.getElem?_toList, List.getElem?_eq_getElem hj'] at e1
    simp only [World.cell?, hg, Nat.zero_add]
    simp only [Option.isSome_none, Bool.false_eq_true, if_false]
    rw [e1]
    simp [getElem!_pos, hj']
theorem own_up {w : World} {base : Nat} {e : TypeId} {k g n cap q : Nat} {xs ys : List Value} (h : w.ownsRow base e k (.slice (some ⟨g, 0, none⟩) n cap) n xs) (hy : ys.length = xs.length) :
    (putRow id (Go.Sort.ahead w q) g 0 ys.toArray).ownsRow base e k (.slice (some ⟨g, 0, none⟩) n cap) n ys := by
  rcases h.2 with ⟨e0, _⟩ | ⟨g', cap', cur, e0, hb, hg, hn, hm, hs, ht⟩
  · cases e0
  · injection e0 with e1 _ e3
    injection e1 with e1
    injection e1 with e1
    subst e1; subst e3
    have hlen := h.1
    have hle : n * k ≤ cap * k := Nat.mul_le_mul_right _ hn
    refine ⟨by omega, .inr ⟨g, cap, putCells id 0 ys.toArray cur, rfl, hb, ?_, hn, hm, by simpa [putCells] using hs, ?_⟩⟩
    · simp [putRow, mapBlock, Go.Sort.ahead, Array.getElem?_modify, hg, onCells]
    · apply List.ext_getElem?
      intro j
      rw [List.getElem?_take, Array.getElem?_toList]
      by_cases hj : j < n * k
      · have hjc : j < cur.size := by omega
        simp only [if_pos hj, putCells, Array.getElem?_mapIdx, Array.getElem?_eq_getElem hjc, Option.map_some]
        rw [if_pos (by simp; omega), List.getElem?_eq_getElem (by omega)]
        simp [getElem!_pos, show j < ys.length by omega]
      · rw [if_neg hj, List.getElem?_eq_none (by omega)]
theorem kept_putRow {α : Type} [Inhabited α] (enc : α → Value) (w : World) (q g off : Nat) (d : Array α) : Kept [g] w (putRow enc (Go.Sort.ahead w q) g off d) :=
  ⟨rfl, rfl, rfl, by simp [putRow, mapBlock, Go.Sort.ahead], fun k hk hg => by
    have hne : g ≠ k := by rintro rfl; simp at hg
    simp [putRow, mapBlock, Go.Sort.ahead, Array.getElem?_modify, hne]⟩
theorem flatK_eq {α : Type} [Inhabited α] (enc : α → List Value) (k : Nat) (h0 : 0 < k) (hk : ∀ x, (enc x).length = k) (d : Array α) : flatK enc k d = (d.toList.flatMap enc).toArray := by
  have hlen : (d.toList.flatMap enc).length = d.size * k := by rw [flatMap_length _ _ k (fun x _ => hk x)]; simp
  apply Array.ext
  · rw [size_flatK, List.size_toArray]; exact hlen.symm
  · intro t h1 h2
    rw [size_flatK] at h1
    have hq : t / k < d.size := Nat.div_lt_of_lt_mul (by rw [Nat.mul_comm]; exact h1)
    have hr : t % k < k := Nat.mod_lt _ h0
    have e1 := get_flatK enc k d t h1
    rw [getElem!_pos _ t (by rw [size_flatK]; exact h1)] at e1
    rw [e1]
    have e2 := flatMap_get d.toList enc k (fun x _ => hk x) (t / k) (t % k) (by simpa using hq) hr
    rw [Nat.div_add_mod'] at e2
    rw [List.getElem_toArray]
    rw [List.getElem?_eq_getElem (by omega)] at e2
    have e3 : (enc (d.toList[t / k]'(by simpa using hq)))[t % k]? = some ((enc d[t / k]!)[t % k]!) := by
      rw [List.getElem?_eq_getElem (by rw [hk]; exact hr)]
      simp [getElem!_pos, hq, hk, hr]
    rw [e3] at e2
    exact (Option.some.inj e2).symm

theorem cmpI_neg (a b : Int) : cmpI a b < 0 ↔ a < b := by unfold cmpI; (repeat' split) <;> omega
theorem cmpI_zero (a b : Int) : cmpI a b = 0 ↔ a = b := by unfold cmpI; (repeat' split) <;> omega
theorem orI_neg (x y : Int) : orI x y < 0 ↔ x < 0 ∨ (x = 0 ∧ y < 0) := by unfold orI; split <;> omega
theorem orI_zero (x y : Int) : orI x y = 0 ↔ x = 0 ∧ y = 0 := by unfold orI; split <;> omega
theorem endsI_neg (a b : Ed) : endsI a b < 0 ↔ a.1 < b.1 ∨ (a.1 = b.1 ∧ a.2.1 < b.2.1) := by unfold endsI; rw [orI_neg, cmpI_neg, cmpI_zero, cmpI_neg]
theorem endsI_zero (a b : Ed) : endsI a b = 0 ↔ a.1 = b.1 ∧ a.2.1 = b.2.1 := by unfold endsI; rw [orI_zero, cmpI_zero, cmpI_zero]
theorem orderI_neg (a b : Ed) : orderI a b < 0 ↔ (a.1 < b.1 ∨ (a.1 = b.1 ∧ a.2.1 < b.2.1)) ∨ ((a.1 = b.1 ∧ a.2.1 = b.2.1) ∧ a.2.2 < b.2.2) := by unfold orderI; rw [orI_neg, endsI_neg, endsI_zero, cmpI_neg]
theorem ltOrder (a b : Ed) : ltOf orderI a b = decide ((a.1 < b.1 ∨ (a.1 = b.1 ∧ a.2.1 < b.2.1)) ∨ ((a.1 = b.1 ∧ a.2.1 = b.2.1) ∧ a.2.2 < b.2.2)) := by
  unfold ltOf
  exact decide_eq_decide.2 (orderI_neg a b)
theorem swoOrder : Go.Sort.SWO (ltOf orderI) where
  irrefl x := by rw [ltOrder]; simp
  trans x y z h1 h2 := by rw [ltOrder] at *; simp only [decide_eq_true_eq] at *; omega
  ntrans x y z h1 h2 := by rw [ltOrder] at *; simp only [decide_eq_false_iff_not] at *; omega
theorem orderTotal (x y : Ed) (h1 : ltOf orderI x y = false) (h2 : ltOf orderI y x = false) : x = y := by
  rw [ltOrder] at *
  simp only [decide_eq_false_iff_not] at *
  obtain ⟨a, b, c⟩ := x
  obtain ⟨d, e, f⟩ := y
  dsimp only at *
  obtain rfl : a = d := by omega
  obtain rfl : b = e := by omega
  obtain rfl : c = f := by omega
  rfl
/-- Edges in order. -/
def sortE (l : List Ed) : List Ed := l.mergeSort fun x y => !(ltOf orderI) y x
theorem sortE_length (l : List Ed) : (sortE l).length = l.length := by unfold sortE; rw [List.length_mergeSort]
theorem leOrder (a b : Ed) : (!(ltOf orderI) b a) = true ↔ ¬ ((b.1 < a.1 ∨ (b.1 = a.1 ∧ b.2.1 < a.2.1)) ∨ ((b.1 = a.1 ∧ b.2.1 = a.2.1) ∧ b.2.2 < a.2.2)) := by rw [ltOrder, Bool.not_eq_true', decide_eq_false_iff_not]
theorem sortE_sorted (l : List Ed) : (sortE l).Pairwise (fun a b => (!(ltOf orderI) b a) = true) := by
  unfold sortE
  refine List.pairwise_mergeSort (fun a b c h1 h2 => ?_) (fun a b => ?_) l
  · rw [leOrder] at *; omega
  · rw [Bool.or_eq_true, leOrder, leOrder]; omega
theorem sorted_unique {l m : List Ed} (hl : l.Pairwise (fun a b => (!(ltOf orderI) b a) = true)) (hm : m.Pairwise (fun a b => (!(ltOf orderI) b a) = true)) (h : l.Perm m) : l = m := by
  refine List.Perm.eq_of_pairwise (fun a b _ _ h1 h2 => ?_) hl hm h
  exact orderTotal a b (by simpa using h2) (by simpa using h1)
theorem sortE_perm {l m : List Ed} (h : l.Perm m) : sortE l = sortE m :=
  sorted_unique (sortE_sorted l) (sortE_sorted m) ((List.mergeSort_perm l _).trans (h.trans (List.mergeSort_perm m _).symm))
set_option maxRecDepth 100000 in
theorem sort_any (l : List Ed) (n base : Nat) (v : Value) (w : World) (hn : l.length = n) (h : w.ownsRow base 28 3 v n (l.flatMap edV)) (hl : n ≤ 1048576) :
    Calls Try.prog 82 #[v, .func (.func 83) #[] #[]] w fun e w' => e = .returned (.tuple #[]) ∧ w'.ownsRow base 28 3 v n ((sortE l).flatMap edV) ∧ Kept v.ownBlock.toList w w' := by
  rcases Nat.eq_zero_or_pos n with h0 | h0
  · subst h0
    obtain rfl : l = [] := List.eq_nil_of_length_eq_zero hn
    obtain ⟨A, c, rfl⟩ : ∃ A c, v = .slice A 0 c := by
      rcases h.2 with ⟨rfl, _⟩ | ⟨g, cap, cur, rfl, _⟩
      · exact ⟨_, _, rfl⟩
      · exact ⟨_, _, rfl⟩
    refine (show Calls Try.prog 82 _ _ _ from AnyF.slices_SortFunc_none { Try.laysSort with } A c _ w).mono ?_
    rintro e w' ⟨rfl, rfl⟩
    exact ⟨rfl, by simpa [sortE] using h, Kept.refl _ _⟩
  · obtain ⟨g, cap, rfl, hb, hlt, hc, hm, hH⟩ := own_down h h0
    have hf : flatK edV 3 l.toArray = (l.flatMap edV).toArray := flatK_eq edV 3 (by decide) (fun _ => rfl) l.toArray
    have hf2 : flatK edV 3 (sortE l).toArray = ((sortE l).flatMap edV).toArray := flatK_eq edV 3 (by decide) (fun _ => rfl) (sortE l).toArray
    have eg : ∀ args w, (callFunc 83 args).run Try.prog w = .ok (.enter 83 args) w := enters_of Try.func83 (by kernel_rfl) rfl
    have hcon := AnyQ.slices_SortFunc_total Try.laysSort 3 Try.isAgg28 Try.sizeOf28 edV (fun _ => rfl) (fun x v hv => by simp [edV] at hv; rcases hv with rfl | rfl | rfl <;> rfl) orderI swoOrder 83 #[] g 0 cap l.toArray w eg
      (fun m os dk _ x y => order_any x y _) (by unfold HoldsK; rw [hf]; exact hH) hlt (by simp; omega) orderTotal
    rw [show l.toArray.size = n by simpa using hn] at hcon
    refine (show Calls Try.prog 82 _ _ _ from hcon).mono ?_
    rintro e w' ⟨rfl, q, os, rfl⟩
    have hlen : ((sortE l).flatMap edV).length = (l.flatMap edV).length := by
      rw [flatMap_length _ _ 3 (fun _ _ => rfl), flatMap_length _ _ 3 (fun _ _ => rfl)]
      unfold sortE
      rw [List.length_mergeSort]
    have hk1 := kept_putRow id w q g 0 ((sortE l).flatMap edV).toArray
    have hk2 : Kept [] (putRow id (Go.Sort.ahead w q) g 0 ((sortE l).flatMap edV).toArray) (grow (putRow id (Go.Sort.ahead w q) g 0 ((sortE l).flatMap edV).toArray) os) := (show Grown _ _ from ⟨0, os, rfl⟩).kept
    unfold sortWorldK putRowK
    rw [show (List.mergeSort l.toArray.toList fun x y => !(ltOf orderI) y x).toArray = (sortE l).toArray from rfl, hf2]
    exact ⟨rfl, own_kept0 (own_up h hlen) hk2, by simpa [Value.ownBlock] using hk1.trans (hk2.mono (by simp))⟩
end Go.Proofs.Ytibjpjpbmkdddaa
