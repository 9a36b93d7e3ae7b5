/- Frames: the walk of the document's Decode: it keeps step with the program's. -/
import Derived.Test.YtdjidnccockmmaaFr19
import Derived.Deep.CutBlock
namespace Go.Proofs.Ytdjidnccockmmaa
set_option linter.unusedSimpArgs false
set_option linter.unusedVariables false
open Go.ChangeShapes Go.WideShapes Go.ChangeAt Go.RowKit
open Go.RowKit (wrap32 wrap64)
set_option maxHeartbeats 8000000

theorem ebind {ε α β γ : Type} (x : Except ε α) (f : α → Except ε β) (g : β → Except ε γ) : (x.bind f).bind g = x.bind fun a => (f a).bind g := by cases x <;> rfl
def fin (y : Fr × Rd) : Except (Int × Int) Fr := .ok y.1
def D6 (n1 n2 n3 n4 n5 n6 : Int) (R : Rd) : Except (Int × Int) Fr := R.word.bind fun x => (Rd.lists ⟨n1, n2, n3, n4, n5, 0, [], [], [], x.1, n6 == 1⟩ x.2).bind fin
def D5 (n1 n2 n3 n4 n5 : Int) (R : Rd) : Except (Int × Int) Fr := (R.rd 1 0 1 7).bind fun x => D6 n1 n2 n3 n4 n5 x.1 x.2
def D4 (n1 n2 n3 n4 : Int) (R : Rd) : Except (Int × Int) Fr := (R.rd 4 0 8192 3).bind fun x => D5 n1 n2 n3 n4 x.1 x.2
def D3 (n1 n2 n3 : Int) (R : Rd) : Except (Int × Int) Fr := (R.rd 4 0 2147483647 3).bind fun x => D4 n1 n2 n3 x.1 x.2
def D2 (n1 n2 : Int) (R : Rd) : Except (Int × Int) Fr := (R.rd 1 0 63 3).bind fun x => D3 n1 n2 x.1 x.2
def D1 (n1 : Int) (R : Rd) : Except (Int × Int) Fr := (R.rd 1 0 63 3).bind fun x => D2 n1 x.1 x.2
theorem decode_D (b : List UInt8) : decodeP b = ((Rd.mk b 0 0 0).rd 1 1 7 8).bind fun x => D1 x.1 x.2 := by
  unfold decodeP Rd.head
  simp only [ebind, D1, D2, D3, D4, D5, D6]
  rfl
theorem lists_D (F : Fr) (R : Rd) : (Rd.lists F R).bind fin = (R.rd 4 0 4096 5).bind fun x => (Rd.lists1 { F with vn := x.1 } x.2).bind fin := by unfold Rd.lists; rw [ebind]
theorem lists1_D (F : Fr) (R : Rd) : (Rd.lists1 F R).bind fin = (R.rd 4 0 F.vn 5).bind fun x => (Rd.lists2 F x.1 x.2).bind fin := by unfold Rd.lists1; rw [ebind]
theorem lists2_D (F : Fr) (n : Int) (R : Rd) : (Rd.lists2 F n R).bind fin = (Rd.items F.vn n.toNat (-1) R []).bind fun c => (Rd.lists3 { F with items := c.1 } c.2).bind fin := by unfold Rd.lists2; rw [ebind]
theorem lists3_D (F : Fr) (R : Rd) : (Rd.lists3 F R).bind fin = (R.rd 4 0 4096 5).bind fun x => (Rd.lists4 F x.1 x.2).bind fin := by unfold Rd.lists3; rw [ebind]
theorem lists4_D (F : Fr) (n : Int) (R : Rd) : (Rd.lists4 F n R).bind fin = (Rd.sums n.toNat (-1) R []).bind fun c => (Rd.lists5 { F with sums := c.1 } c.2).bind fin := by unfold Rd.lists4; rw [ebind]
theorem lists5_D (F : Fr) (R : Rd) : (Rd.lists5 F R).bind fin = (R.rd 4 0 65536 5).bind fun x => (Rd.lists6 F x.1 x.2).bind fin := by unfold Rd.lists5; rw [ebind]
theorem lists6_D (F : Fr) (n : Int) (R : Rd) : (Rd.lists6 F n R).bind fin = (Rd.trips n.toNat R []).bind fun c => (Rd.end7 { F with trips := c.1 } c.2).bind fin := by unfold Rd.lists6; rw [ebind]
theorem items_D (vn : Int) (k : Nat) (last : Int) (R : Rd) (acc : List (Int × Int)) (g : List (Int × Int) × Rd → Except (Int × Int) Fr) :
    (Rd.items vn (k + 1) last R acc).bind g = (R.rise last (vn - 1)).bind fun x => x.2.word.bind fun y => (Rd.items vn k x.1 y.2 (acc ++ [(x.1, y.1)])).bind g := by
  rw [Rd.items, ebind]; congr 1; funext x; rw [ebind]
theorem sums_D (k : Nat) (last : Int) (R : Rd) (acc : List (Int × Int × Nat)) (g : List (Int × Int × Nat) × Rd → Except (Int × Int) Fr) :
    (Rd.sums (k + 1) last R acc).bind g = (R.rise last 4095).bind fun x => x.2.word.bind fun y => y.2.word.bind fun z => (Rd.sums k x.1 z.2 (acc ++ [(x.1, y.1, u64of z.1)])).bind g := by
  rw [Rd.sums, ebind]; congr 1; funext x; rw [ebind]; congr 1; funext y; rw [ebind]
theorem trips_D (k : Nat) (R : Rd) (acc : List (Int × Int × Int)) (g : List (Int × Int × Int) × Rd → Except (Int × Int) Fr) :
    (Rd.trips (k + 1) R acc).bind g = (R.rd 4 0 4095 3).bind fun x => (x.2.rd 4 0 4095 3).bind fun y => y.2.word.bind fun z => (Rd.trips k z.2 (acc ++ [(x.1, y.1, z.1)])).bind g := by
  rw [Rd.trips, ebind]; congr 1; funext x; rw [ebind]; congr 1; funext y; rw [ebind]

/-- The element types that the document's reading turns. -/
abbrev rsT : List TypeId := [92, 60, 99, 103, 105]
/-- What lies in memory while the document reads: the reader at p, the frame at g. -/
structure RsAt (w0 w : World) (base p g : Nat) (R : Rd) (F : Fr) (v1 v2 v3 : Value) : Prop where
  rd : RdAt 92 w p R
  fr : Blk w g 60 (lsC F v1 v2 v3)
  o1 : w.ownsRow base 99 2 v1 F.items.length (F.items.flatMap readV)
  o2 : w.ownsRow base 103 3 v2 F.sums.length (F.sums.flatMap sumV)
  o3 : w.ownsRow base 105 3 v3 F.trips.length (F.trips.flatMap tripV)
  kept : KeptB base rsT w0 w
  hp : base ≤ p
  hg : base ≤ g
  hb : base ≤ w0.heap.size
theorem KeptB.rcall {base : Nat} {T : List TypeId} {a b c : World} {p : Nat} {R : Rd} (h : KeptB base T a b) (hr : RdAt 92 b p R) (hk : Kept [p] b c) (hp : base ≤ p) (hT : 92 ∈ T) : KeptB base T a c := by
  obtain ⟨⟨A, cap, hb, ho⟩, _⟩ := hr
  exact h.step hk (fun m hm => by simp at hm; subst hm; exact ⟨hp, _, _, _, hb, hT⟩)
section
variable {w0 w w1 w2 w' : World} {base p g : Nat} {R R' : Rd} {F F' : Fr} {v1 v2 v3 : Value}
theorem RsAt.call (h : RsAt w0 w base p g R F v1 v2 v3) (hr : RdAt 92 w' p R') (hk : Kept [p] w w') : RsAt w0 w' base p g R' F v1 v2 v3 := by
  have hB : KeptB base [92] w w' := (KeptB.refl _ _ _).rcall h.rd hk h.hp (by decide)
  exact ⟨hr, h.fr.keptB hB (by decide), own_keptB h.o1 hB (by decide), own_keptB h.o2 hB (by decide), own_keptB h.o3 hB (by decide), h.kept.trans (hB.mono (by decide)), h.hp, h.hg, h.hb⟩
theorem RsAt.kept0 (h : RsAt w0 w base p g R F v1 v2 v3) (hk : Kept [] w w') : RsAt w0 w' base p g R F v1 v2 v3 := by
  have hB : KeptB base [] w w' := .of_kept0 hk
  exact ⟨h.rd.kept0 hk, h.fr.keptB hB (by decide), own_keptB h.o1 hB (by decide), own_keptB h.o2 hB (by decide), own_keptB h.o3 hB (by decide), h.kept.trans (hB.mono (by decide)), h.hp, h.hg, h.hb⟩
/-- One field is stored. -/
theorem RsAt.setF (h : RsAt w0 w base p g R F v1 v2 v3) (j : Nat) (u : Value) (F' : Fr) (he : (lsC F v1 v2 v3).set j u = lsC F' v1 v2 v3) (h1 : F'.items = F.items) (h2 : F'.sums = F.sums) (h3 : F'.trips = F.trips) :
    RsAt w0 (w.setCell ⟨g, j, none⟩ u) base p g R F' v1 v2 v3 := by
  have hB : KeptB base [60] w (w.setCell ⟨g, j, none⟩ u) := (KeptB.refl _ _ _).set h.fr h.hg (by decide) j _
  refine ⟨h.rd.keptB hB (by decide) (by decide), ?_, ?_, ?_, ?_, h.kept.trans (hB.mono (by decide)), h.hp, h.hg, h.hb⟩
  · rw [← he]; exact h.fr.set j u
  · rw [h1]; exact own_keptB h.o1 hB (by decide)
  · rw [h2]; exact own_keptB h.o2 hB (by decide)
  · rw [h3]; exact own_keptB h.o3 hB (by decide)
theorem RsAt.app1 (h : RsAt w0 w base p g R F v1 v2 v3) (hk1 : Kept [] w w1) (hk2 : Kept v1.ownBlock.toList w1 w2) {x : Int × Int} {u : Value} (ho : w2.ownsRow base 99 2 u (F.items.length + 1) (F.items.flatMap readV ++ readV x)) :
    RsAt w0 (w2.setCell ⟨g, 6, none⟩ u) base p g R { F with items := F.items ++ [x] } u v2 v3 := by
  have h := h.kept0 hk1
  have hA : KeptB base [99] w1 w2 := (KeptB.refl _ _ _).app hk2 h.o1 (by decide)
  have hf2 := h.fr.keptB hA (by decide)
  have hS : KeptB base [60] w2 (w2.setCell ⟨g, 6, none⟩ u) := (KeptB.refl _ _ _).set hf2 h.hg (by decide) 6 _
  refine ⟨(h.rd.keptB hA (by decide) (by decide)).keptB hS (by decide) (by decide), by have := hf2.set 6 u; simpa using this, ?_, own_keptB (own_keptB h.o2 hA (by decide)) hS (by decide), own_keptB (own_keptB h.o3 hA (by decide)) hS (by decide), h.kept.trans ((hA.mono (by decide)).trans (hS.mono (by decide))), h.hp, h.hg, h.hb⟩
  have := own_keptB ho hS (by decide)
  simpa [List.flatMap_append] using this
theorem RsAt.app2 (h : RsAt w0 w base p g R F v1 v2 v3) (hk1 : Kept [] w w1) (hk2 : Kept v2.ownBlock.toList w1 w2) {x : Int × Int × Nat} {u : Value} (ho : w2.ownsRow base 103 3 u (F.sums.length + 1) (F.sums.flatMap sumV ++ sumV x)) :
    RsAt w0 (w2.setCell ⟨g, 7, none⟩ u) base p g R { F with sums := F.sums ++ [x] } v1 u v3 := by
  have h := h.kept0 hk1
  have hA : KeptB base [103] w1 w2 := (KeptB.refl _ _ _).app hk2 h.o2 (by decide)
  have hf2 := h.fr.keptB hA (by decide)
  have hS : KeptB base [60] w2 (w2.setCell ⟨g, 7, none⟩ u) := (KeptB.refl _ _ _).set hf2 h.hg (by decide) 7 _
  refine ⟨(h.rd.keptB hA (by decide) (by decide)).keptB hS (by decide) (by decide), by have := hf2.set 7 u; simpa using this, own_keptB (own_keptB h.o1 hA (by decide)) hS (by decide), ?_, own_keptB (own_keptB h.o3 hA (by decide)) hS (by decide), h.kept.trans ((hA.mono (by decide)).trans (hS.mono (by decide))), h.hp, h.hg, h.hb⟩
  have := own_keptB ho hS (by decide)
  simpa [List.flatMap_append] using this
theorem RsAt.app3 (h : RsAt w0 w base p g R F v1 v2 v3) (hk1 : Kept [] w w1) (hk2 : Kept v3.ownBlock.toList w1 w2) {x : Int × Int × Int} {u : Value} (ho : w2.ownsRow base 105 3 u (F.trips.length + 1) (F.trips.flatMap tripV ++ tripV x)) :
    RsAt w0 (w2.setCell ⟨g, 8, none⟩ u) base p g R { F with trips := F.trips ++ [x] } v1 v2 u := by
  have h := h.kept0 hk1
  have hA : KeptB base [105] w1 w2 := (KeptB.refl _ _ _).app hk2 h.o3 (by decide)
  have hf2 := h.fr.keptB hA (by decide)
  have hS : KeptB base [60] w2 (w2.setCell ⟨g, 8, none⟩ u) := (KeptB.refl _ _ _).set hf2 h.hg (by decide) 8 _
  refine ⟨(h.rd.keptB hA (by decide) (by decide)).keptB hS (by decide) (by decide), by have := hf2.set 8 u; simpa using this, own_keptB (own_keptB h.o1 hA (by decide)) hS (by decide), own_keptB (own_keptB h.o2 hA (by decide)) hS (by decide), ?_, h.kept.trans ((hA.mono (by decide)).trans (hS.mono (by decide))), h.hp, h.hg, h.hb⟩
  have := own_keptB ho hS (by decide)
  simpa [List.flatMap_append] using this
/-- The same, with a struct of two or three cells that is filled, at T. -/
structure RxAt (w0 w : World) (base p g : Nat) (R : Rd) (F : Fr) (v1 v2 v3 : Value) (t : TypeId) (T : Nat) (cs : List Value) : Prop where
  rs : RsAt w0 w base p g R F v1 v2 v3
  blk : Blk w T t cs
  n1 : v1.ownBlock ≠ some T
  n2 : v2.ownBlock ≠ some T
  n3 : v3.ownBlock ≠ some T
  le : base ≤ T
  ht : t = 99 ∨ t = 103 ∨ t = 105
theorem RsAt.new (h : RsAt w0 w base p g R F v1 v2 v3) (t : TypeId) (cs : List Value) (ht : t = 99 ∨ t = 103 ∨ t = 105) : RxAt w0 (w.alloc (.cells cs.toArray t)) base p g R F v1 v2 v3 t w.heap.size cs :=
  ⟨h.kept0 ((Kept.refl [] _).alloc _), Blk.new _ _ _, fun hv => Nat.lt_irrefl _ (h.o1.lt _ hv).2, fun hv => Nat.lt_irrefl _ (h.o2.lt _ hv).2, fun hv => Nat.lt_irrefl _ (h.o3.lt _ hv).2, Nat.le_trans h.hb h.kept.size, ht⟩
section
variable {t : TypeId} {T : Nat} {cs : List Value}
theorem RxAt.call (h : RxAt w0 w base p g R F v1 v2 v3 t T cs) (hr : RdAt 92 w' p R') (hk : Kept [p] w w') : RxAt w0 w' base p g R' F v1 v2 v3 t T cs := by
  have hB : KeptB base [92] w w' := (KeptB.refl _ _ _).rcall h.rs.rd hk h.rs.hp (by decide)
  exact ⟨h.rs.call hr hk, h.blk.keptB hB (by rcases h.ht with rfl | rfl | rfl <;> decide), h.n1, h.n2, h.n3, h.le, h.ht⟩
theorem RxAt.kept0 (h : RxAt w0 w base p g R F v1 v2 v3 t T cs) (hk : Kept [] w w') : RxAt w0 w' base p g R F v1 v2 v3 t T cs :=
  ⟨h.rs.kept0 hk, h.blk.kept hk (by simp), h.n1, h.n2, h.n3, h.le, h.ht⟩
theorem RxAt.set (h : RxAt w0 w base p g R F v1 v2 v3 t T cs) (j : Nat) (u : Value) : RxAt w0 (w.setCell ⟨T, j, none⟩ u) base p g R F v1 v2 v3 t T (cs.set j u) := by
  have hB : KeptB base [t] w (w.setCell ⟨T, j, none⟩ u) := (KeptB.refl _ _ _).set h.blk h.le (by simp) j _
  have hK : Kept [T] w (w.setCell ⟨T, j, none⟩ u) := (Kept.refl [T] w).setCell (p := ⟨T, j, none⟩) (.inl (List.mem_singleton.2 rfl)) u
  have rs := h.rs
  have a1 : 92 ∉ [t] := by rcases h.ht with rfl | rfl | rfl <;> decide
  have a2 : 5 ∉ [t] := by rcases h.ht with rfl | rfl | rfl <;> decide
  have a3 : 60 ∉ [t] := by rcases h.ht with rfl | rfl | rfl <;> decide
  have a4 : ∀ t' ∈ [t], t' ∈ rsT := by rcases h.ht with rfl | rfl | rfl <;> decide
  have nn : ∀ {v : Value}, v.ownBlock ≠ some T → ∀ g', v.ownBlock = some g' → g' ∉ [T] := fun hv g' hg hm => by simp at hm; subst hm; exact hv hg
  exact ⟨⟨rs.rd.keptB hB a1 a2, rs.fr.keptB hB a3, own_kept rs.o1 hK (nn h.n1), own_kept rs.o2 hK (nn h.n2), own_kept rs.o3 hK (nn h.n3), rs.kept.trans (hB.mono a4), rs.hp, rs.hg, rs.hb⟩, h.blk.set j u, h.n1, h.n2, h.n3, h.le, h.ht⟩
end
end
/-- How the document's Decode ends. -/
abbrev RefPost := DecPost
end Go.Proofs.Ytdjidnccockmmaa
