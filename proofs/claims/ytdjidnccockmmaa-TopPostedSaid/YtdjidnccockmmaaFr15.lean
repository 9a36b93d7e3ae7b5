/- Frames: the lists that are read, in plain words; what lies in memory while they are. -/
import Derived.Test.YtdjidnccockmmaaFr14
import Derived.Deep.RegionLaw
import Derived.Deep.RegionHeld3
namespace Go.Proofs.Ytdjidnccockmmaa
set_option linter.unusedSimpArgs false
set_option linter.unusedVariables false
open Go.ChangeShapes Go.WideShapes Go.ChangeAt Go.RowKit
open Go.RowKit (wrap32 wrap64)
set_option maxHeartbeats 4000000

def Rd.items (vn : Int) : Nat → Int → Rd → List (Int × Int) → Except (Int × Int) (List (Int × Int) × Rd)
  | 0, _, R, acc => .ok (acc, R)
  | k + 1, last, R, acc => (R.rise last (vn - 1)).bind fun x => x.2.word.bind fun y => Rd.items vn k x.1 y.2 (acc ++ [(x.1, y.1)])
def Rd.sums : Nat → Int → Rd → List (Int × Int × Nat) → Except (Int × Int) (List (Int × Int × Nat) × Rd)
  | 0, _, R, acc => .ok (acc, R)
  | k + 1, last, R, acc => (R.rise last 4095).bind fun x => x.2.word.bind fun y => y.2.word.bind fun z => Rd.sums k x.1 z.2 (acc ++ [(x.1, y.1, u64of z.1)])
def Rd.trips : Nat → Rd → List (Int × Int × Int) → Except (Int × Int) (List (Int × Int × Int) × Rd)
  | 0, R, acc => .ok (acc, R)
  | k + 1, R, acc => (R.rd 4 0 4095 3).bind fun x => (x.2.rd 4 0 4095 3).bind fun y => y.2.word.bind fun z => Rd.trips k z.2 (acc ++ [(x.1, y.1, z.1)])
def Rd.end7 (F : Fr) (R : Rd) : Except (Int × Int) (Fr × Rd) := if R.atEnd then .ok (F, R) else .error (4, R.pos)
def Rd.lists6 (F : Fr) (n : Int) (R : Rd) : Except (Int × Int) (Fr × Rd) := (Rd.trips n.toNat R []).bind fun h => Rd.end7 { F with trips := h.1 } h.2
def Rd.lists5 (F : Fr) (R : Rd) : Except (Int × Int) (Fr × Rd) := (R.rd 4 0 65536 5).bind fun f => Rd.lists6 F f.1 f.2
def Rd.lists4 (F : Fr) (n : Int) (R : Rd) : Except (Int × Int) (Fr × Rd) := (Rd.sums n.toNat (-1) R []).bind fun e => Rd.lists5 { F with sums := e.1 } e.2
def Rd.lists3 (F : Fr) (R : Rd) : Except (Int × Int) (Fr × Rd) := (R.rd 4 0 4096 5).bind fun d => Rd.lists4 F d.1 d.2
def Rd.lists2 (F : Fr) (n : Int) (R : Rd) : Except (Int × Int) (Fr × Rd) := (Rd.items F.vn n.toNat (-1) R []).bind fun c => Rd.lists3 { F with items := c.1 } c.2
def Rd.lists1 (F : Fr) (R : Rd) : Except (Int × Int) (Fr × Rd) := (R.rd 4 0 F.vn 5).bind fun b => Rd.lists2 F b.1 b.2
def Rd.lists (F : Fr) (R : Rd) : Except (Int × Int) (Fr × Rd) := (R.rd 4 0 4096 5).bind fun a => Rd.lists1 { F with vn := a.1 } a.2

/-- A frame's cells. -/
abbrev lsC (F : Fr) (v1 v2 v3 : Value) : List Value :=
  [.int .i64 F.kind, .int .i64 F.src, .int .i64 F.dst, .int .i64 F.seq, .int .i64 F.round, .int .i64 F.vn, v1, v2, v3, .int .i64 F.n, .bool F.over]
/-- The element types that reading turns. -/
abbrev rdT : List TypeId := [87, 60, 99, 103, 105]

section
variable {base : Nat} {T : List TypeId} {a b c w w' : World}
theorem KeptB.mono {T' : List TypeId} (h : KeptB base T a b) (hT : ∀ t ∈ T, t ∈ T') : KeptB base T' a b :=
  ⟨h.os, h.tape, h.output, h.size, fun k hk ht => h.block k hk (ht.imp id fun f cs t fr hc hm => f cs t fr hc (hT t hm))⟩
theorem own_keptB {e : TypeId} {size n base' : Nat} {v : Value} {xs : List Value} (h : w.ownsRow base' e size v n xs) (hk : KeptB base T w w') (he : e ∉ T) : w'.ownsRow base' e size v n xs := by
  refine ⟨h.1, h.2.imp id ?_⟩
  rintro ⟨g, cap, cur, hv, hb, hg, r⟩
  refine ⟨g, cap, cur, hv, hb, (hk.block g (Array.getElem?_eq_some_iff.1 hg).1 (.inr fun cs t fr hc => ?_)).trans hg, r⟩
  rw [hg] at hc
  injection hc with hc
  injection hc with _ e1 _
  subst e1
  exact he
theorem RdAt.keptB {t : TypeId} {p : Nat} {R : Rd} (h : RdAt t w p R) (hk : KeptB base T w w') (ht : t ∉ T) (hu : 5 ∉ T) : RdAt t w' p R := by
  obtain ⟨⟨A, cap, hb, ho⟩, h2, h3⟩ := h
  exact ⟨⟨A, cap, hb.keptB hk ht, own_keptB ho hk hu⟩, h2, h3⟩
theorem KeptB.call {p : Nat} {R : Rd} (h : KeptB base T a b) (hr : RdAt 87 b p R) (hk : Kept [p] b c) (hp : base ≤ p) (hT : 87 ∈ T) : KeptB base T a c := by
  obtain ⟨⟨A, cap, hb, ho⟩, _⟩ := hr
  exact h.step hk (fun m hm => by simp at hm; subst hm; exact ⟨hp, _, _, _, hb, hT⟩)
end

/-- What lies in memory while the lists are read: the reader at p, the box of the source at b, the frame at g. -/
structure LsAt (w0 w : World) (base p b g : Nat) (R : Rd) (F : Fr) (v1 v2 v3 : Value) : Prop where
  rd : RdAt 87 w p R
  box : Blk w b 120 [.pointer (some ⟨p, 0, none⟩)]
  fr : Blk w g 60 (lsC F v1 v2 v3)
  o1 : w.ownsRow base 99 2 v1 F.items.length (F.items.flatMap readV)
  o2 : w.ownsRow base 103 3 v2 F.sums.length (F.sums.flatMap sumV)
  o3 : w.ownsRow base 105 3 v3 F.trips.length (F.trips.flatMap tripV)
  kept : KeptB base rdT w0 w
  hp : base ≤ p
  hg : base ≤ g
  hb : base ≤ w0.heap.size
section
variable {w0 w w1 w2 w' : World} {base p b g : Nat} {R R' : Rd} {F : Fr} {v1 v2 v3 : Value}
theorem LsAt.call (h : LsAt w0 w base p b g R F v1 v2 v3) (hr : RdAt 87 w' p R') (hk : Kept [p] w w') : LsAt w0 w' base p b g R' F v1 v2 v3 := by
  have hB : KeptB base [87] w w' := (KeptB.refl _ _ _).call h.rd hk h.hp (by decide)
  exact ⟨hr, h.box.keptB hB (by decide), h.fr.keptB hB (by decide), own_keptB h.o1 hB (by decide), own_keptB h.o2 hB (by decide), own_keptB h.o3 hB (by decide), h.kept.trans (hB.mono (by decide)), h.hp, h.hg, h.hb⟩
theorem LsAt.kept0 (h : LsAt w0 w base p b g R F v1 v2 v3) (hk : Kept [] w w') : LsAt w0 w' base p b g R F v1 v2 v3 := by
  have hB : KeptB base [] w w' := .of_kept0 hk
  exact ⟨h.rd.kept0 hk, h.box.keptB hB (by decide), h.fr.keptB hB (by decide), own_keptB h.o1 hB (by decide), own_keptB h.o2 hB (by decide), own_keptB h.o3 hB (by decide), h.kept.trans (hB.mono (by decide)), h.hp, h.hg, h.hb⟩
theorem LsAt.setN (h : LsAt w0 w base p b g R F v1 v2 v3) (n : Int) : LsAt w0 (w.setCell ⟨g, 5, none⟩ (.int .i64 n)) base p b g R { F with vn := n } v1 v2 v3 := by
  have hB : KeptB base [60] w (w.setCell ⟨g, 5, none⟩ (.int .i64 n)) := (KeptB.refl _ _ _).set h.fr h.hg (by decide) 5 _
  exact ⟨h.rd.keptB hB (by decide) (by decide), h.box.keptB hB (by decide), by have := h.fr.set 5 (.int .i64 n); simpa using this, own_keptB h.o1 hB (by decide), own_keptB h.o2 hB (by decide), own_keptB h.o3 hB (by decide), h.kept.trans (hB.mono (by decide)), h.hp, h.hg, h.hb⟩
/-- One more item: appended, and stored back. -/
theorem LsAt.app1 (h : LsAt w0 w base p b g R F v1 v2 v3) (hk1 : Kept [] w w1) (hk2 : Kept v1.ownBlock.toList w1 w2) {x : Int × Int} {u : Value} (ho : w2.ownsRow base 99 2 u (F.items.length + 1) (F.items.flatMap readV ++ readV x)) :
    LsAt w0 (w2.setCell ⟨g, 6, none⟩ u) base p b g R { F with items := F.items ++ [x] } u v2 v3 := by
  have h := h.kept0 hk1
  have hA : KeptB base [99] w1 w2 := (KeptB.refl _ _ _).app hk2 h.o1 (by decide)
  have hf2 := h.fr.keptB hA (by decide)
  have hS : KeptB base [60] w2 (w2.setCell ⟨g, 6, none⟩ u) := (KeptB.refl _ _ _).set hf2 h.hg (by decide) 6 _
  refine ⟨(h.rd.keptB hA (by decide) (by decide)).keptB hS (by decide) (by decide), (h.box.keptB hA (by decide)).keptB hS (by decide), by have := hf2.set 6 u; simpa using this, ?_, own_keptB (own_keptB h.o2 hA (by decide)) hS (by decide), own_keptB (own_keptB h.o3 hA (by decide)) hS (by decide), h.kept.trans ((hA.mono (by decide)).trans (hS.mono (by decide))), h.hp, h.hg, h.hb⟩
  have := own_keptB ho hS (by decide)
  simpa [List.flatMap_append] using this
theorem LsAt.app2 (h : LsAt w0 w base p b g R F v1 v2 v3) (hk1 : Kept [] w w1) (hk2 : Kept v2.ownBlock.toList w1 w2) {x : Int × Int × Nat} {u : Value} (ho : w2.ownsRow base 103 3 u (F.sums.length + 1) (F.sums.flatMap sumV ++ sumV x)) :
    LsAt w0 (w2.setCell ⟨g, 7, none⟩ u) base p b g R { F with sums := F.sums ++ [x] } v1 u v3 := by
  have h := h.kept0 hk1
  have hA : KeptB base [103] w1 w2 := (KeptB.refl _ _ _).app hk2 h.o2 (by decide)
  have hf2 := h.fr.keptB hA (by decide)
  have hS : KeptB base [60] w2 (w2.setCell ⟨g, 7, none⟩ u) := (KeptB.refl _ _ _).set hf2 h.hg (by decide) 7 _
  refine ⟨(h.rd.keptB hA (by decide) (by decide)).keptB hS (by decide) (by decide), (h.box.keptB hA (by decide)).keptB hS (by decide), by have := hf2.set 7 u; simpa using this, own_keptB (own_keptB h.o1 hA (by decide)) hS (by decide), ?_, own_keptB (own_keptB h.o3 hA (by decide)) hS (by decide), h.kept.trans ((hA.mono (by decide)).trans (hS.mono (by decide))), h.hp, h.hg, h.hb⟩
  have := own_keptB ho hS (by decide)
  simpa [List.flatMap_append] using this
theorem LsAt.app3 (h : LsAt w0 w base p b g R F v1 v2 v3) (hk1 : Kept [] w w1) (hk2 : Kept v3.ownBlock.toList w1 w2) {x : Int × Int × Int} {u : Value} (ho : w2.ownsRow base 105 3 u (F.trips.length + 1) (F.trips.flatMap tripV ++ tripV x)) :
    LsAt w0 (w2.setCell ⟨g, 8, none⟩ u) base p b g R { F with trips := F.trips ++ [x] } v1 v2 u := by
  have h := h.kept0 hk1
  have hA : KeptB base [105] w1 w2 := (KeptB.refl _ _ _).app hk2 h.o3 (by decide)
  have hf2 := h.fr.keptB hA (by decide)
  have hS : KeptB base [60] w2 (w2.setCell ⟨g, 8, none⟩ u) := (KeptB.refl _ _ _).set hf2 h.hg (by decide) 8 _
  refine ⟨(h.rd.keptB hA (by decide) (by decide)).keptB hS (by decide) (by decide), (h.box.keptB hA (by decide)).keptB hS (by decide), by have := hf2.set 8 u; simpa using this, own_keptB (own_keptB h.o1 hA (by decide)) hS (by decide), own_keptB (own_keptB h.o2 hA (by decide)) hS (by decide), ?_, h.kept.trans ((hA.mono (by decide)).trans (hS.mono (by decide))), h.hp, h.hg, h.hb⟩
  have := own_keptB ho hS (by decide)
  simpa [List.flatMap_append] using this
end
/-- How the reading of the lists ends. -/
def LsPost (w0 : World) (base p b g : Nat) (r : Except (Int × Int) (Fr × Rd)) (x : Ending) (w' : World) : Prop :=
  match r with
  | .ok (F, R) => x = .returned (.tuple #[]) ∧ ∃ v1 v2 v3, LsAt w0 w' base p b g R F v1 v2 v3
  | .error (e, a) => x = .panicked [stp e a] ∧ KeptB base rdT w0 w' ∧ ∃ cs, cs.length = 11 ∧ Blk w' g 60 cs
theorem infoItem : Info Try.prog 99 (.agg #[.int .i64 0, .int .i64 0]) 2 16 := by unfold Info; kernel_rfl
theorem infoSum : Info Try.prog 103 (.agg #[.int .i64 0, .int .i64 0, .int .u64 0]) 3 24 := by unfold Info; kernel_rfl
theorem infoTriple : Info Try.prog 105 (.agg #[.int .i64 0, .int .i64 0, .int .i64 0]) 3 24 := by unfold Info; kernel_rfl
end Go.Proofs.Ytdjidnccockmmaa
