/- Blocks loaded and stored whole, records appended, inside a fence. Conditions: none beside those that each lemma states. -/
import Derived.Test.YtblfingmdipopaaGreatM24
namespace Go.Proofs.YtblfingmdipopaaGreat
set_option linter.unusedSimpArgs false
set_option linter.unusedVariables false
open Go.ChangeShapes Go.WideShapes Go.ChangeAt Go.RowKit
open Go.RowKit (wrap32 wrap64)
section
variable {F : Fence} {n : Nat} {P : Program} {ops : Array Oper} {rest : List Oper} {o : Oper} {a : Act} {w : World} {Q : Exit → Act → World → Prop}
theorem inLoad (hg : o.guard = none) (ty : TypeId) (x : Operand) (ho : o.op = .load ty x) (g : Nat) (cs : List Value) (d : TypeDesc) (hb : Blk w g ty cs) (hx : a.eval x = .pointer (some ⟨g, 0, none⟩))
    (hu : P.underlying ty = some d) (hd : d.isRow = true) (hi : (P.info? ty).map (·.size) = some cs.length) (h : wpListIn F n P ops Q rest (a.put o.dst (.agg cs.toArray)) w) : wpListIn F n P ops Q (o :: rest) a w := by
  refine wpListIn_plain hg fun K hK => ?_
  unfold Oper.wpIn
  refine ⟨?_, ?_⟩
  · simp [Oper.about, ho]
  · rw [Oper.semAt_plain F _ _ (by rw [ho]; intro c hc; cases hc)]
    unfold execOp
    simp only [ho, hx, Instr.loadAt, Instr.sureAddr, Sem.run_bind, Sem.run_pure, Result.andThen_ok, run_loadVar_mid w g 0 ty cs d hb.cell2 hu hd hi]
    exact hK _ _ h
theorem inStore (hg : o.guard = none) (ty : TypeId) (x y : Operand) (ho : o.op = .store ty x y) (g : Nat) (cs news : List Value) (hb : Blk w g ty cs) (hl : news.length = cs.length) (hx : a.eval x = .pointer (some ⟨g, 0, none⟩)) (hy : a.eval y = .agg news.toArray)
    (hi : (P.info? ty).map (·.size) = some news.length) (h1 : news.toArray.all (·.oneCell') = true) (h : ∀ w', Blk w' g ty news → Kept [g] w w' → wpListIn F n P ops Q rest (a.put o.dst undef) w') : wpListIn F n P ops Q (o :: rest) a w := by
  refine wpListIn_plain hg fun K hK => ?_
  have h2 := Blk.setCells news w 0 cs (by omega) hb
  simp only [List.take_zero, List.nil_append] at h2
  have ht : w.there g 0 news.toArray.size := fun j hj => by
    rw [Nat.zero_add, hb.cell, hb.frozen]
    exact ⟨by rw [List.getElem?_eq_getElem (by simp at hj; omega)]; rfl, rfl⟩
  unfold Oper.wpIn
  refine ⟨?_, ?_⟩
  · simp [Oper.about, ho]
  · rw [Oper.semAt_plain F _ _ (by rw [ho]; intro c hc; cases hc)]
    unfold execOp
    simp only [ho, hx, hy, Instr.storeAt, Instr.sureAddr, Sem.run_bind, Sem.run_pure, Result.andThen_ok, run_storeVar_mid w g 0 ty news.toArray ht (by simpa using hi) h1]
    exact hK _ _ (h _ h2.1 h2.2)
end
end Go.Proofs.YtblfingmdipopaaGreat
