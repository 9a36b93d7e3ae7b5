/- pull.adder: sums of what comes, one behind the other. Conditions: values of the ring. -/
import Derived.Test.YtblfingmdipopaaGreatM25
import Derived.Test.YtblfingmdipopaaGreatM33
namespace Go.Proofs.YtblfingmdipopaaGreat
set_option linter.unusedSimpArgs false
set_option linter.unusedVariables false
open Go.ChangeShapes Go.WideShapes Go.ChangeAt Go.RowKit
open Go.RowKit (wrap32 wrap64)
set_option maxHeartbeats 8000000
/-- One more is put to a sum. -/
def sumO (r : Int) (o : Option Int) (x : Int) : Option Int := match o with | none => some x | some s => some (addV r s x)
def oW (o : Option Int) : Wd := match o with | none => (0, 0) | some s => wOf s
def OkO (r : Int) (o : Option Int) : Prop := match o with | none => True | some s => OkV r s
theorem sumO_ok {r : Int} {o : Option Int} {x : Int} (ho : OkO r o) (hx : OkV r x) : OkO r (sumO r o x) := by
  cases o with
  | none => exact hx
  | some s => exact addV_ok ho hx
/-- The variables of an adder. -/
structure AdAt (w : World) (gs gr gm : Nat) (r : Int) (o : Option Int) : Prop where
  b1 : Blk w gs 4 [.bool o.isSome]
  b2 : Blk w gr 22 [.int .i64 r]
  b3 : Blk w gm 100 (wdC (oW o))
theorem AdAt.kept0 {w w' : World} {gs gr gm : Nat} {r : Int} {o : Option Int} (h : AdAt w gs gr gm r o) (k : Kept [] w w') : AdAt w' gs gr gm r o := ⟨h.b1.kept k (by simp), h.b2.kept k (by simp), h.b3.kept k (by simp)⟩
theorem adder_any (r : Int) (w : World) : Calls Tryz.prog 98 #[.int .i64 r] w fun e w' => ∃ gs gr gm, e = .returned (.tuple #[.func (.func 135) #[] #[.pointer (some ⟨gs, 0, none⟩), .pointer (some ⟨gr, 0, none⟩), .pointer (some ⟨gm, 0, none⟩)], .func (.func 136) #[] #[.pointer (some ⟨gm, 0, none⟩), .pointer (some ⟨gs, 0, none⟩)]]) ∧ AdAt w' gs gr gm r none ∧ (w.heap.size ≤ gs ∧ w.heap.size ≤ gr ∧ w.heap.size ≤ gm) ∧ Kept [] w w' := by
  have HX := Lib.hid (((Blk.new w 22 [.int .i64 r]).alloc (.cells #[.int .i64 0, .int .u64 0] 100)).alloc (.cells #[.bool false] 4))
  have HY := Lib.hid ((Blk.new1F w (.cells #[.int .i64 r] 22) 100 (wdC (0, 0))).alloc (.cells #[.bool false] 4))
  have HZ0 := Blk.new ((w.alloc (.cells #[.int .i64 r] 22)).alloc (.cells #[.int .i64 0, .int .u64 0] 100)) 4 [.bool false]
  rw [show ((w.alloc (.cells #[.int .i64 r] 22)).alloc (.cells #[.int .i64 0, .int .u64 0] 100)).heap.size = w.heap.size + 1 + 1 by simp] at HZ0
  have HZ := Lib.hid HZ0
  have K0 := Lib.hid ((((Kept.refl [] w).alloc (.cells #[.int .i64 r] 22)).alloc (.cells #[.int .i64 0, .int .u64 0] 100)).alloc (.cells #[.bool false] 4))
  clear HZ0
  go_enter Tryz.func98, Tryz.ntmps98
  go_wp2_with fail
  refine bodyPost_ret (v := .tuple #[.func (.func 135) #[] #[.pointer (some ⟨w.heap.size + 1 + 1, 0, none⟩), .pointer (some ⟨w.heap.size, 0, none⟩), .pointer (some ⟨w.heap.size + 1, 0, none⟩)], .func (.func 136) #[] #[.pointer (some ⟨w.heap.size + 1, 0, none⟩), .pointer (some ⟨w.heap.size + 1 + 1, 0, none⟩)]]) (by simp [results, Tryz.results98, go_sem]) rfl ?_
  exact ⟨_, _, _, rfl, ⟨HZ.out, HX.out, HY.out⟩, ⟨by omega, by omega, by omega⟩, K0.out⟩
abbrev adT : List TypeId := [4, 100]
set_option maxRecDepth 100000 in
theorem more_any (base gs gr gm : Nat) (r x : Int) (o : Option Int) (w : World) (hr : RingV r) (ho : OkO r o) (hx : OkV r x) (h : AdAt w gs gr gm r o) (hs : base ≤ gs) (hm : base ≤ gm) (hb : base ≤ w.heap.size) :
    Calls Tryz.prog 135 #[wdV (wOf x), .pointer (some ⟨gs, 0, none⟩), .pointer (some ⟨gr, 0, none⟩), .pointer (some ⟨gm, 0, none⟩)] w fun e w' => e = .returned (.tuple #[]) ∧ AdAt w' gs gr gm r (sumO r o x) ∧ KeptB base adT w w' ∧ Kept [gs, gm] w w' := by
  have HG := Lib.hid (show base ≤ gs ∧ base ≤ gm ∧ base ≤ w.heap.size from ⟨hs, hm, hb⟩)
  have HP := Lib.hid (Blk.new w 100 (wdC (wOf x)))
  have F0 := Lib.hid ((KeptB.refl base adT w).alloc (.cells (wdC (wOf x)).toArray 100))
  have k0 := (Kept.refl [] w).alloc (.cells (wdC (wOf x)).toArray 100)
  have K9 := Lib.hid ((Kept.refl [gs, gm] w).alloc (.cells (wdC (wOf x)).toArray 100))
  have HS := Lib.hid (h.b1.kept k0 (by simp))
  have HR := Lib.hid (h.b2.kept k0 (by simp))
  have HM := Lib.hid (h.b3.kept k0 (by simp))
  have HNE := Lib.hid (show gm ≠ w.heap.size from by have := h.b3.lt; omega)
  have HRV := Lib.hid hr
  have HO := Lib.hid ho
  have HX := Lib.hid hx
  clear k0 h hr ho hx hs hm hb
  cases o with
  | none =>
    have c1 := HS.out.cell 0
    simp only [List.getElem?_cons_zero] at c1
    go_enter Tryz.func135, Tryz.ntmps135
    go_upto_region 1 with (fail)
    generalize w.alloc (.cells #[.int .i64 (wOf x).1, .int .u64 ((wOf x).2 : Int)] 100) = wL at *
    generalize hgp : w.heap.size = gp at HP HNE ⊢
    have HGP := Lib.hid (show base ≤ gp by have := HG.out.2.2; omega)
    have HGW := Lib.hid (show w.heap.size ≤ gp by omega)
    clear hgp
    go_upto_region 3 with (fail)
    go_wp2_with (first | (refine wpList_loadBlk rfl 100 (.tmp 4) rfl gp (wdC (wOf (x))) _ HP.out rfl Tryz.underlying100 rfl infoWide ?_) | (refine wpList_storeBlk rfl 100 (.tmp 3) (.tmp 10) rfl gm _ (wdC (wOf (x))) HM.out rfl rfl rfl infoWide (by simp [Value.oneCell']) ?_; intro w8 hb8 hk8; have cs := (HS.out.keptB ((KeptB.refl 0 [100] _).step (L := [gm]) hk8 (fun u hu => by simp at hu; subst hu; exact ⟨Nat.zero_le _, _, _, _, HM.out, by simp⟩)) (by decide)).cell 0; have fs := (HS.out.keptB ((KeptB.refl 0 [100] _).step (L := [gm]) hk8 (fun u hu => by simp at hu; subst hu; exact ⟨Nat.zero_le _, _, _, _, HM.out, by simp⟩)) (by decide)).frozen 0; simp only [List.getElem?_cons_zero] at cs))
    have f8 : KeptB base adT wL w8 := (KeptB.refl _ _ wL).step (L := [gm]) hk8 (fun u hu => by simp at hu; subst hu; exact ⟨HG.out.2.1, _, _, _, HM.out, by simp⟩)
    have f9 : KeptB 0 [100] wL w8 := (KeptB.refl _ _ wL).step (L := [gm]) hk8 (fun u hu => by simp at hu; subst hu; exact ⟨Nat.zero_le _, _, _, _, HM.out, by simp⟩)
    have HS9 := HS.out.keptB f9 (by decide)
    have HR9 := HR.out.keptB f9 (by decide)
    refine bodyPost_end (results_none rfl _ _ _) rfl ?_
    refine ⟨rfl, ⟨?_, ?_, ?_⟩, (F0.out.trans f8).set HS9 HG.out.1 (by decide) 0 (.bool true), (K9.out.then hk8 (fun u hu => by simp at hu; subst hu; exact .inl (by simp))).setCell (p := ⟨gs, 0, none⟩) (.inl (by simp)) _⟩
    · have := HS9.set 0 (.bool true)
      simpa [sumO] using this
    · exact HR9.far (by simp; exact fun e => Blk.types (by decide) (e ▸ HR9) HS9) _
    · exact hb8.far (by simp; exact fun e => Blk.types (by decide) (e ▸ hb8) HS9) _
  | some s =>
    have c1 := HS.out.cell 0
    simp only [List.getElem?_cons_zero, Option.isSome_some] at c1
    have r0 := HR.out.cell 0
    simp only [List.getElem?_cons_zero, List.getElem?_cons_succ] at r0
    go_enter Tryz.func135, Tryz.ntmps135
    go_upto_region 1 with (fail)
    generalize w.alloc (.cells #[.int .i64 (wOf x).1, .int .u64 ((wOf x).2 : Int)] 100) = wL at *
    generalize hgp : w.heap.size = gp at HP HNE ⊢
    have HGP := Lib.hid (show base ≤ gp by have := HG.out.2.2; omega)
    have HGW := Lib.hid (show w.heap.size ≤ gp by omega)
    clear hgp
    go_wp2_with (first | (refine wpList_loadBlk rfl 100 (.tmp 3) rfl gm (wdC (wOf s)) _ HM.out rfl Tryz.underlying100 rfl infoWide ?_) | (refine wpList_loadBlk rfl 100 (.tmp 4) rfl gp (wdC (wOf x)) _ HP.out rfl Tryz.underlying100 rfl infoWide ?_))
    refine (ringAdd_val HRV.out HO.out HX.out _).mono ?_
    rintro _ w4 ⟨rfl, hk⟩
    replace HS := Lib.hid (HS.out.kept hk (by simp))
    replace HR := Lib.hid (HR.out.kept hk (by simp))
    replace HM := Lib.hid (HM.out.kept hk (by simp))
    replace HP := Lib.hid (HP.out.kept hk (by simp))
    replace F0 := Lib.hid (F0.out.trans (KeptB.of_kept0 hk))
    replace K9 := Lib.hid (K9.out.then hk (fun u hu => by simp at hu))
    clear hk c1 r0
    go_upto_region 3 with (first | (refine wpList_storeBlk rfl 100 (.tmp 4) (.tmp 9) rfl gp _ (wdC (wOf (addV r s x))) HP.out rfl rfl rfl infoWide (by simp [Value.oneCell']) ?_; intro w5 hb5 hk5))
    have f5 : KeptB base adT w4 w5 := (KeptB.refl _ _ w4).step (L := [gp]) hk5 (fun u hu => by simp at hu; subst hu; exact ⟨HGP.out, _, _, _, HP.out, by simp⟩)
    have f6 : KeptB 0 [100] w4 w5 := (KeptB.refl _ _ w4).step (L := [gp]) hk5 (fun u hu => by simp at hu; subst hu; exact ⟨Nat.zero_le _, _, _, _, HP.out, by simp⟩)
    replace HS := Lib.hid (HS.out.keptB f6 (by decide))
    replace HR := Lib.hid (HR.out.keptB f6 (by decide))
    replace HM := Lib.hid (HM.out.kept hk5 (by simp; exact HNE.out))
    replace HP := Lib.hid hb5
    replace F0 := Lib.hid (F0.out.trans f5)
    replace K9 := Lib.hid (K9.out.then hk5 (fun u hu => by simp at hu; subst hu; exact .inr HGW.out))
    clear f5 f6 hb5 hk5
    generalize w5 = wL at *
    go_wp2_with (first | (refine wpList_loadBlk rfl 100 (.tmp 4) rfl gp (wdC (wOf (addV r s x))) _ HP.out rfl Tryz.underlying100 rfl infoWide ?_) | (refine wpList_storeBlk rfl 100 (.tmp 3) (.tmp 10) rfl gm _ (wdC (wOf (addV r s x))) HM.out rfl rfl rfl infoWide (by simp [Value.oneCell']) ?_; intro w8 hb8 hk8; have cs := (HS.out.keptB ((KeptB.refl 0 [100] _).step (L := [gm]) hk8 (fun u hu => by simp at hu; subst hu; exact ⟨Nat.zero_le _, _, _, _, HM.out, by simp⟩)) (by decide)).cell 0; have fs := (HS.out.keptB ((KeptB.refl 0 [100] _).step (L := [gm]) hk8 (fun u hu => by simp at hu; subst hu; exact ⟨Nat.zero_le _, _, _, _, HM.out, by simp⟩)) (by decide)).frozen 0; simp only [List.getElem?_cons_zero] at cs))
    have f8 : KeptB base adT wL w8 := (KeptB.refl _ _ wL).step (L := [gm]) hk8 (fun u hu => by simp at hu; subst hu; exact ⟨HG.out.2.1, _, _, _, HM.out, by simp⟩)
    have f9 : KeptB 0 [100] wL w8 := (KeptB.refl _ _ wL).step (L := [gm]) hk8 (fun u hu => by simp at hu; subst hu; exact ⟨Nat.zero_le _, _, _, _, HM.out, by simp⟩)
    have HS9 := HS.out.keptB f9 (by decide)
    have HR9 := HR.out.keptB f9 (by decide)
    refine bodyPost_end (results_none rfl _ _ _) rfl ?_
    refine ⟨rfl, ⟨?_, ?_, ?_⟩, (F0.out.trans f8).set HS9 HG.out.1 (by decide) 0 (.bool true), (K9.out.then hk8 (fun u hu => by simp at hu; subst hu; exact .inl (by simp))).setCell (p := ⟨gs, 0, none⟩) (.inl (by simp)) _⟩
    · have := HS9.set 0 (.bool true)
      simpa [sumO] using this
    · exact HR9.far (by simp; exact fun e => Blk.types (by decide) (e ▸ HR9) HS9) _
    · exact hb8.far (by simp; exact fun e => Blk.types (by decide) (e ▸ hb8) HS9) _
end Go.Proofs.YtblfingmdipopaaGreat
