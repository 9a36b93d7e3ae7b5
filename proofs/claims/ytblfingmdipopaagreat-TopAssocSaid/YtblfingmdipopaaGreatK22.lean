/- csr.Row, csr.Count, csr.Same of matrices. -/
import Derived.Test.YtblfingmdipopaaGreatK21
import Derived.Test.YtblfingmdipopaaGreatK13
import Derived.Test.YtblfingmdipopaaGreatK10
namespace Go.Proofs.YtblfingmdipopaaGreat
set_option linter.unusedSimpArgs false
set_option linter.unusedVariables false
open Go.ChangeShapes Go.WideShapes Go.ChangeAt Go.RowKit
open Go.RowKit (wrap32 wrap64)
set_option maxHeartbeats 8000000

/-- An item's cells. -/
abbrev itV (e : Ed) : List Value := [vI e.2.1, vI e.2.2]
theorem infoItem : Info Tryz.prog 38 (.agg #[.int .i64 0, .int .i64 0]) 2 16 := by unfold Info; kernel_rfl
set_option maxRecDepth 100000 in
theorem row_any (n base i : Nat) (l : List Ed) (v1 v2 v3 : Value) (w : World) (hi : i < n) (hok : MtOk n l) (hm : MtAt w base v1 v2 v3 n l) :
    Calls Tryz.prog 89 #[.agg #[.int .i64 n, .int .i64 n, v1, v2, v3], .int .i64 i] w fun e w' => ∃ v, e = .returned v ∧ w'.ownsRow w.heap.size 38 2 v (rowL l i).length ((rowL l i).flatMap itV) ∧ Kept [] w w' := by
  obtain ⟨b1, c1, A2, c2, A3, c3, rfl, rfl, rfl, _, _⟩ := hm.form
  have HX := Lib.hid (Blk.new w 31 [.int .i64 n, .int .i64 n, .slice (some ⟨b1, 0, none⟩) (n + 1) c1, .slice A2 l.length c2, .slice A3 l.length c3])
  have K0 := Lib.hid ((Kept.refl [] w).alloc (.cells #[.int .i64 n, .int .i64 n, .slice (some ⟨b1, 0, none⟩) (n + 1) c1, .slice A2 l.length c2, .slice A3 l.length c3] 31))
  have HM := Lib.hid (hm.kept0 K0.out)
  have HOK := Lib.hid hok
  have hnn := hok.num
  have hll := hok.len
  have HD := Lib.hid (show (decide ((0 : Int) ≤ (i : Int)) && decide ((i : Int) ≤ (n : Int) - 1)) = true by simp; omega)
  have HB := Lib.hid (Blk.new w 31 [.int .i64 n, .int .i64 n, .slice (some ⟨b1, 0, none⟩) (n + 1) c1, .slice A2 l.length c2, .slice A3 l.length c3])
  obtain ⟨post, hpost⟩ : ∃ post : Ending → World → Prop, post = (fun e w' => ∃ v, e = .returned v ∧ w'.ownsRow w.heap.size 38 2 v (rowL l i).length ((rowL l i).flatMap itV) ∧ Kept [] w w') := ⟨_, rfl⟩
  rw [← hpost]
  have HPOST := Lib.hid hpost
  have HRL := Lib.hid (show (rowL l i).length ≤ 65536 from Nat.le_trans (List.length_filter_le _ _) hll)
  clear hpost hm hok HB
  go_enter Tryz.func89, Tryz.ntmps89
  go_upto_region 1 with (fail)
  generalize w.alloc (.cells #[.int .i64 n, .int .i64 n, .slice (some ⟨b1, 0, none⟩) (n + 1) c1, .slice A2 l.length c2, .slice A3 l.length c3] 31) = w1 at *
  generalize hgq : w.heap.size = g1 at HX ⊢
  have HGE := Lib.hid (show w.heap.size ≤ g1 by omega)
  clear hgq
  go_wp2_with (first | (refine wpList_loadBlk rfl 31 (.tmp 2) rfl g1 [.int .i64 n, .int .i64 n, .slice (some ⟨b1, 0, none⟩) (n + 1) c1, .slice A2 l.length c2, .slice A3 l.length c3] _ HX.out rfl Tryz.underlying31 rfl infoRows ?_))
  refine (sure_same n base l _ _ _ w1 HOK.out HM.out).mono ?_
  rintro _ w2 ⟨rfl, hk2⟩
  replace HX := Lib.hid (HX.out.kept hk2 (by simp))
  replace HM := Lib.hid (HM.out.kept0 hk2)
  replace K0 := Lib.hid (K0.out.trans hk2)
  clear hk2
  go_upto_region 2 with (first | (refine wpList_storeBlk rfl 31 (.tmp 2) (.tmp 11) rfl g1 _ [.int .i64 n, .int .i64 n, .slice (some ⟨b1, 0, none⟩) (n + 1) c1, .slice A2 l.length c2, .slice A3 l.length c3] HX.out rfl rfl rfl infoRows (by simp [Value.oneCell']) ?_; intro w3 hb3 hk3))
  have f8 : KeptB w.heap.size [31] w2 w3 := (KeptB.refl _ _ w2).step (L := [g1]) hk3 (fun u hu => by simp at hu; subst hu; exact ⟨HGE.out, _, _, _, HX.out, by simp⟩)
  replace HM := Lib.hid (HM.out.keptB f8 (by decide) (by decide))
  replace K0 := Lib.hid (K0.out.thenB f8 (Nat.le_refl _))
  replace HX := Lib.hid hb3
  clear f8 hb3 hk3
  have y0 := HX.out.cell 0
  simp only [List.getElem?_cons_zero, List.getElem?_cons_succ] at y0
  go_wp2_with fail
  refine (within_c i (n - 1) _).mono ?_
  rintro _ wn ⟨rfl, rfl⟩
  rw [HD.out]
  go_wp2_with (first | (refine wpList_loadBlk rfl 31 (.tmp 2) rfl g1 [.int .i64 n, .int .i64 n, .slice (some ⟨b1, 0, none⟩) (n + 1) c1, .slice A2 l.length c2, .slice A3 l.length c3] _ HX.out rfl Tryz.underlying31 rfl infoRows ?_))
  refine (part_any n base i l _ _ _ wn hi HOK.out HM.out).mono ?_
  rintro _ w4 ⟨B, D, rfl, hp, hk4⟩
  replace HM := Lib.hid (HM.out.kept0 hk4)
  replace K0 := Lib.hid (K0.out.trans hk4)
  have HP := Lib.hid hp
  clear hp hk4 y0 HX
  go_wp2_with fail
  go_loopw [5, 26] (fun v x wr => ∃ j : Nat, j ≤ (rowL l i).length ∧ x = .int .i64 j ∧ Hid (wr.ownsRow w.heap.size 38 2 v j (((rowL l i).take j).flatMap itV)) ∧ Hid (MtAt wr base (.slice (some ⟨b1, 0, none⟩) (n + 1) c1) (.slice A2 l.length c2) (.slice A3 l.length c3) n l) ∧ Hid (Kept [] w wr)) (fun _ x _ => (rowL l i).length - (intOf x).toNat)
  case atStart => exact ⟨0, Nat.zero_le _, rfl, Lib.hid (World.ownsRow_nil _ _ _ _), HM, K0⟩
  case round =>
    clear HM K0
    obtain ⟨j, hj, rfl, HO, HM, K0⟩ := hrel
    obtain ⟨v, hv⟩ : ∃ v, v = u5 := ⟨_, rfl⟩
    subst hv
    obtain ⟨A6, c6, rfl⟩ := own_n HO.out
    by_cases hjl : j < (rowL l i).length
    · have HTK := Lib.hid (List.take_succ_eq_append_getElem hjl)
      have hrl := HRL.out
      obtain ⟨bB, oB, hB, hbB, cB⟩ := cols_at (HP.out _ HM.out).1 hjl
      obtain ⟨bD, oD, hD, hbD, cD⟩ := vals_at (HP.out _ HM.out).2 hjl
      subst hB hD
      obtain ⟨x, hx⟩ : ∃ x, x = (rowL l i)[j] := ⟨_, rfl⟩
      rw [← hx] at cB cD HTK
      clear hx
      obtain ⟨x1, x2, x3⟩ := x
      dsimp only at cB cD
      have hsz := K0.out.size
      go_wp2_with (first | (at_builtin; refine wpList_app _ rfl (.tmp 31) (.tmp 38) _ rfl 38 (.agg #[.int .i64 0, .int .i64 0]) 2 16 Tryz.underlying27 infoItem rfl (by decide) w.heap.size (.slice A6 j c6) j _ rfl (HO.out.alloc _) (some ⟨_, 0, none⟩) 1 1 (itV (x1, x2, x3)) rfl rfl (Reads.of_blk (Blk.new _ _ _) (fun _ _ h => h)) (by simp [itV, Value.oneCell']) (by omega) (by unfold maxLen; omega) (by simp; omega) ?_; intro va wa howna hka hba; have HOa := Lib.hid howna; have Fa := Lib.hid (((KeptB.refl w.heap.size [38] wr).alloc _).app hka (HO.out.alloc _) (by decide)); clear howna hka hba))
      go_roundw
      case rel =>
        refine ⟨j + 1, by omega, by go_num, Lib.hid ?_, Lib.hid (HM.out.keptB Fa.out (by decide) (by decide)), Lib.hid (K0.out.thenB Fa.out (Nat.le_refl _))⟩
        have := HOa.out
        rw [HTK.out, List.flatMap_append]
        simpa [itV] using this
      case measure => simp [intOf]; omega
    · obtain rfl : j = (rowL l i).length := by omega
      rw [List.take_length] at HO
      go_wp2_with fail
      rw [HPOST.out]
      exact ⟨_, rfl, HO.out, K0.out⟩
theorem fieldRows3 (n m : Int) (a b c : Value) : ∀ w : World, (Instr.field 31 (.agg #[.int .i64 n, .int .i64 m, a, b, c]) 3).run Tryz.prog w = .ok b w := fun w => by kernel_rfl
end Go.Proofs.YtblfingmdipopaaGreat

/- slices.Equal of like rows, csr.Same of like matrices, SameItems of like items. -/
namespace Go.Proofs.YtblfingmdipopaaGreat
set_option linter.unusedSimpArgs false
set_option linter.unusedVariables false
open Go.ChangeShapes Go.WideShapes Go.ChangeAt Go.RowKit
open Go.RowKit (wrap32 wrap64)
set_option maxHeartbeats 8000000




theorem fieldsItem : Tryz.prog.underlying 38 = some (.struct (Tryz.prog.fieldsOf 38)) := by kernel_rfl
theorem stoodItem : Tryz.prog.stoodInHeld 38 = false := by kernel_rfl
theorem guardItem : Tryz.prog.eqGuardType Tryz.prog.depth 38 = false := by kernel_rfl
theorem neqItem (a b : Int) (w : World) : (binOp .neq 38 (.agg #[.int .i64 a, .int .i64 b]) (.agg #[.int .i64 a, .int .i64 b])).run Tryz.prog w = .ok (.bool false) w := by
  have u1 := Tryz.underlying3
  have u2 := Tryz.underlying2
  have a1 := Tryz.isAgg3
  have a2 := Tryz.isAgg2
  have z1 := Tryz.sizeOf3
  have z2 := Tryz.sizeOf2
  rw [run_neq_struct, show (10000 : Nat) = 9999 + 1 from rfl, run_equalIn_agg w 9999 38 _ _ fieldsItem stoodItem]
  simp only [Program.fieldsOf, Tryz.underlying38]
  go_simp
theorem item_at {w : World} {A : Option Addr} {l : List Ed} (h : Reads w A (l.flatMap itV)) {k : Nat} (hk : k < l.length) :
    ∃ b off, A = some ⟨b, off, none⟩ ∧ b < w.heap.size ∧ w.cell? ⟨b, off + k * 2, none⟩ = some (.int .i64 l[k].2.1) ∧ w.cell? ⟨b, off + k * 2 + 1, none⟩ = some (.int .i64 l[k].2.2) := by
  obtain ⟨b, off, e, hb, hc⟩ := rec_cell (m := 2) (fun _ _ => rfl) (by decide) h hk
  exact ⟨b, off, e, hb, hc 0 _ rfl, hc 1 _ rfl⟩
set_option maxRecDepth 100000 in
theorem sameItems_true (l : List Ed) (A B : Option Addr) (c d : Nat) (w : World) (hl : l.length ≤ 1048576) (hr : Reads w A (l.flatMap itV)) (hs : Reads w B (l.flatMap itV)) :
    Calls Tryz.prog 38 #[.slice A l.length c, .slice B l.length d] w fun e w' => e = .returned (.bool true) ∧ Kept [] w w' := by
  have HR := Lib.hid hr
  have HS := Lib.hid hs
  have K0 := Lib.hid (Kept.refl [] w)
  clear hr hs
  go_enter Tryz.func38, Tryz.ntmps38
  go_wp2_with fail
  go_loopw [5] (fun i wr => ∃ k : Nat, k ≤ l.length ∧ i = .int .i64 k ∧ Hid (Kept [] w wr)) (fun i _ => l.length - (intOf i).toNat)
  case atStart => exact ⟨0, Nat.zero_le _, rfl, K0⟩
  case round =>
    clear K0
    obtain ⟨k, hk, rfl, K0⟩ := hrel
    by_cases hlt : k < l.length
    · obtain ⟨b, off, rfl, hb, c0, c1⟩ := item_at (HR.out.kept0 K0.out) hlt
      obtain ⟨b', off', rfl, hb', p0, p1⟩ := item_at (HS.out.kept0 K0.out) hlt
      have F3 := guardItem
      have F4 := neqItem l[k].2.1 l[k].2.2
      obtain ⟨q, hq⟩ : ∃ q, q = l[k] := ⟨_, rfl⟩
      rw [← hq] at c0 c1 p0 p1 F4
      clear hq
      obtain ⟨q1, q2, q3⟩ := q
      dsimp only at c0 c1 p0 p1 F4
      go_wp2_with fail
      go_quiet (fail)
      go_wp2_with fail
      go_roundw
      case rel => exact ⟨k + 1, by omega, by go_num, Lib.hid (K0.out.drewN _)⟩
      case measure => simp [intOf]; omega
    · obtain rfl : k = l.length := by omega
      go_wp2_with fail
      go_ret
      exact ⟨rfl, K0.out⟩
end Go.Proofs.YtblfingmdipopaaGreat

/- csr.order, the library's sort of triples, csr.Turn. -/
namespace Go.Proofs
open Go.Shelf
def Tryz.laysSortT_ren : Go.Shelf.Ren := ⟨fun | 6 => 131 | 15 => 170 | 14 => 169 | 28 => 195 | 29 => 196 | 20 => 187 | 21 => 188 | 22 => 189 | 23 => 190 | 24 => 191 | 25 => 192 | 26 => 193 | 27 => 194 | 46 => 203 | 47 => 204 | 48 => 205 | 49 => 206 | 50 => 207 | 57 => 210 | n => n, fun | 22 => 24 | 24 => 84 | 25 => 201 | 3 => 3 | 39 => 146 | 0 => 0 | 53 => 248 | 55 => 98 | 4 => 4 | 46 => 242 | 45 => 241 | 50 => 236 | 5 => 5 | 9 => 9 | 66 => 254 | 70 => 258 | 76 => 261 | 77 => 163 | n => n, fun | n => n⟩
theorem Tryz.laysSortT : Go.Proofs.SlLaysF0.n6 Tryz.prog Tryz.laysSortT_ren := {
  mixed := by kernel_rfl,
  f6 := ⟨Tryz.f131.name, by decide, Tryz.func131.trans (congrArg some (by kernel_rfl))⟩,
  f14 := ⟨Tryz.f169.name, by decide, Tryz.func169.trans (congrArg some (by kernel_rfl))⟩,
  f15 := Tryz.func170.trans (congrArg some (by kernel_rfl)),
  f20 := ⟨Tryz.f187.name, by decide, Tryz.func187.trans (congrArg some (by kernel_rfl))⟩,
  f21 := ⟨Tryz.f188.name, by decide, Tryz.func188.trans (congrArg some (by kernel_rfl))⟩,
  f22 := ⟨Tryz.f189.name, by decide, Tryz.func189.trans (congrArg some (by kernel_rfl))⟩,
  f23 := ⟨Tryz.f190.name, by decide, Tryz.func190.trans (congrArg some (by kernel_rfl))⟩,
  f24 := ⟨Tryz.f191.name, by decide, Tryz.func191.trans (congrArg some (by kernel_rfl))⟩,
  f25 := ⟨Tryz.f192.name, by decide, Tryz.func192.trans (congrArg some (by kernel_rfl))⟩,
  f26 := ⟨Tryz.f193.name, by decide, Tryz.func193.trans (congrArg some (by kernel_rfl))⟩,
  f27 := ⟨Tryz.f194.name, by decide, Tryz.func194.trans (congrArg some (by kernel_rfl))⟩,
  f28 := Tryz.func195.trans (congrArg some (by kernel_rfl)),
  f29 := Tryz.func196.trans (congrArg some (by kernel_rfl)),
  f46 := ⟨Tryz.f203.name, by decide, Tryz.func203.trans (congrArg some (by kernel_rfl))⟩,
  f47 := Tryz.func204.trans (congrArg some (by kernel_rfl)),
  f48 := Tryz.func205.trans (congrArg some (by kernel_rfl)),
  f49 := ⟨Tryz.f206.name, by decide, Tryz.func206.trans (congrArg some (by kernel_rfl))⟩,
  f50 := ⟨Tryz.f207.name, by decide, Tryz.func207.trans (congrArg some (by kernel_rfl))⟩,
  f57 := ⟨Tryz.f210.name, by decide, Tryz.func210.trans (congrArg some (by kernel_rfl))⟩,
  t0 := Tryz.underlying0,
  a0 := Tryz.isAgg0,
  z0 := Tryz.sizeOf0,
  v0 := Tryz.zeroValue0,
  t3 := Tryz.underlying3,
  a3 := Tryz.isAgg3,
  z3 := Tryz.sizeOf3,
  v3 := Tryz.zeroValue3,
  t4 := Tryz.underlying4,
  a4 := Tryz.isAgg4,
  z4 := Tryz.sizeOf4,
  v4 := Tryz.zeroValue4,
  t5 := Tryz.underlying5,
  a5 := Tryz.isAgg5,
  z5 := Tryz.sizeOf5,
  v5 := Tryz.zeroValue5,
  t9 := Tryz.underlying9,
  a9 := Tryz.isAgg9,
  z9 := Tryz.sizeOf9,
  v9 := Tryz.zeroValue9,
  t22 := Tryz.underlying24,
  a22 := Tryz.isAgg24,
  z22 := Tryz.sizeOf24,
  v22 := Tryz.zeroValue24,
  t25 := Tryz.underlying201,
  a25 := Tryz.isAgg201,
  z25 := Tryz.sizeOf201,
  v25 := Tryz.zeroValue201,
  t39 := Tryz.underlying146,
  a39 := Tryz.isAgg146,
  z39 := Tryz.sizeOf146,
  v39 := Tryz.zeroValue146,
  t45 := Tryz.underlying241,
  a45 := Tryz.isAgg241,
  z45 := Tryz.sizeOf241,
  v45 := Tryz.zeroValue241,
  t46 := Tryz.underlying242,
  a46 := Tryz.isAgg242,
  z46 := Tryz.sizeOf242,
  v46 := Tryz.zeroValue242,
  t50 := Tryz.underlying236,
  a50 := Tryz.isAgg236,
  z50 := Tryz.sizeOf236,
  v50 := Tryz.zeroValue236,
  t53 := Tryz.underlying248,
  a53 := Tryz.isAgg248,
  z53 := Tryz.sizeOf248,
  v53 := Tryz.zeroValue248,
  t55 := Tryz.underlying98,
  a55 := Tryz.isAgg98,
  z55 := Tryz.sizeOf98,
  v55 := Tryz.zeroValue98,
  t66 := Tryz.underlying254,
  a66 := Tryz.isAgg254,
  z66 := Tryz.sizeOf254,
  v66 := Tryz.zeroValue254,
  t70 := Tryz.underlying258,
  a70 := Tryz.isAgg258,
  z70 := Tryz.sizeOf258,
  v70 := Tryz.zeroValue258,
  t76 := Tryz.underlying261,
  a76 := Tryz.isAgg261,
  z76 := Tryz.sizeOf261,
  v76 := Tryz.zeroValue261,
  t77 := Tryz.underlying163,
  a77 := Tryz.isAgg163,
  z77 := Tryz.sizeOf163,
  v77 := Tryz.zeroValue163 }
end Go.Proofs
namespace Go.Proofs.YtblfingmdipopaaGreat
set_option linter.unusedSimpArgs false
set_option linter.unusedVariables false
open Go.ChangeShapes Go.WideShapes Go.ChangeAt Go.RowKit
open Go.RowKit (wrap32 wrap64)
set_option maxHeartbeats 8000000

open Go.Sort (Holds putRow putCells mapBlock onCells grow flatK size_flatK get_flatK HoldsK putRowK)
open Go.Shelf
set_option maxRecDepth 100000 in
theorem orderT_any (a b : Ed) (w : World) :
    Calls Tryz.prog 132 #[.agg (edV a).toArray, .agg (edV b).toArray] w fun e w' => e = .returned (.int .i64 (endsI a b)) ∧ Grown w w' := by
  obtain ⟨a1, a2, a3⟩ := a
  obtain ⟨b1, b2, b3⟩ := b
  have HX := Lib.hid ((Blk.new w 84 (edV (a1, a2, a3))).alloc (.cells (edV (b1, b2, b3)).toArray 84))
  have HY := Lib.hid (Blk.new1F w (.cells (edV (a1, a2, a3)).toArray 84) 84 (edV (b1, b2, b3)))
  have G := Lib.hid (((Grown.refl w).alloc (.cells (edV (a1, a2, a3)).toArray 84)).alloc (.cells (edV (b1, b2, b3)).toArray 84))
  go_enter Tryz.func132, Tryz.ntmps132
  go_upto_region 1 with (fail)
  refine wp_region_still_tail 10 (by kernel_rfl) (by kernel_rfl) ?_
  simp only [List.take_succ_cons, List.take_zero, List.drop_succ_cons, List.drop_zero]
  change wpStill _ _ (World.drew ((w.alloc (.cells (edV (a1, a2, a3)).toArray 84)).alloc (.cells (edV (b1, b2, b3)).toArray 84))) (fun a' => wpList _ _ _ _ a' (World.drew ((w.alloc (.cells (edV (a1, a2, a3)).toArray 84)).alloc (.cells (edV (b1, b2, b3)).toArray 84)))) _ _
  replace HX := Lib.hid HX.out.drew
  replace HY := Lib.hid HY.out.drew
  replace G := Lib.hid G.out.drew
  generalize World.drew ((w.alloc (.cells (edV (a1, a2, a3)).toArray 84)).alloc (.cells (edV (b1, b2, b3)).toArray 84)) = w2 at *
  generalize w.heap.size + 1 = g2 at HY ⊢
  generalize w.heap.size = g1 at HX ⊢
  have x0 := HX.out.cell 0
  have x1 := HX.out.cell 1
  have y0 := HY.out.cell 0
  have y1 := HY.out.cell 1
  simp only [edV, List.getElem?_cons_zero, List.getElem?_cons_succ] at x0 x1 y0 y1
  repeat still_step
  still_call (compare_int a1 b1 _)
  repeat still_step
  still_call (compare_int a2 b2 _)
  refine wpStill_nil ?_
  clear x0 x1 y0 y1
  have HO := Lib.hid (Blk.new w2 3 [.int .i64 (cmpI a1 b1), .int .i64 (cmpI a2 b2)])
  go_wp2_with fail
  refine (or2_any (cmpI a1 b1) (cmpI a2 b2) _ _ _ HO.out).mono ?_
  rintro _ w3 ⟨rfl, rfl⟩
  go_wp2_with fail
  go_ret
  exact ⟨rfl, G.out.alloc _⟩

theorem ltEnds (a b : Ed) : ltOf endsI a b = decide (a.1 < b.1 ∨ (a.1 = b.1 ∧ a.2.1 < b.2.1)) := by
  unfold ltOf
  exact decide_eq_decide.2 (endsI_neg a b)
theorem swoEnds : Go.Sort.SWO (ltOf endsI) where
  irrefl x := by rw [ltEnds]; simp
  trans x y z h1 h2 := by rw [ltEnds] at *; simp only [decide_eq_true_eq] at *; omega
  ntrans x y z h1 h2 := by rw [ltEnds] at *; simp only [decide_eq_false_iff_not] at *; omega
theorem risesL_nodup {l : List Ed} (h : RisesL l) : (l.map keyOf).Nodup := by
  rw [List.Nodup, List.pairwise_map]
  refine List.Pairwise.imp ?_ h
  intro a b hab he
  rw [he] at hab
  simp [keyLt] at hab
theorem rises_of_sorted {d l' : List Ed} (hp : d.Perm l') (hr : RisesL l') (hs : ∀ i j (hij : i < j) (hj : j < d.length), ltOf endsI d[j] (d[i]'(by omega)) = false) : d = l' := by
  have hnd : (d.map keyOf).Nodup := (hp.map keyOf).nodup_iff.2 (risesL_nodup hr)
  refine risesL_ext (List.pairwise_iff_getElem.2 (fun i j hi hj hij => ?_)) hr (fun x => hp.mem_iff)
  have h1 := hs i j hij hj
  have h2 := (List.pairwise_iff_getElem.1 hnd) i j (by simpa using hi) (by simpa using hj) hij
  rw [ltEnds, decide_eq_false_iff_not] at h1
  rw [List.getElem_map, List.getElem_map] at h2
  have h3 : ¬ (d[i].1 = d[j].1 ∧ d[i].2.1 = d[j].2.1) := fun h => h2 (Prod.ext h.1 h.2)
  show decide (d[i].1 < d[j].1 ∨ (d[i].1 = d[j].1 ∧ d[i].2.1 < d[j].2.1)) = true
  rw [decide_eq_true_eq]
  omega
theorem sortT_any (l l' : List Ed) (n base : Nat) (v : Value) (w : World) (hn : l.length = n) (h : w.ownsRow base 84 3 v n (l.flatMap edV)) (hl : n ≤ 1048576) (hp : l.Perm l') (hr : RisesL l') :
    Calls Tryz.prog 131 #[v, .func (.func 132) #[] #[]] w fun e w' => e = .returned (.tuple #[]) ∧ w'.ownsRow base 84 3 v n (l'.flatMap edV) ∧ Kept v.ownBlock.toList w w' := by
  rcases Nat.eq_zero_or_pos n with h0 | h0
  · subst h0
    obtain rfl : l = [] := List.eq_nil_of_length_eq_zero hn
    obtain rfl : l' = [] := List.eq_nil_of_length_eq_zero hp.length_eq.symm
    obtain ⟨A, c, rfl⟩ := own_n h
    refine (show Calls Tryz.prog 131 _ _ _ from AnyF.slices_SortFunc_none { Tryz.laysSortT with } A c _ w).mono ?_
    rintro e w' ⟨rfl, rfl⟩
    exact ⟨rfl, by simpa using h, Kept.refl _ _⟩
  · obtain ⟨g, cap, rfl, hb, hlt, hc, hm, hH⟩ := own_down h h0
    have hf : flatK edV 3 l.toArray = (l.flatMap edV).toArray := flatK_eq edV 3 (by decide) (fun _ => rfl) l.toArray
    have hf2 : flatK edV 3 l'.toArray = (l'.flatMap edV).toArray := flatK_eq edV 3 (by decide) (fun _ => rfl) l'.toArray
    have eg : ∀ args w, (callFunc 132 args).run Tryz.prog w = .ok (.enter 132 args) w := enters_of Tryz.func132 (by kernel_rfl) rfl
    have hcon := AnyQ.slices_SortFunc Tryz.laysSortT 3 Tryz.isAgg84 Tryz.sizeOf84 edV (fun _ => rfl) (fun x v hv => by simp [edV] at hv; rcases hv with rfl | rfl | rfl <;> rfl) endsI swoEnds 132 #[] g 0 cap l.toArray w eg
      (fun m os dk _ x y => orderT_any x y _) (by unfold HoldsK; rw [hf]; exact hH) hlt (by simp; omega)
    rw [show l.toArray.size = n by simpa using hn] at hcon
    refine (show Calls Tryz.prog 131 _ _ _ from hcon).mono ?_
    rintro e w' ⟨rfl, d, q, os, hpd, hsd, rfl⟩
    have hds : d.size = n := by rw [hpd.1]; simpa using hn
    have hdp : d.toList.Perm l := by
      have h3 := hpd.2.2
      rw [Array.toList_extract, Array.toList_extract] at h3
      simpa [List.extract, List.take_of_length_le, hds, hn] using h3
    have hdl : d.toList = l' := rises_of_sorted (hdp.trans hp) hr (fun i j hij hj => by
      have hj' : j < d.size := by simpa using hj
      have h4 := hsd i j (Nat.zero_le _) hij (by omega)
      rw [getElem!_pos d j hj', getElem!_pos d i (by omega)] at h4
      simpa using h4)
    have hd : d = l'.toArray := by rw [← hdl]
    subst hd
    have hlen : (l'.flatMap edV).length = (l.flatMap edV).length := by
      rw [flatMap_length _ _ 3 (fun _ _ => rfl), flatMap_length _ _ 3 (fun _ _ => rfl), hp.length_eq]
    have hk1 := kept_putRow id w q g 0 (l'.flatMap edV).toArray
    have hk2 : Kept [] (putRow id (Go.Sort.ahead w q) g 0 (l'.flatMap edV).toArray) (grow (putRow id (Go.Sort.ahead w q) g 0 (l'.flatMap edV).toArray) os) := (show Grown _ _ from ⟨0, os, rfl⟩).kept
    unfold sortWorldK putRowK
    rw [hf2]
    exact ⟨rfl, own_kept0 (own_up h hlen) hk2, by simpa [Value.ownBlock] using hk1.trans (hk2.mono (by simp))⟩

theorem infoTriple : (Tryz.prog.info? 84).map (·.size) = some 3 := by kernel_rfl
/-- The triples, the first k of them turned. -/
def mixT (l : List Ed) (k : Nat) : List Ed := (l.take k).map turnE ++ l.drop k
theorem mixT_zero (l : List Ed) : mixT l 0 = l := by simp [mixT]
theorem mixT_end (l : List Ed) : mixT l l.length = l.map turnE := by simp [mixT]
theorem mixT_length (l : List Ed) {k : Nat} (h : k ≤ l.length) : (mixT l k).length = l.length := by simp [mixT]; omega
theorem mixT_at (l : List Ed) {k : Nat} (h : k < l.length) : (mixT l k)[k]'(by rw [mixT_length l (by omega)]; exact h) = l[k] := by
  simp [mixT, List.getElem_append, List.length_take, Nat.min_eq_left (Nat.le_of_lt h)]
theorem mixT_succ (l : List Ed) {k : Nat} (h : k < l.length) : mixT l (k + 1) = (mixT l k).set k (turnE l[k]) := by
  unfold mixT
  rw [List.take_succ_eq_append_getElem h, List.map_append, List.set_append]
  rw [if_neg (by simp; omega)]
  simp [Nat.min_eq_left (Nat.le_of_lt h)]
  rw [List.drop_eq_getElem_cons h]
  rfl
end Go.Proofs.YtblfingmdipopaaGreat
