/- (fretworklaw13.Task).Matrix: a matrix of values of a ring. Conditions: the ring is one of two; sizes are bytes. -/
import Derived.Test.YtblfingmdipopaaGreatK49
namespace Go.Proofs.YtblfingmdipopaaGreat
set_option linter.unusedSimpArgs false
set_option linter.unusedVariables false
open Go.ChangeShapes Go.WideShapes Go.ChangeAt Go.RowKit
open Go.RowKit (wrap32 wrap64)
set_option maxHeartbeats 8000000

theorem infoTask13 : (Tryz.prog.info? 74).map (·.size) = some 8 := by kernel_rfl
/-- The same triple, of a value of the ring. -/
def valE (r : Int) (e : Ed) : Ed := (e.1, e.2.1, valP r e.2.2)
def matL (r : Int) (n m : Nat) (l : List Ed) : List Ed := (canonP (someL n m l)).map (valE r)
theorem belI_val (r : Int) (l : List Ed) (i : Nat) : belI (l.map (valE r)) i = belI l i := by
  unfold belI
  rw [List.filter_map, List.length_map]
  rfl
theorem startP_val (r : Int) (n : Nat) (l : List Ed) : startP n (l.map (valE r)) = startP n l := stL_congr (fun i _ => belI_val r l i)
theorem colV_val (r : Int) (l : List Ed) : colV (l.map (valE r)) = colV l := by
  unfold colV
  rw [List.map_map]
  rfl
theorem risesL_val (r : Int) {l : List Ed} (h : RisesL l) : RisesL (l.map (valE r)) := by
  unfold RisesL at *
  rw [List.pairwise_map]
  exact h
theorem mat_ok (r : Int) {n m : Nat} {l : List Ed} (h : MtOkM n m l) : MtOkM n m (l.map (valE r)) :=
  ⟨risesL_val r h.rises, fun e he => by
    obtain ⟨x, hx, rfl⟩ := List.mem_map.1 he
    exact h.inn x hx, by rw [List.length_map]; exact h.len, h.num, h.mum⟩
theorem matL_ok (r : Int) (n m : Nat) {l : List Ed} (hn : n ≤ 4096) (hm : m ≤ 4096) (hw : ∀ e ∈ l, In64 e.2.2) : MtOkM n m (matL r n m l) :=
  mat_ok r (canon_ok hn hm (by have := someL_len n m l; omega) (someL_64 n m hw) (someL_in n m l))
theorem matL_val (r : Int) (n m : Nat) (l : List Ed) : ∀ e ∈ matL r n m l, OkV r e.2.2 := fun e he => by
  obtain ⟨x, _, rfl⟩ := List.mem_map.1 he
  exact valP_ok r _
theorem matL_len (r : Int) (n m : Nat) (l : List Ed) : (matL r n m l).length ≤ 60 := by
  unfold matL
  rw [List.length_map]
  exact Nat.le_trans (canonP_length _) (someL_len n m l)

set_option maxRecDepth 100000 in
theorem matrix_any (r : Int) (hr : r = 1 ∨ r = 2) (a b : Nat) (ha : a < 256) (hb : b < 256) (l : List Ed) (A : Option Addr) (c : Nat) (w : World) (hl : l.length ≤ maxLen) (hc : l.length ≤ c) (hcm : c ≤ maxLen) (hA : Reads w A (l.flatMap edV)) (hw : ∀ e ∈ l, In64 e.2.2) :
    Calls Tryz.prog 20 #[.agg #[.int .i64 r, .int .u8 (a : Int), .int .u8 (b : Int), .slice A l.length c, .slice none 0 0, .slice none 0 0, .slice none 0 0, .bool false]] w (MtPost w (a % 40) (b % 40) (matL r (a % 40) (b % 40) l)) := by
  have HSO := Lib.hid (fun w h => some7_any a b ha hb l A c w hl hc hcm h hw : ∀ w, Reads w A (l.flatMap edV) → Calls Tryz.prog 42 #[.agg #[.int .u8 (a : Int), .int .u8 (b : Int)], .slice A l.length c] w (MtPost w (a % 40) (b % 40) (canonP (someL (a % 40) (b % 40) l))))
  have HCL := Lib.hid (show (canonP (someL (a % 40) (b % 40) l)).length ≤ 60 from Nat.le_trans (canonP_length _) (someL_len _ _ l))
  have HA := Lib.hid hA
  have HR := Lib.hid hr
  clear hl hc hcm hA hw hr ha hb
  obtain ⟨post, hpost⟩ : ∃ post : Ending → World → Prop, post = MtPost w (a % 40) (b % 40) (matL r (a % 40) (b % 40) l) := ⟨_, rfl⟩
  rw [← hpost]
  have HPOST := Lib.hid hpost
  clear hpost
  obtain ⟨C, hC⟩ : ∃ C, C = canonP (someL (a % 40) (b % 40) l) := ⟨_, rfl⟩
  rw [← hC] at HSO HCL
  have HMC := Lib.hid (show matL r (a % 40) (b % 40) l = C.map (valE r) by rw [hC]; rfl)
  rw [HMC.out] at HPOST
  clear hC HMC
  generalize a % 40 = n at *
  generalize b % 40 = m at *
  have HB := Lib.hid ((Blk.new w 74 [.int .i64 r, .int .u8 (a : Int), .int .u8 (b : Int), .slice A l.length c, .slice none 0 0, .slice none 0 0, .slice none 0 0, .bool false]).alloc (.cells #[.int .i64 0, .int .i64 0, .slice none 0 0, .slice none 0 0, .slice none 0 0] 31))
  have HZ := Lib.hid (Blk.new1F w (.cells #[.int .i64 r, .int .u8 (a : Int), .int .u8 (b : Int), .slice A l.length c, .slice none 0 0, .slice none 0 0, .slice none 0 0, .bool false] 74) 31 [.int .i64 0, .int .i64 0, .slice none 0 0, .slice none 0 0, .slice none 0 0])
  have K0 := Lib.hid (((Kept.refl [] w).alloc (.cells #[.int .i64 r, .int .u8 (a : Int), .int .u8 (b : Int), .slice A l.length c, .slice none 0 0, .slice none 0 0, .slice none 0 0, .bool false] 74)).alloc (.cells #[.int .i64 0, .int .i64 0, .slice none 0 0, .slice none 0 0, .slice none 0 0] 31))
  have HGE := Lib.hid (show w.heap.size ≤ w.heap.size + 1 by omega)
  go_enter Tryz.func20, Tryz.ntmps20
  go_upto_region 1 with (fail)
  generalize ((w.alloc (.cells #[.int .i64 r, .int .u8 (a : Int), .int .u8 (b : Int), .slice A l.length c, .slice none 0 0, .slice none 0 0, .slice none 0 0, .bool false] 74)).alloc (.cells #[.int .i64 0, .int .i64 0, .slice none 0 0, .slice none 0 0, .slice none 0 0] 31)) = w1 at *
  generalize w.heap.size + 1 = gz at HZ HGE ⊢
  generalize hgb : w.heap.size = gb at HB ⊢
  clear hgb
  have y0 := HB.out.cell 0
  have y3 := HB.out.cell 3
  simp only [List.getElem?_cons_zero, List.getElem?_cons_succ] at y0 y3
  have HRG := Lib.hid (HB.out.range 1 [.int .u8 (a : Int), .int .u8 (b : Int)] (fun j v hv => by
    match j, hv with
    | 0, hv => exact hv
    | 1, hv => exact hv))
  go_wp2_with (first | (refine wpList_load_mid rfl 72 (.tmp 7) rfl gb 1 rfl [.int .u8 (a : Int), .int .u8 (b : Int)] _ HRG.out Tryz.underlying72 rfl infoTwo8 ?_))
  refine (HSO.out _ (HA.out.kept0 K0.out)).mono ?_
  rintro _ w3 ⟨v1, v2, v3, rfl, hm3, hk3⟩
  replace HZ := Lib.hid (HZ.out.kept hk3 (by simp))
  replace HB := Lib.hid (HB.out.kept hk3 (by simp))
  have HM := Lib.hid (hm3.le K0.out.size)
  replace K0 := Lib.hid (K0.out.trans hk3)
  clear hm3 hk3 HSO HRG HA y0 y3
  obtain ⟨b1, c1, B2, d2, B3, d3, rfl, rfl, rfl, hd2, hd3⟩ := HM.out.form
  go_upto_region 2 with (first | (refine wpList_storeBlk rfl 31 (.tmp 3) (.tmp 11) rfl w3.heap.size [.int .i64 0, .int .i64 0, .slice none 0 0, .slice none 0 0, .slice none 0 0] [.int .i64 n, .int .i64 m, .slice (some ⟨b1, 0, none⟩) (n + 1) c1, .slice B2 C.length d2, .slice B3 C.length d3] (Blk.new _ _ _) rfl rfl rfl infoRows (by simp [Value.oneCell']) ?_; intro w4 hb4 hk4))
  have k4 : Kept [] w3 w4 := ((Kept.refl [] w3).alloc (.cells #[.int .i64 0, .int .i64 0, .slice none 0 0, .slice none 0 0, .slice none 0 0] 31)).then hk4 (fun q hq => by simp at hq; subst hq; exact .inr (Nat.le_refl _))
  have HG := Lib.hid hb4
  have HG3 := Lib.hid (show w.heap.size ≤ w3.heap.size ∧ gz ≠ w3.heap.size from ⟨K0.out.size, by have := HZ.out.lt; omega⟩)
  replace HZ := Lib.hid (HZ.out.kept k4 (by simp))
  replace HB := Lib.hid (HB.out.kept k4 (by simp))
  replace HM := Lib.hid (HM.out.kept0 k4)
  replace K0 := Lib.hid (K0.out.trans k4)
  clear k4 hk4 hb4
  generalize w3.heap.size = g3 at HG HG3 ⊢
  have y0 := HB.out.cell 0
  simp only [List.getElem?_cons_zero, List.getElem?_cons_succ] at y0
  go_wp2_with fail
  refine (right13_any r HR.out _).mono ?_
  rintro _ w2 ⟨rfl, rfl⟩
  clear y0 HB
  go_wp2_with fail
  obtain ⟨w5, hw5⟩ : ∃ w5, w5 = w2 := ⟨_, rfl⟩
  rw [← hw5] at HM HZ K0 HG
  have K5 := Lib.hid (show Kept [] w5 w2 by rw [hw5]; exact Kept.refl _ _)
  clear hw5
  go_loopw [5, 6] (fun v x wr => ∃ k : Nat, k ≤ C.length ∧ x = .int .i64 k ∧ Hid (wr.ownsRow w5.heap.size 2 1 v k (valV ((C.take k).map (valE r)))) ∧ Hid (Kept [] w5 wr)) (fun _ x _ => C.length - (intOf x).toNat)
  case atStart => exact ⟨0, Nat.zero_le _, rfl, Lib.hid (World.ownsRow_nil _ _ _ _), K5⟩
  case round =>
    clear K5
    obtain ⟨k, hk, rfl, HO, K5⟩ := hrel
    obtain ⟨v, hv⟩ : ∃ v, v = u5 := ⟨_, rfl⟩
    subst hv
    obtain ⟨A5, c5, rfl⟩ := own_n HO.out
    have HGr := Lib.hid (HG.out.kept K5.out (by simp))
    have hcl := HCL.out
    have z4 := HGr.out.cell 4
    simp only [List.getElem?_cons_zero, List.getElem?_cons_succ] at z4
    by_cases hlt : k < C.length
    · have HTK := Lib.hid (List.take_succ_eq_append_getElem hlt)
      obtain ⟨b0, off, hB3, hbl, c0⟩ := vals_at (Reads.of_own (HM.out.kept0 K5.out).o3) hlt
      subst hB3
      obtain ⟨x, hx⟩ : ∃ x, x = C[k] := ⟨_, rfl⟩
      rw [← hx] at c0 HTK
      clear hx
      obtain ⟨x1, x2, x3⟩ := x
      dsimp only at c0
      go_wp2_with fail
      refine (factor_any r x3 HR.out _).mono ?_
      rintro _ w6 ⟨rfl, rfl⟩
      have hsz := K5.out.size
      go_wp2_with (first | (at_builtin; refine wpList_app _ rfl (.tmp 22) (.tmp 30) _ rfl 2 (.int .i64 0) 1 8 Tryz.underlying29 infoI64 rfl (by decide) w5.heap.size (.slice A5 k c5) k _ rfl (HO.out.alloc _) (some ⟨_, 0, none⟩) 1 1 [vI (valP r x3)] rfl rfl (Reads.of_blk (Blk.new _ _ _) (fun _ _ h => h)) (by simp [Value.oneCell']) (by omega) (by unfold maxLen; omega) (by simp; omega) ?_; intro va wa howna hka hba; have HOa := Lib.hid howna; have Fa := Lib.hid (((KeptB.refl w5.heap.size [2] w6).alloc _).app hka (HO.out.alloc _) (by decide)); clear howna hka hba))
      go_roundw
      case rel =>
        refine ⟨k + 1, by omega, by go_num, Lib.hid ?_, Lib.hid (K5.out.thenB Fa.out (Nat.le_refl _))⟩
        have := HOa.out
        rw [HTK.out]
        simpa [valV, valE] using this
      case measure => simp [intOf]; omega
    · obtain rfl : k = C.length := by omega
      rw [List.take_length] at HO
      replace HM := Lib.hid (HM.out.kept0 K5.out)
      replace HZ := Lib.hid (HZ.out.kept K5.out (by simp))
      have HO2 := Lib.hid (own_base HO.out K0.out.size)
      replace K0 := Lib.hid (K0.out.trans K5.out)
      clear HG K5 HO
      have f4 := HGr.out.frozen 4
      have l3 := HGr.out.lt
      go_upto_region 9 with (fail)
      have ko := (Kept.refl [g3] wr).setCell (p := ⟨g3, 4, none⟩) (.inl (by simp)) (.slice A5 C.length c5)
      have fo : KeptB w.heap.size [31] wr (wr.setCell ⟨g3, 4, none⟩ (.slice A5 C.length c5)) := (KeptB.refl _ _ wr).step ko (fun u hu => by simp at hu; subst hu; exact ⟨HG3.out.1, _, _, _, HGr.out, by simp⟩)
      replace HM := Lib.hid (HM.out.keptB fo (by decide) (by decide))
      replace HO2 := Lib.hid (own_keptB HO2.out fo (by decide))
      replace HZ := Lib.hid (HZ.out.kept ko (by simp; exact HG3.out.2))
      have HG := Lib.hid (HGr.out.set 4 (.slice A5 C.length c5))
      simp only [List.set_cons_zero, List.set_cons_succ] at HG
      replace K0 := Lib.hid (K0.out.thenB fo (Nat.le_refl _))
      clear ko fo f4 l3 z4 HGr
      generalize wr.setCell ⟨g3, 4, none⟩ (.slice A5 C.length c5) = w7 at *
      go_wp2_with (first | (refine wpList_loadBlk rfl 31 (.tmp 3) rfl g3 [.int .i64 n, .int .i64 m, .slice (some ⟨b1, 0, none⟩) (n + 1) c1, .slice B2 C.length d2, .slice A5 C.length c5] _ HG.out rfl Tryz.underlying31 rfl infoRows ?_) | (refine wpList_storeBlk rfl 31 (.tmp 2) (.tmp 34) rfl gz _ [.int .i64 n, .int .i64 m, .slice (some ⟨b1, 0, none⟩) (n + 1) c1, .slice B2 C.length d2, .slice A5 C.length c5] HZ.out rfl rfl rfl infoRows (by simp [Value.oneCell']) ?_; intro w8 hb8 hk8))
      have e0 := hb8.cell 0
      have e1 := hb8.cell 1
      have e2 := hb8.cell 2
      have e3 := hb8.cell 3
      have e4 := hb8.cell 4
      simp only [List.getElem?_cons_zero, List.getElem?_cons_succ] at e0 e1 e2 e3 e4
      refine bodyPost_ret (v := .agg #[.int .i64 n, .int .i64 m, .slice (some ⟨b1, 0, none⟩) (n + 1) c1, .slice B2 C.length d2, .slice A5 C.length c5]) (by simp [results, Tryz.results20, go_sem, e0, e1, e2, e3, e4]) rfl ?_
      rw [HPOST.out]
      have f8 : KeptB w.heap.size [31] w7 w8 := (KeptB.refl _ _ w7).step (L := [gz]) hk8 (fun u hu => by simp at hu; subst hu; exact ⟨HGE.out, _, _, _, HZ.out, by simp⟩)
      refine ⟨_, _, _, rfl, ?_, K0.out.thenB f8 (Nat.le_refl _)⟩
      have hlm : (C.map (valE r)).length = C.length := by simp
      refine ⟨?_, ?_, ?_⟩
      · rw [startP_val]
        exact own_keptB HM.out.o1 f8 (by decide)
      · rw [colV_val, hlm]
        exact own_keptB HM.out.o2 f8 (by decide)
      · rw [hlm]
        exact own_keptB HO2.out f8 (by decide)
end Go.Proofs.YtblfingmdipopaaGreat
