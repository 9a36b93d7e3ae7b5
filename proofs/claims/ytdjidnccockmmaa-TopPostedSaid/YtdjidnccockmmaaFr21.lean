/- Frames: the walk of the document's Decode. -/
import Derived.Test.YtdjidnccockmmaaFr20
namespace Go.Proofs.Ytdjidnccockmmaa
set_option linter.unusedSimpArgs false
set_option linter.unusedVariables false
open Go.ChangeShapes Go.WideShapes Go.ChangeAt Go.RowKit
open Go.RowKit (wrap32 wrap64)
set_option maxHeartbeats 16000000

theorem numR_nonneg (R : Rd) (k most e : Int) : 0 ≤ (R.numR k 0 most e).1 := by
  unfold Rd.numR
  split
  · exact Int.le_refl _
  · split
    · rename_i h; exact h.1
    · exact Int.le_refl _
theorem last_snoc {α : Type} {l : List (Int × α)} {x : Int × α} {k m : Nat} (he : k + 1 = m + 1) (hl : l.length = k) {hm : m < (l ++ [x]).length} : x.1 = ((l ++ [x])[m]'hm).1 := by
  obtain rfl : k = m := by omega
  subst hl
  simp
set_option maxRecDepth 100000 in
theorem rdecode_any (b : List UInt8) (A : Option Addr) (c : Nat) (w : World) (hr : Reads w A (b.map byteV)) (hl : b.length ≤ 1073741824) :
    Calls Try.prog 41 #[.slice A b.length c] w (DecPost w (decodeP b)) := by
  have HR := Lib.hid (hr.kept0 (((Kept.refl [] w).alloc (.cells zeroC.toArray 60)).alloc (.cells #[.int .i64 0, .int .i64 0] 40)))
  have K0 := Lib.hid (((Kept.refl [] w).alloc (.cells zeroC.toArray 60)).alloc (.cells #[.int .i64 0, .int .i64 0] 40))
  have HG := Lib.hid ((Blk.new w 60 zeroC).alloc (.cells #[.int .i64 0, .int .i64 0] 40))
  have HH := Lib.hid (Blk.new1F w (.cells zeroC.toArray 60) 40 [.int .i64 0, .int .i64 0])
  have hfe := fun (a b : Int) (wx : World) => fieldErrno a b wx
  generalize hd : decodeP b = d
  have HD := Lib.hid (hd.symm.trans (decode_D b))
  have hnil : ∀ (wx : World) (e : TypeId) (s bs : Nat), wx.ownsRow bs e s (.slice none 0 0) 0 [] := fun wx e s bs => World.ownsRow_nil wx bs e s
  have HN := Lib.hid hnil
  clear hr hd hnil
  go_enter Try.func41, Try.ntmps41
  go_wp2_with fail
  refine (ropen_any b A c _ HR.out hl).mono ?_
  rintro e w1 ⟨p, rfl, hp, hrd, hk⟩
  have K1 := Lib.hid (K0.out.trans hk)
  have HG := Lib.hid (HG.out.kept hk (by simp))
  have HH := Lib.hid (HH.out.kept hk (by simp))
  have HRD := Lib.hid hrd
  have HP := Lib.hid (show w.heap.size + 2 ≤ p by simpa using hp)
  have S1 := Lib.hid (show w.heap.size + 2 ≤ w1.heap.size by have := hk.size; simpa using this)
  clear hp hrd hk K0 HR
  go_upto_region 3 with (fail)
  obtain ⟨B, hB⟩ : ∃ B, B = w.heap.size + 2 := ⟨_, rfl⟩
  have RS := Lib.hid (show RsAt w1 (w1.alloc (.cells zeroC.toArray 60)) B p w1.heap.size ⟨b, 0, 0, 0⟩ ⟨0, 0, 0, 0, 0, 0, [], [], [], 0, false⟩ (.slice none 0 0) (.slice none 0 0) (.slice none 0 0) from
    ⟨HRD.out.kept0 ((Kept.refl [] w1).alloc _), Blk.new _ _ _, HN.out _ _ _ _, HN.out _ _ _ _, HN.out _ _ _ _, (KeptB.refl _ _ _).alloc _, by rw [hB]; exact HP.out, by rw [hB]; exact S1.out, by rw [hB]; exact S1.out⟩)
  have HB := Lib.hid hB
  obtain ⟨g, hg⟩ : ∃ g, g = w1.heap.size := ⟨_, rfl⟩
  rw [← hg] at RS ⊢
  generalize w1.alloc (.cells zeroC.toArray 60) = wh at RS ⊢
  have ST := Lib.hid (show St d ⟨b, 0, 0, 0⟩ (((Rd.mk b 0 0 0).rd 1 1 7 8).bind fun x => D1 x.1 x.2) from St.mk (fun _ => HD.out) (fun h => absurd rfl h))
  clear hg hB HN HRD HD
  obtain ⟨R0, hR0⟩ : ∃ R0, R0 = Rd.mk b 0 0 0 := ⟨_, rfl⟩
  rw [← hR0] at RS ST
  clear hR0
  generalize hF : (⟨0, 0, 0, 0, 0, 0, [], [], [], 0, false⟩ : Fr) = F0 at RS
  subst hF
  go_wp2_with fail
  refine (rnum1_any p R0 1 7 8 _ RS.out.rd).mono ?_
  rintro x wn ⟨rfl, hrd, hk⟩
  have RS := Lib.hid (RS.out.call hrd hk)
  have ST := Lib.hid (show St d (R0.numR 1 1 7 8).2 (D1  (R0.numR 1 1 7 8).1 (R0.numR 1 1 7 8).2) from St.numb (f := fun x => D1  x.1 x.2) ST.out (by decide))
  clear hrd hk 
  generalize R0.numR 1 1 7 8 = q at RS ST  ⊢
  obtain ⟨n1, R1⟩ := q
  simp only [] at RS ST  ⊢
  have d0 := RS.out.fr.cell 0
  have f0 := RS.out.fr.frozen 0
  have yg := RS.out.fr.lt
  simp only [List.getElem?_cons_zero, List.getElem?_cons_succ] at d0
  go_upto_region 4 with (fail)
  have RS := Lib.hid (RS.out.setF 0 (.int .i64 n1) ⟨n1, 0, 0, 0, 0, 0, [], [], [], 0, false⟩ rfl rfl rfl rfl)
  generalize wn.setCell ⟨g, 0, none⟩ (.int .i64 n1) = wh at RS ⊢
  clear d0 f0 yg
  go_wp2_with fail
  refine (rnum1_any p R1 0 63 3 _ RS.out.rd).mono ?_
  rintro x wn ⟨rfl, hrd, hk⟩
  have RS := Lib.hid (RS.out.call hrd hk)
  have ST := Lib.hid (show St d (R1.numR 1 0 63 3).2 (D2 n1 (R1.numR 1 0 63 3).1 (R1.numR 1 0 63 3).2) from St.numb (f := fun x => D2 n1 x.1 x.2) ST.out (by decide))
  have Nn2 := Lib.hid (numR_range (R := R1) (k := 1) (e := 3) (most := 63) (by first | decide | omega))
  clear hrd hk 
  generalize R1.numR 1 0 63 3 = q at RS ST Nn2 ⊢
  obtain ⟨n2, R2⟩ := q
  simp only [] at RS ST Nn2 ⊢
  have d1 := RS.out.fr.cell 1
  have f1 := RS.out.fr.frozen 1
  have yg := RS.out.fr.lt
  simp only [List.getElem?_cons_zero, List.getElem?_cons_succ] at d1
  go_upto_region 5 with (fail)
  have RS := Lib.hid (RS.out.setF 1 (.int .i64 n2) ⟨n1, n2, 0, 0, 0, 0, [], [], [], 0, false⟩ rfl rfl rfl rfl)
  generalize wn.setCell ⟨g, 1, none⟩ (.int .i64 n2) = wh at RS ⊢
  clear d1 f1 yg
  go_wp2_with fail
  refine (rnum1_any p R2 0 63 3 _ RS.out.rd).mono ?_
  rintro x wn ⟨rfl, hrd, hk⟩
  have RS := Lib.hid (RS.out.call hrd hk)
  have ST := Lib.hid (show St d (R2.numR 1 0 63 3).2 (D3 n1 n2 (R2.numR 1 0 63 3).1 (R2.numR 1 0 63 3).2) from St.numb (f := fun x => D3 n1 n2 x.1 x.2) ST.out (by decide))
  have Nn3 := Lib.hid (numR_range (R := R2) (k := 1) (e := 3) (most := 63) (by first | decide | omega))
  clear hrd hk 
  generalize R2.numR 1 0 63 3 = q at RS ST Nn3 ⊢
  obtain ⟨n3, R3⟩ := q
  simp only [] at RS ST Nn3 ⊢
  have d2 := RS.out.fr.cell 2
  have f2 := RS.out.fr.frozen 2
  have yg := RS.out.fr.lt
  simp only [List.getElem?_cons_zero, List.getElem?_cons_succ] at d2
  go_upto_region 6 with (fail)
  have RS := Lib.hid (RS.out.setF 2 (.int .i64 n3) ⟨n1, n2, n3, 0, 0, 0, [], [], [], 0, false⟩ rfl rfl rfl rfl)
  generalize wn.setCell ⟨g, 2, none⟩ (.int .i64 n3) = wh at RS ⊢
  clear d2 f2 yg
  go_wp2_with fail
  refine (rnum4_any p R3 0 2147483647 3 _ RS.out.rd).mono ?_
  rintro x wn ⟨rfl, hrd, hk⟩
  have RS := Lib.hid (RS.out.call hrd hk)
  have ST := Lib.hid (show St d (R3.numR 4 0 2147483647 3).2 (D4 n1 n2 n3 (R3.numR 4 0 2147483647 3).1 (R3.numR 4 0 2147483647 3).2) from St.numb (f := fun x => D4 n1 n2 n3 x.1 x.2) ST.out (by decide))
  have Nn4 := Lib.hid (numR_range (R := R3) (k := 4) (e := 3) (most := 2147483647) (by first | decide | omega))
  clear hrd hk 
  generalize R3.numR 4 0 2147483647 3 = q at RS ST Nn4 ⊢
  obtain ⟨n4, R4⟩ := q
  simp only [] at RS ST Nn4 ⊢
  have d3 := RS.out.fr.cell 3
  have f3 := RS.out.fr.frozen 3
  have yg := RS.out.fr.lt
  simp only [List.getElem?_cons_zero, List.getElem?_cons_succ] at d3
  go_upto_region 7 with (fail)
  have RS := Lib.hid (RS.out.setF 3 (.int .i64 n4) ⟨n1, n2, n3, n4, 0, 0, [], [], [], 0, false⟩ rfl rfl rfl rfl)
  generalize wn.setCell ⟨g, 3, none⟩ (.int .i64 n4) = wh at RS ⊢
  clear d3 f3 yg
  go_wp2_with fail
  refine (rnum4_any p R4 0 8192 3 _ RS.out.rd).mono ?_
  rintro x wn ⟨rfl, hrd, hk⟩
  have RS := Lib.hid (RS.out.call hrd hk)
  have ST := Lib.hid (show St d (R4.numR 4 0 8192 3).2 (D5 n1 n2 n3 n4 (R4.numR 4 0 8192 3).1 (R4.numR 4 0 8192 3).2) from St.numb (f := fun x => D5 n1 n2 n3 n4 x.1 x.2) ST.out (by decide))
  have Nn5 := Lib.hid (numR_range (R := R4) (k := 4) (e := 3) (most := 8192) (by first | decide | omega))
  clear hrd hk 
  generalize R4.numR 4 0 8192 3 = q at RS ST Nn5 ⊢
  obtain ⟨n5, R5⟩ := q
  simp only [] at RS ST Nn5 ⊢
  have d4 := RS.out.fr.cell 4
  have f4 := RS.out.fr.frozen 4
  have yg := RS.out.fr.lt
  simp only [List.getElem?_cons_zero, List.getElem?_cons_succ] at d4
  go_upto_region 8 with (fail)
  have RS := Lib.hid (RS.out.setF 4 (.int .i64 n5) ⟨n1, n2, n3, n4, n5, 0, [], [], [], 0, false⟩ rfl rfl rfl rfl)
  generalize wn.setCell ⟨g, 4, none⟩ (.int .i64 n5) = wh at RS ⊢
  clear d4 f4 yg
  go_wp2_with fail
  refine (rnum1_any p R5 0 1 7 _ RS.out.rd).mono ?_
  rintro x wn ⟨rfl, hrd, hk⟩
  have RS := Lib.hid (RS.out.call hrd hk)
  have ST := Lib.hid (show St d (R5.numR 1 0 1 7).2 (D6 n1 n2 n3 n4 n5 (R5.numR 1 0 1 7).1 (R5.numR 1 0 1 7).2) from St.numb (f := fun x => D6 n1 n2 n3 n4 n5 x.1 x.2) ST.out (by decide))
  have Nn6 := Lib.hid (numR_range (R := R5) (k := 1) (e := 7) (most := 1) (by first | decide | omega))
  clear hrd hk 
  generalize R5.numR 1 0 1 7 = q at RS ST Nn6 ⊢
  obtain ⟨n6, R6⟩ := q
  simp only [] at RS ST Nn6 ⊢
  have d10 := RS.out.fr.cell 10
  have f10 := RS.out.fr.frozen 10
  have yg := RS.out.fr.lt
  simp only [List.getElem?_cons_zero, List.getElem?_cons_succ] at d10
  go_upto_region 9 with (fail)
  have RS := Lib.hid (RS.out.setF 10 (.bool (n6 == 1)) ⟨n1, n2, n3, n4, n5, 0, [], [], [], 0, (n6 == 1)⟩ rfl rfl rfl rfl)
  generalize wn.setCell ⟨g, 10, none⟩ (.bool (n6 == 1)) = wh at RS ⊢
  clear d10 f10 yg
  go_wp2_with fail
  refine (ri64_any p R6 _ RS.out.rd).mono ?_
  rintro x wn ⟨rfl, hrd, hk⟩
  have RS := Lib.hid (RS.out.call hrd hk)
  have ST := Lib.hid (show St d (R6.after 8) ((Rd.lists ⟨n1, n2, n3, n4, n5, 0, [], [], [], wrap64 ((num (R6.got 8) : Nat) : Int), n6 == 1⟩ (R6.after 8)).bind fin) from St.word (f := fun x => (Rd.lists ⟨n1, n2, n3, n4, n5, 0, [], [], [], x.1, n6 == 1⟩ x.2).bind fin) ST.out)
  clear hrd hk
  generalize wrap64 ((num (R6.got 8) : Nat) : Int) = n7 at ST ⊢
  generalize R6.after 8 = R7 at RS ST
  have d9 := RS.out.fr.cell 9
  have f9 := RS.out.fr.frozen 9
  have yg := RS.out.fr.lt
  simp only [List.getElem?_cons_zero, List.getElem?_cons_succ] at d9
  go_upto_region 10 with (fail)
  have RS := Lib.hid (RS.out.setF 9 (.int .i64 n7) ⟨n1, n2, n3, n4, n5, 0, [], [], [], n7, (n6 == 1)⟩ rfl rfl rfl rfl)
  generalize wn.setCell ⟨g, 9, none⟩ (.int .i64 n7) = wh at RS ⊢
  clear d9 f9 yg
  have ST := Lib.hid (show St d R7 ((R7.rd 4 0 4096 5).bind fun x => (Rd.lists1 { (⟨n1, n2, n3, n4, n5, 0, [], [], [], n7, (n6 == 1)⟩ : Fr) with vn := x.1 } x.2).bind fin) by rw [← lists_D]; exact ST.out)
  go_wp2_with fail
  refine (rnum4_any p R7 0 4096 5 _ RS.out.rd).mono ?_
  rintro x wn ⟨rfl, hrd, hk⟩
  have RS := Lib.hid (RS.out.call hrd hk)
  have ST := Lib.hid (show St d (R7.numR 4 0 4096 5).2 ((Rd.lists1 ⟨n1, n2, n3, n4, n5, (R7.numR 4 0 4096 5).1, [], [], [], n7, (n6 == 1)⟩ (R7.numR 4 0 4096 5).2).bind fin) from St.numb (f := fun x => (Rd.lists1 ⟨n1, n2, n3, n4, n5, x.1, [], [], [], n7, (n6 == 1)⟩ x.2).bind fin) ST.out (by decide))
  have Nn8 := Lib.hid (numR_range (R := R7) (k := 4) (e := 5) (most := 4096) (by first | decide | omega))
  clear hrd hk 
  generalize R7.numR 4 0 4096 5 = q at RS ST Nn8 ⊢
  obtain ⟨n8, R8⟩ := q
  simp only [] at RS ST Nn8 ⊢
  have d5 := RS.out.fr.cell 5
  have f5 := RS.out.fr.frozen 5
  have yg := RS.out.fr.lt
  simp only [List.getElem?_cons_zero, List.getElem?_cons_succ] at d5
  go_upto_region 11 with (fail)
  have RS := Lib.hid (RS.out.setF 5 (.int .i64 n8) ⟨n1, n2, n3, n4, n5, n8, [], [], [], n7, (n6 == 1)⟩ rfl rfl rfl rfl)
  generalize wn.setCell ⟨g, 5, none⟩ (.int .i64 n8) = wh at RS ⊢
  clear d5 f5 yg
  have Z1 := Lib.hid (show ((⟨n1, n2, n3, n4, n5, n8, [], [], [], n7, (n6 == 1)⟩ : Fr)).items = [] from rfl)
  have Z2 := Lib.hid (show ((⟨n1, n2, n3, n4, n5, n8, [], [], [], n7, (n6 == 1)⟩ : Fr)).sums = [] from rfl)
  have Z3 := Lib.hid (show ((⟨n1, n2, n3, n4, n5, n8, [], [], [], n7, (n6 == 1)⟩ : Fr)).trips = [] from rfl)
  have NV := Lib.hid (show 0 ≤ ((⟨n1, n2, n3, n4, n5, n8, [], [], [], n7, (n6 == 1)⟩ : Fr)).vn ∧ ((⟨n1, n2, n3, n4, n5, n8, [], [], [], n7, (n6 == 1)⟩ : Fr)).vn ≤ 4096 from Nn8.out)
  generalize (⟨n1, n2, n3, n4, n5, n8, [], [], [], n7, (n6 == 1)⟩ : Fr) = F1 at RS ST Z1 Z2 Z3 NV
  have ST := Lib.hid (show St d R8 ((R8.rd 4 0 F1.vn 5).bind fun x => (Rd.lists2 F1 x.1 x.2).bind fin) by rw [← lists1_D]; exact ST.out)
  have nv := NV.out.1
  clear Nn2 Nn3 Nn4 Nn5 Nn6 Nn8
  have d5 := RS.out.fr.cell 5
  have yg := RS.out.fr.lt
  simp only [List.getElem?_cons_zero, List.getElem?_cons_succ] at d5
  go_wp2_with fail
  refine (rnum4_any p R8 0 F1.vn 5 _ RS.out.rd).mono ?_
  rintro x wn ⟨rfl, hrd, hk⟩
  have RS := Lib.hid (RS.out.call hrd hk)
  have ST := Lib.hid (show St d (R8.numR 4 0 F1.vn 5).2 ((Rd.lists2 F1 (R8.numR 4 0 F1.vn 5).1 (R8.numR 4 0 F1.vn 5).2).bind fin) from St.numb (f := fun x => (Rd.lists2 F1 x.1 x.2).bind fin) ST.out (by decide))
  have Nn9 := Lib.hid (numR_range (R := R8) (k := 4) (e := 5) (most := F1.vn) (by first | decide | omega))
  clear hrd hk d5 yg
  generalize R8.numR 4 0 F1.vn 5 = q at RS ST Nn9 ⊢
  obtain ⟨n9, R9⟩ := q
  simp only [] at RS ST Nn9 ⊢
  clear nv
  obtain ⟨m2, rfl⟩ : ∃ m : Nat, n9 = m := ⟨n9.toNat, by have := Nn9.out; omega⟩
  have hm2 : m2 ≤ 4096 := by have := Nn9.out; have := NV.out; omega
  have ST := Lib.hid (show St d R9 ((Rd.items F1.vn m2 (-1) R9 []).bind fun c => (Rd.lists3 { F1 with items := c.1 } c.2).bind fin) by
    have h := ST.out
    rw [lists2_D, Int.toNat_natCast] at h
    exact h)
  clear Nn9
  go_upto_block 0 with (fail)
  go_cut [7] (fun i wx => ∃ (R : Rd) (F' : Fr) (v1 : Value), i = i ∧ Hid (RsAt w1 wx B p g R F' v1 (.slice none 0 0) (.slice none 0 0)) ∧ Hid (F' = { F1 with items := F'.items }) ∧ Hid (St d R ((Rd.lists3 F' R).bind fin)))
  case first =>
    go_wp2_with fail
    go_loopw [7] (fun i wr => ∃ (k : Nat) (lv : Int) (R : Rd) (F' : Fr) (v1 : Value), k ≤ m2 ∧ i = .int .i64 k ∧ Hid (RsAt w1 wr B p g R F' v1 (.slice none 0 0) (.slice none 0 0)) ∧ Hid (F' = { F1 with items := F'.items }) ∧ Hid (F'.items.length = k) ∧ Hid ((k = 0 → lv = -1) ∧ ∀ (m : Nat) (hm : m < F'.items.length), k = m + 1 → lv = F'.items[m].1) ∧ Hid (-1 ≤ lv) ∧ Hid (St d R ((Rd.items F1.vn (m2 - k) lv R F'.items).bind (fun c => (Rd.lists3 { F1 with items := c.1 } c.2).bind fin)))) (fun i _ => m2 - (intOf i).toNat)
    case atStart => exact ⟨0, -1, R9, F1, _, Nat.zero_le _, rfl, RS, Lib.hid rfl, Lib.hid (by rw [Z1.out]; rfl), Lib.hid ⟨fun _ => rfl, fun _ _ h => absurd h (by omega)⟩, Lib.hid (Int.le_refl _), Lib.hid (by rw [Z1.out]; exact ST.out)⟩
    case round =>
      clear RS ST
      obtain ⟨k, lv, R, F', v1, hk, rfl, RS, HFR, HLN, HL, HLV, ST⟩ := hrel
      by_cases hlt : k < m2
      · have ST := Lib.hid (show St d R ((R.rise lv (F1.vn - 1)).bind fun x => x.2.word.bind fun y => (Rd.items F1.vn (m2 - (k + 1)) x.1 y.2 (F'.items ++ [(x.1, y.1)])).bind (fun c => (Rd.lists3 { F1 with items := c.1 } c.2).bind fin)) by
          have h := ST.out
          rw [show m2 - k = (m2 - (k + 1)) + 1 by omega, items_D] at h
          exact h)
        go_wp2_with fail
        refine (rfault_rd p R _ RS.out.rd).mono ?_
        rintro x wn0 ⟨rfl, hk0⟩
        have RS := Lib.hid (RS.out.kept0 hk0)
        clear hk0
        by_cases he : R.e = 0
        · have HE := Lib.hid he
          have hb : (R.e == 0) = true := by rw [he]; rfl
          clear he
          have d5 := RS.out.fr.cell 5
          have yg := RS.out.fr.lt
          simp only [List.getElem?_cons_zero, List.getElem?_cons_succ] at d5
          have nv0 : 0 ≤ F'.vn := by rw [HFR.out]; exact NV.out.1
          have nv1 : F'.vn ≤ 4096 := by rw [HFR.out]; exact NV.out.2
          have HVN := Lib.hid (show F'.vn = F1.vn by rw [HFR.out])
          go_wp2_with fail
          refine (rat_rd p R _ RS.out.rd).mono ?_
          rintro x wq ⟨rfl, rfl⟩
          go_wp2_with fail
          refine (rnum4_any p R 0 (F'.vn - 1) 3 _ RS.out.rd).mono ?_
          rintro x wn ⟨rfl, hrd, hk⟩
          have RS := Lib.hid (RS.out.call hrd hk)
          have RISE := Lib.hid (St.rise (f := fun x => x.2.word.bind fun y => (Rd.items F1.vn (m2 - (k + 1)) x.1 y.2 (F'.items ++ [(x.1, y.1)])).bind (fun c => (Rd.lists3 { F1 with items := c.1 } c.2).bind fin)) (show St d R ((R.rise lv (F'.vn - 1)).bind _) by rw [HVN.out]; exact ST.out) HE.out HLV.out)
          have NX := Lib.hid (numR_nonneg R 4 (F'.vn - 1) 3)
          clear hrd hk nv0 nv1 ST hb
          generalize R.numR 4 0 (F'.vn - 1) 3 = q at RS RISE NX ⊢
          obtain ⟨x1, Ra⟩ := q
          simp only [] at RS RISE NX ⊢
          go_upto_region 17 with (fail)
          have RX := Lib.hid (RS.out.new 99 [.int .i64 x1, .int .i64 0] (by decide))
          clear d5 yg RS
          obtain ⟨T, hT⟩ : ∃ T, T = wn.heap.size := ⟨_, rfl⟩
          rw [← hT] at RX ⊢
          generalize wn.alloc (.cells [Value.int .i64 x1, .int .i64 0].toArray 99) = wh at RX ⊢
          clear hT
          have B1 := Lib.hid (show (F'.items.length + 1) * 16 ≤ 140737488355328 by rw [HLN.out]; omega)
          have B2 := Lib.hid (show F'.items.length + 1 ≤ maxLen by rw [HLN.out]; unfold maxLen; omega)
          by_cases hz : k = 0
          · have HZ := Lib.hid hz
            have ST := Lib.hid (RISE.out.1 (.inr (HL.out.1 hz)))
            clear hz RISE
            have G3 : ¬ 0 < k := by have := HZ.out; omega
            have G4 : decide ((0 : Int) < (k : Int)) = false := by simp; exact HZ.out
            go_quiet (fail)
            have RX := Lib.hid (RX.out.kept0 ((Kept.refl [] _).drewN nq))
            go_wp2_with fail
            refine (ri64_any p (Ra) _ RX.out.rs.rd).mono ?_
            rintro x wn ⟨rfl, hrd, hk⟩
            have RX := Lib.hid (RX.out.call hrd hk)
            have ST := Lib.hid (show St d ((Ra).after 8) ((Rd.items F1.vn (m2 - (k + 1)) x1 ((Ra).after 8) (F'.items ++ [(x1, (wrap64 ((num ((Ra).got 8) : Nat) : Int)))])).bind (fun c => (Rd.lists3 { F1 with items := c.1 } c.2).bind fin)) from St.word (f := fun y => (Rd.items F1.vn (m2 - (k + 1)) x1 y.2 (F'.items ++ [(x1, y.1)])).bind (fun c => (Rd.lists3 { F1 with items := c.1 } c.2).bind fin)) ST.out)
            clear hrd hk
            generalize wrap64 ((num ((Ra).got 8) : Nat) : Int) = y1 at ST ⊢
            generalize (Ra).after 8 = Rb at RX ST
            have t1 := RX.out.blk.cell 1
            have tf1 := RX.out.blk.frozen 1
            have tl := RX.out.blk.lt
            simp only [List.getElem?_cons_zero, List.getElem?_cons_succ] at t1
            go_upto_region 20 with (fail)
            have RX := Lib.hid (RX.out.set 1 (.int .i64 y1))
            simp only [List.set_cons_zero, List.set_cons_succ] at RX
            generalize wn.setCell ⟨T, 1, none⟩ (.int .i64 y1) = wh at RX ⊢
            clear t1 tf1 tl
            have t0 := RX.out.blk.cell 0
            have t1 := RX.out.blk.cell 1
            have d6 := RX.out.rs.fr.cell 6
            have tl := RX.out.blk.lt
            have yg := RX.out.rs.fr.lt
            simp only [List.getElem?_cons_zero, List.getElem?_cons_succ] at t0 t1 d6
            go_upto_region 14 with (first | (at_builtin; refine wpList_app _ rfl (.tmp 91) (.tmp 93) _ rfl 99 (.agg #[.int .i64 0, .int .i64 0]) 2 16 Try.underlying54 infoItem rfl (by decide) B v1 _ _ rfl (RX.out.rs.o1.alloc _) (some ⟨_, 0, none⟩) 1 1 (readV (x1, y1)) rfl rfl (Reads.of_blk (Blk.new _ _ _) (fun _ _ h => h)) (by simp [readV, Value.oneCell']) B1.out B2.out (Nat.le_trans RX.out.rs.hb (Nat.le_trans RX.out.rs.kept.size (by simp))) ?_; intro u w2 ho2 hk2 _; obtain ⟨A2, N2', c2, rfl⟩ := own_sl ho2; have hA := (KeptB.refl B [99] _).app hk2 (RX.out.rs.o1.alloc _) (by decide); have q6 := ((RX.out.rs.fr.alloc _).keptB hA (by decide)).cell 6; have q7 := ((RX.out.rs.fr.alloc _).keptB hA (by decide)).frozen 6; simp only [List.getElem?_cons_zero, List.getElem?_cons_succ] at q6; have K2 := Lib.hid hk2; have O2 := Lib.hid ho2; clear hk2 ho2 hA))
            clear t0 t1 d6 tl yg q6 q7
            go_wp2_with fail
            go_roundw
            case rel =>
              exact ⟨k + 1, x1, Rb, _, _, by omega, by go_num, Lib.hid (RsAt.app1 RX.out.rs ((Kept.refl [] _).alloc _) K2.out (x := (x1, y1)) O2.out), Lib.hid (fr_items HFR.out), Lib.hid (by simp [HLN.out]),
                Lib.hid ⟨fun h => absurd h (by omega), fun m hm he => last_snoc (x := (x1, y1)) (hm := hm) he HLN.out⟩, Lib.hid (by have := NX.out; omega), ST⟩
            case measure => simp [intOf]; omega
          obtain ⟨m, rfl⟩ : ∃ m, k = m + 1 := ⟨k - 1, by omega⟩
          have hmL : m < F'.items.length := by rw [HLN.out]; omega
          obtain ⟨A1, cc1, hv1, _, _, hrd1, _⟩ := own_form RX.out.rs.o1
          subst hv1
          obtain ⟨bb, off, rfl, hbl, s0', _⟩ := read_at hrd1 hmL
          have HEQ := Lib.hid (HL.out.2 m hmL rfl)
          have s0 : wh.cell? ⟨bb, off + m * 2, none⟩ = some (.int .i64 lv) := by rw [HEQ.out]; exact s0'
          clear hrd1 hz s0'
          have t0 := RX.out.blk.cell 0
          have d6 := RX.out.rs.fr.cell 6
          have tl := RX.out.blk.lt
          have yg := RX.out.rs.fr.lt
          simp only [List.getElem?_cons_zero, List.getElem?_cons_succ] at t0 d6
          by_cases hle : x1 ≤ lv
          · have ST := Lib.hid (RISE.out.2 hle)
            have G3 : 0 < m + 1 := Nat.succ_pos m
            have G4 : decide ((0 : Int) < ((m + 1 : Nat) : Int)) = true := by first | (simp; done) | (simp; omega)
            go_quiet (fail)
            go_wp2_with fail
            have RX := Lib.hid (RX.out.kept0 ((Kept.refl [] _).drewN nq))
            refine (rfail_any p Ra 6 R.pos _ RX.out.rs.rd).mono ?_
            rintro x wn ⟨rfl, hrd, hk⟩
            have RX := Lib.hid (RX.out.call hrd hk)
            clear hrd hk G3 G4 s0 t0 d6 tl yg hbl hle RISE
            go_wp2_with fail
            refine (ri64_any p (Ra.fail 6 R.pos) _ RX.out.rs.rd).mono ?_
            rintro x wn ⟨rfl, hrd, hk⟩
            have RX := Lib.hid (RX.out.call hrd hk)
            have ST := Lib.hid (show St d ((Ra.fail 6 R.pos).after 8) ((Rd.items F1.vn (m2 - (m + 1 + 1)) x1 ((Ra.fail 6 R.pos).after 8) (F'.items ++ [(x1, (wrap64 ((num ((Ra.fail 6 R.pos).got 8) : Nat) : Int)))])).bind (fun c => (Rd.lists3 { F1 with items := c.1 } c.2).bind fin)) from St.word (f := fun y => (Rd.items F1.vn (m2 - (m + 1 + 1)) x1 y.2 (F'.items ++ [(x1, y.1)])).bind (fun c => (Rd.lists3 { F1 with items := c.1 } c.2).bind fin)) ST.out)
            clear hrd hk
            generalize wrap64 ((num ((Ra.fail 6 R.pos).got 8) : Nat) : Int) = y1 at ST ⊢
            generalize (Ra.fail 6 R.pos).after 8 = Rb at RX ST
            have t1 := RX.out.blk.cell 1
            have tf1 := RX.out.blk.frozen 1
            have tl := RX.out.blk.lt
            simp only [List.getElem?_cons_zero, List.getElem?_cons_succ] at t1
            go_upto_region 20 with (fail)
            have RX := Lib.hid (RX.out.set 1 (.int .i64 y1))
            simp only [List.set_cons_zero, List.set_cons_succ] at RX
            generalize wn.setCell ⟨T, 1, none⟩ (.int .i64 y1) = wh at RX ⊢
            clear t1 tf1 tl
            have t0 := RX.out.blk.cell 0
            have t1 := RX.out.blk.cell 1
            have d6 := RX.out.rs.fr.cell 6
            have tl := RX.out.blk.lt
            have yg := RX.out.rs.fr.lt
            simp only [List.getElem?_cons_zero, List.getElem?_cons_succ] at t0 t1 d6
            go_upto_region 14 with (first | (at_builtin; refine wpList_app _ rfl (.tmp 91) (.tmp 93) _ rfl 99 (.agg #[.int .i64 0, .int .i64 0]) 2 16 Try.underlying54 infoItem rfl (by decide) B (.slice (some ⟨bb, off, none⟩) F'.items.length cc1) _ _ rfl (RX.out.rs.o1.alloc _) (some ⟨_, 0, none⟩) 1 1 (readV (x1, y1)) rfl rfl (Reads.of_blk (Blk.new _ _ _) (fun _ _ h => h)) (by simp [readV, Value.oneCell']) B1.out B2.out (Nat.le_trans RX.out.rs.hb (Nat.le_trans RX.out.rs.kept.size (by simp))) ?_; intro u w2 ho2 hk2 _; obtain ⟨A2, N2', c2, rfl⟩ := own_sl ho2; have hA := (KeptB.refl B [99] _).app hk2 (RX.out.rs.o1.alloc _) (by decide); have q6 := ((RX.out.rs.fr.alloc _).keptB hA (by decide)).cell 6; have q7 := ((RX.out.rs.fr.alloc _).keptB hA (by decide)).frozen 6; simp only [List.getElem?_cons_zero, List.getElem?_cons_succ] at q6; have K2 := Lib.hid hk2; have O2 := Lib.hid ho2; clear hk2 ho2 hA))
            clear t0 t1 d6 tl yg q6 q7
            go_wp2_with fail
            go_roundw
            case rel =>
              exact ⟨m + 1 + 1, x1, Rb, _, _, by omega, by go_num, Lib.hid (RsAt.app1 RX.out.rs ((Kept.refl [] _).alloc _) K2.out (x := (x1, y1)) O2.out), Lib.hid (fr_items HFR.out), Lib.hid (by simp [HLN.out]),
                Lib.hid ⟨fun h => absurd h (by omega), fun m hm he => last_snoc (x := (x1, y1)) (hm := hm) he HLN.out⟩, Lib.hid (by have := NX.out; omega), ST⟩
            case measure => simp [intOf]; omega
          · have ST := Lib.hid (RISE.out.1 (.inl (by omega)))
            have G3 : 0 < m + 1 := Nat.succ_pos m
            have G4 : decide ((0 : Int) < ((m + 1 : Nat) : Int)) = true := by first | (simp; done) | (simp; omega)
            have hgt : lv < x1 := by omega
            have G5 : decide (x1 ≤ lv) = false := by simp; omega
            go_quiet (fail)
            go_wp2_with fail
            have RX := Lib.hid (RX.out.kept0 ((Kept.refl [] _).drewN nq))
            clear G3 G4 G5 s0 t0 d6 tl yg hbl RISE hgt hle
            go_wp2_with fail
            refine (ri64_any p (Ra) _ RX.out.rs.rd).mono ?_
            rintro x wn ⟨rfl, hrd, hk⟩
            have RX := Lib.hid (RX.out.call hrd hk)
            have ST := Lib.hid (show St d ((Ra).after 8) ((Rd.items F1.vn (m2 - (m + 1 + 1)) x1 ((Ra).after 8) (F'.items ++ [(x1, (wrap64 ((num ((Ra).got 8) : Nat) : Int)))])).bind (fun c => (Rd.lists3 { F1 with items := c.1 } c.2).bind fin)) from St.word (f := fun y => (Rd.items F1.vn (m2 - (m + 1 + 1)) x1 y.2 (F'.items ++ [(x1, y.1)])).bind (fun c => (Rd.lists3 { F1 with items := c.1 } c.2).bind fin)) ST.out)
            clear hrd hk
            generalize wrap64 ((num ((Ra).got 8) : Nat) : Int) = y1 at ST ⊢
            generalize (Ra).after 8 = Rb at RX ST
            have t1 := RX.out.blk.cell 1
            have tf1 := RX.out.blk.frozen 1
            have tl := RX.out.blk.lt
            simp only [List.getElem?_cons_zero, List.getElem?_cons_succ] at t1
            go_upto_region 20 with (fail)
            have RX := Lib.hid (RX.out.set 1 (.int .i64 y1))
            simp only [List.set_cons_zero, List.set_cons_succ] at RX
            generalize wn.setCell ⟨T, 1, none⟩ (.int .i64 y1) = wh at RX ⊢
            clear t1 tf1 tl
            have t0 := RX.out.blk.cell 0
            have t1 := RX.out.blk.cell 1
            have d6 := RX.out.rs.fr.cell 6
            have tl := RX.out.blk.lt
            have yg := RX.out.rs.fr.lt
            simp only [List.getElem?_cons_zero, List.getElem?_cons_succ] at t0 t1 d6
            go_upto_region 14 with (first | (at_builtin; refine wpList_app _ rfl (.tmp 91) (.tmp 93) _ rfl 99 (.agg #[.int .i64 0, .int .i64 0]) 2 16 Try.underlying54 infoItem rfl (by decide) B (.slice (some ⟨bb, off, none⟩) F'.items.length cc1) _ _ rfl (RX.out.rs.o1.alloc _) (some ⟨_, 0, none⟩) 1 1 (readV (x1, y1)) rfl rfl (Reads.of_blk (Blk.new _ _ _) (fun _ _ h => h)) (by simp [readV, Value.oneCell']) B1.out B2.out (Nat.le_trans RX.out.rs.hb (Nat.le_trans RX.out.rs.kept.size (by simp))) ?_; intro u w2 ho2 hk2 _; obtain ⟨A2, N2', c2, rfl⟩ := own_sl ho2; have hA := (KeptB.refl B [99] _).app hk2 (RX.out.rs.o1.alloc _) (by decide); have q6 := ((RX.out.rs.fr.alloc _).keptB hA (by decide)).cell 6; have q7 := ((RX.out.rs.fr.alloc _).keptB hA (by decide)).frozen 6; simp only [List.getElem?_cons_zero, List.getElem?_cons_succ] at q6; have K2 := Lib.hid hk2; have O2 := Lib.hid ho2; clear hk2 ho2 hA))
            clear t0 t1 d6 tl yg q6 q7
            go_wp2_with fail
            go_roundw
            case rel =>
              exact ⟨m + 1 + 1, x1, Rb, _, _, by omega, by go_num, Lib.hid (RsAt.app1 RX.out.rs ((Kept.refl [] _).alloc _) K2.out (x := (x1, y1)) O2.out), Lib.hid (fr_items HFR.out), Lib.hid (by simp [HLN.out]),
                Lib.hid ⟨fun h => absurd h (by omega), fun m hm he => last_snoc (x := (x1, y1)) (hm := hm) he HLN.out⟩, Lib.hid (by have := NX.out; omega), ST⟩
            case measure => simp [intOf]; omega
        · have HE := Lib.hid he
          have hb : (R.e == 0) = false := by rw [beq_eq_false_iff_ne]; exact he
          clear he
          go_wp2_with fail
          go_meet
          exact ⟨R, F', v1, trivial, RS, HFR, Lib.hid (ST.out.dead HE.out)⟩
      · have hkm : k = m2 := by omega
        have ST := Lib.hid (show St d R ((Rd.lists3 F' R).bind fin) by
          have h := ST.out
          rw [hkm, Nat.sub_self] at h
          have h2 : St d R ((Rd.lists3 { F1 with items := F'.items } R).bind fin) := h
          rw [← HFR.out] at h2
          exact h2)
        clear hkm
        go_wp2_with fail
        go_meet
        exact ⟨R, F', v1, trivial, RS, HFR, ST⟩
  case rest =>
  clear RS ST
  obtain ⟨R10, F2, vi, _, RS, HFR, ST⟩ := hcut
  have Z2 := Lib.hid (show F2.sums = [] by rw [HFR.out]; exact Z2.out)
  have Z3 := Lib.hid (show F2.trips = [] by rw [HFR.out]; exact Z3.out)
  clear HFR Z1 NV hm2
  have ST := Lib.hid (show St d R10 ((R10.rd 4 0 4096 5).bind fun x => (Rd.lists4 F2 x.1 x.2).bind fin) by rw [← lists3_D]; exact ST.out)
  go_wp2_with fail
  refine (rnum4_any p R10 0 4096 5 _ RS.out.rd).mono ?_
  rintro x wn ⟨rfl, hrd, hk⟩
  have RS := Lib.hid (RS.out.call hrd hk)
  have ST := Lib.hid (show St d (R10.numR 4 0 4096 5).2 ((Rd.lists4 F2 (R10.numR 4 0 4096 5).1 (R10.numR 4 0 4096 5).2).bind fin) from St.numb (f := fun x => (Rd.lists4 F2 x.1 x.2).bind fin) ST.out (by decide))
  have Nn10 := Lib.hid (numR_range (R := R10) (k := 4) (e := 5) (most := 4096) (by first | decide | omega))
  clear hrd hk 
  generalize R10.numR 4 0 4096 5 = q at RS ST Nn10 ⊢
  obtain ⟨n10, R11⟩ := q
  simp only [] at RS ST Nn10 ⊢
  obtain ⟨m3, rfl⟩ : ∃ m : Nat, n10 = m := ⟨n10.toNat, by have := Nn10.out; omega⟩
  have hm3 : m3 ≤ 4096 := by have := Nn10.out; omega
  clear Nn10
  have ST := Lib.hid (show St d R11 ((Rd.sums m3 (-1) R11 []).bind (fun c => (Rd.lists5 { F2 with sums := c.1 } c.2).bind fin)) by
    have h := ST.out
    rw [lists4_D, Int.toNat_natCast] at h
    exact h)
  go_upto_block 2 with (fail)
  go_cut [10] (fun i wx => ∃ (R : Rd) (F' : Fr) (v : Value), i = i ∧ Hid (RsAt w1 wx B p g R F' vi v (.slice none 0 0)) ∧ Hid (F' = { F2 with sums := F'.sums }) ∧ Hid (St d R ((Rd.lists5 F' R).bind fin)))
  case first =>
    go_wp2_with fail
    go_loopw [10] (fun i wr => ∃ (k : Nat) (lv : Int) (R : Rd) (F' : Fr) (v : Value), k ≤ m3 ∧ i = .int .i64 k ∧ Hid (RsAt w1 wr B p g R F' vi v (.slice none 0 0)) ∧ Hid (F' = { F2 with sums := F'.sums }) ∧ Hid (F'.sums.length = k) ∧ Hid ((k = 0 → lv = -1) ∧ ∀ (m : Nat) (hm : m < F'.sums.length), k = m + 1 → lv = F'.sums[m].1) ∧ Hid (-1 ≤ lv) ∧ Hid (St d R ((Rd.sums (m3 - k) lv R F'.sums).bind (fun c => (Rd.lists5 { F2 with sums := c.1 } c.2).bind fin)))) (fun i _ => m3 - (intOf i).toNat)
    case atStart => exact ⟨0, -1, R11, F2, _, Nat.zero_le _, rfl, RS, Lib.hid rfl, Lib.hid (by rw [Z2.out]; rfl), Lib.hid ⟨fun _ => rfl, fun _ _ h => absurd h (by omega)⟩, Lib.hid (Int.le_refl _), Lib.hid (by rw [Z2.out]; exact ST.out)⟩
    case round =>
      clear RS ST
      obtain ⟨k, lv, R, F', v, hk, rfl, RS, HFR, HLN, HL, HLV, ST⟩ := hrel
      by_cases hlt : k < m3
      · have ST := Lib.hid (show St d R ((R.rise lv 4095).bind fun x => x.2.word.bind fun y => y.2.word.bind fun z => (Rd.sums (m3 - (k + 1)) x.1 z.2 (F'.sums ++ [(x.1, y.1, u64of z.1)])).bind (fun c => (Rd.lists5 { F2 with sums := c.1 } c.2).bind fin)) by
          have h := ST.out
          rw [show m3 - k = (m3 - (k + 1)) + 1 by omega, sums_D] at h
          exact h)
        go_wp2_with fail
        refine (rfault_rd p R _ RS.out.rd).mono ?_
        rintro x wn0 ⟨rfl, hk0⟩
        have RS := Lib.hid (RS.out.kept0 hk0)
        clear hk0
        by_cases he : R.e = 0
        · have HE := Lib.hid he
          have hb : (R.e == 0) = true := by rw [he]; rfl
          clear he
          go_wp2_with fail
          refine (rat_rd p R _ RS.out.rd).mono ?_
          rintro x wq ⟨rfl, rfl⟩
          go_wp2_with fail
          refine (rnum4_any p R 0 4095 3 _ RS.out.rd).mono ?_
          rintro x wn ⟨rfl, hrd, hk⟩
          have RS := Lib.hid (RS.out.call hrd hk)
          have RISE := Lib.hid (St.rise (f := fun x => x.2.word.bind fun y => y.2.word.bind fun z => (Rd.sums (m3 - (k + 1)) x.1 z.2 (F'.sums ++ [(x.1, y.1, u64of z.1)])).bind (fun c => (Rd.lists5 { F2 with sums := c.1 } c.2).bind fin)) ST.out HE.out HLV.out)
          have NX := Lib.hid (numR_nonneg R 4 4095 3)
          clear hrd hk ST hb
          generalize R.numR 4 0 4095 3 = q at RS RISE NX ⊢
          obtain ⟨x1, Ra⟩ := q
          simp only [] at RS RISE NX ⊢
          go_upto_region 27 with (fail)
          have RX := Lib.hid (RS.out.new 103 [.int .i64 x1, .int .i64 0, .int .u64 0] (by decide))
          clear RS
          obtain ⟨T, hT⟩ : ∃ T, T = wn.heap.size := ⟨_, rfl⟩
          rw [← hT] at RX ⊢
          generalize wn.alloc (.cells [Value.int .i64 x1, .int .i64 0, .int .u64 0].toArray 103) = wh at RX ⊢
          clear hT
          have B1 := Lib.hid (show (F'.sums.length + 1) * 24 ≤ 140737488355328 by rw [HLN.out]; omega)
          have B2 := Lib.hid (show F'.sums.length + 1 ≤ maxLen by rw [HLN.out]; unfold maxLen; omega)
          by_cases hz : k = 0
          · have HZ := Lib.hid hz
            have ST := Lib.hid (RISE.out.1 (.inr (HL.out.1 hz)))
            clear hz RISE
            have G3 : ¬ 0 < k := by have := HZ.out; omega
            have G4 : decide ((0 : Int) < (k : Int)) = false := by simp; exact HZ.out
            go_quiet (fail)
            have RX := Lib.hid (RX.out.kept0 ((Kept.refl [] _).drewN nq))
            go_wp2_with fail
            refine (ri64_any p (Ra) _ RX.out.rs.rd).mono ?_
            rintro x wn ⟨rfl, hrd, hk⟩
            have RX := Lib.hid (RX.out.call hrd hk)
            have ST := Lib.hid (show St d ((Ra).after 8) (((Ra).after 8).word.bind fun z => (Rd.sums (m3 - (k + 1)) x1 z.2 (F'.sums ++ [(x1, (wrap64 ((num ((Ra).got 8) : Nat) : Int)), u64of z.1)])).bind (fun c => (Rd.lists5 { F2 with sums := c.1 } c.2).bind fin)) from St.word (f := fun y => y.2.word.bind fun z => (Rd.sums (m3 - (k + 1)) x1 z.2 (F'.sums ++ [(x1, y.1, u64of z.1)])).bind (fun c => (Rd.lists5 { F2 with sums := c.1 } c.2).bind fin)) ST.out)
            clear hrd hk
            generalize wrap64 ((num ((Ra).got 8) : Nat) : Int) = h1 at ST ⊢
            generalize (Ra).after 8 = Rb at RX ST
            have t1 := RX.out.blk.cell 1
            have tf1 := RX.out.blk.frozen 1
            have tl := RX.out.blk.lt
            simp only [List.getElem?_cons_zero, List.getElem?_cons_succ] at t1
            go_upto_region 30 with (fail)
            have RX := Lib.hid (RX.out.set 1 (.int .i64 h1))
            simp only [List.set_cons_zero, List.set_cons_succ] at RX
            generalize wn.setCell ⟨T, 1, none⟩ (.int .i64 h1) = wh at RX ⊢
            clear t1 tf1 tl
            go_wp2_with fail
            refine (ri64_any p (Rb) _ RX.out.rs.rd).mono ?_
            rintro x wn ⟨rfl, hrd, hk⟩
            have RX := Lib.hid (RX.out.call hrd hk)
            have ST := Lib.hid (show St d ((Rb).after 8) ((Rd.sums (m3 - (k + 1)) x1 ((Rb).after 8) (F'.sums ++ [(x1, h1, u64of (wrap64 ((num ((Rb).got 8) : Nat) : Int)))])).bind (fun c => (Rd.lists5 { F2 with sums := c.1 } c.2).bind fin)) from St.word (f := fun y => (Rd.sums (m3 - (k + 1)) x1 y.2 (F'.sums ++ [(x1, h1, u64of y.1)])).bind (fun c => (Rd.lists5 { F2 with sums := c.1 } c.2).bind fin)) ST.out)
            clear hrd hk
            generalize wrap64 ((num ((Rb).got 8) : Nat) : Int) = y1 at ST ⊢
            generalize (Rb).after 8 = Rc at RX ST
            have t2 := RX.out.blk.cell 2
            have tf2 := RX.out.blk.frozen 2
            have tl := RX.out.blk.lt
            simp only [List.getElem?_cons_zero, List.getElem?_cons_succ] at t2
            go_upto_region 31 with (fail)
            have RX := Lib.hid (RX.out.set 2 (.int .u64 (IntKind.u64.wrap y1)))
            simp only [List.set_cons_zero, List.set_cons_succ] at RX
            generalize wn.setCell ⟨T, 2, none⟩ (.int .u64 (IntKind.u64.wrap y1)) = wh at RX ⊢
            clear t2 tf2 tl
            rw [wrap_u64of] at RX
            have t0 := RX.out.blk.cell 0
            have t1 := RX.out.blk.cell 1
            have t2 := RX.out.blk.cell 2
            have d7 := RX.out.rs.fr.cell 7
            have tl := RX.out.blk.lt
            have yg := RX.out.rs.fr.lt
            simp only [List.getElem?_cons_zero, List.getElem?_cons_succ] at t0 t1 t2 d7
            go_upto_region 24 with (first | (at_builtin; refine wpList_app _ rfl (.tmp 142) (.tmp 144) _ rfl 103 (.agg #[.int .i64 0, .int .i64 0, .int .u64 0]) 3 24 Try.underlying57 infoSum rfl (by decide) B v _ _ rfl (RX.out.rs.o2.alloc _) (some ⟨_, 0, none⟩) 1 1 (sumV (x1, h1, u64of y1)) rfl rfl (Reads.of_blk (Blk.new _ _ _) (fun _ _ h => h)) (by simp [sumV, Value.oneCell']) B1.out B2.out (Nat.le_trans RX.out.rs.hb (Nat.le_trans RX.out.rs.kept.size (by simp))) ?_; intro u w2 ho2 hk2 _; obtain ⟨A2, N2', c2, rfl⟩ := own_sl ho2; have hA := (KeptB.refl B [103] _).app hk2 (RX.out.rs.o2.alloc _) (by decide); have q6 := ((RX.out.rs.fr.alloc _).keptB hA (by decide)).cell 7; have q7 := ((RX.out.rs.fr.alloc _).keptB hA (by decide)).frozen 7; simp only [List.getElem?_cons_zero, List.getElem?_cons_succ] at q6; have K2 := Lib.hid hk2; have O2 := Lib.hid ho2; clear hk2 ho2 hA))
            clear t0 t1 t2 d7 tl yg q6 q7
            go_wp2_with fail
            go_roundw
            case rel =>
              exact ⟨k + 1, x1, Rc, _, _, by omega, by go_num, Lib.hid (RsAt.app2 RX.out.rs ((Kept.refl [] _).alloc _) K2.out (x := (x1, h1, u64of y1)) O2.out), Lib.hid (fr_sums HFR.out), Lib.hid (by simp [HLN.out]),
                Lib.hid ⟨fun h => absurd h (by omega), fun m hm he => last_snoc (x := (x1, h1, u64of y1)) (hm := hm) he HLN.out⟩, Lib.hid (by have := NX.out; omega), ST⟩
            case measure => simp [intOf]; omega
          obtain ⟨m, rfl⟩ : ∃ m, k = m + 1 := ⟨k - 1, by omega⟩
          have hmL : m < F'.sums.length := by rw [HLN.out]; omega
          obtain ⟨A1, cc1, hv1, _, _, hrd1, _⟩ := own_form RX.out.rs.o2
          subst hv1
          obtain ⟨bb, off, rfl, hbl, s0', _⟩ := sum_at hrd1 hmL
          have HEQ := Lib.hid (HL.out.2 m hmL rfl)
          have s0 : wh.cell? ⟨bb, off + m * 3, none⟩ = some (.int .i64 lv) := by rw [HEQ.out]; exact s0'
          clear hrd1 hz s0'
          have t0 := RX.out.blk.cell 0
          have d7 := RX.out.rs.fr.cell 7
          have tl := RX.out.blk.lt
          have yg := RX.out.rs.fr.lt
          simp only [List.getElem?_cons_zero, List.getElem?_cons_succ] at t0 d7
          by_cases hle : x1 ≤ lv
          · have ST := Lib.hid (RISE.out.2 hle)
            have G3 : 0 < m + 1 := Nat.succ_pos m
            have G4 : decide ((0 : Int) < ((m + 1 : Nat) : Int)) = true := by first | (simp; done) | (simp; omega)
            go_quiet (fail)
            go_wp2_with fail
            have RX := Lib.hid (RX.out.kept0 ((Kept.refl [] _).drewN nq))
            refine (rfail_any p Ra 6 R.pos _ RX.out.rs.rd).mono ?_
            rintro x wn ⟨rfl, hrd, hk⟩
            have RX := Lib.hid (RX.out.call hrd hk)
            clear hrd hk G3 G4 s0 t0 d7 tl yg hbl hle RISE
            go_wp2_with fail
            refine (ri64_any p (Ra.fail 6 R.pos) _ RX.out.rs.rd).mono ?_
            rintro x wn ⟨rfl, hrd, hk⟩
            have RX := Lib.hid (RX.out.call hrd hk)
            have ST := Lib.hid (show St d ((Ra.fail 6 R.pos).after 8) (((Ra.fail 6 R.pos).after 8).word.bind fun z => (Rd.sums (m3 - (m + 1 + 1)) x1 z.2 (F'.sums ++ [(x1, (wrap64 ((num ((Ra.fail 6 R.pos).got 8) : Nat) : Int)), u64of z.1)])).bind (fun c => (Rd.lists5 { F2 with sums := c.1 } c.2).bind fin)) from St.word (f := fun y => y.2.word.bind fun z => (Rd.sums (m3 - (m + 1 + 1)) x1 z.2 (F'.sums ++ [(x1, y.1, u64of z.1)])).bind (fun c => (Rd.lists5 { F2 with sums := c.1 } c.2).bind fin)) ST.out)
            clear hrd hk
            generalize wrap64 ((num ((Ra.fail 6 R.pos).got 8) : Nat) : Int) = h1 at ST ⊢
            generalize (Ra.fail 6 R.pos).after 8 = Rb at RX ST
            have t1 := RX.out.blk.cell 1
            have tf1 := RX.out.blk.frozen 1
            have tl := RX.out.blk.lt
            simp only [List.getElem?_cons_zero, List.getElem?_cons_succ] at t1
            go_upto_region 30 with (fail)
            have RX := Lib.hid (RX.out.set 1 (.int .i64 h1))
            simp only [List.set_cons_zero, List.set_cons_succ] at RX
            generalize wn.setCell ⟨T, 1, none⟩ (.int .i64 h1) = wh at RX ⊢
            clear t1 tf1 tl
            go_wp2_with fail
            refine (ri64_any p (Rb) _ RX.out.rs.rd).mono ?_
            rintro x wn ⟨rfl, hrd, hk⟩
            have RX := Lib.hid (RX.out.call hrd hk)
            have ST := Lib.hid (show St d ((Rb).after 8) ((Rd.sums (m3 - (m + 1 + 1)) x1 ((Rb).after 8) (F'.sums ++ [(x1, h1, u64of (wrap64 ((num ((Rb).got 8) : Nat) : Int)))])).bind (fun c => (Rd.lists5 { F2 with sums := c.1 } c.2).bind fin)) from St.word (f := fun y => (Rd.sums (m3 - (m + 1 + 1)) x1 y.2 (F'.sums ++ [(x1, h1, u64of y.1)])).bind (fun c => (Rd.lists5 { F2 with sums := c.1 } c.2).bind fin)) ST.out)
            clear hrd hk
            generalize wrap64 ((num ((Rb).got 8) : Nat) : Int) = y1 at ST ⊢
            generalize (Rb).after 8 = Rc at RX ST
            have t2 := RX.out.blk.cell 2
            have tf2 := RX.out.blk.frozen 2
            have tl := RX.out.blk.lt
            simp only [List.getElem?_cons_zero, List.getElem?_cons_succ] at t2
            go_upto_region 31 with (fail)
            have RX := Lib.hid (RX.out.set 2 (.int .u64 (IntKind.u64.wrap y1)))
            simp only [List.set_cons_zero, List.set_cons_succ] at RX
            generalize wn.setCell ⟨T, 2, none⟩ (.int .u64 (IntKind.u64.wrap y1)) = wh at RX ⊢
            clear t2 tf2 tl
            rw [wrap_u64of] at RX
            have t0 := RX.out.blk.cell 0
            have t1 := RX.out.blk.cell 1
            have t2 := RX.out.blk.cell 2
            have d7 := RX.out.rs.fr.cell 7
            have tl := RX.out.blk.lt
            have yg := RX.out.rs.fr.lt
            simp only [List.getElem?_cons_zero, List.getElem?_cons_succ] at t0 t1 t2 d7
            go_upto_region 24 with (first | (at_builtin; refine wpList_app _ rfl (.tmp 142) (.tmp 144) _ rfl 103 (.agg #[.int .i64 0, .int .i64 0, .int .u64 0]) 3 24 Try.underlying57 infoSum rfl (by decide) B (.slice (some ⟨bb, off, none⟩) F'.sums.length cc1) _ _ rfl (RX.out.rs.o2.alloc _) (some ⟨_, 0, none⟩) 1 1 (sumV (x1, h1, u64of y1)) rfl rfl (Reads.of_blk (Blk.new _ _ _) (fun _ _ h => h)) (by simp [sumV, Value.oneCell']) B1.out B2.out (Nat.le_trans RX.out.rs.hb (Nat.le_trans RX.out.rs.kept.size (by simp))) ?_; intro u w2 ho2 hk2 _; obtain ⟨A2, N2', c2, rfl⟩ := own_sl ho2; have hA := (KeptB.refl B [103] _).app hk2 (RX.out.rs.o2.alloc _) (by decide); have q6 := ((RX.out.rs.fr.alloc _).keptB hA (by decide)).cell 7; have q7 := ((RX.out.rs.fr.alloc _).keptB hA (by decide)).frozen 7; simp only [List.getElem?_cons_zero, List.getElem?_cons_succ] at q6; have K2 := Lib.hid hk2; have O2 := Lib.hid ho2; clear hk2 ho2 hA))
            clear t0 t1 t2 d7 tl yg q6 q7
            go_wp2_with fail
            go_roundw
            case rel =>
              exact ⟨m + 1 + 1, x1, Rc, _, _, by omega, by go_num, Lib.hid (RsAt.app2 RX.out.rs ((Kept.refl [] _).alloc _) K2.out (x := (x1, h1, u64of y1)) O2.out), Lib.hid (fr_sums HFR.out), Lib.hid (by simp [HLN.out]),
                Lib.hid ⟨fun h => absurd h (by omega), fun m hm he => last_snoc (x := (x1, h1, u64of y1)) (hm := hm) he HLN.out⟩, Lib.hid (by have := NX.out; omega), ST⟩
            case measure => simp [intOf]; omega
          · have ST := Lib.hid (RISE.out.1 (.inl (by omega)))
            have G3 : 0 < m + 1 := Nat.succ_pos m
            have G4 : decide ((0 : Int) < ((m + 1 : Nat) : Int)) = true := by first | (simp; done) | (simp; omega)
            have hgt : lv < x1 := by omega
            have G5 : decide (x1 ≤ lv) = false := by simp; omega
            go_quiet (fail)
            go_wp2_with fail
            have RX := Lib.hid (RX.out.kept0 ((Kept.refl [] _).drewN nq))
            clear G3 G4 G5 s0 t0 d7 tl yg hbl RISE hgt hle
            go_wp2_with fail
            refine (ri64_any p (Ra) _ RX.out.rs.rd).mono ?_
            rintro x wn ⟨rfl, hrd, hk⟩
            have RX := Lib.hid (RX.out.call hrd hk)
            have ST := Lib.hid (show St d ((Ra).after 8) (((Ra).after 8).word.bind fun z => (Rd.sums (m3 - (m + 1 + 1)) x1 z.2 (F'.sums ++ [(x1, (wrap64 ((num ((Ra).got 8) : Nat) : Int)), u64of z.1)])).bind (fun c => (Rd.lists5 { F2 with sums := c.1 } c.2).bind fin)) from St.word (f := fun y => y.2.word.bind fun z => (Rd.sums (m3 - (m + 1 + 1)) x1 z.2 (F'.sums ++ [(x1, y.1, u64of z.1)])).bind (fun c => (Rd.lists5 { F2 with sums := c.1 } c.2).bind fin)) ST.out)
            clear hrd hk
            generalize wrap64 ((num ((Ra).got 8) : Nat) : Int) = h1 at ST ⊢
            generalize (Ra).after 8 = Rb at RX ST
            have t1 := RX.out.blk.cell 1
            have tf1 := RX.out.blk.frozen 1
            have tl := RX.out.blk.lt
            simp only [List.getElem?_cons_zero, List.getElem?_cons_succ] at t1
            go_upto_region 30 with (fail)
            have RX := Lib.hid (RX.out.set 1 (.int .i64 h1))
            simp only [List.set_cons_zero, List.set_cons_succ] at RX
            generalize wn.setCell ⟨T, 1, none⟩ (.int .i64 h1) = wh at RX ⊢
            clear t1 tf1 tl
            go_wp2_with fail
            refine (ri64_any p (Rb) _ RX.out.rs.rd).mono ?_
            rintro x wn ⟨rfl, hrd, hk⟩
            have RX := Lib.hid (RX.out.call hrd hk)
            have ST := Lib.hid (show St d ((Rb).after 8) ((Rd.sums (m3 - (m + 1 + 1)) x1 ((Rb).after 8) (F'.sums ++ [(x1, h1, u64of (wrap64 ((num ((Rb).got 8) : Nat) : Int)))])).bind (fun c => (Rd.lists5 { F2 with sums := c.1 } c.2).bind fin)) from St.word (f := fun y => (Rd.sums (m3 - (m + 1 + 1)) x1 y.2 (F'.sums ++ [(x1, h1, u64of y.1)])).bind (fun c => (Rd.lists5 { F2 with sums := c.1 } c.2).bind fin)) ST.out)
            clear hrd hk
            generalize wrap64 ((num ((Rb).got 8) : Nat) : Int) = y1 at ST ⊢
            generalize (Rb).after 8 = Rc at RX ST
            have t2 := RX.out.blk.cell 2
            have tf2 := RX.out.blk.frozen 2
            have tl := RX.out.blk.lt
            simp only [List.getElem?_cons_zero, List.getElem?_cons_succ] at t2
            go_upto_region 31 with (fail)
            have RX := Lib.hid (RX.out.set 2 (.int .u64 (IntKind.u64.wrap y1)))
            simp only [List.set_cons_zero, List.set_cons_succ] at RX
            generalize wn.setCell ⟨T, 2, none⟩ (.int .u64 (IntKind.u64.wrap y1)) = wh at RX ⊢
            clear t2 tf2 tl
            rw [wrap_u64of] at RX
            have t0 := RX.out.blk.cell 0
            have t1 := RX.out.blk.cell 1
            have t2 := RX.out.blk.cell 2
            have d7 := RX.out.rs.fr.cell 7
            have tl := RX.out.blk.lt
            have yg := RX.out.rs.fr.lt
            simp only [List.getElem?_cons_zero, List.getElem?_cons_succ] at t0 t1 t2 d7
            go_upto_region 24 with (first | (at_builtin; refine wpList_app _ rfl (.tmp 142) (.tmp 144) _ rfl 103 (.agg #[.int .i64 0, .int .i64 0, .int .u64 0]) 3 24 Try.underlying57 infoSum rfl (by decide) B (.slice (some ⟨bb, off, none⟩) F'.sums.length cc1) _ _ rfl (RX.out.rs.o2.alloc _) (some ⟨_, 0, none⟩) 1 1 (sumV (x1, h1, u64of y1)) rfl rfl (Reads.of_blk (Blk.new _ _ _) (fun _ _ h => h)) (by simp [sumV, Value.oneCell']) B1.out B2.out (Nat.le_trans RX.out.rs.hb (Nat.le_trans RX.out.rs.kept.size (by simp))) ?_; intro u w2 ho2 hk2 _; obtain ⟨A2, N2', c2, rfl⟩ := own_sl ho2; have hA := (KeptB.refl B [103] _).app hk2 (RX.out.rs.o2.alloc _) (by decide); have q6 := ((RX.out.rs.fr.alloc _).keptB hA (by decide)).cell 7; have q7 := ((RX.out.rs.fr.alloc _).keptB hA (by decide)).frozen 7; simp only [List.getElem?_cons_zero, List.getElem?_cons_succ] at q6; have K2 := Lib.hid hk2; have O2 := Lib.hid ho2; clear hk2 ho2 hA))
            clear t0 t1 t2 d7 tl yg q6 q7
            go_wp2_with fail
            go_roundw
            case rel =>
              exact ⟨m + 1 + 1, x1, Rc, _, _, by omega, by go_num, Lib.hid (RsAt.app2 RX.out.rs ((Kept.refl [] _).alloc _) K2.out (x := (x1, h1, u64of y1)) O2.out), Lib.hid (fr_sums HFR.out), Lib.hid (by simp [HLN.out]),
                Lib.hid ⟨fun h => absurd h (by omega), fun m hm he => last_snoc (x := (x1, h1, u64of y1)) (hm := hm) he HLN.out⟩, Lib.hid (by have := NX.out; omega), ST⟩
            case measure => simp [intOf]; omega
        · have HE := Lib.hid he
          have hb : (R.e == 0) = false := by rw [beq_eq_false_iff_ne]; exact he
          clear he
          go_wp2_with fail
          go_meet
          exact ⟨R, F', v, trivial, RS, HFR, Lib.hid (ST.out.dead HE.out)⟩
      · have hkm : k = m3 := by omega
        have ST := Lib.hid (show St d R ((Rd.lists5 F' R).bind fin) by
          have h := ST.out
          rw [hkm, Nat.sub_self] at h
          have h2 : St d R ((Rd.lists5 { F2 with sums := F'.sums } R).bind fin) := h
          rw [← HFR.out] at h2
          exact h2)
        clear hkm
        go_wp2_with fail
        go_meet
        exact ⟨R, F', v, trivial, RS, HFR, ST⟩
  case rest =>
  clear RS ST
  obtain ⟨R12, F3, vj, _, RS, HFR, ST⟩ := hcut
  have Z3 := Lib.hid (show F3.trips = [] by rw [HFR.out]; exact Z3.out)
  clear HFR Z2 hm3
  have ST := Lib.hid (show St d R12 ((R12.rd 4 0 65536 5).bind fun x => (Rd.lists6 F3 x.1 x.2).bind fin) by rw [← lists5_D]; exact ST.out)
  go_wp2_with fail
  refine (rnum4_any p R12 0 65536 5 _ RS.out.rd).mono ?_
  rintro x wn ⟨rfl, hrd, hk⟩
  have RS := Lib.hid (RS.out.call hrd hk)
  have ST := Lib.hid (show St d (R12.numR 4 0 65536 5).2 ((Rd.lists6 F3 (R12.numR 4 0 65536 5).1 (R12.numR 4 0 65536 5).2).bind fin) from St.numb (f := fun x => (Rd.lists6 F3 x.1 x.2).bind fin) ST.out (by decide))
  have Nn12 := Lib.hid (numR_range (R := R12) (k := 4) (e := 5) (most := 65536) (by first | decide | omega))
  clear hrd hk 
  generalize R12.numR 4 0 65536 5 = q at RS ST Nn12 ⊢
  obtain ⟨n12, R13⟩ := q
  simp only [] at RS ST Nn12 ⊢
  obtain ⟨m4, rfl⟩ : ∃ m : Nat, n12 = m := ⟨n12.toNat, by have := Nn12.out; omega⟩
  have hm4 : m4 ≤ 65536 := by have := Nn12.out; omega
  clear Nn12
  have ST := Lib.hid (show St d R13 ((Rd.trips m4 R13 []).bind (fun c => (Rd.end7 { F3 with trips := c.1 } c.2).bind fin)) by
    have h := ST.out
    rw [lists6_D, Int.toNat_natCast] at h
    exact h)
  go_upto_block 4 with (fail)
  go_cut [13] (fun i wx => ∃ (R : Rd) (F' : Fr) (v : Value), i = i ∧ Hid (RsAt w1 wx B p g R F' vi vj v) ∧ Hid (F' = { F3 with trips := F'.trips }) ∧ Hid (St d R ((Rd.end7 F' R).bind fin)))
  case first =>
    go_wp2_with fail
    go_loopw [13] (fun i wr => ∃ (k : Nat) (R : Rd) (F' : Fr) (v : Value), k ≤ m4 ∧ i = .int .i64 k ∧ Hid (RsAt w1 wr B p g R F' vi vj v) ∧ Hid (F' = { F3 with trips := F'.trips }) ∧ Hid (F'.trips.length = k) ∧ Hid (St d R ((Rd.trips (m4 - k) R F'.trips).bind (fun c => (Rd.end7 { F3 with trips := c.1 } c.2).bind fin)))) (fun i _ => m4 - (intOf i).toNat)
    case atStart => exact ⟨0, R13, F3, _, Nat.zero_le _, rfl, RS, Lib.hid rfl, Lib.hid (by rw [Z3.out]; rfl), Lib.hid (by rw [Z3.out]; exact ST.out)⟩
    case round =>
      clear RS ST
      obtain ⟨k, R, F', v, hk, rfl, RS, HFR, HLN, ST⟩ := hrel
      by_cases hlt : k < m4
      · have ST := Lib.hid (show St d R ((R.rd 4 0 4095 3).bind fun x => (x.2.rd 4 0 4095 3).bind fun y => y.2.word.bind fun z => (Rd.trips (m4 - (k + 1)) z.2 (F'.trips ++ [(x.1, y.1, z.1)])).bind (fun c => (Rd.end7 { F3 with trips := c.1 } c.2).bind fin)) by
          have h := ST.out
          rw [show m4 - k = (m4 - (k + 1)) + 1 by omega, trips_D] at h
          exact h)
        go_wp2_with fail
        refine (rfault_rd p R _ RS.out.rd).mono ?_
        rintro x wn0 ⟨rfl, hk0⟩
        have RS := Lib.hid (RS.out.kept0 hk0)
        clear hk0
        by_cases he : R.e = 0
        · have HE := Lib.hid he
          have hb : (R.e == 0) = true := by rw [he]; rfl
          clear he
          go_wp2_with fail
          refine (rnum4_any p R 0 4095 3 _ RS.out.rd).mono ?_
          rintro x wn ⟨rfl, hrd, hk⟩
          have RS := Lib.hid (RS.out.call hrd hk)
          have ST := Lib.hid (show St d (R.numR 4 0 4095 3).2 (((R.numR 4 0 4095 3).2.rd 4 0 4095 3).bind fun y => y.2.word.bind fun z => (Rd.trips (m4 - (k + 1)) z.2 (F'.trips ++ [((R.numR 4 0 4095 3).1, y.1, z.1)])).bind (fun c => (Rd.end7 { F3 with trips := c.1 } c.2).bind fin)) from St.numb (f := fun x => (x.2.rd 4 0 4095 3).bind fun y => y.2.word.bind fun z => (Rd.trips (m4 - (k + 1)) z.2 (F'.trips ++ [(x.1, y.1, z.1)])).bind (fun c => (Rd.end7 { F3 with trips := c.1 } c.2).bind fin)) ST.out (by decide))
          have Nx1 := Lib.hid (numR_range (R := R) (k := 4) (e := 3) (most := 4095) (by first | decide | omega))
          clear hrd hk hb
          generalize R.numR 4 0 4095 3 = q at RS ST Nx1 ⊢
          obtain ⟨x1, Ra⟩ := q
          simp only [] at RS ST Nx1 ⊢
          go_upto_region 37 with (fail)
          have RX := Lib.hid (RS.out.new 105 [.int .i64 x1, .int .i64 0, .int .i64 0] (by decide))
          clear RS Nx1
          obtain ⟨T, hT⟩ : ∃ T, T = wn.heap.size := ⟨_, rfl⟩
          rw [← hT] at RX ⊢
          generalize wn.alloc (.cells [Value.int .i64 x1, .int .i64 0, .int .i64 0].toArray 105) = wh at RX ⊢
          clear hT
          have B1 := Lib.hid (show (F'.trips.length + 1) * 24 ≤ 140737488355328 by rw [HLN.out]; omega)
          have B2 := Lib.hid (show F'.trips.length + 1 ≤ maxLen by rw [HLN.out]; unfold maxLen; omega)
          go_wp2_with fail
          refine (rnum4_any p Ra 0 4095 3 _ RX.out.rs.rd).mono ?_
          rintro x wn ⟨rfl, hrd, hk⟩
          have RX := Lib.hid (RX.out.call hrd hk)
          have ST := Lib.hid (show St d (Ra.numR 4 0 4095 3).2 ((Ra.numR 4 0 4095 3).2.word.bind fun z => (Rd.trips (m4 - (k + 1)) z.2 (F'.trips ++ [(x1, (Ra.numR 4 0 4095 3).1, z.1)])).bind (fun c => (Rd.end7 { F3 with trips := c.1 } c.2).bind fin)) from St.numb (f := fun x => x.2.word.bind fun z => (Rd.trips (m4 - (k + 1)) z.2 (F'.trips ++ [(x1, x.1, z.1)])).bind (fun c => (Rd.end7 { F3 with trips := c.1 } c.2).bind fin)) ST.out (by decide))
          have Ny1 := Lib.hid (numR_range (R := Ra) (k := 4) (e := 3) (most := 4095) (by first | decide | omega))
          clear hrd hk 
          generalize Ra.numR 4 0 4095 3 = q at RX ST Ny1 ⊢
          obtain ⟨y1, Rb⟩ := q
          simp only [] at RX ST Ny1 ⊢
          have t1 := RX.out.blk.cell 1
          have tf1 := RX.out.blk.frozen 1
          have tl := RX.out.blk.lt
          simp only [List.getElem?_cons_zero, List.getElem?_cons_succ] at t1
          go_upto_region 38 with (fail)
          have RX := Lib.hid (RX.out.set 1 (.int .i64 y1))
          simp only [List.set_cons_zero, List.set_cons_succ] at RX
          generalize wn.setCell ⟨T, 1, none⟩ (.int .i64 y1) = wh at RX ⊢
          clear t1 tf1 tl
          go_wp2_with fail
          refine (ri64_any p (Rb) _ RX.out.rs.rd).mono ?_
          rintro x wn ⟨rfl, hrd, hk⟩
          have RX := Lib.hid (RX.out.call hrd hk)
          have ST := Lib.hid (show St d ((Rb).after 8) ((Rd.trips (m4 - (k + 1)) ((Rb).after 8) (F'.trips ++ [(x1, y1, (wrap64 ((num ((Rb).got 8) : Nat) : Int)))])).bind (fun c => (Rd.end7 { F3 with trips := c.1 } c.2).bind fin)) from St.word (f := fun y => (Rd.trips (m4 - (k + 1)) y.2 (F'.trips ++ [(x1, y1, y.1)])).bind (fun c => (Rd.end7 { F3 with trips := c.1 } c.2).bind fin)) ST.out)
          clear hrd hk
          generalize wrap64 ((num ((Rb).got 8) : Nat) : Int) = z1 at ST ⊢
          generalize (Rb).after 8 = Rc at RX ST
          have t2 := RX.out.blk.cell 2
          have tf2 := RX.out.blk.frozen 2
          have tl := RX.out.blk.lt
          simp only [List.getElem?_cons_zero, List.getElem?_cons_succ] at t2
          go_upto_region 39 with (fail)
          have RX := Lib.hid (RX.out.set 2 (.int .i64 z1))
          simp only [List.set_cons_zero, List.set_cons_succ] at RX
          generalize wn.setCell ⟨T, 2, none⟩ (.int .i64 z1) = wh at RX ⊢
          clear t2 tf2 tl
          have t0 := RX.out.blk.cell 0
          have t1 := RX.out.blk.cell 1
          have t2 := RX.out.blk.cell 2
          have d8 := RX.out.rs.fr.cell 8
          have tl := RX.out.blk.lt
          have yg := RX.out.rs.fr.lt
          simp only [List.getElem?_cons_zero, List.getElem?_cons_succ] at t0 t1 t2 d8
          go_upto_region 35 with (first | (at_builtin; refine wpList_app _ rfl (.tmp 170) (.tmp 172) _ rfl 105 (.agg #[.int .i64 0, .int .i64 0, .int .i64 0]) 3 24 Try.underlying58 infoTriple rfl (by decide) B v _ _ rfl (RX.out.rs.o3.alloc _) (some ⟨_, 0, none⟩) 1 1 (tripV (x1, y1, z1)) rfl rfl (Reads.of_blk (Blk.new _ _ _) (fun _ _ h => h)) (by simp [tripV, Value.oneCell']) B1.out B2.out (Nat.le_trans RX.out.rs.hb (Nat.le_trans RX.out.rs.kept.size (by simp))) ?_; intro u w2 ho2 hk2 _; obtain ⟨A2, N2', c2, rfl⟩ := own_sl ho2; have hA := (KeptB.refl B [105] _).app hk2 (RX.out.rs.o3.alloc _) (by decide); have q6 := ((RX.out.rs.fr.alloc _).keptB hA (by decide)).cell 8; have q7 := ((RX.out.rs.fr.alloc _).keptB hA (by decide)).frozen 8; simp only [List.getElem?_cons_zero, List.getElem?_cons_succ] at q6; have K2 := Lib.hid hk2; have O2 := Lib.hid ho2; clear hk2 ho2 hA))
          clear t0 t1 t2 d8 tl yg q6 q7
          go_wp2_with fail
          go_roundw
          case rel =>
            exact ⟨k + 1, Rc, _, _, by omega, by go_num, Lib.hid (RsAt.app3 RX.out.rs ((Kept.refl [] _).alloc _) K2.out (x := (x1, y1, z1)) O2.out), Lib.hid (fr_trips HFR.out), Lib.hid (by simp [HLN.out]), ST⟩
          case measure => simp [intOf]; omega
        · have HE := Lib.hid he
          have hb : (R.e == 0) = false := by rw [beq_eq_false_iff_ne]; exact he
          clear he
          go_wp2_with fail
          go_meet
          exact ⟨R, F', v, trivial, RS, HFR, Lib.hid (ST.out.dead HE.out)⟩
      · have hkm : k = m4 := by omega
        have ST := Lib.hid (show St d R ((Rd.end7 F' R).bind fin) by
          have h := ST.out
          rw [hkm, Nat.sub_self] at h
          have h2 : St d R ((Rd.end7 { F3 with trips := F'.trips } R).bind fin) := h
          rw [← HFR.out] at h2
          exact h2)
        clear hkm
        go_wp2_with fail
        go_meet
        exact ⟨R, F', v, trivial, RS, HFR, ST⟩
  case rest =>
  clear RS ST
  obtain ⟨Rz, F4, vk, _, RS, HFR, ST⟩ := hcut
  clear HFR Z3 hm4
  by_cases he : Rz.e = 0
  case neg =>
    have HE := Lib.hid he
    have hb : (Rz.e == 0) = false := by rw [beq_eq_false_iff_ne]; exact he
    clear he
    go_wp2_with fail
    refine (rfault_rd p Rz _ RS.out.rd).mono ?_
    rintro x wn0 ⟨rfl, hk⟩
    have RS := Lib.hid (RS.out.kept0 hk)
    clear hk
    go_upto_region 42 with (fail)
    clear hb
    have HG := Lib.hid (HG.out.keptBlt RS.out.kept (by rw [HB.out]; exact Nat.lt_succ_of_lt (Nat.lt_succ_self _)))
    have HH := Lib.hid (HH.out.keptBlt RS.out.kept (by rw [HB.out]; exact Nat.lt_succ_self _))
    go_wp2_with fail
    refine (rfault_rd p (Rz) _ RS.out.rd).mono ?_
    rintro x wn1 ⟨rfl, hk⟩
    have RS := Lib.hid (RS.out.kept0 hk)
    have HG := Lib.hid (HG.out.kept hk (by simp))
    have HH := Lib.hid (HH.out.kept hk (by simp))
    clear hk
    have hb2 : ((Rz).e != 0) = true := by rw [bne_iff_ne]; exact HE.out
    go_wp2_with fail
    refine (rfault_rd p (Rz) _ RS.out.rd).mono ?_
    rintro x wn1 ⟨rfl, hk⟩
    have RS := Lib.hid (RS.out.kept0 hk)
    have HG := Lib.hid (HG.out.kept hk (by simp))
    have HH := Lib.hid (HH.out.kept hk (by simp))
    clear hk hb2
    go_wp2_with (first | (refine wpList_storeBlk rfl 60 (.tmp 2) (.tmp 192) rfl w.heap.size _ zeroC HG.out rfl rfl rfl infoFrame (by simp [Value.oneCell']) ?_; intro w6 hb6 hk6; have HH6 := Lib.hid (HH.out.kept hk6 (by simp))) | (refine wpList_storeBlk rfl 40 (.tmp 3) (.tmp 194) rfl (w.heap.size + 1) _ [.int .i64 (Rz).e, .int .i64 (Rz).fat] HH6.out rfl rfl rfl infoFault (by simp [Value.oneCell']) ?_; intro w7 hb7 hk7))
    have hb6 := hb6.kept hk7 (by simp)
    have g0 := hb6.cell 0
    have g1 := hb6.cell 1
    have g2 := hb6.cell 2
    have g3 := hb6.cell 3
    have g4 := hb6.cell 4
    have g5 := hb6.cell 5
    have g6 := hb6.cell 6
    have g7 := hb6.cell 7
    have g8 := hb6.cell 8
    have g9 := hb6.cell 9
    have g10 := hb6.cell 10
    have z0 := hb7.cell 0
    have z1 := hb7.cell 1
    simp only [List.getElem?_cons_zero, List.getElem?_cons_succ] at g0 g1 g2 g3 g4 g5 g6 g7 g8 g9 g10 z0 z1
    refine bodyPost_ret (v := .tuple #[.agg zeroC.toArray, .agg #[.int .i64 (Rz).e, .int .i64 (Rz).fat]]) (by simp [results, Try.results41, go_sem, g0, g1, g2, g3, g4, g5, g6, g7, g8, g9, g10, z0, z1]) rfl ?_
    rw [show d = .error ((Rz).e, (Rz).fat) from (by have h := ST.out; unfold St at h; rw [if_pos HE.out] at h; exact h)]
    have hk0 := K1.out.thenB RS.out.kept (by rw [HB.out]; omega)
    exact ⟨rfl, (hk0.then hk6 (by simp)).then hk7 (by simp)⟩
  have HE := Lib.hid he
  have hb : (Rz.e == 0) = true := by rw [he]; rfl
  have DD := Lib.hid (show d = (Rd.end7 F4 Rz).bind fin from ST.out.live he)
  clear he ST
  go_wp2_with fail
  refine (rfault_rd p Rz _ RS.out.rd).mono ?_
  rintro x wn0 ⟨rfl, hk⟩
  have RS := Lib.hid (RS.out.kept0 hk)
  clear hk
  go_wp2_with fail
  refine (rend_rd p Rz _ RS.out.rd).mono ?_
  rintro x wn0 ⟨rfl, kk, rfl⟩
  have RS := Lib.hid (RS.out.kept0 ((Kept.refl [] _).drewN kk))
  cases hat : Rz.atEnd
  case false =>
    have ST := Lib.hid (show St d (Rz.fail 4 Rz.pos) (.error (0, 0)) from (by
      obtain ⟨p1, p2⟩ := fail_live (R := Rz) (e := 4) (a := Rz.pos) HE.out (by decide)
      refine St.mk (fun h => absurd (p1.symm.trans h) (by decide)) (fun _ => ?_)
      rw [p1, p2, DD.out]
      unfold Rd.end7
      rw [hat]
      rfl))
    have HE := Lib.hid (show (Rz.fail 4 Rz.pos).e ≠ 0 by rw [(fail_live (R := Rz) (e := 4) (a := Rz.pos) HE.out (by decide)).1]; decide)
    clear hat
    go_wp2_with fail
    refine (rat_rd p Rz _ RS.out.rd).mono ?_
    rintro x wn1 ⟨rfl, rfl⟩
    go_wp2_with fail
    refine (rfail_any p Rz 4 Rz.pos _ RS.out.rd).mono ?_
    rintro x wn1 ⟨rfl, hrd, hk⟩
    have RS := Lib.hid (RS.out.call hrd hk)
    clear hrd hk hb
    have HG := Lib.hid (HG.out.keptBlt RS.out.kept (by rw [HB.out]; exact Nat.lt_succ_of_lt (Nat.lt_succ_self _)))
    have HH := Lib.hid (HH.out.keptBlt RS.out.kept (by rw [HB.out]; exact Nat.lt_succ_self _))
    go_wp2_with fail
    refine (rfault_rd p (Rz.fail 4 Rz.pos) _ RS.out.rd).mono ?_
    rintro x wn1 ⟨rfl, hk⟩
    have RS := Lib.hid (RS.out.kept0 hk)
    have HG := Lib.hid (HG.out.kept hk (by simp))
    have HH := Lib.hid (HH.out.kept hk (by simp))
    clear hk
    have hb2 : ((Rz.fail 4 Rz.pos).e != 0) = true := by rw [bne_iff_ne]; exact HE.out
    go_wp2_with fail
    refine (rfault_rd p (Rz.fail 4 Rz.pos) _ RS.out.rd).mono ?_
    rintro x wn1 ⟨rfl, hk⟩
    have RS := Lib.hid (RS.out.kept0 hk)
    have HG := Lib.hid (HG.out.kept hk (by simp))
    have HH := Lib.hid (HH.out.kept hk (by simp))
    clear hk hb2
    go_wp2_with (first | (refine wpList_storeBlk rfl 60 (.tmp 2) (.tmp 192) rfl w.heap.size _ zeroC HG.out rfl rfl rfl infoFrame (by simp [Value.oneCell']) ?_; intro w6 hb6 hk6; have HH6 := Lib.hid (HH.out.kept hk6 (by simp))) | (refine wpList_storeBlk rfl 40 (.tmp 3) (.tmp 194) rfl (w.heap.size + 1) _ [.int .i64 (Rz.fail 4 Rz.pos).e, .int .i64 (Rz.fail 4 Rz.pos).fat] HH6.out rfl rfl rfl infoFault (by simp [Value.oneCell']) ?_; intro w7 hb7 hk7))
    have hb6 := hb6.kept hk7 (by simp)
    have g0 := hb6.cell 0
    have g1 := hb6.cell 1
    have g2 := hb6.cell 2
    have g3 := hb6.cell 3
    have g4 := hb6.cell 4
    have g5 := hb6.cell 5
    have g6 := hb6.cell 6
    have g7 := hb6.cell 7
    have g8 := hb6.cell 8
    have g9 := hb6.cell 9
    have g10 := hb6.cell 10
    have z0 := hb7.cell 0
    have z1 := hb7.cell 1
    simp only [List.getElem?_cons_zero, List.getElem?_cons_succ] at g0 g1 g2 g3 g4 g5 g6 g7 g8 g9 g10 z0 z1
    refine bodyPost_ret (v := .tuple #[.agg zeroC.toArray, .agg #[.int .i64 (Rz.fail 4 Rz.pos).e, .int .i64 (Rz.fail 4 Rz.pos).fat]]) (by simp [results, Try.results41, go_sem, g0, g1, g2, g3, g4, g5, g6, g7, g8, g9, g10, z0, z1]) rfl ?_
    rw [show d = .error ((Rz.fail 4 Rz.pos).e, (Rz.fail 4 Rz.pos).fat) from (by have h := ST.out; unfold St at h; rw [if_pos HE.out] at h; exact h)]
    have hk0 := K1.out.thenB RS.out.kept (by rw [HB.out]; omega)
    exact ⟨rfl, (hk0.then hk6 (by simp)).then hk7 (by simp)⟩
  have DD := Lib.hid (show d = .ok F4 from DD.out.trans (by unfold Rd.end7; rw [hat]; rfl))
  clear hat
  go_wp2_with fail
  refine (rfault_rd p Rz _ RS.out.rd).mono ?_
  rintro x wn1 ⟨rfl, hk⟩
  have RS := Lib.hid (RS.out.kept0 hk)
  clear hk hb
  have hb2 : (Rz.e != 0) = false := by rw [HE.out]; rfl
  have HG := Lib.hid (HG.out.keptBlt RS.out.kept (by rw [HB.out]; exact Nat.lt_succ_of_lt (Nat.lt_succ_self _)))
  have HH := Lib.hid (HH.out.keptBlt RS.out.kept (by rw [HB.out]; exact Nat.lt_succ_self _))
  obtain ⟨B1, N1', C1', rfl⟩ := own_sl RS.out.o1
  obtain ⟨B2, N2', C2', rfl⟩ := own_sl RS.out.o2
  obtain ⟨B3, N3', C3', rfl⟩ := own_sl RS.out.o3
  have HF := Lib.hid RS.out.fr
  go_wp2_with (first | (refine wpList_loadBlk rfl 60 (.tmp 5) rfl g (lsC F4 (.slice B1 N1' C1') (.slice B2 N2' C2') (.slice B3 N3' C3')) _ HF.out rfl Try.underlying60 rfl infoFrame ?_) | (refine wpList_storeBlk rfl 60 (.tmp 2) (.tmp 195) rfl w.heap.size _ (lsC F4 (.slice B1 N1' C1') (.slice B2 N2' C2') (.slice B3 N3' C3')) HG.out rfl rfl rfl infoFrame (by simp [Value.oneCell']) ?_; intro w6 hb6 hk6; have HH6 := Lib.hid (HH.out.kept hk6 (by simp))) | (refine wpList_storeBlk rfl 40 (.tmp 3) (.tmp 196) rfl (w.heap.size + 1) _ [.int .i64 0, .int .i64 0] HH6.out rfl rfl rfl infoFault (by simp [Value.oneCell']) ?_; intro w7 hb7 hk7))
  have hb6 := hb6.kept hk7 (by simp)
  have g0 := hb6.cell 0
  have g1 := hb6.cell 1
  have g2 := hb6.cell 2
  have g3 := hb6.cell 3
  have g4 := hb6.cell 4
  have g5 := hb6.cell 5
  have g6 := hb6.cell 6
  have g7 := hb6.cell 7
  have g8 := hb6.cell 8
  have g9 := hb6.cell 9
  have g10 := hb6.cell 10
  have z0 := hb7.cell 0
  have z1 := hb7.cell 1
  simp only [List.getElem?_cons_zero, List.getElem?_cons_succ] at g0 g1 g2 g3 g4 g5 g6 g7 g8 g9 g10 z0 z1
  refine bodyPost_ret (v := .tuple #[.agg (lsC F4 (.slice B1 N1' C1') (.slice B2 N2' C2') (.slice B3 N3' C3')).toArray, .agg #[.int .i64 0, .int .i64 0]]) (by simp [results, Try.results41, go_sem, g0, g1, g2, g3, g4, g5, g6, g7, g8, g9, g10, z0, z1]) rfl ?_
  rw [DD.out]
  have f6 : KeptB w.heap.size [60, 40] wn1 w7 := by
    refine ((KeptB.refl _ _ wn1).step (L := [w.heap.size]) hk6 (fun m hm => ?_)).step (L := [w.heap.size + 1]) hk7 (fun m hm => ?_)
    · simp at hm; subst hm; exact ⟨Nat.le_refl _, _, _, _, HG.out, by simp⟩
    · simp at hm; subst hm; exact ⟨Nat.le_succ _, _, _, _, HH6.out, by simp⟩
  have hbw : w.heap.size ≤ B := by rw [HB.out]; omega
  have hk0 := K1.out.thenB RS.out.kept (by rw [HB.out]; omega)
  exact ⟨⟨_, _, _, rfl, own_base (own_keptB RS.out.o1 f6 (by decide)) hbw, own_base (own_keptB RS.out.o2 f6 (by decide)) hbw, own_base (own_keptB RS.out.o3 f6 (by decide)) hbw⟩, hk0.thenB f6 (Nat.le_refl _)⟩
end Go.Proofs.Ytdjidnccockmmaa
