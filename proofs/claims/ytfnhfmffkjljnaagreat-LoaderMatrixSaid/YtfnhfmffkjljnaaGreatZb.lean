/- Loader: the walk of the document's Encode. -/
import Derived.Test.YtfnhfmffkjljnaaGreatZa
namespace Go.Proofs.YtfnhfmffkjljnaaGreat
set_option linter.unusedSimpArgs false
set_option linter.unusedVariables false
open Go.ChangeShapes Go.WideShapes Go.ChangeAt Go.RowKit
open Go.RowKit (wrap32 wrap64)
set_option maxHeartbeats 8000000

theorem any_take {α : Type} (p : α → Bool) {l : List α} {k : Nat} (hk : k < l.length) : (l.take (k + 1)).any p = ((l.take k).any p || p l[k]) := by
  rw [List.take_succ_eq_append_getElem hk, List.any_append]
  simp
theorem rencode_bad (n : Int) (l : List Ed) (A : Option Addr) (c : Nat) (w : World) (hA : Reads w A (l.flatMap edV)) (hl : l.length ≤ maxLen) (h : encW n l ≠ 0) :
    Calls Tryz.prog 10 #[.agg #[.int .i64 n, .slice A l.length c]] w fun x w' => x = .returned (.tuple #[.slice none 0 0, .int .i64 (encW n l)]) ∧ Kept [] w w' := by
  have HX := Lib.hid (Blk.new w 24 (grV n A l.length c))
  have K0 := Lib.hid ((Kept.refl [] w).alloc (.cells (grV n A l.length c).toArray 24))
  have HA := Lib.hid hA
  clear hA
  by_cases h1 : rightP n l = 0
  · have hr : risesE l = false := by
      unfold encW at h
      rw [if_neg (by simpa using h1)] at h
      cases hz : risesE l
      · rfl
      · rw [hz] at h; simp at h
    have E0 := Lib.hid (show encW n l = 6 by unfold encW; rw [if_neg (by simpa using h1), if_pos hr])
    have E1 := Lib.hid h1
    have E2 := Lib.hid hr
    clear h1 hr h
    go_enter Tryz.func10, Tryz.ntmps10
    go_wp2_with fail
    refine (refRight_any n l A c _ hl (HA.out.kept0 K0.out)).mono ?_
    rintro x w1 ⟨rfl, hk⟩
    rw [E1.out]
    replace K0 := Lib.hid (K0.out.trans hk)
    replace HX := Lib.hid (HX.out.kept hk (by simp))
    clear hk
    generalize hg : w.heap.size = g at HX ⊢
    clear hg
    have x1 := HX.out.cell 1
    simp only [List.getElem?_cons_zero, List.getElem?_cons_succ] at x1
    go_wp2_with fail
    refine (refRises_any l A c _ hl (HA.out.kept0 K0.out)).mono ?_
    rintro x w2 ⟨rfl, hk⟩
    rw [E2.out]
    replace K0 := Lib.hid (K0.out.trans hk)
    clear hk x1
    go_wp2_with fail
    refine bodyPost_ret (v := .tuple #[.slice none 0 0, .int .i64 6]) (by simp [results, Tryz.results10, go_sem]) rfl ?_
    rw [E0.out]
    exact ⟨rfl, K0.out⟩
  · have E0 := Lib.hid (show encW n l = rightP n l by unfold encW; rw [if_pos (by simpa using h1)])
    obtain ⟨e, he⟩ : ∃ e, e = rightP n l := ⟨_, rfl⟩
    rw [← he] at h1
    have E1 := Lib.hid he
    clear he h
    go_enter Tryz.func10, Tryz.ntmps10
    go_wp2_with fail
    refine (refRight_any n l A c _ hl (HA.out.kept0 K0.out)).mono ?_
    rintro x w1 ⟨rfl, hk⟩
    rw [← E1.out]
    replace K0 := Lib.hid (K0.out.trans hk)
    clear hk
    go_wp2_with fail
    refine bodyPost_ret (v := .tuple #[.slice none 0 0, .int .i64 e]) (by simp [results, Tryz.results10, go_sem]) rfl ?_
    rw [E0.out, ← E1.out]
    exact ⟨rfl, K0.out⟩
set_option maxRecDepth 100000 in
theorem rencode_ok0 (n : Int) (l : List Ed) (A : Option Addr) (c : Nat) (w : World) (hA : Reads w A (l.flatMap edV)) (h : encW n l = 0) (hz : l.any neOne = false) :
    Calls Tryz.prog 10 #[.agg #[.int .i64 n, .slice A l.length c]] w fun x w' => ∃ v, x = .returned (.tuple #[v, .int .i64 0]) ∧ OwnB w' w.heap.size v (rawB (0, n, l)) ∧ Kept [] w w' := by
  have h1 := (encW_zero h).1
  have h2 := (encW_zero h).2
  obtain ⟨hn, hl, _, _⟩ := right_zero h1
  have HL := Lib.hid hl
  have hl' : l.length ≤ maxLen := by unfold maxLen; omega
  have HX := Lib.hid (Blk.new w 24 (grV n A l.length c))
  have K0 := Lib.hid ((Kept.refl [] w).alloc (.cells (grV n A l.length c).toArray 24))
  have HA := Lib.hid hA
  have E1 := Lib.hid h1
  have E2 := Lib.hid h2
  have EZ := Lib.hid hz
  clear hA h1 h2 hz h hn
  go_enter Tryz.func10, Tryz.ntmps10
  go_wp2_with fail
  refine (refRight_any n l A c _ hl' (HA.out.kept0 K0.out)).mono ?_
  rintro x w1 ⟨rfl, hk⟩
  rw [E1.out]
  replace K0 := Lib.hid (K0.out.trans hk)
  replace HX := Lib.hid (HX.out.kept hk (by simp))
  clear hk
  obtain ⟨g, hg⟩ : ∃ g, g = w.heap.size := ⟨_, rfl⟩
  rw [← hg] at HX ⊢
  clear hg
  have x0 := HX.out.cell 0
  have x1 := HX.out.cell 1
  have xl := HX.out.lt
  simp only [List.getElem?_cons_zero, List.getElem?_cons_succ] at x0 x1
  go_wp2_with fail
  refine (refRises_any l A c _ hl' (HA.out.kept0 K0.out)).mono ?_
  rintro x w2 ⟨rfl, hk⟩
  rw [E2.out]
  replace K0 := Lib.hid (K0.out.trans hk)
  replace HX := Lib.hid (HX.out.kept hk (by simp))
  clear hk x0 x1 xl
  go_wp2_with fail
  go_loopw [5, 6] (fun v5 v6 wr => ∃ k : Nat, k ≤ l.length ∧ v6 = .int .i64 k ∧ v5 = .int .u8 (if (l.take k).any neOne = true then 1 else 0) ∧ wr = w2) (fun _ i _ => l.length - (intOf i).toNat)
  case atStart => exact ⟨0, Nat.zero_le _, rfl, rfl, rfl⟩
  case round =>
    obtain ⟨k, hk, rfl, rfl, hww⟩ := hrel
    subst hww
    have x0 := HX.out.cell 0
    have x1 := HX.out.cell 1
    have xl := HX.out.lt
    simp only [List.getElem?_cons_zero, List.getElem?_cons_succ] at x0 x1
    by_cases hlt : k < l.length
    · obtain ⟨b, off, rfl, hbl, e0, e1, e2⟩ := edge_at (HA.out.kept0 K0.out) hlt
      have HT := Lib.hid (any_take neOne hlt)
      by_cases hd : l[k].2.2 = 1
      · have hd' : (l[k].2.2 != 1) = false := by rw [hd]; rfl
        have HD := Lib.hid (show neOne l[k] = false by simp [neOne, hd])
        clear hd
        go_wp2_with fail
        go_roundw
        case rel => exact ⟨k + 1, by omega, by go_num, by rw [HT.out, HD.out, Bool.or_false], by trivial⟩
        case measure => simp [intOf]; omega
      · have hd' : (l[k].2.2 != 1) = true := by rw [bne_iff_ne]; exact hd
        have HD := Lib.hid (show neOne l[k] = true by simp [neOne, hd])
        clear hd
        go_wp2_with fail
        go_roundw
        case rel => exact ⟨k + 1, by omega, by go_num, by rw [HT.out, HD.out, Bool.or_true]; rfl, by trivial⟩
        case measure => simp [intOf]; omega
    have hkl : k = l.length := by omega
    subst hkl
    rw [List.take_length, EZ.out]
    simp only [if_true, if_false, Bool.false_eq_true]
    go_upto_region 12 with (fail)
    clear hlt x0 x1 xl hl
    have CV : (convert 26 26 (.slice (some ⟨wr.heap.size, 0, none⟩) 4 4)).run Tryz.prog (wr.alloc (.cells #[.int .u8 70, .int .u8 82, .int .u8 84, .int .u8 49] 5)) = .ok (.slice (some ⟨wr.heap.size, 0, none⟩) 4 4) (wr.alloc (.cells #[.int .u8 70, .int .u8 82, .int .u8 84, .int .u8 49] 5 (4, 5))) := Lib.run_convert_bytes_const wr 26 5 #[.int .u8 70, .int .u8 82, .int .u8 84, .int .u8 49] 4 4 Tryz.underlying26 Tryz.underlying5
    have kA : Kept [] wr ((wr.alloc (.cells #[.int .u8 70, .int .u8 82, .int .u8 84, .int .u8 49] 5 (4, 5))).alloc (.cells #[.int .u8 0] 5)) := ((Kept.refl [] wr).alloc _).alloc _
    have HB4 := Lib.hid (show Reads _ _ (frt1.map byteV) by rw [frt1_V]; exact (reads_marked wr [.int .u8 70, .int .u8 82, .int .u8 84, .int .u8 49] 5 4 5).kept0 ((Kept.refl [] _).alloc (.cells #[.int .u8 0] 5)))
    have HB1 := Lib.hid (show Reads _ (some ⟨wr.heap.size + 1, 0, none⟩) ([b8 0].map byteV) by rw [b8_V0]; exact Reads.of_blk (Blk.new1F wr (.cells #[.int .u8 70, .int .u8 82, .int .u8 84, .int .u8 49] 5 (4, 5)) 5 [.int .u8 0]) (fun _ _ h => h))
    replace K0 := Lib.hid (K0.out.trans kA)
    replace HX := Lib.hid (HX.out.kept kA (by simp))
    have HNN := Lib.hid (show [b8 0].map byteV ≠ [] by simp)
    clear kA
    go_upto_region 14 with (first | (at_builtin; refine wpList_appG rfl (.tmp 34) (.tmp 36) _ rfl 5 (.int .u8 0) 1 1 Tryz.underlying26 infoU8 rfl (by decide) w.heap.size wr.heap.size 0 4 4 (frt1.map byteV) rfl rfl HB4.out (some ⟨wr.heap.size + 1, 0, none⟩) 1 1 ([b8 0].map byteV) rfl rfl HB1.out HNN.out (by omega) (by omega) (by unfold maxLen; omega) K0.out.size ?_; intro va wp howna hka; have HO := Lib.hid (OwnB.app (l := frt1) (m := [b8 0]) howna rfl); have Kp := Lib.hid (K0.out.trans hka); have HXp := Lib.hid (HX.out.kept hka (by simp)); obtain ⟨A7, N7, c7, rfl⟩ := own_slice HO.out; clear howna hka))
    replace K0 := Kp
    replace HX := HXp
    clear Kp HXp HB4 HB1 HNN CV
    have x0 := HX.out.cell 0
    have x1 := HX.out.cell 1
    have xl := HX.out.lt
    simp only [List.getElem?_cons_zero, List.getElem?_cons_succ] at x0 x1
    go_wp2_with fail
    rw [show n % 4294967296 = ((u32of n : Nat) : Int) by unfold u32of; omega]
    refine (rput32_any (u32of n) _ (u32of_lt _)).mono ?_
    rintro z wqa ⟨v, rfl, ho, hk⟩
    obtain ⟨Aqs, cqs, rfl⟩ := own_n ho
    have HS := Lib.hid (Reads.of_own ho)
    replace HX := Lib.hid (HX.out.kept hk (by simp))
    replace HO := Lib.hid (HO.out.kept0 hk)
    replace K0 := Lib.hid (K0.out.trans hk)
    have B1 := Lib.hid (show ((frt1 ++ [b8 0]).length + 4) * 1 ≤ 140737488355328 by have := (show (frt1 ++ [b8 0]).length = 5 from rfl); omega)
    have B2 := Lib.hid (show (frt1 ++ [b8 0]).length + 4 ≤ maxLen by have := (show (frt1 ++ [b8 0]).length = 5 from rfl); unfold maxLen; omega)
    have HXN := Lib.hid (own_ne_blk HO.out HX.out (by decide))
    clear hk ho x0 x1 xl
    go_upto_region 15 with (first | (at_builtin; refine wpList_app _ rfl (.tmp 38) (.tmp 42) _ rfl 5 (.int .u8 0) 1 1 Tryz.underlying26 infoU8 rfl (by decide) w.heap.size (.slice A7 N7 c7) _ _ rfl HO.out Aqs 4 cqs ((le (u32of n) 4).map byteV) rfl (by simp [le_length]) HS.out (bytes_ones _) B1.out B2.out K0.out.size ?_; intro va wq howna hka hba; have HOn := Lib.hid (OwnB.app howna (by rw [le_length])); have Kn := Lib.hid (K0.out.app hka HO.out); have HXn := Lib.hid (HX.out.kept hka (by have := HXN.out; cases hvv : (Value.slice A7 N7 c7).ownBlock with | none => simp | some q => (rw [hvv] at this; simpa [eq_comm] using this))); obtain ⟨Aq, Nq, cq, rfl⟩ := own_slice HOn.out; clear howna hka hba))
    replace HO := HOn
    replace K0 := Kn
    replace HX := HXn
    clear HOn Kn HXn HS B1 B2 HXN
    have x0 := HX.out.cell 0
    have x1 := HX.out.cell 1
    have xl := HX.out.lt
    simp only [List.getElem?_cons_zero, List.getElem?_cons_succ] at x0 x1
    go_wp2_with fail
    rw [show (l.length : Int) % 4294967296 = ((u32of (l.length : Int) : Nat) : Int) by unfold u32of; omega]
    refine (rput32_any (u32of (l.length : Int)) _ (u32of_lt _)).mono ?_
    rintro z wra ⟨v, rfl, ho, hk⟩
    obtain ⟨Ars, crs, rfl⟩ := own_n ho
    have HS := Lib.hid (Reads.of_own ho)
    replace HX := Lib.hid (HX.out.kept hk (by simp))
    replace HO := Lib.hid (HO.out.kept0 hk)
    replace K0 := Lib.hid (K0.out.trans hk)
    have B1 := Lib.hid (show ((frt1 ++ [b8 0] ++ le (u32of n) 4).length + 4) * 1 ≤ 140737488355328 by have := (show (frt1 ++ [b8 0] ++ le (u32of n) 4).length = 9 by rw [List.length_append, le_length]; rfl); omega)
    have B2 := Lib.hid (show (frt1 ++ [b8 0] ++ le (u32of n) 4).length + 4 ≤ maxLen by have := (show (frt1 ++ [b8 0] ++ le (u32of n) 4).length = 9 by rw [List.length_append, le_length]; rfl); unfold maxLen; omega)
    have HXN := Lib.hid (own_ne_blk HO.out HX.out (by decide))
    clear hk ho x0 x1 xl
    go_upto_region 16 with (first | (at_builtin; refine wpList_app _ rfl (.tmp 44) (.tmp 49) _ rfl 5 (.int .u8 0) 1 1 Tryz.underlying26 infoU8 rfl (by decide) w.heap.size (.slice Aq Nq cq) _ _ rfl HO.out Ars 4 crs ((le (u32of (l.length : Int)) 4).map byteV) rfl (by simp [le_length]) HS.out (bytes_ones _) B1.out B2.out K0.out.size ?_; intro va wr howna hka hba; have HOn := Lib.hid (OwnB.app howna (by rw [le_length])); have Kn := Lib.hid (K0.out.app hka HO.out); have HXn := Lib.hid (HX.out.kept hka (by have := HXN.out; cases hvv : (Value.slice Aq Nq cq).ownBlock with | none => simp | some q => (rw [hvv] at this; simpa [eq_comm] using this))); obtain ⟨Ar, Nr, cr, rfl⟩ := own_slice HOn.out; clear howna hka hba))
    replace HO := HOn
    replace K0 := Kn
    replace HX := HXn
    clear HOn Kn HXn HS B1 B2 HXN
    replace HO := Lib.hid (show OwnB wr w.heap.size (.slice Ar Nr cr) (hdrB 0 n l.length) from by have h := HO.out; unfold hdrB; rw [fours2]; simpa [fours, List.append_assoc] using h)
    go_wp2_with fail
    go_loopw [7, 8] (fun v i wx => ∃ k : Nat, k ≤ l.length ∧ i = .int .i64 k ∧ Hid (OwnB wx w.heap.size v (hdrB 0 n l.length ++ (l.take k).flatMap (edgeB 0))) ∧ Hid (Blk wx g 24 (grV n A l.length c)) ∧ Hid (Kept [] w wx)) (fun _ i _ => l.length - (intOf i).toNat)
    case atStart => exact ⟨0, Nat.zero_le _, rfl, Lib.hid (by simpa using HO.out), HX, K0⟩
    case round =>
      clear HO K0 HX
      obtain ⟨k, hk, rfl, HO, HX, K0⟩ := hrel
      obtain ⟨v, hv⟩ : ∃ v, v = u7 := ⟨_, rfl⟩
      subst hv
      have hL65 := HL.out
      by_cases hlt : k < l.length
      · obtain ⟨A3, N3, c3, rfl⟩ := own_slice HO.out
        have HCL := Lib.hid (cat_len 0 n l.length l k hk HL.out)
        have HST := Lib.hid (flatB_take (edgeB 0) hlt)
        generalize hcur : hdrB 0 n l.length ++ (l.take k).flatMap (edgeB 0) = cur at HO HCL
        have HCU := Lib.hid hcur
        clear hcur
        have x0 := HX.out.cell 0
        have x1 := HX.out.cell 1
        have xl := HX.out.lt
        simp only [List.getElem?_cons_zero, List.getElem?_cons_succ] at x0 x1
        obtain ⟨b, off, hbo, hbl, e0, e1, e2⟩ := edge_at (HA.out.kept0 K0.out) hlt
        obtain rfl := hbo
        go_wp2_with fail
        rw [show l[k].1 % 4294967296 = ((u32of l[k].1 : Nat) : Int) by unfold u32of; omega]
        refine (rput32_any (u32of l[k].1) _ (u32of_lt _)).mono ?_
        rintro z wsa ⟨v, rfl, ho, hk_⟩
        obtain ⟨Ass, css, rfl⟩ := own_n ho
        have HS := Lib.hid (Reads.of_own ho)
        replace HX := Lib.hid (HX.out.kept hk_ (by simp))
        replace HO := Lib.hid (HO.out.kept0 hk_)
        replace K0 := Lib.hid (K0.out.trans hk_)
        have B1 := Lib.hid (show (cur.length + 4) * 1 ≤ 140737488355328 by have := HCL.out; omega)
        have B2 := Lib.hid (show cur.length + 4 ≤ maxLen by have := HCL.out; unfold maxLen; omega)
        have HXN := Lib.hid (own_ne_blk HO.out HX.out (by decide))
        clear hk_ ho x0 x1 xl e0 e1 e2 hbl
        go_upto_region 20 with (first | (at_builtin; refine wpList_app _ rfl (.tmp 58) (.tmp 66) _ rfl 5 (.int .u8 0) 1 1 Tryz.underlying26 infoU8 rfl (by decide) w.heap.size (.slice A3 N3 c3) _ _ rfl HO.out Ass 4 css ((le (u32of l[k].1) 4).map byteV) rfl (by simp [le_length]) HS.out (bytes_ones _) B1.out B2.out K0.out.size ?_; intro va ws howna hka hba; have HOn := Lib.hid (OwnB.app howna (by rw [le_length])); have Kn := Lib.hid (K0.out.app hka HO.out); have HXn := Lib.hid (HX.out.kept hka (by have := HXN.out; cases hvv : (Value.slice A3 N3 c3).ownBlock with | none => simp | some q => (rw [hvv] at this; simpa [eq_comm] using this))); obtain ⟨As, Ns, cs, rfl⟩ := own_slice HOn.out; clear howna hka hba))
        replace HO := HOn
        replace K0 := Kn
        replace HX := HXn
        clear HOn Kn HXn HS B1 B2 HXN
        have x0 := HX.out.cell 0
        have x1 := HX.out.cell 1
        have xl := HX.out.lt
        simp only [List.getElem?_cons_zero, List.getElem?_cons_succ] at x0 x1
        obtain ⟨b, off, hbo, hbl, e0, e1, e2⟩ := edge_at (HA.out.kept0 K0.out) hlt
        cases hbo
        go_wp2_with fail
        rw [show l[k].2.1 % 4294967296 = ((u32of l[k].2.1 : Nat) : Int) by unfold u32of; omega]
        refine (rput32_any (u32of l[k].2.1) _ (u32of_lt _)).mono ?_
        rintro z wta ⟨v, rfl, ho, hk_⟩
        obtain ⟨Ats, cts, rfl⟩ := own_n ho
        have HS := Lib.hid (Reads.of_own ho)
        replace HX := Lib.hid (HX.out.kept hk_ (by simp))
        replace HO := Lib.hid (HO.out.kept0 hk_)
        replace K0 := Lib.hid (K0.out.trans hk_)
        have B1 := Lib.hid (show ((cur ++ le (u32of l[k].1) 4).length + 4) * 1 ≤ 140737488355328 by have := (show (cur ++ le (u32of l[k].1) 4).length ≤ 1000004 by rw [List.length_append, le_length]; have := HCL.out; omega); omega)
        have B2 := Lib.hid (show (cur ++ le (u32of l[k].1) 4).length + 4 ≤ maxLen by have := (show (cur ++ le (u32of l[k].1) 4).length ≤ 1000004 by rw [List.length_append, le_length]; have := HCL.out; omega); unfold maxLen; omega)
        have HXN := Lib.hid (own_ne_blk HO.out HX.out (by decide))
        clear hk_ ho x0 x1 xl e0 e1 e2 hbl
        go_upto_region 21 with (first | (at_builtin; refine wpList_app _ rfl (.tmp 68) (.tmp 76) _ rfl 5 (.int .u8 0) 1 1 Tryz.underlying26 infoU8 rfl (by decide) w.heap.size (.slice As Ns cs) _ _ rfl HO.out Ats 4 cts ((le (u32of l[k].2.1) 4).map byteV) rfl (by simp [le_length]) HS.out (bytes_ones _) B1.out B2.out K0.out.size ?_; intro va wt howna hka hba; have HOn := Lib.hid (OwnB.app howna (by rw [le_length])); have Kn := Lib.hid (K0.out.app hka HO.out); have HXn := Lib.hid (HX.out.kept hka (by have := HXN.out; cases hvv : (Value.slice As Ns cs).ownBlock with | none => simp | some q => (rw [hvv] at this; simpa [eq_comm] using this))); obtain ⟨At, Nt, ct, rfl⟩ := own_slice HOn.out; clear howna hka hba))
        replace HO := HOn
        replace K0 := Kn
        replace HX := HXn
        clear HOn Kn HXn HS B1 B2 HXN
        have x0 := HX.out.cell 0
        have x1 := HX.out.cell 1
        have xl := HX.out.lt
        simp only [List.getElem?_cons_zero, List.getElem?_cons_succ] at x0 x1
        go_wp2_with fail
        clear x0 x1 xl
        go_roundw
        case rel => exact ⟨k + 1, by omega, by go_num, Lib.hid (by have h := HO.out; rw [← HCU.out] at h; rw [HST.out, edgeB, if_neg (by decide), fours2]; simpa [fours, List.append_assoc] using h), HX, K0⟩
        case measure => simp [intOf]; omega
      · have hkl : k = l.length := by omega
        subst hkl
        rw [List.take_length] at HO
        have x0 := HX.out.cell 0
        have x1 := HX.out.cell 1
        have xl := HX.out.lt
        simp only [List.getElem?_cons_zero, List.getElem?_cons_succ] at x0 x1
        go_wp2_with fail
        refine bodyPost_ret (v := .tuple #[v, .int .i64 0]) (by simp [results, Tryz.results10, go_sem]) rfl ?_
        exact ⟨_, rfl, by rw [rawB_hdr]; exact HO.out, K0.out⟩
set_option maxRecDepth 100000 in
theorem rencode_ok1 (n : Int) (l : List Ed) (A : Option Addr) (c : Nat) (w : World) (hA : Reads w A (l.flatMap edV)) (h : encW n l = 0) (hz : l.any neOne = true) :
    Calls Tryz.prog 10 #[.agg #[.int .i64 n, .slice A l.length c]] w fun x w' => ∃ v, x = .returned (.tuple #[v, .int .i64 0]) ∧ OwnB w' w.heap.size v (rawB (1, n, l)) ∧ Kept [] w w' := by
  have h1 := (encW_zero h).1
  have h2 := (encW_zero h).2
  obtain ⟨hn, hl, _, _⟩ := right_zero h1
  have HL := Lib.hid hl
  have hl' : l.length ≤ maxLen := by unfold maxLen; omega
  have HX := Lib.hid (Blk.new w 24 (grV n A l.length c))
  have K0 := Lib.hid ((Kept.refl [] w).alloc (.cells (grV n A l.length c).toArray 24))
  have HA := Lib.hid hA
  have E1 := Lib.hid h1
  have E2 := Lib.hid h2
  have EZ := Lib.hid hz
  clear hA h1 h2 hz h hn
  go_enter Tryz.func10, Tryz.ntmps10
  go_wp2_with fail
  refine (refRight_any n l A c _ hl' (HA.out.kept0 K0.out)).mono ?_
  rintro x w1 ⟨rfl, hk⟩
  rw [E1.out]
  replace K0 := Lib.hid (K0.out.trans hk)
  replace HX := Lib.hid (HX.out.kept hk (by simp))
  clear hk
  obtain ⟨g, hg⟩ : ∃ g, g = w.heap.size := ⟨_, rfl⟩
  rw [← hg] at HX ⊢
  clear hg
  have x0 := HX.out.cell 0
  have x1 := HX.out.cell 1
  have xl := HX.out.lt
  simp only [List.getElem?_cons_zero, List.getElem?_cons_succ] at x0 x1
  go_wp2_with fail
  refine (refRises_any l A c _ hl' (HA.out.kept0 K0.out)).mono ?_
  rintro x w2 ⟨rfl, hk⟩
  rw [E2.out]
  replace K0 := Lib.hid (K0.out.trans hk)
  replace HX := Lib.hid (HX.out.kept hk (by simp))
  clear hk x0 x1 xl
  go_wp2_with fail
  go_loopw [5, 6] (fun v5 v6 wr => ∃ k : Nat, k ≤ l.length ∧ v6 = .int .i64 k ∧ v5 = .int .u8 (if (l.take k).any neOne = true then 1 else 0) ∧ wr = w2) (fun _ i _ => l.length - (intOf i).toNat)
  case atStart => exact ⟨0, Nat.zero_le _, rfl, rfl, rfl⟩
  case round =>
    obtain ⟨k, hk, rfl, rfl, hww⟩ := hrel
    subst hww
    have x0 := HX.out.cell 0
    have x1 := HX.out.cell 1
    have xl := HX.out.lt
    simp only [List.getElem?_cons_zero, List.getElem?_cons_succ] at x0 x1
    by_cases hlt : k < l.length
    · obtain ⟨b, off, rfl, hbl, e0, e1, e2⟩ := edge_at (HA.out.kept0 K0.out) hlt
      have HT := Lib.hid (any_take neOne hlt)
      by_cases hd : l[k].2.2 = 1
      · have hd' : (l[k].2.2 != 1) = false := by rw [hd]; rfl
        have HD := Lib.hid (show neOne l[k] = false by simp [neOne, hd])
        clear hd
        go_wp2_with fail
        go_roundw
        case rel => exact ⟨k + 1, by omega, by go_num, by rw [HT.out, HD.out, Bool.or_false], by trivial⟩
        case measure => simp [intOf]; omega
      · have hd' : (l[k].2.2 != 1) = true := by rw [bne_iff_ne]; exact hd
        have HD := Lib.hid (show neOne l[k] = true by simp [neOne, hd])
        clear hd
        go_wp2_with fail
        go_roundw
        case rel => exact ⟨k + 1, by omega, by go_num, by rw [HT.out, HD.out, Bool.or_true]; rfl, by trivial⟩
        case measure => simp [intOf]; omega
    have hkl : k = l.length := by omega
    subst hkl
    rw [List.take_length, EZ.out]
    simp only [if_true, if_false, Bool.false_eq_true]
    go_upto_region 12 with (fail)
    clear hlt x0 x1 xl hl
    have CV : (convert 26 26 (.slice (some ⟨wr.heap.size, 0, none⟩) 4 4)).run Tryz.prog (wr.alloc (.cells #[.int .u8 70, .int .u8 82, .int .u8 84, .int .u8 49] 5)) = .ok (.slice (some ⟨wr.heap.size, 0, none⟩) 4 4) (wr.alloc (.cells #[.int .u8 70, .int .u8 82, .int .u8 84, .int .u8 49] 5 (4, 5))) := Lib.run_convert_bytes_const wr 26 5 #[.int .u8 70, .int .u8 82, .int .u8 84, .int .u8 49] 4 4 Tryz.underlying26 Tryz.underlying5
    have kA : Kept [] wr ((wr.alloc (.cells #[.int .u8 70, .int .u8 82, .int .u8 84, .int .u8 49] 5 (4, 5))).alloc (.cells #[.int .u8 1] 5)) := ((Kept.refl [] wr).alloc _).alloc _
    have HB4 := Lib.hid (show Reads _ _ (frt1.map byteV) by rw [frt1_V]; exact (reads_marked wr [.int .u8 70, .int .u8 82, .int .u8 84, .int .u8 49] 5 4 5).kept0 ((Kept.refl [] _).alloc (.cells #[.int .u8 1] 5)))
    have HB1 := Lib.hid (show Reads _ (some ⟨wr.heap.size + 1, 0, none⟩) ([b8 1].map byteV) by rw [b8_V1]; exact Reads.of_blk (Blk.new1F wr (.cells #[.int .u8 70, .int .u8 82, .int .u8 84, .int .u8 49] 5 (4, 5)) 5 [.int .u8 1]) (fun _ _ h => h))
    replace K0 := Lib.hid (K0.out.trans kA)
    replace HX := Lib.hid (HX.out.kept kA (by simp))
    have HNN := Lib.hid (show [b8 1].map byteV ≠ [] by simp)
    clear kA
    go_upto_region 14 with (first | (at_builtin; refine wpList_appG rfl (.tmp 34) (.tmp 36) _ rfl 5 (.int .u8 0) 1 1 Tryz.underlying26 infoU8 rfl (by decide) w.heap.size wr.heap.size 0 4 4 (frt1.map byteV) rfl rfl HB4.out (some ⟨wr.heap.size + 1, 0, none⟩) 1 1 ([b8 1].map byteV) rfl rfl HB1.out HNN.out (by omega) (by omega) (by unfold maxLen; omega) K0.out.size ?_; intro va wp howna hka; have HO := Lib.hid (OwnB.app (l := frt1) (m := [b8 1]) howna rfl); have Kp := Lib.hid (K0.out.trans hka); have HXp := Lib.hid (HX.out.kept hka (by simp)); obtain ⟨A7, N7, c7, rfl⟩ := own_slice HO.out; clear howna hka))
    replace K0 := Kp
    replace HX := HXp
    clear Kp HXp HB4 HB1 HNN CV
    have x0 := HX.out.cell 0
    have x1 := HX.out.cell 1
    have xl := HX.out.lt
    simp only [List.getElem?_cons_zero, List.getElem?_cons_succ] at x0 x1
    go_wp2_with fail
    rw [show n % 4294967296 = ((u32of n : Nat) : Int) by unfold u32of; omega]
    refine (rput32_any (u32of n) _ (u32of_lt _)).mono ?_
    rintro z wqa ⟨v, rfl, ho, hk⟩
    obtain ⟨Aqs, cqs, rfl⟩ := own_n ho
    have HS := Lib.hid (Reads.of_own ho)
    replace HX := Lib.hid (HX.out.kept hk (by simp))
    replace HO := Lib.hid (HO.out.kept0 hk)
    replace K0 := Lib.hid (K0.out.trans hk)
    have B1 := Lib.hid (show ((frt1 ++ [b8 1]).length + 4) * 1 ≤ 140737488355328 by have := (show (frt1 ++ [b8 1]).length = 5 from rfl); omega)
    have B2 := Lib.hid (show (frt1 ++ [b8 1]).length + 4 ≤ maxLen by have := (show (frt1 ++ [b8 1]).length = 5 from rfl); unfold maxLen; omega)
    have HXN := Lib.hid (own_ne_blk HO.out HX.out (by decide))
    clear hk ho x0 x1 xl
    go_upto_region 15 with (first | (at_builtin; refine wpList_app _ rfl (.tmp 38) (.tmp 42) _ rfl 5 (.int .u8 0) 1 1 Tryz.underlying26 infoU8 rfl (by decide) w.heap.size (.slice A7 N7 c7) _ _ rfl HO.out Aqs 4 cqs ((le (u32of n) 4).map byteV) rfl (by simp [le_length]) HS.out (bytes_ones _) B1.out B2.out K0.out.size ?_; intro va wq howna hka hba; have HOn := Lib.hid (OwnB.app howna (by rw [le_length])); have Kn := Lib.hid (K0.out.app hka HO.out); have HXn := Lib.hid (HX.out.kept hka (by have := HXN.out; cases hvv : (Value.slice A7 N7 c7).ownBlock with | none => simp | some q => (rw [hvv] at this; simpa [eq_comm] using this))); obtain ⟨Aq, Nq, cq, rfl⟩ := own_slice HOn.out; clear howna hka hba))
    replace HO := HOn
    replace K0 := Kn
    replace HX := HXn
    clear HOn Kn HXn HS B1 B2 HXN
    have x0 := HX.out.cell 0
    have x1 := HX.out.cell 1
    have xl := HX.out.lt
    simp only [List.getElem?_cons_zero, List.getElem?_cons_succ] at x0 x1
    go_wp2_with fail
    rw [show (l.length : Int) % 4294967296 = ((u32of (l.length : Int) : Nat) : Int) by unfold u32of; omega]
    refine (rput32_any (u32of (l.length : Int)) _ (u32of_lt _)).mono ?_
    rintro z wra ⟨v, rfl, ho, hk⟩
    obtain ⟨Ars, crs, rfl⟩ := own_n ho
    have HS := Lib.hid (Reads.of_own ho)
    replace HX := Lib.hid (HX.out.kept hk (by simp))
    replace HO := Lib.hid (HO.out.kept0 hk)
    replace K0 := Lib.hid (K0.out.trans hk)
    have B1 := Lib.hid (show ((frt1 ++ [b8 1] ++ le (u32of n) 4).length + 4) * 1 ≤ 140737488355328 by have := (show (frt1 ++ [b8 1] ++ le (u32of n) 4).length = 9 by rw [List.length_append, le_length]; rfl); omega)
    have B2 := Lib.hid (show (frt1 ++ [b8 1] ++ le (u32of n) 4).length + 4 ≤ maxLen by have := (show (frt1 ++ [b8 1] ++ le (u32of n) 4).length = 9 by rw [List.length_append, le_length]; rfl); unfold maxLen; omega)
    have HXN := Lib.hid (own_ne_blk HO.out HX.out (by decide))
    clear hk ho x0 x1 xl
    go_upto_region 16 with (first | (at_builtin; refine wpList_app _ rfl (.tmp 44) (.tmp 49) _ rfl 5 (.int .u8 0) 1 1 Tryz.underlying26 infoU8 rfl (by decide) w.heap.size (.slice Aq Nq cq) _ _ rfl HO.out Ars 4 crs ((le (u32of (l.length : Int)) 4).map byteV) rfl (by simp [le_length]) HS.out (bytes_ones _) B1.out B2.out K0.out.size ?_; intro va wr howna hka hba; have HOn := Lib.hid (OwnB.app howna (by rw [le_length])); have Kn := Lib.hid (K0.out.app hka HO.out); have HXn := Lib.hid (HX.out.kept hka (by have := HXN.out; cases hvv : (Value.slice Aq Nq cq).ownBlock with | none => simp | some q => (rw [hvv] at this; simpa [eq_comm] using this))); obtain ⟨Ar, Nr, cr, rfl⟩ := own_slice HOn.out; clear howna hka hba))
    replace HO := HOn
    replace K0 := Kn
    replace HX := HXn
    clear HOn Kn HXn HS B1 B2 HXN
    replace HO := Lib.hid (show OwnB wr w.heap.size (.slice Ar Nr cr) (hdrB 1 n l.length) from by have h := HO.out; unfold hdrB; rw [fours2]; simpa [fours, List.append_assoc] using h)
    go_wp2_with fail
    go_loopw [7, 8] (fun v i wx => ∃ k : Nat, k ≤ l.length ∧ i = .int .i64 k ∧ Hid (OwnB wx w.heap.size v (hdrB 1 n l.length ++ (l.take k).flatMap (edgeB 1))) ∧ Hid (Blk wx g 24 (grV n A l.length c)) ∧ Hid (Kept [] w wx)) (fun _ i _ => l.length - (intOf i).toNat)
    case atStart => exact ⟨0, Nat.zero_le _, rfl, Lib.hid (by simpa using HO.out), HX, K0⟩
    case round =>
      clear HO K0 HX
      obtain ⟨k, hk, rfl, HO, HX, K0⟩ := hrel
      obtain ⟨v, hv⟩ : ∃ v, v = u7 := ⟨_, rfl⟩
      subst hv
      have hL65 := HL.out
      by_cases hlt : k < l.length
      · obtain ⟨A3, N3, c3, rfl⟩ := own_slice HO.out
        have HCL := Lib.hid (cat_len 1 n l.length l k hk HL.out)
        have HST := Lib.hid (flatB_take (edgeB 1) hlt)
        generalize hcur : hdrB 1 n l.length ++ (l.take k).flatMap (edgeB 1) = cur at HO HCL
        have HCU := Lib.hid hcur
        clear hcur
        have x0 := HX.out.cell 0
        have x1 := HX.out.cell 1
        have xl := HX.out.lt
        simp only [List.getElem?_cons_zero, List.getElem?_cons_succ] at x0 x1
        obtain ⟨b, off, hbo, hbl, e0, e1, e2⟩ := edge_at (HA.out.kept0 K0.out) hlt
        obtain rfl := hbo
        go_wp2_with fail
        rw [show l[k].1 % 4294967296 = ((u32of l[k].1 : Nat) : Int) by unfold u32of; omega]
        refine (rput32_any (u32of l[k].1) _ (u32of_lt _)).mono ?_
        rintro z wsa ⟨v, rfl, ho, hk_⟩
        obtain ⟨Ass, css, rfl⟩ := own_n ho
        have HS := Lib.hid (Reads.of_own ho)
        replace HX := Lib.hid (HX.out.kept hk_ (by simp))
        replace HO := Lib.hid (HO.out.kept0 hk_)
        replace K0 := Lib.hid (K0.out.trans hk_)
        have B1 := Lib.hid (show (cur.length + 4) * 1 ≤ 140737488355328 by have := HCL.out; omega)
        have B2 := Lib.hid (show cur.length + 4 ≤ maxLen by have := HCL.out; unfold maxLen; omega)
        have HXN := Lib.hid (own_ne_blk HO.out HX.out (by decide))
        clear hk_ ho x0 x1 xl e0 e1 e2 hbl
        go_upto_region 20 with (first | (at_builtin; refine wpList_app _ rfl (.tmp 58) (.tmp 66) _ rfl 5 (.int .u8 0) 1 1 Tryz.underlying26 infoU8 rfl (by decide) w.heap.size (.slice A3 N3 c3) _ _ rfl HO.out Ass 4 css ((le (u32of l[k].1) 4).map byteV) rfl (by simp [le_length]) HS.out (bytes_ones _) B1.out B2.out K0.out.size ?_; intro va ws howna hka hba; have HOn := Lib.hid (OwnB.app howna (by rw [le_length])); have Kn := Lib.hid (K0.out.app hka HO.out); have HXn := Lib.hid (HX.out.kept hka (by have := HXN.out; cases hvv : (Value.slice A3 N3 c3).ownBlock with | none => simp | some q => (rw [hvv] at this; simpa [eq_comm] using this))); obtain ⟨As, Ns, cs, rfl⟩ := own_slice HOn.out; clear howna hka hba))
        replace HO := HOn
        replace K0 := Kn
        replace HX := HXn
        clear HOn Kn HXn HS B1 B2 HXN
        have x0 := HX.out.cell 0
        have x1 := HX.out.cell 1
        have xl := HX.out.lt
        simp only [List.getElem?_cons_zero, List.getElem?_cons_succ] at x0 x1
        obtain ⟨b, off, hbo, hbl, e0, e1, e2⟩ := edge_at (HA.out.kept0 K0.out) hlt
        cases hbo
        go_wp2_with fail
        rw [show l[k].2.1 % 4294967296 = ((u32of l[k].2.1 : Nat) : Int) by unfold u32of; omega]
        refine (rput32_any (u32of l[k].2.1) _ (u32of_lt _)).mono ?_
        rintro z wta ⟨v, rfl, ho, hk_⟩
        obtain ⟨Ats, cts, rfl⟩ := own_n ho
        have HS := Lib.hid (Reads.of_own ho)
        replace HX := Lib.hid (HX.out.kept hk_ (by simp))
        replace HO := Lib.hid (HO.out.kept0 hk_)
        replace K0 := Lib.hid (K0.out.trans hk_)
        have B1 := Lib.hid (show ((cur ++ le (u32of l[k].1) 4).length + 4) * 1 ≤ 140737488355328 by have := (show (cur ++ le (u32of l[k].1) 4).length ≤ 1000004 by rw [List.length_append, le_length]; have := HCL.out; omega); omega)
        have B2 := Lib.hid (show (cur ++ le (u32of l[k].1) 4).length + 4 ≤ maxLen by have := (show (cur ++ le (u32of l[k].1) 4).length ≤ 1000004 by rw [List.length_append, le_length]; have := HCL.out; omega); unfold maxLen; omega)
        have HXN := Lib.hid (own_ne_blk HO.out HX.out (by decide))
        clear hk_ ho x0 x1 xl e0 e1 e2 hbl
        go_upto_region 21 with (first | (at_builtin; refine wpList_app _ rfl (.tmp 68) (.tmp 76) _ rfl 5 (.int .u8 0) 1 1 Tryz.underlying26 infoU8 rfl (by decide) w.heap.size (.slice As Ns cs) _ _ rfl HO.out Ats 4 cts ((le (u32of l[k].2.1) 4).map byteV) rfl (by simp [le_length]) HS.out (bytes_ones _) B1.out B2.out K0.out.size ?_; intro va wt howna hka hba; have HOn := Lib.hid (OwnB.app howna (by rw [le_length])); have Kn := Lib.hid (K0.out.app hka HO.out); have HXn := Lib.hid (HX.out.kept hka (by have := HXN.out; cases hvv : (Value.slice As Ns cs).ownBlock with | none => simp | some q => (rw [hvv] at this; simpa [eq_comm] using this))); obtain ⟨At, Nt, ct, rfl⟩ := own_slice HOn.out; clear howna hka hba))
        replace HO := HOn
        replace K0 := Kn
        replace HX := HXn
        clear HOn Kn HXn HS B1 B2 HXN
        have x0 := HX.out.cell 0
        have x1 := HX.out.cell 1
        have xl := HX.out.lt
        simp only [List.getElem?_cons_zero, List.getElem?_cons_succ] at x0 x1
        go_upto_region 22 with (fail)
        clear x0 x1 xl
        have x0 := HX.out.cell 0
        have x1 := HX.out.cell 1
        have xl := HX.out.lt
        simp only [List.getElem?_cons_zero, List.getElem?_cons_succ] at x0 x1
        obtain ⟨b, off, hbo, hbl, e0, e1, e2⟩ := edge_at (HA.out.kept0 K0.out) hlt
        cases hbo
        go_wp2_with fail
        rw [show l[k].2.2 % 4294967296 = ((u32of l[k].2.2 : Nat) : Int) by unfold u32of; omega]
        refine (rput32_any (u32of l[k].2.2) _ (u32of_lt _)).mono ?_
        rintro z wxa ⟨v, rfl, ho, hk_⟩
        obtain ⟨Axs, cxs, rfl⟩ := own_n ho
        have HS := Lib.hid (Reads.of_own ho)
        replace HX := Lib.hid (HX.out.kept hk_ (by simp))
        replace HO := Lib.hid (HO.out.kept0 hk_)
        replace K0 := Lib.hid (K0.out.trans hk_)
        have B1 := Lib.hid (show ((cur ++ le (u32of l[k].1) 4 ++ le (u32of l[k].2.1) 4).length + 4) * 1 ≤ 140737488355328 by have := (show (cur ++ le (u32of l[k].1) 4 ++ le (u32of l[k].2.1) 4).length ≤ 1000008 by rw [List.length_append, List.length_append, le_length, le_length]; have := HCL.out; omega); omega)
        have B2 := Lib.hid (show (cur ++ le (u32of l[k].1) 4 ++ le (u32of l[k].2.1) 4).length + 4 ≤ maxLen by have := (show (cur ++ le (u32of l[k].1) 4 ++ le (u32of l[k].2.1) 4).length ≤ 1000008 by rw [List.length_append, List.length_append, le_length, le_length]; have := HCL.out; omega); unfold maxLen; omega)
        have HXN := Lib.hid (own_ne_blk HO.out HX.out (by decide))
        clear hk_ ho x0 x1 xl e0 e1 e2 hbl
        go_upto_region 18 with (first | (at_builtin; refine wpList_app _ rfl (.tmp 80) (.tmp 88) _ rfl 5 (.int .u8 0) 1 1 Tryz.underlying26 infoU8 rfl (by decide) w.heap.size (.slice At Nt ct) _ _ rfl HO.out Axs 4 cxs ((le (u32of l[k].2.2) 4).map byteV) rfl (by simp [le_length]) HS.out (bytes_ones _) B1.out B2.out K0.out.size ?_; intro va wx howna hka hba; have HOn := Lib.hid (OwnB.app howna (by rw [le_length])); have Kn := Lib.hid (K0.out.app hka HO.out); have HXn := Lib.hid (HX.out.kept hka (by have := HXN.out; cases hvv : (Value.slice At Nt ct).ownBlock with | none => simp | some q => (rw [hvv] at this; simpa [eq_comm] using this))); obtain ⟨Ax, Nx, cx, rfl⟩ := own_slice HOn.out; clear howna hka hba))
        replace HO := HOn
        replace K0 := Kn
        replace HX := HXn
        clear HOn Kn HXn HS B1 B2 HXN
        have x0 := HX.out.cell 0
        have x1 := HX.out.cell 1
        have xl := HX.out.lt
        simp only [List.getElem?_cons_zero, List.getElem?_cons_succ] at x0 x1
        go_wp2_with fail
        clear x0 x1 xl
        go_roundw
        case rel => exact ⟨k + 1, by omega, by go_num, Lib.hid (by have h := HO.out; rw [← HCU.out] at h; rw [HST.out, edgeB, if_pos rfl, fours3]; simpa [fours, List.append_assoc] using h), HX, K0⟩
        case measure => simp [intOf]; omega
      · have hkl : k = l.length := by omega
        subst hkl
        rw [List.take_length] at HO
        have x0 := HX.out.cell 0
        have x1 := HX.out.cell 1
        have xl := HX.out.lt
        simp only [List.getElem?_cons_zero, List.getElem?_cons_succ] at x0 x1
        go_wp2_with fail
        refine bodyPost_ret (v := .tuple #[v, .int .i64 0]) (by simp [results, Tryz.results10, go_sem]) rfl ?_
        exact ⟨_, rfl, by rw [rawB_hdr]; exact HO.out, K0.out⟩
theorem rencode_any (n : Int) (l : List Ed) (A : Option Addr) (c : Nat) (w : World) (hA : Reads w A (l.flatMap edV)) (hl : l.length ≤ maxLen) :
    Calls Tryz.prog 10 #[.agg #[.int .i64 n, .slice A l.length c]] w fun x w' => (∃ v, x = .returned (.tuple #[v, .int .i64 (encW n l)]) ∧ OwnB w' w.heap.size v (if encW n l = 0 then encB n l else [])) ∧ Kept [] w w' := by
  by_cases h : encW n l = 0
  · rw [if_pos h, h]
    unfold encB
    cases hz : l.any neOne
    · rw [show kindOf l = 0 by unfold kindOf; rw [hz]; rfl]
      exact (rencode_ok0 n l A c w hA h hz).mono fun x w' ⟨v, h1, h2, h3⟩ => ⟨⟨v, h1, h2⟩, h3⟩
    · rw [show kindOf l = 1 by unfold kindOf; rw [hz]; rfl]
      exact (rencode_ok1 n l A c w hA h hz).mono fun x w' ⟨v, h1, h2, h3⟩ => ⟨⟨v, h1, h2⟩, h3⟩
  · rw [if_neg h]
    exact (rencode_bad n l A c w hA hl h).mono fun x w' ⟨h1, h3⟩ => ⟨⟨_, h1, OwnB.nil _ _⟩, h3⟩
end Go.Proofs.YtfnhfmffkjljnaaGreat
