/- dcsc.Column: a column's items. -/
import Derived.Test.YtibjpjpbmkdddaaD6
namespace Go.Proofs.Ytibjpjpbmkdddaa
set_option linter.unusedSimpArgs false
set_option linter.unusedVariables false
open Go.ChangeShapes Go.WideShapes Go.ChangeAt Go.RowKit
open Go.RowKit (wrap32 wrap64)
set_option maxHeartbeats 8000000

theorem items_any (n : Int) (i : Int) (v1 v2 v3 v4 : Value) (A1 A2 A3 A4 : Option Addr) (n1 n2 n3 n4 c1 c2 c3 c4 : Nat) (e1 : v1 = .slice A1 n1 c1) (e2 : v2 = .slice A2 n2 c2) (e3 : v3 = .slice A3 n3 c3) (e4 : v4 = .slice A4 n4 c4) (w : World) :
    Calls Try.prog 64 #[.agg #[.int .i64 n, .int .i64 n, v1, v2, v3, v4], .int .i64 i] w fun e w' => e = .returned (.func (.func 108) #[] #[.pointer (some ⟨w.heap.size, 0, none⟩), .pointer (some ⟨w.heap.size + 1, 0, none⟩)]) ∧ Blk w' w.heap.size 49 [.int .i64 n, .int .i64 n, v1, v2, v3, v4] ∧ Blk w' (w.heap.size + 1) 3 [.int .i64 i] ∧ Kept [] w w' := by
  subst e1 e2 e3 e4
  go_enter Try.func64, Try.ntmps64
  go_wp2_with fail
  go_ret
  exact ⟨rfl, (Blk.new w 49 _).alloc _, Blk.new1F w _ _ _, ((Kept.refl [] w).alloc _).alloc _⟩
set_option maxRecDepth 100000 in
theorem column_any (n base kk : Nat) (l : List Ed) (v1 v2 v3 v4 : Value) (w : World) (hok : MtOk n l) (hm : DcAt w base v1 v2 v3 v4 l) :
    Calls Try.prog 17 #[.agg #[.int .i64 n, .int .i64 n, v1, v2, v3, v4], .int .i64 kk] w fun e w' => ∃ v, e = .returned v ∧ w'.ownsRow w.heap.size 102 2 v (rowL l kk).length ((rowL l kk).flatMap itV) ∧ Kept [] w w' := by
  have HSR := Lib.hid (risesL_sortR hok.rises)
  have HPT := Lib.hid (fun (i : Nat) (hi : i < (atP l).length) => st_part hok.rises (fun e he => (hok.inn e he).1.1) hi)
  have HLL := Lib.hid hok.len
  obtain ⟨A1, c1, b2, c2, A3, c3, A4, c4, rfl, rfl, rfl, rfl, _, _⟩ := hm.form
  have HX := Lib.hid (Blk.new w 49 [.int .i64 n, .int .i64 n, .slice A1 (atP l).length c1, .slice (some ⟨b2, 0, none⟩) ((atP l).length + 1) c2, .slice A3 l.length c3, .slice A4 l.length c4])
  have K0 := Lib.hid ((Kept.refl [] w).alloc (.cells #[.int .i64 n, .int .i64 n, .slice A1 (atP l).length c1, .slice (some ⟨b2, 0, none⟩) ((atP l).length + 1) c2, .slice A3 l.length c3, .slice A4 l.length c4] 49))
  have HM := Lib.hid (hm.kept0 K0.out)
  have HOK := Lib.hid hok
  have HG := Lib.hid (show w.heap.size ≤ w.heap.size from Nat.le_refl _)
  clear hm hok
  go_enter Try.func17, Try.ntmps17
  go_upto_region 1 with (fail)
  generalize w.alloc (.cells #[.int .i64 n, .int .i64 n, .slice A1 (atP l).length c1, .slice (some ⟨b2, 0, none⟩) ((atP l).length + 1) c2, .slice A3 l.length c3, .slice A4 l.length c4] 49) = w1 at *
  generalize hgq : w.heap.size = g1 at HX ⊢
  have HGE := Lib.hid (show w.heap.size ≤ g1 by omega)
  rw [← hgq]
  have HQ := Lib.hid hgq
  clear hgq HG
  rw [HQ.out]
  go_wp2_with (first | (refine wpList_loadBlk rfl 49 (.tmp 2) rfl g1 [.int .i64 n, .int .i64 n, .slice A1 (atP l).length c1, .slice (some ⟨b2, 0, none⟩) ((atP l).length + 1) c2, .slice A3 l.length c3, .slice A4 l.length c4] _ HX.out rfl Try.underlying49 rfl infoCols ?_))
  refine (sureD_same n base l _ _ _ _ w1 HOK.out HM.out).mono ?_
  rintro _ w2 ⟨rfl, hk2⟩
  replace HX := Lib.hid (HX.out.kept hk2 (by simp))
  replace HM := Lib.hid (HM.out.kept0 hk2)
  replace K0 := Lib.hid (K0.out.trans hk2)
  clear hk2
  go_upto_region 2 with (first | (refine wpList_storeBlk rfl 49 (.tmp 2) (.tmp 7) rfl g1 _ [.int .i64 n, .int .i64 n, .slice A1 (atP l).length c1, .slice (some ⟨b2, 0, none⟩) ((atP l).length + 1) c2, .slice A3 l.length c3, .slice A4 l.length c4] HX.out rfl rfl rfl infoCols (by simp [Value.oneCell']) ?_; intro w3 hb3 hk3))
  have f8 : KeptB w.heap.size [49] w2 w3 := (KeptB.refl _ _ w2).step (L := [g1]) hk3 (fun u hu => by simp at hu; subst hu; exact ⟨HGE.out, _, _, _, HX.out, by simp⟩)
  replace HM := Lib.hid (HM.out.keptB f8 (by decide) (by decide))
  replace K0 := Lib.hid (K0.out.thenB f8 (Nat.le_refl _))
  replace HX := Lib.hid hb3
  clear f8 hb3 hk3
  go_wp2_with (first | (refine wpList_loadBlk rfl 49 (.tmp 2) rfl g1 [.int .i64 n, .int .i64 n, .slice A1 (atP l).length c1, .slice (some ⟨b2, 0, none⟩) ((atP l).length + 1) c2, .slice A3 l.length c3, .slice A4 l.length c4] _ HX.out rfl Try.underlying49 rfl infoCols ?_))
  refine (place_any n base kk l _ _ _ _ w3 HOK.out HM.out).mono ?_
  rintro _ w4 ⟨z, rfl, hz, hk4⟩
  replace HX := Lib.hid (HX.out.kept hk4 (by simp))
  replace HM := Lib.hid (HM.out.kept0 hk4)
  replace K0 := Lib.hid (K0.out.trans hk4)
  clear hk4
  rcases hz with ⟨i, hi, rfl, hik⟩ | ⟨rfl, hno⟩
  · obtain ⟨k, s, e, hk, hs, he, hse, hel, hpt⟩ := HPT.out i hi
    have hkk : k = kk := by
      rw [hik] at hk
      omega
    subst hkk
    have HSTOP := Lib.hid (fun (wx : World) (gC gI : Nat) (h1 : Blk wx gC 49 [.int .i64 n, .int .i64 n, .slice A1 (atP l).length c1, .slice (some ⟨b2, 0, none⟩) ((atP l).length + 1) c2, .slice A3 l.length c3, .slice A4 l.length c4]) (h2 : Blk wx gI 3 [.int .i64 i]) (h3 : DcAt wx base _ _ _ _ l) => items1_stops 3 (by omega) n base i k s e gC gI b2 c1 c2 c3 c4 A1 A3 A4 l wx h1 h2 h3 hi hs he hse hel HLL.out hpt)
    have HRL := Lib.hid (show (rowL l k).length ≤ 65536 from Nat.le_trans (List.length_filter_le _ _) HLL.out)
    clear hk hs he hse hel hpt hik hi
    go_wp2_with (first | (refine wpList_loadBlk rfl 49 (.tmp 2) rfl g1 [.int .i64 n, .int .i64 n, .slice A1 (atP l).length c1, .slice (some ⟨b2, 0, none⟩) ((atP l).length + 1) c2, .slice A3 l.length c3, .slice A4 l.length c4] _ HX.out rfl Try.underlying49 rfl infoCols ?_))
    refine (items_any n i _ _ _ _ _ _ _ _ _ _ _ _ _ _ _ _ rfl rfl rfl rfl w4).mono ?_
    rintro _ w5 ⟨rfl, hbC, hbI, hk5⟩
    have HSQ := Lib.hid (HSTOP.out w5 _ _ hbC hbI (HM.out.kept0 hk5))
    replace K0 := Lib.hid (K0.out.trans hk5)
    clear hbC hbI hk5 HSTOP
    generalize hgc : w4.heap.size = gC at HSQ ⊢
    clear hgc
    go_wp2_with fail
    refine (collect_any _ (rowL l k) HRL.out w5 HSQ.out).mono ?_
    rintro _ w6 ⟨v, rfl, ho, hk6⟩
    have HO := Lib.hid (own_le (base' := w.heap.size) ho K0.out.size)
    replace K0 := Lib.hid (K0.out.trans hk6)
    clear ho hk6 HSQ
    go_wp2_with fail
    go_ret
    exact ⟨v, rfl, HO.out, K0.out⟩
  · have HNIL := Lib.hid (show rowL l kk = [] from List.filter_eq_nil_iff.2 (fun e he h => hno (((at_ok HSR.out).mem kk).2 ⟨e, he, by simpa using h⟩)))
    clear hno
    go_wp2_with fail
    go_ret
    exact ⟨_, rfl, by rw [HNIL.out]; exact World.ownsRow_nil _ _ _ _, K0.out⟩
end Go.Proofs.Ytibjpjpbmkdddaa
