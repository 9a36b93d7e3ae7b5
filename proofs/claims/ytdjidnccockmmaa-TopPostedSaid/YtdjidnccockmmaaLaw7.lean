/- 'FrameBack' returns true for every f, and b. Conditions: none. -/
import Derived.Test.YtdjidnccockmmaaLaw6
import Derived.Test.YtdjidnccockmmaaFrP4
namespace Go.Proofs.Ytdjidnccockmmaa
set_option linter.unusedSimpArgs false
set_option linter.unusedVariables false
open Go.ChangeShapes Go.WideShapes Go.ChangeAt Go.RowKit
open Go.RowKit (wrap32 wrap64)
set_option maxHeartbeats 8000000

theorem Fr.In.to {F : Fr} (h : F.In) : F.In' := ⟨h.n, h.items, h.sums, h.trips⟩
theorem Fr.In.few {F : Fr} (h : F.In) : (fewF F).In' :=
  ⟨h.n, fun r hr => h.items r (List.mem_of_mem_take hr), fun r hr => h.sums r (List.mem_of_mem_take hr), fun r hr => h.trips r (List.mem_of_mem_take hr)⟩
theorem enc_dec {F : Fr} (h : F.In') (hw : F.wrong = 0) : encR F = F.bytes ∧ decodeP F.bytes = .ok F := by
  refine ⟨by unfold encR; rw [if_pos hw], dec_full ((okFr_iff F).2 ⟨hw, h⟩)⟩
theorem dec_enc {b : List UInt8} {F : Fr} (h : decodeP b = .ok F) : F.wrong = 0 ∧ encR F = b := by
  obtain ⟨h1, h2⟩ := dec_sound h
  have h3 := ((okFr_iff F).1 h1).1
  exact ⟨h3, by unfold encR; rw [if_pos h3]; exact h2⟩
theorem dec_short {b : List UInt8} {F : Fr} (h : decodeP b = .ok F) (hb : b.length ≤ 4000) : F.Short := by
  obtain ⟨_, h2⟩ := dec_sound h
  have h3 := bytes_length F
  rw [h2] at h3
  exact ⟨by omega, by omega, by omega⟩
theorem frameEncode_n (F : Fr) (b : List UInt8) (n : Nat) (A1 A2 A3 : Option Addr) (c1 c2 c3 : Nat) (w : World) (hF : FrIn w F A1 A2 A3) (hs : F.Short) (hb : encR F = b) (hn : b.length = n) :
    Calls Try.prog 33 #[.agg (frC F A1 A2 A3 c1 c2 c3).toArray] w fun e w' => (∃ A c, e = .returned (.tuple #[.slice A n c, .int .i64 F.wrong]) ∧ n ≤ c ∧ c ≤ maxLen ∧ Reads w' A (b.map byteV)) ∧ Kept [] w w' := by
  subst hn hb
  exact frameEncode_any F A1 A2 A3 c1 c2 c3 w hF hs

set_option maxRecDepth 100000 in
theorem frameBack_walk (F : Fr) (b : List UInt8) (A1 A2 A3 B : Option Addr) (c1 c2 c3 d : Nat) (w : World) (hF : FrIn w F A1 A2 A3) (h1 : F.items.length ≤ c1) (h2 : F.sums.length ≤ c2) (h3 : F.trips.length ≤ c3) (hI : F.In) (hl : b.length ≤ maxLen) (hr : Reads w B (b.map byteV)) :
    Calls Try.prog 9 #[.agg (frC F A1 A2 A3 c1 c2 c3).toArray, .slice B b.length d] w fun e w' => e = .returned (.bool true) ∧ Kept [] w w' := by
  unfold maxLen at hl
  have K0 := Lib.hid ((Kept.refl [] w).alloc (.cells (frC F A1 A2 A3 c1 c2 c3).toArray 60))
  by_cases h : 4000 < b.length
  · clear hF hI hr
    go_enter Try.func9, Try.ntmps9
    go_wp2_with fail
    refine (live19_any _).mono ?_
    rintro e w1 ⟨rfl, hk⟩
    have K := Lib.hid (K0.out.trans hk)
    clear hk
    go_wp2_with fail
    go_ret
    exact ⟨rfl, K.out⟩
  have HB := Lib.hid hr
  have HL := Lib.hid (show b.length ≤ 4000 by omega)
  have HX := Lib.hid (Blk.new w 60 (frC F A1 A2 A3 c1 c2 c3))
  have HFI := Lib.hid (hF.kept0 K0.out)
  have HF := Lib.hid hF.few
  have SH := Lib.hid (few_short F)
  have HI := Lib.hid hI.few
  clear hF hI hr
  go_enter Try.func9, Try.ntmps9
  go_wp2_with fail
  refine (few_any F A1 A2 A3 c1 c2 c3 _ HFI.out h1 h2 h3).mono ?_
  rintro x w1 ⟨rfl, hk⟩
  replace K0 := Lib.hid (K0.out.trans hk)
  replace HX := Lib.hid (HX.out.kept hk (by simp))
  clear HFI hk h1 h2 h3 h
  generalize fewF F = G at HF SH HI ⊢
  obtain ⟨g, hg⟩ : ∃ g, g = w.heap.size := ⟨_, rfl⟩
  have HGE := Lib.hid (show w.heap.size ≤ g by omega)
  rw [← hg] at HX ⊢
  clear hg
  go_upto_region 4 with (first | (refine wpList_storeBlk rfl 60 (.tmp 2) (.tmp 18) rfl g _ (frC G A1 A2 A3 c1 c2 c3) HX.out rfl rfl rfl infoFrame (by simp [Value.oneCell']) ?_; intro w2 hb2 hk2))
  replace K0 := Lib.hid (K0.out.then hk2 (fun m hm => by simp at hm; subst hm; exact .inr HGE.out))
  replace HX := Lib.hid hb2
  clear hb2 hk2
  have x0 := HX.out.cell 0
  have x1 := HX.out.cell 1
  have x2 := HX.out.cell 2
  have x3 := HX.out.cell 3
  have x4 := HX.out.cell 4
  have x5 := HX.out.cell 5
  have x6 := HX.out.cell 6
  have x7 := HX.out.cell 7
  have x8 := HX.out.cell 8
  have x9 := HX.out.cell 9
  have x10 := HX.out.cell 10
  simp only [List.getElem?_cons_zero, List.getElem?_cons_succ] at x0 x1 x2 x3 x4 x5 x6 x7 x8 x9 x10
  go_wp2_with fail
  refine (frameEncode_any G A1 A2 A3 c1 c2 c3 _ (HF.out.kept0 K0.out) ⟨by have := SH.out.1; omega, by have := SH.out.2.1; omega, by have := SH.out.2.2; omega⟩).mono ?_
  rintro x wa ⟨⟨A4, d1, rfl, ld1, md1, rd1⟩, hk⟩
  replace K0 := Lib.hid (K0.out.trans hk)
  replace HX := Lib.hid (HX.out.kept hk (by simp))
  have R4 := Lib.hid rd1
  clear rd1 ld1 md1 hk x0 x1 x2 x3 x4 x5 x6 x7 x8 x9 x10
  by_cases hw : G.wrong = 0
  case neg =>
    have hne : (G.wrong == 0) = false := by rw [beq_eq_false_iff_ne]; exact hw
    clear hw HX HI
    go_upto_region 9 with (fail)
    clear hne
    go_wp2_with fail
    refine (decode_any b B d _ (HB.out.kept0 K0.out) (by have := HL.out; omega)).mono ?_
    intro x wb hx
    rcases hd : decodeP b with ⟨e, a⟩ | U
    · rw [hd] at hx
      obtain ⟨rfl, hk⟩ := hx
      have HE := Lib.hid (dec_bad hd)
      have hne : (e != 0) = true := by rw [bne_iff_ne]; exact (dec_bad hd).1
      have ha0 : 0 ≤ a := (dec_bad hd).2.1
      have ha1 : a ≤ (b.length : Int) := (dec_bad hd).2.2
      replace K0 := Lib.hid (K0.out.trans hk)
      clear hk hd
      go_upto_region 10 with (fail)
      have HY := Lib.hid ((Blk.new wb 60 (frC zeroF none none none 0 0 0)).alloc (.cells #[.int .i64 e, .int .i64 a] 40))
      have HZ := Lib.hid (Blk.new1F wb (.cells (frC zeroF none none none 0 0 0).toArray 60) 40 [.int .i64 e, .int .i64 a])
      have hk : Kept [] wb ((wb.alloc (.cells (frC zeroF none none none 0 0 0).toArray 60)).alloc (.cells #[.int .i64 e, .int .i64 a] 40)) := ((Kept.refl [] wb).alloc _).alloc _
      replace K0 := Lib.hid (K0.out.trans hk)
      clear hk
      obtain ⟨wc, hv⟩ : ∃ wc, wc = ((wb.alloc (.cells (frC zeroF none none none 0 0 0).toArray 60)).alloc (.cells #[.int .i64 e, .int .i64 a] 40)) := ⟨_, rfl⟩
      rw [← hv] at HY HZ K0
      show Code.wp _ _ _ _ ((wb.alloc (.cells (frC zeroF none none none 0 0 0).toArray 60)).alloc (.cells #[.int .i64 e, .int .i64 a] 40))
      rw [← hv]
      clear hv
      generalize wb.heap.size + 1 = h5 at HZ ⊢
      generalize wb.heap.size = g5 at HY ⊢
      have z0 := HZ.out.cell 0
      have z1 := HZ.out.cell 1
      simp only [List.getElem?_cons_zero, List.getElem?_cons_succ] at z0 z1
      go_wp2_with fail
      refine (live19_any _).mono ?_
      rintro x wd ⟨rfl, hk⟩
      replace K0 := Lib.hid (K0.out.trans hk)
      replace HY := Lib.hid (HY.out.kept hk (by simp))
      replace HZ := Lib.hid (HZ.out.kept hk (by simp))
      clear hk z0 z1
      have y0 := HY.out.cell 0
      have y1 := HY.out.cell 1
      have y2 := HY.out.cell 2
      have y3 := HY.out.cell 3
      have y4 := HY.out.cell 4
      have y5 := HY.out.cell 5
      have y6 := HY.out.cell 6
      have y7 := HY.out.cell 7
      have y8 := HY.out.cell 8
      have y9 := HY.out.cell 9
      have y10 := HY.out.cell 10
      simp only [List.getElem?_cons_zero, List.getElem?_cons_succ] at y0 y1 y2 y3 y4 y5 y6 y7 y8 y9 y10
      go_wp2_with fail
      refine (frameSame_any zeroF zeroF none none none none none none 0 0 0 0 0 0 _ (FrIn.zero _) (FrIn.zero _)).mono ?_
      rintro x we ⟨rfl, hk⟩
      rw [show decide (zeroF = zeroF) = true from decide_eq_true rfl]
      replace K0 := Lib.hid (K0.out.trans hk)
      replace HZ := Lib.hid (HZ.out.kept hk (by simp))
      clear hk y0 y1 y2 y3 y4 y5 y6 y7 y8 y9 y10
      have z0 := HZ.out.cell 0
      have z1 := HZ.out.cell 1
      simp only [List.getElem?_cons_zero, List.getElem?_cons_succ] at z0 z1
      go_wp2_with fail
      go_ret
      exact ⟨ret_bool (by first | (simp; done) | (simp; omega)), K0.out⟩
    · rw [hd] at hx
      obtain ⟨⟨B1, B2, B3, e1, e2, e3, rfl, hf, _, _, _⟩, hk⟩ := hx.good
      have HU := Lib.hid (dec_enc hd)
      have HS := Lib.hid (dec_short hd HL.out)
      replace K0 := Lib.hid (K0.out.trans hk)
      have HFU := Lib.hid hf
      clear hx hf hk hd
      go_upto_region 10 with (fail)
      have HY := Lib.hid ((Blk.new wb 60 (frC U B1 B2 B3 e1 e2 e3)).alloc (.cells #[.int .i64 0, .int .i64 0] 40))
      have HZ := Lib.hid (Blk.new1F wb (.cells (frC U B1 B2 B3 e1 e2 e3).toArray 60) 40 [.int .i64 0, .int .i64 0])
      have hk : Kept [] wb ((wb.alloc (.cells (frC U B1 B2 B3 e1 e2 e3).toArray 60)).alloc (.cells #[.int .i64 0, .int .i64 0] 40)) := ((Kept.refl [] wb).alloc _).alloc _
      replace K0 := Lib.hid (K0.out.trans hk)
      replace HFU := Lib.hid (HFU.out.kept0 hk)
      clear hk
      obtain ⟨wc, hv⟩ : ∃ wc, wc = ((wb.alloc (.cells (frC U B1 B2 B3 e1 e2 e3).toArray 60)).alloc (.cells #[.int .i64 0, .int .i64 0] 40)) := ⟨_, rfl⟩
      rw [← hv] at HY HZ K0 HFU
      show Code.wp _ _ _ _ ((wb.alloc (.cells (frC U B1 B2 B3 e1 e2 e3).toArray 60)).alloc (.cells #[.int .i64 0, .int .i64 0] 40))
      rw [← hv]
      clear hv
      generalize wb.heap.size + 1 = h5 at HZ ⊢
      generalize wb.heap.size = g5 at HY ⊢
      have z0 := HZ.out.cell 0
      have z1 := HZ.out.cell 1
      simp only [List.getElem?_cons_zero, List.getElem?_cons_succ] at z0 z1
      have y0 := HY.out.cell 0
      have y1 := HY.out.cell 1
      have y2 := HY.out.cell 2
      have y3 := HY.out.cell 3
      have y4 := HY.out.cell 4
      have y5 := HY.out.cell 5
      have y6 := HY.out.cell 6
      have y7 := HY.out.cell 7
      have y8 := HY.out.cell 8
      have y9 := HY.out.cell 9
      have y10 := HY.out.cell 10
      simp only [List.getElem?_cons_zero, List.getElem?_cons_succ] at y0 y1 y2 y3 y4 y5 y6 y7 y8 y9 y10
      go_wp2_with fail
      refine (frameEncode_n U b b.length B1 B2 B3 e1 e2 e3 _ HFU.out HS.out HU.out.2 rfl).mono ?_
      rintro x wd ⟨⟨A6, d6, rfl, l6, m6, r6⟩, hk⟩
      rw [HU.out.1]
      replace K0 := Lib.hid (K0.out.trans hk)
      have R6 := Lib.hid r6
      clear hk l6 m6 r6 z0 z1 y0 y1 y2 y3 y4 y5 y6 y7 y8 y9 y10
      go_wp2_with fail
      refine (live19_any _).mono ?_
      rintro x we ⟨rfl, hk⟩
      replace K0 := Lib.hid (K0.out.trans hk)
      replace R6 := Lib.hid (R6.out.kept0 hk)
      clear hk
      go_wp2_with fail
      refine (sameBytes_n b b _ _ A6 B d6 d _ rfl rfl R6.out (HB.out.kept0 K0.out) (by have := HL.out; unfold maxLen; omega) (by have := HL.out; unfold maxLen; omega)).mono ?_
      rintro x wq ⟨rfl, nq, rfl⟩
      rw [show decide (b = b) = true from decide_eq_true rfl]
      go_wp2_with fail
      go_ret
      exact ⟨rfl, K0.out.drewN nq⟩
  obtain ⟨he, hd⟩ := enc_dec HI.out hw
  rw [he] at R4 ⊢
  have HW := Lib.hid hw
  have HD := Lib.hid hd
  rw [hw]
  clear hw hd he HI
  go_wp2_with fail
  refine (decode_n G.bytes _ A4 d1 _ rfl R4.out (by rw [bytes_length]; have := SH.out; omega)).mono ?_
  intro x wb hx
  rw [HD.out] at hx
  obtain ⟨⟨B1, B2, B3, e1, e2, e3, rfl, hf, _, _, _⟩, hk⟩ := hx.good
  replace K0 := Lib.hid (K0.out.trans hk)
  replace HX := Lib.hid (HX.out.kept hk (by simp))
  have HFU := Lib.hid hf
  clear hx hf hk R4 HD
  go_upto_region 7 with (fail)
  have HY := Lib.hid ((Blk.new wb 60 (frC G B1 B2 B3 e1 e2 e3)).alloc (.cells #[.int .i64 0, .int .i64 0] 40))
  have HZ := Lib.hid (Blk.new1F wb (.cells (frC G B1 B2 B3 e1 e2 e3).toArray 60) 40 [.int .i64 0, .int .i64 0])
  have hk : Kept [] wb ((wb.alloc (.cells (frC G B1 B2 B3 e1 e2 e3).toArray 60)).alloc (.cells #[.int .i64 0, .int .i64 0] 40)) := ((Kept.refl [] wb).alloc _).alloc _
  replace K0 := Lib.hid (K0.out.trans hk)
  replace HFU := Lib.hid (HFU.out.kept0 hk)
  replace HX := Lib.hid (HX.out.kept hk (by simp))
  clear hk
  obtain ⟨wc, hv⟩ : ∃ wc, wc = ((wb.alloc (.cells (frC G B1 B2 B3 e1 e2 e3).toArray 60)).alloc (.cells #[.int .i64 0, .int .i64 0] 40)) := ⟨_, rfl⟩
  rw [← hv] at HY HZ K0 HFU HX
  show Code.wp _ _ _ _ ((wb.alloc (.cells (frC G B1 B2 B3 e1 e2 e3).toArray 60)).alloc (.cells #[.int .i64 0, .int .i64 0] 40))
  rw [← hv]
  clear hv
  generalize wb.heap.size + 1 = h4 at HZ ⊢
  generalize wb.heap.size = g4 at HY ⊢
  have x0 := HX.out.cell 0
  have x1 := HX.out.cell 1
  have x2 := HX.out.cell 2
  have x3 := HX.out.cell 3
  have x4 := HX.out.cell 4
  have x5 := HX.out.cell 5
  have x6 := HX.out.cell 6
  have x7 := HX.out.cell 7
  have x8 := HX.out.cell 8
  have x9 := HX.out.cell 9
  have x10 := HX.out.cell 10
  simp only [List.getElem?_cons_zero, List.getElem?_cons_succ] at x0 x1 x2 x3 x4 x5 x6 x7 x8 x9 x10
  have y0 := HY.out.cell 0
  have y1 := HY.out.cell 1
  have y2 := HY.out.cell 2
  have y3 := HY.out.cell 3
  have y4 := HY.out.cell 4
  have y5 := HY.out.cell 5
  have y6 := HY.out.cell 6
  have y7 := HY.out.cell 7
  have y8 := HY.out.cell 8
  have y9 := HY.out.cell 9
  have y10 := HY.out.cell 10
  simp only [List.getElem?_cons_zero, List.getElem?_cons_succ] at y0 y1 y2 y3 y4 y5 y6 y7 y8 y9 y10
  have z0 := HZ.out.cell 0
  have z1 := HZ.out.cell 1
  simp only [List.getElem?_cons_zero, List.getElem?_cons_succ] at z0 z1
  go_wp2_with fail
  refine (refSame_any G G A1 A2 A3 B1 B2 B3 c1 c2 c3 e1 e2 e3 _ (HF.out.kept0 K0.out) HFU.out).mono ?_
  rintro x wd ⟨rfl, hk⟩
  rw [show decide (G = G) = true from decide_eq_true rfl]
  replace K0 := Lib.hid (K0.out.trans hk)
  clear hk HX HY HZ HFU HW z0 z1 x0 x1 x2 x3 x4 x5 x6 x7 x8 x9 x10 y0 y1 y2 y3 y4 y5 y6 y7 y8 y9 y10
  go_upto_region 9 with (fail)
  go_wp2_with fail
  refine (decode_any b B d _ (HB.out.kept0 K0.out) (by have := HL.out; omega)).mono ?_
  intro x wb hx
  rcases hd : decodeP b with ⟨e, a⟩ | U
  · rw [hd] at hx
    obtain ⟨rfl, hk⟩ := hx
    have HE := Lib.hid (dec_bad hd)
    have hne : (e != 0) = true := by rw [bne_iff_ne]; exact (dec_bad hd).1
    have ha0 : 0 ≤ a := (dec_bad hd).2.1
    have ha1 : a ≤ (b.length : Int) := (dec_bad hd).2.2
    replace K0 := Lib.hid (K0.out.trans hk)
    clear hk hd
    go_upto_region 10 with (fail)
    have HY := Lib.hid ((Blk.new wb 60 (frC zeroF none none none 0 0 0)).alloc (.cells #[.int .i64 e, .int .i64 a] 40))
    have HZ := Lib.hid (Blk.new1F wb (.cells (frC zeroF none none none 0 0 0).toArray 60) 40 [.int .i64 e, .int .i64 a])
    have hk : Kept [] wb ((wb.alloc (.cells (frC zeroF none none none 0 0 0).toArray 60)).alloc (.cells #[.int .i64 e, .int .i64 a] 40)) := ((Kept.refl [] wb).alloc _).alloc _
    replace K0 := Lib.hid (K0.out.trans hk)
    clear hk
    obtain ⟨wc, hv⟩ : ∃ wc, wc = ((wb.alloc (.cells (frC zeroF none none none 0 0 0).toArray 60)).alloc (.cells #[.int .i64 e, .int .i64 a] 40)) := ⟨_, rfl⟩
    rw [← hv] at HY HZ K0
    show Code.wp _ _ _ _ ((wb.alloc (.cells (frC zeroF none none none 0 0 0).toArray 60)).alloc (.cells #[.int .i64 e, .int .i64 a] 40))
    rw [← hv]
    clear hv
    generalize wb.heap.size + 1 = h5 at HZ ⊢
    generalize wb.heap.size = g5 at HY ⊢
    have z0 := HZ.out.cell 0
    have z1 := HZ.out.cell 1
    simp only [List.getElem?_cons_zero, List.getElem?_cons_succ] at z0 z1
    go_wp2_with fail
    refine (live19_any _).mono ?_
    rintro x wd ⟨rfl, hk⟩
    replace K0 := Lib.hid (K0.out.trans hk)
    replace HY := Lib.hid (HY.out.kept hk (by simp))
    replace HZ := Lib.hid (HZ.out.kept hk (by simp))
    clear hk z0 z1
    have y0 := HY.out.cell 0
    have y1 := HY.out.cell 1
    have y2 := HY.out.cell 2
    have y3 := HY.out.cell 3
    have y4 := HY.out.cell 4
    have y5 := HY.out.cell 5
    have y6 := HY.out.cell 6
    have y7 := HY.out.cell 7
    have y8 := HY.out.cell 8
    have y9 := HY.out.cell 9
    have y10 := HY.out.cell 10
    simp only [List.getElem?_cons_zero, List.getElem?_cons_succ] at y0 y1 y2 y3 y4 y5 y6 y7 y8 y9 y10
    go_wp2_with fail
    refine (frameSame_any zeroF zeroF none none none none none none 0 0 0 0 0 0 _ (FrIn.zero _) (FrIn.zero _)).mono ?_
    rintro x we ⟨rfl, hk⟩
    rw [show decide (zeroF = zeroF) = true from decide_eq_true rfl]
    replace K0 := Lib.hid (K0.out.trans hk)
    replace HZ := Lib.hid (HZ.out.kept hk (by simp))
    clear hk y0 y1 y2 y3 y4 y5 y6 y7 y8 y9 y10
    have z0 := HZ.out.cell 0
    have z1 := HZ.out.cell 1
    simp only [List.getElem?_cons_zero, List.getElem?_cons_succ] at z0 z1
    go_wp2_with fail
    go_ret
    exact ⟨ret_bool (by first | (simp; done) | (simp; omega)), K0.out⟩
  · rw [hd] at hx
    obtain ⟨⟨B1, B2, B3, e1, e2, e3, rfl, hf, _, _, _⟩, hk⟩ := hx.good
    have HU := Lib.hid (dec_enc hd)
    have HS := Lib.hid (dec_short hd HL.out)
    replace K0 := Lib.hid (K0.out.trans hk)
    have HFU := Lib.hid hf
    clear hx hf hk hd
    go_upto_region 10 with (fail)
    have HY := Lib.hid ((Blk.new wb 60 (frC U B1 B2 B3 e1 e2 e3)).alloc (.cells #[.int .i64 0, .int .i64 0] 40))
    have HZ := Lib.hid (Blk.new1F wb (.cells (frC U B1 B2 B3 e1 e2 e3).toArray 60) 40 [.int .i64 0, .int .i64 0])
    have hk : Kept [] wb ((wb.alloc (.cells (frC U B1 B2 B3 e1 e2 e3).toArray 60)).alloc (.cells #[.int .i64 0, .int .i64 0] 40)) := ((Kept.refl [] wb).alloc _).alloc _
    replace K0 := Lib.hid (K0.out.trans hk)
    replace HFU := Lib.hid (HFU.out.kept0 hk)
    clear hk
    obtain ⟨wc, hv⟩ : ∃ wc, wc = ((wb.alloc (.cells (frC U B1 B2 B3 e1 e2 e3).toArray 60)).alloc (.cells #[.int .i64 0, .int .i64 0] 40)) := ⟨_, rfl⟩
    rw [← hv] at HY HZ K0 HFU
    show Code.wp _ _ _ _ ((wb.alloc (.cells (frC U B1 B2 B3 e1 e2 e3).toArray 60)).alloc (.cells #[.int .i64 0, .int .i64 0] 40))
    rw [← hv]
    clear hv
    generalize wb.heap.size + 1 = h5 at HZ ⊢
    generalize wb.heap.size = g5 at HY ⊢
    have z0 := HZ.out.cell 0
    have z1 := HZ.out.cell 1
    simp only [List.getElem?_cons_zero, List.getElem?_cons_succ] at z0 z1
    have y0 := HY.out.cell 0
    have y1 := HY.out.cell 1
    have y2 := HY.out.cell 2
    have y3 := HY.out.cell 3
    have y4 := HY.out.cell 4
    have y5 := HY.out.cell 5
    have y6 := HY.out.cell 6
    have y7 := HY.out.cell 7
    have y8 := HY.out.cell 8
    have y9 := HY.out.cell 9
    have y10 := HY.out.cell 10
    simp only [List.getElem?_cons_zero, List.getElem?_cons_succ] at y0 y1 y2 y3 y4 y5 y6 y7 y8 y9 y10
    go_wp2_with fail
    refine (frameEncode_n U b b.length B1 B2 B3 e1 e2 e3 _ HFU.out HS.out HU.out.2 rfl).mono ?_
    rintro x wd ⟨⟨A6, d6, rfl, l6, m6, r6⟩, hk⟩
    rw [HU.out.1]
    replace K0 := Lib.hid (K0.out.trans hk)
    have R6 := Lib.hid r6
    clear hk l6 m6 r6 z0 z1 y0 y1 y2 y3 y4 y5 y6 y7 y8 y9 y10
    go_wp2_with fail
    refine (live19_any _).mono ?_
    rintro x we ⟨rfl, hk⟩
    replace K0 := Lib.hid (K0.out.trans hk)
    replace R6 := Lib.hid (R6.out.kept0 hk)
    clear hk
    go_wp2_with fail
    refine (sameBytes_n b b _ _ A6 B d6 d _ rfl rfl R6.out (HB.out.kept0 K0.out) (by have := HL.out; unfold maxLen; omega) (by have := HL.out; unfold maxLen; omega)).mono ?_
    rintro x wq ⟨rfl, nq, rfl⟩
    rw [show decide (b = b) = true from decide_eq_true rfl]
    go_wp2_with fail
    go_ret
    exact ⟨rfl, K0.out.drewN nq⟩

set_option maxRecDepth 100000 in
theorem frameBack_lifted (os : Os) (started : os.Started) (H : Type) (enc : TypeId × Value → H) :
    ReturnsInHanded {} Try.checked os 9 .any (Rows.frameBackSpec.pre6 enc Try.prog Try.f9 Rows.frameBackRow.domain false) (Rows.frameBackSpec.post enc Try.prog Try.f9 false true false false) := by
  refine returnsInHanded_of_change (C := Try.checked) own started (by kernel_rfl) Try.func9
    (ChangeSpec.witness6 (enc := enc) (C := Try.checked) false ⟨#[], #[.agg #[.int .i64 0, .int .i64 0, .int .i64 0, .int .i64 0, .int .i64 0, .int .i64 0, .slice none 0 0, .slice none 0 0, .slice none 0 0, .int .i64 0, .bool false], .slice none 0 0], []⟩ 8 (by kernel_rfl) (by kernel_rfl) (by kernel_rfl) (by kernel_rfl)) ?_
  intro W base args ds gs before hval0 hW hcnd _
  have hval : ∀ (j : Nat) t v, Try.f9.params[j]? = some t → args[j]? = some v → Value.okWide Try.prog W .any base t v := hval0
  have hW' := hW
  obtain ⟨p, q, hA0, hV, rfl, hfz, hnd⟩ := hW
  have hA : DataW.TrodAll enc Try.prog W 0 (fun _ => true) true Try.f9.params.toList args.toList ds p := hA0
  rw [Try.params9] at hA hval
  obtain ⟨v0, vs0, d0, ds0, p0, q0, hargs, rfl, rfl, h0, r0⟩ := trodAll_cons hA
  obtain ⟨v1, vs1, d1, ds1, p1, q1, rfl, rfl, rfl, h1, r1⟩ := trodAll_cons r0
  obtain ⟨rfl, rfl, rfl⟩ := trodAll_nil r1
  obtain rfl : args = #[v0, v1] := by cases args; simp_all
  obtain ⟨rfl, rfl⟩ := trodVars_none hV
  obtain ⟨F, A1, A2, A3, c1, c2, c3, rfl, hF, f1, f2, f3, hI⟩ := open_frame (hval 0 60 v0 rfl rfl) h0
  obtain ⟨B, d, l, rfl, hl, hm, hr, _⟩ := open_bytes Try.underlying25 Try.underlying5 cellsU8 (hval 1 25 v1 rfl rfl) h1
  refine (frameBack_walk F l A1 A2 A3 B c1 c2 c3 d W hF f1 f2 f3 hI (by omega) hr).mono fun e W' ⟨he, hk⟩ => ?_
  exact ⟨_, he, post_true rfl Try.underlying4 rfl rfl rfl rfl laidOut (by decide +kernel) hW' hk⟩

theorem frameBack_holds : Rows.FrameBackSaid :=
  OpenClaim.holds_of_wide 9 Try.f9 rfl rfl rfl rfl rfl rfl rfl ⟨rfl, rfl, rfl, rfl, rfl⟩ rfl rfl rfl rfl rfl (by kernel_rfl) Try.func9 (by kernel_rfl)
    (of_decide_eq_true (by kernel_rfl)) (by unfold Func.isWrapper; first | (rw [if_pos (by decide +kernel)]; kernel_rfl) | (rw [if_neg (by decide +kernel)]; exact ⟨rfl, rfl⟩))
    (fun os started H enc _ => frameBack_lifted os started H enc)
end Go.Proofs.Ytdjidnccockmmaa
