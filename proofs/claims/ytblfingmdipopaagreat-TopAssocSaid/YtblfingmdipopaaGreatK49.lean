/- fretworklaw07.Some, (fretworklaw13.Task).Matrix: matrices of few triples. Conditions: none but that sizes are bytes. -/
import Derived.Test.YtblfingmdipopaaGreatK25
import Derived.Test.YtblfingmdipopaaGreatK27
import Derived.Test.YtblfingmdipopaaGreatK16
namespace Go.Proofs.YtblfingmdipopaaGreat
set_option linter.unusedSimpArgs false
set_option linter.unusedVariables false
open Go.ChangeShapes Go.WideShapes Go.ChangeAt Go.RowKit
open Go.RowKit (wrap32 wrap64)
set_option maxHeartbeats 8000000

def okS (n m : Nat) (e : Ed) : Bool := !(decide (e.1 < 0) || decide (e.2.1 < 0) || decide (n = 0) || decide (m = 0))
def modS (n m : Nat) (e : Ed) : Ed := (e.1.tmod n, e.2.1.tmod m, e.2.2)
/-- The triples that Some takes. -/
def someL (n m : Nat) (l : List Ed) : List Ed := madeP (modS n m) (okS n m) (l.take 60)
theorem someL_len (n m : Nat) (l : List Ed) : (someL n m l).length ≤ 60 := Nat.le_trans (madeP_length _ _ _) (List.length_take_le 60 l)
theorem someL_64 (n m : Nat) {l : List Ed} (h : ∀ e ∈ l, In64 e.2.2) : ∀ e ∈ someL n m l, In64 e.2.2 := madeP_in (fun _ he => he) (fun e he => h e (List.mem_of_mem_take he))
theorem someL_in (n m : Nat) (l : List Ed) : InM n m (someL n m l) := fun e he => by
  unfold someL madeP at he
  obtain ⟨x, hx, rfl⟩ := List.mem_map.1 he
  have h := (List.mem_filter.1 hx).2
  simp [okS] at h
  have h1 : (0 : Int) < (n : Int) := by omega
  have h2 : (0 : Int) < (m : Int) := by omega
  refine ⟨⟨Int.tmod_nonneg _ h.1.1.1, Int.tmod_lt_of_pos _ h1⟩, Int.tmod_nonneg _ h.1.1.2, Int.tmod_lt_of_pos _ h2⟩
theorem infoTwo8 : (Tryz.prog.info? 72).map (·.size) = some 2 := by kernel_rfl
theorem infoTrip : (Tryz.prog.info? 84).map (·.size) = some 3 := by kernel_rfl

set_option maxRecDepth 100000 in
theorem some7_any (a b : Nat) (ha : a < 256) (hb : b < 256) (l : List Ed) (A : Option Addr) (c : Nat) (w : World) (hl : l.length ≤ maxLen) (hc : l.length ≤ c) (hcm : c ≤ maxLen) (hA : Reads w A (l.flatMap edV)) (hw : ∀ e ∈ l, In64 e.2.2) :
    Calls Tryz.prog 42 #[.agg #[.int .u8 (a : Int), .int .u8 (b : Int)], .slice A l.length c] w (MtPost w (a % 40) (b % 40) (canonP (someL (a % 40) (b % 40) l))) := by
  obtain ⟨n, hn⟩ : ∃ n, n = a % 40 := ⟨_, rfl⟩
  obtain ⟨m, hm⟩ : ∃ m, m = b % 40 := ⟨_, rfl⟩
  have HSA := Lib.hid (fun w => by rw [hn]; exact size_any a ha w : ∀ w, Calls Tryz.prog 77 #[.int .u8 (a : Int)] w fun e w' => e = .returned (.int .i64 (n : Int)) ∧ w' = w)
  have HSB := Lib.hid (fun w => by rw [hm]; exact size_any b hb w : ∀ w, Calls Tryz.prog 77 #[.int .u8 (b : Int)] w fun e w' => e = .returned (.int .i64 (m : Int)) ∧ w' = w)
  have HN := Lib.hid (show n ≤ 4096 ∧ m ≤ 4096 by omega)
  rw [← hn, ← hm]
  have HA := Lib.hid (hA.take 60)
  have HW := Lib.hid (someL_64 n m hw)
  have HIN := Lib.hid (someL_in n m l)
  have HLL := Lib.hid (someL_len n m l)
  have HC := Lib.hid (show l.length ≤ maxLen ∧ l.length ≤ c ∧ c ≤ maxLen from ⟨hl, hc, hcm⟩)
  clear hA hw hl hc hcm ha hb hn hm
  obtain ⟨post, hpost⟩ : ∃ post : Ending → World → Prop, post = MtPost w n m (canonP (someL n m l)) := ⟨_, rfl⟩
  rw [← hpost]
  have HPOST := Lib.hid hpost
  clear hpost
  have HB := Lib.hid ((Blk.new w 72 [.int .u8 (a : Int), .int .u8 (b : Int)]).alloc (.cells #[.int .i64 0, .int .i64 0, .slice none 0 0, .slice none 0 0, .slice none 0 0] 31))
  have HZ := Lib.hid (Blk.new1F w (.cells #[.int .u8 (a : Int), .int .u8 (b : Int)] 72) 31 [.int .i64 0, .int .i64 0, .slice none 0 0, .slice none 0 0, .slice none 0 0])
  have K0 := Lib.hid (((Kept.refl [] w).alloc (.cells #[.int .u8 (a : Int), .int .u8 (b : Int)] 72)).alloc (.cells #[.int .i64 0, .int .i64 0, .slice none 0 0, .slice none 0 0, .slice none 0 0] 31))
  have HGE := Lib.hid (show w.heap.size ≤ w.heap.size + 1 by omega)
  go_enter Tryz.func42, Tryz.ntmps42
  go_upto_region 1 with (fail)
  generalize ((w.alloc (.cells #[.int .u8 (a : Int), .int .u8 (b : Int)] 72)).alloc (.cells #[.int .i64 0, .int .i64 0, .slice none 0 0, .slice none 0 0, .slice none 0 0] 31)) = w1 at *
  generalize w.heap.size + 1 = gz at HZ HGE ⊢
  generalize hgb : w.heap.size = gb at HB ⊢
  clear hgb
  have y0 := HB.out.cell 0
  have y1 := HB.out.cell 1
  simp only [List.getElem?_cons_zero, List.getElem?_cons_succ] at y0 y1
  go_quiet ((go_at_call 77; first | exact quietS (HSA.out _) | exact quietS (HSB.out _)))
  clear y0 y1 HB HSA HSB
  replace HZ := Lib.hid (HZ.out.kept ((Kept.refl [] w1).drewN nq) (by simp))
  replace K0 := Lib.hid (K0.out.trans ((Kept.refl [] w1).drewN nq))
  generalize w1.drewN nq = w2 at *
  go_wp2_with fail
  refine (few7_any l A c _ HC.out.1 HC.out.2.1 HC.out.2.2).mono ?_
  rintro _ w2 ⟨rfl, rfl⟩
  obtain ⟨L, hL⟩ : ∃ L, L = l.take 60 := ⟨_, rfl⟩
  rw [← hL] at HA ⊢
  have HSM := Lib.hid (show someL n m l = madeP (modS n m) (okS n m) L by rw [hL]; rfl)
  have hLL : L.length ≤ 60 := by rw [hL]; exact List.length_take_le 60 l
  clear hL HC
  go_wp2_with fail
  go_loopw [7, 8] (fun v x wr => ∃ k : Nat, k ≤ L.length ∧ x = .int .i64 k ∧ ∃ M : List Ed, Hid (wr.ownsRow w.heap.size 84 3 v M.length (M.flatMap edV)) ∧ Hid (M = madeP (modS n m) (okS n m) (L.take k)) ∧ Hid (Blk wr gz 31 [.int .i64 0, .int .i64 0, .slice none 0 0, .slice none 0 0, .slice none 0 0]) ∧ Hid (Kept [] w wr)) (fun _ x _ => L.length - (intOf x).toNat)
  case atStart => exact ⟨0, Nat.zero_le _, rfl, [], Lib.hid (World.ownsRow_nil _ _ _ _), Lib.hid rfl, HZ, K0⟩
  case round =>
    clear HZ K0
    obtain ⟨k, hk, rfl, M, HO, HL, HZ, K0⟩ := hrel
    obtain ⟨v, hv⟩ : ∃ v, v = u7 := ⟨_, rfl⟩
    subst hv
    obtain ⟨A5, c5, rfl⟩ := own_n HO.out
    have HML := Lib.hid (show M.length ≤ 60 by rw [HL.out]; exact Nat.le_trans (madeP_length _ _ _) (by rw [List.length_take]; omega))
    by_cases hlt : k < L.length
    · have HTK := Lib.hid (madeP_succ (modS n m) (okS n m) L hlt)
      obtain ⟨b0, off, rfl, hbl, c0, c1, c2⟩ := edge_at (HA.out.kept0 K0.out) hlt
      obtain ⟨x, hx⟩ : ∃ x, x = L[k] := ⟨_, rfl⟩
      rw [← hx] at c0 c1 c2 HTK
      clear hx
      obtain ⟨x1, x2, x3⟩ := x
      dsimp only at c0 c1 c2
      by_cases h1 : x1 < 0
      · have HOK := Lib.hid (show okS n m (x1, x2, x3) = false by simp [okS]; try omega)
        go_wp2_with fail
        go_roundw
        case rel =>
          refine ⟨k + 1, by omega, by go_num, M, Lib.hid (own_kept0 HO.out ((Kept.refl [] wr).alloc _)), Lib.hid ?_, Lib.hid (HZ.out.kept ((Kept.refl [] wr).alloc _) (by simp)), Lib.hid (K0.out.trans ((Kept.refl [] wr).alloc _))⟩
          rw [HTK.out, HOK.out]
          simpa using HL.out
        case measure => simp [intOf]; omega
      by_cases h2 : x2 < 0
      · have HOK := Lib.hid (show okS n m (x1, x2, x3) = false by simp [okS]; try omega)
        go_wp2_with fail
        go_roundw
        case rel =>
          refine ⟨k + 1, by omega, by go_num, M, Lib.hid (own_kept0 HO.out ((Kept.refl [] wr).alloc _)), Lib.hid ?_, Lib.hid (HZ.out.kept ((Kept.refl [] wr).alloc _) (by simp)), Lib.hid (K0.out.trans ((Kept.refl [] wr).alloc _))⟩
          rw [HTK.out, HOK.out]
          simpa using HL.out
        case measure => simp [intOf]; omega
      by_cases h3 : n = 0
      · subst h3
        have HOK := Lib.hid (show okS 0 m (x1, x2, x3) = false by simp [okS]; try omega)
        go_wp2_with fail
        go_roundw
        case rel =>
          refine ⟨k + 1, by omega, by go_num, M, Lib.hid (own_kept0 HO.out ((Kept.refl [] wr).alloc _)), Lib.hid ?_, Lib.hid (HZ.out.kept ((Kept.refl [] wr).alloc _) (by simp)), Lib.hid (K0.out.trans ((Kept.refl [] wr).alloc _))⟩
          rw [HTK.out, HOK.out]
          simpa using HL.out
        case measure => simp [intOf]; omega
      by_cases h4 : m = 0
      · subst h4
        have HOK := Lib.hid (show okS n 0 (x1, x2, x3) = false by simp [okS]; try omega)
        go_wp2_with fail
        go_roundw
        case rel =>
          refine ⟨k + 1, by omega, by go_num, M, Lib.hid (own_kept0 HO.out ((Kept.refl [] wr).alloc _)), Lib.hid ?_, Lib.hid (HZ.out.kept ((Kept.refl [] wr).alloc _) (by simp)), Lib.hid (K0.out.trans ((Kept.refl [] wr).alloc _))⟩
          rw [HTK.out, HOK.out]
          simpa using HL.out
        case measure => simp [intOf]; omega
      have h3' : ((n : Int) == 0) = false := by simp; omega
      have h4' : ((m : Int) == 0) = false := by simp; omega
      have HOK := Lib.hid (show okS n m (x1, x2, x3) = true by simp [okS]; try omega)
      obtain ⟨r1, hr1, hr1'⟩ := tmod_pos (n := n) (show 0 ≤ x1 by omega) h3
      obtain ⟨r2, hr2, hr2'⟩ := tmod_pos (n := m) (show 0 ≤ x2 by omega) h4
      have HMD := Lib.hid (show modS n m (x1, x2, x3) = ((r1 : Int), (r2 : Int), x3) by unfold modS; rw [hr1, hr2])
      go_upto_region 9 with (fail)
      have kd := Lib.hid ((Kept.refl [] wr).alloc (.cells #[.int .i64 x1, .int .i64 x2, .int .i64 x3] 84))
      have HX := Lib.hid (Blk.new wr 84 [.int .i64 x1, .int .i64 x2, .int .i64 x3])
      have HNX := Lib.hid (fun q hq => (HO.out.lt q hq).2 : ∀ q, (Value.slice A5 M.length c5).ownBlock = some q → q < wr.heap.size)
      have HGX := Lib.hid (show w.heap.size ≤ wr.heap.size ∧ gz < wr.heap.size from ⟨K0.out.size, HZ.out.lt⟩)
      replace HZ := Lib.hid (HZ.out.kept kd.out (by simp))
      replace HO := Lib.hid (own_kept0 HO.out kd.out)
      replace K0 := Lib.hid (K0.out.trans kd.out)
      clear kd c0 c1 c2 hbl
      generalize wr.alloc (.cells #[.int .i64 x1, .int .i64 x2, .int .i64 x3] 84) = w5 at *
      generalize wr.heap.size = gx at HX HNX HGX ⊢
      have d0 := HX.out.cell 0
      simp only [List.getElem?_cons_zero, List.getElem?_cons_succ] at d0
      have f0 := HX.out.frozen 0
      have lx := HX.out.lt
      go_upto_region 10 with (fail)
      have ko := (Kept.refl [gx] w5).setCell (p := ⟨gx, 0, none⟩) (.inl (by simp)) (.int .i64 r1)
      replace HO := Lib.hid (own_kept HO.out ko (fun q hq => by have := HNX.out q hq; simp; omega))
      replace HZ := Lib.hid (HZ.out.kept ko (by simp; have := HGX.out.2; omega))
      replace HX := Lib.hid (HX.out.set 0 (.int .i64 r1))
      simp only [List.set_cons_zero, List.set_cons_succ] at HX
      replace K0 := Lib.hid (K0.out.then ko (fun u hu => by simp at hu; subst hu; exact .inr HGX.out.1))
      clear ko d0 f0 lx
      generalize w5.setCell ⟨gx, 0, none⟩ (.int .i64 r1) = w6 at *
      have d1 := HX.out.cell 1
      simp only [List.getElem?_cons_zero, List.getElem?_cons_succ] at d1
      have f1 := HX.out.frozen 1
      have lx := HX.out.lt
      go_upto_region 11 with (fail)
      have ko := (Kept.refl [gx] w6).setCell (p := ⟨gx, 1, none⟩) (.inl (by simp)) (.int .i64 r2)
      replace HO := Lib.hid (own_kept HO.out ko (fun q hq => by have := HNX.out q hq; simp; omega))
      replace HZ := Lib.hid (HZ.out.kept ko (by simp; have := HGX.out.2; omega))
      replace HX := Lib.hid (HX.out.set 1 (.int .i64 r2))
      simp only [List.set_cons_zero, List.set_cons_succ] at HX
      replace K0 := Lib.hid (K0.out.then ko (fun u hu => by simp at hu; subst hu; exact .inr HGX.out.1))
      clear ko d1 f1 lx hr1 hr1' hr2 hr2' h1 h2 h3 h4 h3' h4'
      generalize w6.setCell ⟨gx, 1, none⟩ (.int .i64 r2) = w7 at *
      have hsz := K0.out.size
      have hml := HML.out
      go_wp2_with (first | (refine wpList_loadBlk rfl 84 (.tmp 9) rfl gx [.int .i64 r1, .int .i64 r2, .int .i64 x3] _ HX.out rfl Tryz.underlying84 rfl infoTrip ?_) | (at_builtin; refine wpList_app _ rfl (.tmp 56) (.tmp 58) _ rfl 84 (.agg #[.int .i64 0, .int .i64 0, .int .i64 0]) 3 24 Tryz.underlying24 infoTrI rfl (by decide) w.heap.size (.slice A5 M.length c5) M.length _ rfl (HO.out.alloc _) (some ⟨_, 0, none⟩) 1 1 (edV ((r1 : Int), (r2 : Int), x3)) rfl rfl (Reads.of_blk (Blk.new _ _ _) (fun _ _ h => h)) (by simp [edV, Value.oneCell']) (by omega) (by unfold maxLen; omega) (by simp; omega) ?_; intro va wa howna hka hba; have HOa := Lib.hid howna; have Fa := Lib.hid (((KeptB.refl w.heap.size [84] w7).alloc _).app hka (HO.out.alloc _) (by decide)); clear howna hka hba))
      go_roundw
      case rel =>
        refine ⟨k + 1, by omega, by go_num, M ++ [((r1 : Int), (r2 : Int), x3)], Lib.hid ?_, Lib.hid ?_, Lib.hid (HZ.out.keptB Fa.out (by decide)), Lib.hid (K0.out.thenB Fa.out (Nat.le_refl _))⟩
        · have := HOa.out
          rw [List.flatMap_append]
          simpa [edV] using this
        · rw [HTK.out, HOK.out, HMD.out, HL.out]
          rfl
      case measure => simp [intOf]; omega
    · obtain rfl : k = L.length := by omega
      rw [List.take_length] at HL
      have HM := Lib.hid (HL.out.trans HSM.out.symm)
      have HLM := Lib.hid (show M.length ≤ 65536 by have := HML.out; omega)
      rw [← HM.out] at HW HIN HPOST
      clear HL HM HSM HLL HML hLL
      go_wp2_with fail
      refine (refOf7_any n m M A5 c5 wr HN.out.1 HN.out.2 HLM.out (Reads.of_own HO.out) HW.out HIN.out).mono ?_
      rintro _ w3 ⟨u, rfl, v1, v2, v3, hq, hm3, hk3⟩
      injection hq with hq
      subst hq
      replace HZ := Lib.hid (HZ.out.kept hk3 (by simp))
      have HM := Lib.hid (hm3.le K0.out.size)
      replace K0 := Lib.hid (K0.out.trans hk3)
      clear hm3 hk3 HO
      obtain ⟨C, hC⟩ : ∃ C, C = canonP M := ⟨_, rfl⟩
      rw [← hC] at HM HPOST
      clear hC
      obtain ⟨b1, c1, B2, d2, B3, d3, rfl, rfl, rfl, _, _⟩ := HM.out.form
      go_wp2_with (first | (refine wpList_storeBlk rfl 31 (.tmp 10) (.tmp 65) rfl w3.heap.size [.int .i64 0, .int .i64 0, .slice none 0 0, .slice none 0 0, .slice none 0 0] [.int .i64 n, .int .i64 m, .slice (some ⟨b1, 0, none⟩) (n + 1) c1, .slice B2 C.length d2, .slice B3 C.length d3] (Blk.new _ _ _) rfl rfl rfl infoRows (by simp [Value.oneCell']) ?_; intro w4 hb4 hk4) | (refine wpList_loadBlk rfl 31 (.tmp 10) rfl w3.heap.size [.int .i64 n, .int .i64 m, .slice (some ⟨b1, 0, none⟩) (n + 1) c1, .slice B2 C.length d2, .slice B3 C.length d3] _ hb4 rfl Tryz.underlying31 rfl infoRows ?_) | (refine wpList_storeBlk rfl 31 (.tmp 4) (.tmp 72) rfl gz _ [.int .i64 n, .int .i64 m, .slice (some ⟨b1, 0, none⟩) (n + 1) c1, .slice B2 C.length d2, .slice B3 C.length d3] (((HZ.out.alloc _).kept hk4 (by simp; have := HZ.out.lt; omega))) rfl rfl rfl infoRows (by simp [Value.oneCell']) ?_; intro w8 hb8 hk8))
      have e0 := hb8.cell 0
      have e1 := hb8.cell 1
      have e2 := hb8.cell 2
      have e3 := hb8.cell 3
      have e4 := hb8.cell 4
      simp only [List.getElem?_cons_zero, List.getElem?_cons_succ] at e0 e1 e2 e3 e4
      refine bodyPost_ret (v := .agg #[.int .i64 n, .int .i64 m, .slice (some ⟨b1, 0, none⟩) (n + 1) c1, .slice B2 C.length d2, .slice B3 C.length d3]) (by simp [results, Tryz.results42, go_sem, e0, e1, e2, e3, e4]) rfl ?_
      rw [HPOST.out]
      have k4 : Kept [] w3 w4 := ((Kept.refl [] w3).alloc _).then hk4 (fun q hq => by simp at hq; subst hq; exact .inr (Nat.le_refl _))
      have f8 : KeptB w.heap.size [31] w4 w8 := (KeptB.refl _ _ w4).step (L := [gz]) hk8 (fun u hu => by simp at hu; subst hu; exact ⟨HGE.out, _, _, _, HZ.out.kept k4 (by simp), by simp⟩)
      exact ⟨_, _, _, rfl, (HM.out.kept0 k4).keptB f8 (by decide) (by decide), (K0.out.trans k4).thenB f8 (Nat.le_refl _)⟩
end Go.Proofs.YtblfingmdipopaaGreat
