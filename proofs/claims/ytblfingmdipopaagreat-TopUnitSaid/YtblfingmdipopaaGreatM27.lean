/- spvec.Right, sure, find, Get, Places of vectors that can be. Conditions: none but those of the lemmas. -/
import Derived.Test.YtblfingmdipopaaGreatM26
import Derived.Test.YtblfingmdipopaaGreatM23
namespace Go.Proofs.YtblfingmdipopaaGreat
set_option linter.unusedSimpArgs false
set_option linter.unusedVariables false
open Go.ChangeShapes Go.WideShapes Go.ChangeAt Go.RowKit
open Go.RowKit (wrap32 wrap64)
set_option maxHeartbeats 8000000
theorem sWithin_c (a b : Int) (w : World) : Calls Tryz.prog 179 #[.int .i64 a, .int .i64 b] w fun e w' => e = .returned (.bool (decide (0 ≤ a) && decide (a ≤ b))) ∧ w' = w := by
  by_cases h1 : 0 ≤ a
  · have HD := Lib.hid (show (decide (0 ≤ a) && decide (a ≤ b)) = decide (a ≤ b) by simp [h1])
    go_enter Tryz.func179, Tryz.ntmps179
    go_wp2_with fail
    go_ret
    exact ⟨ret_bool (by rw [HD.out]), rfl⟩
  · have HD := Lib.hid (show (decide (0 ≤ a) && decide (a ≤ b)) = false by simp [h1])
    go_enter Tryz.func179, Tryz.ntmps179
    go_wp2_with fail
    go_ret
    exact ⟨ret_bool (by rw [HD.out]), rfl⟩
theorem sWithin_yes (a b : Int) (w : World) (h : 0 ≤ a ∧ a ≤ b) : Calls Tryz.prog 179 #[.int .i64 a, .int .i64 b] w fun e w' => e = .returned (.bool true) ∧ w' = w := by
  have h1 := sWithin_c a b w
  rwa [show (decide (0 ≤ a) && decide (a ≤ b)) = true by simp [h.1, h.2]] at h1
theorem right1_any (x2 x3 last : Int) (n gl gv : Nat) (vs : Value) (w : World) (h1 : Blk w gl 3 [.int .i64 last]) (h2 : Blk w gv 35 [.int .i64 n, vs]) (hx : last < x2 ∧ x2 < n) :
    Calls Tryz.prog 181 #[.agg #[.int .i64 x2, .int .i64 x3], .pointer (some ⟨gl, 0, none⟩), .pointer (some ⟨gv, 0, none⟩)] w fun e w' => e = .returned (.bool false) ∧ Blk w' gl 3 [.int .i64 x2] ∧ Kept [gl] w w' := by
  have k0 := (Kept.refl [gl] w).alloc (.cells #[.int .i64 x2, .int .i64 x3] 38)
  have HX := Lib.hid (Blk.new w 38 [.int .i64 x2, .int .i64 x3])
  have HL := Lib.hid (h1.alloc (.cells #[.int .i64 x2, .int .i64 x3] 38))
  have HV := Lib.hid (h2.alloc (.cells #[.int .i64 x2, .int .i64 x3] 38))
  have HK := Lib.hid k0
  have n1 : ¬ x2 ≤ last := by omega
  have n2 : ¬ (n : Int) ≤ x2 := by omega
  clear k0 h1 h2 hx
  go_enter Tryz.func181, Tryz.ntmps181
  go_upto_region 1 with (fail)
  generalize w.alloc (.cells #[.int .i64 x2, .int .i64 x3] 38) = w1 at *
  generalize w.heap.size = gx at HX ⊢
  have c0 := HX.out.cell 0
  have d0 := HL.out.cell 0
  have v0 := HV.out.cell 0
  simp only [List.getElem?_cons_zero] at c0 d0 v0
  have fl := HL.out.frozen 0
  have ll := HL.out.lt
  go_wp2_with fail
  go_ret
  exact ⟨rfl, HL.out.set 0 _, HK.out.setCell (.inl (by simp)) _⟩
theorem Reads.keptA {w w' : World} {A : Option Addr} {X : List Ed} {g : Nat} (h : Reads w A (X.flatMap itV)) (hk : Kept [g] w w') (hg : X = [] ∨ Apart A [g]) : Reads w' A (X.flatMap itV) := by
  rcases hg with rfl | hg
  · exact Reads.nil _ _
  · exact h.kept hk hg
def lastP (X : List Ed) (k : Nat) : Int := if h : 0 < k ∧ k ≤ X.length then (X[k - 1]'(by omega)).2.1 else -1
theorem lastP_zero (X : List Ed) : lastP X 0 = -1 := by simp [lastP]
theorem lastP_succ (X : List Ed) {k : Nat} (h : k < X.length) : lastP X (k + 1) = X[k].2.1 := by
  unfold lastP
  rw [dif_pos (by omega)]
  simp
theorem lastP_lt {n : Nat} {X : List Ed} (hok : VcOk n X) {k : Nat} (h : k < X.length) : lastP X k < X[k].2.1 := by
  cases k with
  | zero =>
    rw [lastP_zero]
    have := (hok.inn X[0] (List.getElem_mem h)).2.1
    omega
  | succ k =>
    rw [lastP_succ X (by omega)]
    exact vc_step hok h
set_option maxRecDepth 100000 in
theorem indexI_any (X : List Ed) (n gl gv c : Nat) (A : Option Addr) (vs : Value) (w : World) (hok : VcOk n X) (h1 : Blk w gl 3 [.int .i64 (-1)]) (h2 : Blk w gv 35 [.int .i64 n, vs]) (hr : Reads w A (X.flatMap itV)) (hap : X = [] ∨ Apart A [gl]) :
    Calls Tryz.prog 200 #[.slice A X.length c, .func (.func 181) #[] #[.pointer (some ⟨gl, 0, none⟩), .pointer (some ⟨gv, 0, none⟩)]] w fun e w' => e = .returned (.int .i64 (-1)) ∧ Kept [gl] w w' := by
  have hll := hok.len
  have HOK := Lib.hid hok
  have HR := Lib.hid hr
  have HV := Lib.hid h2
  have HAP := Lib.hid hap
  have HL := Lib.hid (show Blk w gl 3 [.int .i64 (lastP X 0)] by rw [lastP_zero]; exact h1)
  have HNE := Lib.hid (show gv ∉ [gl] by have := Blk.ne h2 h1 (by decide); simpa using this)
  clear hok hr h1 h2 hap
  go_enter Tryz.func200, Tryz.ntmps200
  go_wp2_with fail
  go_loopw [8] (fun i wr => ∃ k : Nat, k ≤ X.length ∧ i = .int .i64 k ∧ Hid (Blk wr gl 3 [.int .i64 (lastP X k)]) ∧ Hid (Kept [gl] w wr)) (fun i _ => X.length - (intOf i).toNat)
  case atStart => exact ⟨0, Nat.zero_le _, rfl, HL, Lib.hid (Kept.refl _ _)⟩
  case round =>
    clear HL
    obtain ⟨k, hk, rfl, HL, KW⟩ := hrel
    by_cases hlt : k < X.length
    · obtain ⟨b, off, rfl, hbl, c0, c1⟩ := it_at (Reads.keptA HR.out KW.out HAP.out) hlt
      have HB := Lib.hid (show lastP X k < X[k].2.1 ∧ X[k].2.1 < n from ⟨lastP_lt HOK.out hlt, (HOK.out.inn _ (List.getElem_mem hlt)).2.2⟩)
      have HS := Lib.hid (lastP_succ X hlt)
      obtain ⟨x, hx⟩ : ∃ x, x = X[k] := ⟨_, rfl⟩
      rw [← hx] at c0 c1 HB HS
      clear hx
      obtain ⟨x1, x2, x3⟩ := x
      dsimp only at c0 c1 HB HS
      obtain ⟨q, hq⟩ : ∃ q, q = lastP X k := ⟨_, rfl⟩
      rw [← hq] at HB HL
      clear hq
      go_wp2_with fail
      refine (right1_any x2 x3 q n gl gv vs _ HL.out (HV.out.kept KW.out HNE.out) HB.out).mono ?_
      rintro e w1 ⟨rfl, hb1, hk1⟩
      have HL1 := Lib.hid (show Blk w1 gl 3 [.int .i64 (lastP X (k + 1))] by rw [HS.out]; exact hb1)
      have KW1 := Lib.hid (KW.out.trans hk1)
      clear hk1 hb1 c0 c1 hbl
      go_wp2_with fail
      go_roundw
      case rel => exact ⟨k + 1, by omega, by go_num, HL1, KW1⟩
      case measure => simp [intOf]; omega
    · go_wp2_with fail
      go_ret
      exact ⟨rfl, KW.out⟩
theorem containsI_any (X : List Ed) (n gl gv c : Nat) (A : Option Addr) (vs : Value) (w : World) (hok : VcOk n X) (h1 : Blk w gl 3 [.int .i64 (-1)]) (h2 : Blk w gv 35 [.int .i64 n, vs]) (hr : Reads w A (X.flatMap itV)) (hap : X = [] ∨ Apart A [gl]) :
    Calls Tryz.prog 180 #[.slice A X.length c, .func (.func 181) #[] #[.pointer (some ⟨gl, 0, none⟩), .pointer (some ⟨gv, 0, none⟩)]] w fun e w' => e = .returned (.bool false) ∧ Kept [gl] w w' := by
  have HI := Lib.hid (indexI_any X n gl gv c A vs w hok h1 h2 hr hap)
  clear hok hr h1 h2 hap
  go_enter Tryz.func180, Tryz.ntmps180
  go_wp2_with fail
  refine HI.out.mono ?_
  rintro _ w1 ⟨rfl, hk⟩
  have HK := Lib.hid hk
  clear hk
  go_wp2_with fail
  go_ret
  exact ⟨rfl, HK.out⟩
theorem apart_new {w : World} {X : List Ed} {A : Option Addr} (hr : Reads w A (X.flatMap itV)) {g : Nat} (hg : w.heap.size ≤ g) : X = [] ∨ Apart A [g] := by
  cases X with
  | nil => exact .inl rfl
  | cons x l =>
    right
    obtain ⟨b, off, rfl, hb, _⟩ := hr (by simp [itV])
    rintro ad h
    injection h with h
    subst h
    simp
    omega
set_option maxRecDepth 100000 in
theorem sRight_any (n c : Nat) (X : List Ed) (A : Option Addr) (w : World) (hok : VcOk n X) (hr : Reads w A (X.flatMap itV)) :
    Calls Tryz.prog 157 #[.agg #[.int .i64 n, .slice A X.length c]] w fun e w' => e = .returned (.bool true) ∧ Kept [] w w' := by
  have hnn := hok.num
  have k0 := (Kept.refl [] w).alloc (.cells #[.int .i64 n, .slice A X.length c] 35)
  have HV := Lib.hid (Blk.new w 35 [.int .i64 n, .slice A X.length c])
  have HR := Lib.hid (hr.kept0 k0)
  have HRW := Lib.hid hr
  have HK := Lib.hid k0
  have HOK := Lib.hid hok
  clear k0 hr hok
  go_enter Tryz.func157, Tryz.ntmps157
  go_upto_region 1 with (fail)
  generalize w.alloc (.cells #[.int .i64 n, .slice A X.length c] 35) = w1 at *
  generalize w.heap.size = gv at HV ⊢
  have v0 := HV.out.cell 0
  have v1 := HV.out.cell 1
  simp only [List.getElem?_cons_zero, List.getElem?_cons_succ] at v0 v1
  go_wp2_with fail
  refine (sWithin_yes n 4096 _ (by omega)).mono ?_
  rintro _ w2 ⟨rfl, hw2⟩
  subst hw2
  have HL := Lib.hid (Blk.new w2 3 [.int .i64 (-1)])
  have hk3 := (Kept.refl [] w2).alloc (.cells #[.int .i64 (-1)] 3)
  have v0' := (HV.out.kept hk3 (by simp)).cell 0
  have v1' := (HV.out.kept hk3 (by simp)).cell 1
  simp only [List.getElem?_cons_zero, List.getElem?_cons_succ] at v0' v1'
  clear hk3
  go_wp2_with fail
  refine (containsI_any X n w2.heap.size gv c A _ _ HOK.out HL.out (HV.out.kept ((Kept.refl [] w2).alloc _) (by simp)) (HR.out.kept0 ((Kept.refl [] w2).alloc _)) (apart_new HR.out (Nat.le_refl _))).mono ?_
  rintro _ w3 ⟨rfl, hk3⟩
  have HK3 := Lib.hid ((HK.out.trans ((Kept.refl [] w2).alloc (.cells #[.int .i64 (-1)] 3))).then hk3 (fun u hu => by simp at hu; subst hu; exact .inr HK.out.size))
  clear hk3 v0 v1 v0' v1'
  go_wp2_with fail
  go_ret
  exact ⟨rfl, HK3.out⟩
set_option maxRecDepth 100000 in
theorem sSure_any (n c : Nat) (X : List Ed) (A : Option Addr) (w : World) (hok : VcOk n X) (hr : Reads w A (X.flatMap itV)) :
    Calls Tryz.prog 182 #[.agg #[.int .i64 n, .slice A X.length c]] w fun e w' => e = .returned (.agg #[.int .i64 n, .slice A X.length c]) ∧ Kept [] w w' := by
  have HX := Lib.hid ((Blk.new w 35 [.int .i64 n, .slice A X.length c]).alloc (.cells #[.int .i64 0, .slice none 0 0] 35))
  have HZ := Lib.hid (Blk.new1F w (.cells #[.int .i64 n, .slice A X.length c] 35) 35 [.int .i64 0, .slice none 0 0])
  have K0 := Lib.hid (((Kept.refl [] w).alloc (.cells #[.int .i64 n, .slice A X.length c] 35)).alloc (.cells #[.int .i64 0, .slice none 0 0] 35))
  have HR := Lib.hid (hr.kept0 K0.out)
  have HOK := Lib.hid hok
  clear hr hok
  go_enter Tryz.func182, Tryz.ntmps182
  go_upto_region 1 with (fail)
  generalize ((w.alloc (.cells #[.int .i64 n, .slice A X.length c] 35)).alloc (.cells #[.int .i64 0, .slice none 0 0] 35)) = w1 at *
  have HGE := Lib.hid (show w.heap.size ≤ w.heap.size + 1 by omega)
  generalize w.heap.size + 1 = gz at HZ HGE ⊢
  generalize hgx : w.heap.size = gx at HX ⊢
  have HGX := Lib.hid hgx
  clear hgx
  go_wp2_with (first | (refine wpList_loadBlk rfl 35 (.tmp 1) rfl gx [.int .i64 n, .slice A X.length c] _ HX.out rfl Tryz.underlying35 rfl infoVec ?_))
  refine (sRight_any n c X A _ HOK.out HR.out).mono ?_
  rintro _ w2 ⟨rfl, hk⟩
  replace HX := Lib.hid (HX.out.kept hk (by simp))
  replace HZ := Lib.hid (HZ.out.kept hk (by simp))
  replace K0 := Lib.hid (K0.out.trans hk)
  clear hk
  go_wp2_with (first | (refine wpList_loadBlk rfl 35 (.tmp 1) rfl gx [.int .i64 n, .slice A X.length c] _ HX.out rfl Tryz.underlying35 rfl infoVec ?_) | (refine wpList_storeBlk rfl 35 (.tmp 2) (.tmp 5) rfl gz _ [.int .i64 n, .slice A X.length c] HZ.out rfl rfl rfl infoVec (by simp [Value.oneCell']) ?_; intro w8 hb8 hk8))
  have e0 := hb8.cell 0
  have e1 := hb8.cell 1
  simp only [List.getElem?_cons_zero, List.getElem?_cons_succ] at e0 e1
  refine bodyPost_ret (v := .agg #[.int .i64 n, .slice A X.length c]) (by simp [results, Tryz.results182, go_sem, e0, e1]) rfl ?_
  exact ⟨rfl, K0.out.then hk8 (fun u hu => by simp at hu; subst hu; exact .inr HGE.out)⟩
theorem sOrder_any (x2 x3 q : Int) (w : World) :
    Calls Tryz.prog 202 #[.agg #[.int .i64 x2, .int .i64 x3], .int .i64 q] w fun e w' => e = .returned (.int .i64 (cmpI x2 q)) ∧ Kept [] w w' := by
  have HX := Lib.hid (Blk.new w 38 [.int .i64 x2, .int .i64 x3])
  have HK := Lib.hid ((Kept.refl [] w).alloc (.cells #[.int .i64 x2, .int .i64 x3] 38))
  go_enter Tryz.func202, Tryz.ntmps202
  go_upto_region 1 with (fail)
  generalize w.alloc (.cells #[.int .i64 x2, .int .i64 x3] 38) = w1 at *
  generalize w.heap.size = gx at HX ⊢
  have c0 := HX.out.cell 0
  simp only [List.getElem?_cons_zero] at c0
  go_wp2_with fail
  refine (compare_int x2 q _).mono ?_
  rintro _ w2 ⟨rfl, hw2⟩
  go_wp2_with fail
  go_ret
  exact ⟨rfl, HK.out⟩
/-- What a vector has at a place. -/
def getP (X : List Ed) (q : Int) : Option Int := (X.find? (fun e => e.2.1 == q)).map (·.2.2)
theorem vc_mono {n : Nat} {X : List Ed} (h : VcOk n X) {i j : Nat} (hij : i < j) (hj : j < X.length) : X[i].2.1 < X[j].2.1 := by
  have h1 := List.pairwise_iff_getElem.1 h.rises i j (by omega) hj hij
  have e1 := (h.inn X[i] (List.getElem_mem _)).1
  have e2 := (h.inn X[j] (List.getElem_mem _)).1
  simp only [keyLt, keyOf, e1, e2] at h1
  simpa using h1
theorem getP_some {n : Nat} {X : List Ed} (h : VcOk n X) {i : Nat} (hi : i < X.length) : getP X X[i].2.1 = some X[i].2.2 := by
  unfold getP
  rcases hf : X.find? (fun e => e.2.1 == X[i].2.1) with _ | e
  · have := List.find?_eq_none.1 hf X[i] (List.getElem_mem hi)
    simp at this
  · have h1 := List.mem_of_find?_eq_some hf
    have h2 := List.find?_some hf
    obtain ⟨j, hj, rfl⟩ := List.getElem_of_mem h1
    have h3 : X[j].2.1 = X[i].2.1 := by simpa using h2
    have : j = i := by
      rcases Nat.lt_trichotomy j i with hlt | he | hlt
      · have := vc_mono h hlt hi; omega
      · exact he
      · have := vc_mono h hlt hj; omega
    subst this
    rw [hf]
    rfl
theorem getP_none {X : List Ed} {q : Int} (h : ∀ j (hj : j < X.length), X[j].2.1 ≠ q) : getP X q = none := by
  unfold getP
  rw [List.find?_eq_none.2 (fun e he => by
    obtain ⟨j, hj, rfl⟩ := List.getElem_of_mem he
    simpa using h j hj)]
  rfl
set_option maxRecDepth 100000 in
theorem bsearch_any (n c : Nat) (X : List Ed) (A : Option Addr) (q : Int) (w : World) (hok : VcOk n X) (hr : Reads w A (X.flatMap itV)) :
    Calls Tryz.prog 201 #[.slice A X.length c, .int .i64 q, .func (.func 202) #[] #[]] w fun e w' => ∃ i : Nat, e = .returned (.tuple #[.int .i64 i, .bool (getP X q).isSome]) ∧ (∀ y, getP X q = some y → ∃ h : i < X.length, X[i].2.2 = y) ∧ Kept [] w w' := by
  have hll := hok.len
  have HOK := Lib.hid hok
  have HR := Lib.hid hr
  clear hok hr
  obtain ⟨post, hpost⟩ : ∃ post : Ending → World → Prop, post = (fun e w' => ∃ i : Nat, e = .returned (.tuple #[.int .i64 i, .bool (getP X q).isSome]) ∧ (∀ y, getP X q = some y → ∃ h : i < X.length, X[i].2.2 = y) ∧ Kept [] w w') := ⟨_, rfl⟩
  rw [← hpost]
  have HPOST := Lib.hid hpost
  clear hpost
  go_enter Tryz.func201, Tryz.ntmps201
  go_wp2_with fail
  go_loopw [9, 10] (fun lo hi wr => ∃ a b : Nat, a ≤ b ∧ b ≤ X.length ∧ lo = .int .i64 a ∧ hi = .int .i64 b ∧ Hid (∀ j (hj : j < X.length), j < a → X[j].2.1 < q) ∧ Hid (∀ j (hj : j < X.length), b ≤ j → q ≤ X[j].2.1) ∧ Hid (Kept [] w wr)) (fun lo hi _ => (intOf hi - intOf lo).toNat)
  case atStart => exact ⟨0, _, Nat.zero_le _, Nat.le_refl _, rfl, rfl, Lib.hid (fun j _ h => absurd h (Nat.not_lt_zero _)), Lib.hid (fun j h1 h2 => by omega), Lib.hid (Kept.refl _ _)⟩
  case round =>
    obtain ⟨a, b, hab, hbl, rfl, rfl, HLO, HHI, KW⟩ := hrel
    by_cases hlt : a < b
    · obtain ⟨h, hh⟩ : ∃ h : Nat, h = (a + b) / 2 := ⟨_, rfl⟩
      have HQ : ((a : Int) + (b : Int)) / 2 = (h : Int) := by omega
      have hw1 : IntKind.u64.wrap ((a : Int) + (b : Int)) = (a : Int) + (b : Int) := by rw [u64_wrap]; omega
      have hah : a ≤ h := by omega
      have hhb : h < b := by omega
      have hhl : h < X.length := by omega
      clear hh
      obtain ⟨b0, off, rfl, hbl2, c0, c1⟩ := it_at (HR.out.kept0 KW.out) hhl
      obtain ⟨x, hx⟩ : ∃ x, x = X[h] := ⟨_, rfl⟩
      rw [← hx] at c0 c1
      have HX := Lib.hid hx
      clear hx hbl2
      obtain ⟨x1, x2, x3⟩ := x
      dsimp only at c0 c1
      go_wp2_with fail
      refine (sOrder_any x2 x3 q _).mono ?_
      rintro _ w1 ⟨rfl, hk1⟩
      have KW1 := Lib.hid (KW.out.trans hk1)
      clear hk1 c0 c1 HQ hw1
      by_cases hc : x2 < q
      · have hcm : cmpI x2 q = -1 := if_pos hc
        rw [hcm]
        have HC := Lib.hid hc
        clear hc hcm
        go_wp2_with fail
        go_roundw
        case rel =>
          refine ⟨h + 1, b, by omega, hbl, by go_num, rfl, Lib.hid (fun j hj hja => ?_), HHI, KW1⟩
          rcases Nat.lt_or_ge j h with h1 | h1
          · have h2 := vc_mono HOK.out h1 hhl
            rw [← HX.out] at h2
            have := HC.out
            dsimp only at h2
            omega
          · obtain rfl : j = h := by omega
            rw [← HX.out]
            exact HC.out
        case measure => simp [intOf]; omega
      · have hcm : (cmpI x2 q < 0) = False := by
          unfold cmpI
          rw [if_neg hc]
          split <;> simp
        have HC := Lib.hid hc
        have hcm2 : decide (cmpI x2 q < 0) = false := by simp [hcm]
        generalize cmpI x2 q = cm at hcm2 ⊢
        clear hc hcm
        go_wp2_with fail
        go_roundw
        case rel =>
          refine ⟨a, h, hah, by omega, rfl, by go_num, HLO, Lib.hid (fun j hj hja => ?_), KW1⟩
          rcases Nat.lt_or_ge h j with h1 | h1
          · have h2 := vc_mono HOK.out h1 hj
            rw [← HX.out] at h2
            have := HC.out
            dsimp only at h2
            omega
          · obtain rfl : j = h := by omega
            rw [← HX.out]
            have := HC.out
            dsimp only
            omega
        case measure => simp [intOf]; omega
    · obtain rfl : a = b := by omega
      by_cases hal : a < X.length
      · obtain ⟨b0, off, rfl, hbl2, c0, c1⟩ := it_at (HR.out.kept0 KW.out) hal
        obtain ⟨x, hx⟩ : ∃ x, x = X[a] := ⟨_, rfl⟩
        rw [← hx] at c0 c1
        have HX := Lib.hid hx
        clear hx hbl2
        obtain ⟨x1, x2, x3⟩ := x
        dsimp only at c0 c1
        go_wp2_with fail
        refine (sOrder_any x2 x3 q _).mono ?_
        rintro _ w1 ⟨rfl, hk1⟩
        have KW1 := Lib.hid (KW.out.trans hk1)
        clear hk1 c0 c1
        by_cases hc : x2 = q
        · have hcm : cmpI x2 q = 0 := by subst hc; unfold cmpI; rw [if_neg (by omega), if_neg (by omega)]
          rw [hcm]
          have HG := Lib.hid (show getP X q = some x3 by have h1 := getP_some HOK.out hal; rw [← HX.out] at h1; dsimp only at h1; rwa [hc] at h1)
          clear hc hcm
          go_wp2_with fail
          show post (.returned (.tuple #[.int .i64 (a : Int), .bool true])) _
          rw [HPOST.out]
          refine ⟨a, by rw [HG.out]; rfl, fun y hy => ⟨hal, ?_⟩, KW1.out⟩
          rw [HG.out] at hy
          injection hy with hy
          rw [← HX.out, ← hy]
        · have hcm : (cmpI x2 q == 0) = false := by
            unfold cmpI
            by_cases h1 : x2 < q
            · rw [if_pos h1]; rfl
            · rw [if_neg h1, if_pos (by omega)]; rfl
          have HG := Lib.hid (getP_none (X := X) (q := q) (fun j hj => by
            rcases Nat.lt_trichotomy j a with h1 | h1 | h1
            · have := HLO.out j hj h1; omega
            · subst h1; rw [← HX.out]; exact hc
            · have h2 := vc_mono HOK.out h1 hj
              have h3 := HHI.out a hal (Nat.le_refl _)
              omega))
          generalize cmpI x2 q = cm at hcm ⊢
          clear hc
          go_wp2_with fail
          show post (.returned (.tuple #[.int .i64 (a : Int), .bool false])) _
          rw [HPOST.out]
          refine ⟨a, by rw [HG.out]; rfl, fun y hy => ?_, KW1.out⟩
          rw [HG.out] at hy
          cases hy
      · have HG := Lib.hid (getP_none (X := X) (q := q) (fun j hj => by have := HLO.out j hj (by omega); omega))
        have hal2 : ¬ (a : Int) < (X.length : Int) := by omega
        go_wp2_with fail
        show post (.returned (.tuple #[.int .i64 (a : Int), .bool false])) _
        rw [HPOST.out]
        refine ⟨a, by rw [HG.out]; rfl, fun y hy => ?_, KW.out⟩
        rw [HG.out] at hy
        cases hy
theorem find_any (n c : Nat) (X : List Ed) (A : Option Addr) (q : Int) (w : World) (hok : VcOk n X) (hr : Reads w A (X.flatMap itV)) :
    Calls Tryz.prog 185 #[.agg #[.int .i64 n, .slice A X.length c], .int .i64 q] w fun e w' => ∃ i : Nat, e = .returned (.tuple #[.int .i64 i, .bool (getP X q).isSome]) ∧ (∀ y, getP X q = some y → ∃ h : i < X.length, X[i].2.2 = y) ∧ Kept [] w w' := by
  have HV := Lib.hid (Blk.new w 35 [.int .i64 n, .slice A X.length c])
  have K0 := Lib.hid ((Kept.refl [] w).alloc (.cells #[.int .i64 n, .slice A X.length c] 35))
  have HR := Lib.hid (hr.kept0 K0.out)
  have HOK := Lib.hid hok
  clear hr hok
  obtain ⟨post, hpost⟩ : ∃ post : Ending → World → Prop, post = (fun e w' => ∃ i : Nat, e = .returned (.tuple #[.int .i64 i, .bool (getP X q).isSome]) ∧ (∀ y, getP X q = some y → ∃ h : i < X.length, X[i].2.2 = y) ∧ Kept [] w w') := ⟨_, rfl⟩
  rw [← hpost]
  have HPOST := Lib.hid hpost
  clear hpost
  go_enter Tryz.func185, Tryz.ntmps185
  go_upto_region 1 with (fail)
  generalize w.alloc (.cells #[.int .i64 n, .slice A X.length c] 35) = w1 at *
  generalize w.heap.size = gv at HV ⊢
  have v1 := HV.out.cell 1
  simp only [List.getElem?_cons_zero, List.getElem?_cons_succ] at v1
  go_wp2_with fail
  refine (bsearch_any n c X A q _ HOK.out HR.out).mono ?_
  rintro _ w2 ⟨i, rfl, hg, hk⟩
  have HG := Lib.hid hg
  have HK := Lib.hid hk
  clear hg hk v1
  go_wp2_with fail
  show post (.returned (.tuple #[.int .i64 (i : Int), .bool (getP X q).isSome])) _
  rw [HPOST.out]
  exact ⟨i, rfl, HG.out, K0.out.trans HK.out⟩
set_option maxRecDepth 100000 in
theorem sGet_any (n c : Nat) (X : List Ed) (A : Option Addr) (q : Int) (w : World) (hok : VcOk n X) (hr : Reads w A (X.flatMap itV)) :
    Calls Tryz.prog 163 #[.agg #[.int .i64 n, .slice A X.length c], .int .i64 q] w fun e w' => e = .returned (.tuple #[.int .i64 ((getP X q).getD 0), .bool (getP X q).isSome]) ∧ Kept [] w w' := by
  have HV := Lib.hid (Blk.new w 35 [.int .i64 n, .slice A X.length c])
  have K0 := Lib.hid ((Kept.refl [] w).alloc (.cells #[.int .i64 n, .slice A X.length c] 35))
  have HRW := Lib.hid hr
  have HOK := Lib.hid hok
  have HGV := Lib.hid (show w.heap.size ≤ w.heap.size from Nat.le_refl _)
  clear hr hok
  obtain ⟨post, hpost⟩ : ∃ post : Ending → World → Prop, post = (fun e w' => e = .returned (.tuple #[.int .i64 ((getP X q).getD 0), .bool (getP X q).isSome]) ∧ Kept [] w w') := ⟨_, rfl⟩
  rw [← hpost]
  have HPOST := Lib.hid hpost
  clear hpost
  go_enter Tryz.func163, Tryz.ntmps163
  go_upto_region 1 with (fail)
  generalize w.alloc (.cells #[.int .i64 n, .slice A X.length c] 35) = w1 at *
  generalize hgq : w.heap.size = gv at HV ⊢
  rw [hgq] at HGV
  have HGE := Lib.hid (show w.heap.size ≤ gv by omega)
  clear hgq HGV
  go_wp2_with (first | (refine wpList_loadBlk rfl 35 (.tmp 2) rfl gv [.int .i64 n, .slice A X.length c] _ HV.out rfl Tryz.underlying35 rfl infoVec ?_))
  refine (sSure_any n c X A _ HOK.out (HRW.out.kept0 K0.out)).mono ?_
  rintro _ w2 ⟨rfl, hk⟩
  replace HV := Lib.hid (HV.out.kept hk (by simp))
  replace K0 := Lib.hid (K0.out.trans hk)
  clear hk
  go_upto_region 2 with (first | (refine wpList_storeBlk rfl 35 (.tmp 2) (.tmp 9) rfl gv _ [.int .i64 n, .slice A X.length c] HV.out rfl rfl rfl infoVec (by simp [Value.oneCell']) ?_; intro w3 hb3 hk3))
  replace HV := Lib.hid hb3
  replace K0 := Lib.hid (K0.out.then hk3 (fun u hu => by simp at hu; subst hu; exact .inr HGE.out))
  clear hb3 hk3
  go_wp2_with (first | (refine wpList_loadBlk rfl 35 (.tmp 2) rfl gv [.int .i64 n, .slice A X.length c] _ HV.out rfl Tryz.underlying35 rfl infoVec ?_))
  refine (find_any n c X A q _ HOK.out (HRW.out.kept0 K0.out)).mono ?_
  rintro _ w4 ⟨i, rfl, hg, hk⟩
  replace HV := Lib.hid (HV.out.kept hk (by simp))
  replace K0 := Lib.hid (K0.out.trans hk)
  have HG := Lib.hid hg
  clear hk hg
  cases hy : getP X q with
  | none =>
    rw [hy] at HPOST
    clear HG
    simp only [Option.isSome_none]
    go_wp2_with fail
    show post (.returned (.tuple #[.int .i64 0, .bool false])) _
    rw [HPOST.out]
    exact ⟨rfl, K0.out⟩
  | some y =>
    rw [hy] at HPOST
    obtain ⟨hi, hx⟩ := HG.out y hy
    have HXY := Lib.hid hx
    clear HG hx hy
    obtain ⟨b0, off, rfl, hbl2, c0, c1⟩ := it_at (HRW.out.kept0 K0.out) hi
    rw [HXY.out] at c1
    have v1 := HV.out.cell 1
    simp only [List.getElem?_cons_zero, List.getElem?_cons_succ] at v1
    simp only [Option.isSome_some]
    clear hbl2
    go_wp2_with fail
    show post (.returned (.tuple #[.int .i64 y, .bool true])) _
    rw [HPOST.out]
    exact ⟨rfl, K0.out⟩
theorem fieldVec1 (n : Int) (a : Value) : ∀ w : World, (Instr.field 35 (.agg #[.int .i64 n, a]) 1).run Tryz.prog w = .ok a w := fun w => by kernel_rfl
theorem fieldVec0 (n : Int) (a : Value) : ∀ w : World, (Instr.field 35 (.agg #[.int .i64 n, a]) 0).run Tryz.prog w = .ok (.int .i64 n) w := fun w => by kernel_rfl
set_option maxRecDepth 100000 in
theorem places_any (n c : Nat) (X : List Ed) (A : Option Addr) (w : World) (hok : VcOk n X) (hr : Reads w A (X.flatMap itV)) :
    Calls Tryz.prog 158 #[.agg #[.int .i64 n, .slice A X.length c]] w fun e w' => ∃ v, e = .returned v ∧ w'.ownsRow w.heap.size 3 1 v X.length ((atsP X).map vI) ∧ Kept [] w w' := by
  have hll := hok.len
  have HV := Lib.hid (Blk.new w 35 [.int .i64 n, .slice A X.length c])
  have K0 := Lib.hid ((Kept.refl [] w).alloc (.cells #[.int .i64 n, .slice A X.length c] 35))
  have HRW := Lib.hid hr
  have HOK := Lib.hid hok
  have hfi := fieldVec1 n (.slice A X.length c)
  clear hr hok
  obtain ⟨post, hpost⟩ : ∃ post : Ending → World → Prop, post = (fun e w' => ∃ v, e = .returned v ∧ w'.ownsRow w.heap.size 3 1 v X.length ((atsP X).map vI) ∧ Kept [] w w') := ⟨_, rfl⟩
  rw [← hpost]
  have HPOST := Lib.hid hpost
  clear hpost
  go_enter Tryz.func158, Tryz.ntmps158
  go_upto_region 1 with (fail)
  generalize w.alloc (.cells #[.int .i64 n, .slice A X.length c] 35) = w1 at *
  generalize w.heap.size = gv at HV ⊢
  go_wp2_with (first | (refine wpList_loadBlk rfl 35 (.tmp 1) rfl gv [.int .i64 n, .slice A X.length c] _ HV.out rfl Tryz.underlying35 rfl infoVec ?_))
  refine (sSure_any n c X A _ HOK.out (HRW.out.kept0 K0.out)).mono ?_
  rintro _ w2 ⟨rfl, hk⟩
  replace K0 := Lib.hid (K0.out.trans hk)
  clear hk HV
  go_wp2_with fail
  go_loopw [3, 10] (fun v x wr => ∃ k : Nat, k ≤ X.length ∧ x = .int .i64 k ∧ Hid (wr.ownsRow w.heap.size 3 1 v k ((atsP (X.take k)).map vI)) ∧ Hid (Kept [] w wr)) (fun _ x _ => X.length - (intOf x).toNat)
  case atStart => exact ⟨0, Nat.zero_le _, rfl, Lib.hid (World.ownsRow_nil _ _ _ _), K0⟩
  case round =>
    clear K0
    obtain ⟨k, hk, rfl, HI, K0⟩ := hrel
    obtain ⟨v, hv⟩ : ∃ v, v = u3 := ⟨_, rfl⟩
    subst hv
    obtain ⟨A7, c7, rfl⟩ := own_n HI.out
    by_cases hlt : k < X.length
    · have HTK := Lib.hid (List.take_succ_eq_append_getElem hlt)
      obtain ⟨b0, off, rfl, hbl, c0, c1⟩ := it_at (HRW.out.kept0 K0.out) hlt
      obtain ⟨x, hx⟩ : ∃ x, x = X[k] := ⟨_, rfl⟩
      rw [← hx] at c0 c1 HTK
      clear hx hbl
      obtain ⟨x1, x2, x3⟩ := x
      dsimp only at c0 c1
      go_upto_region 5 with (fail)
      have HX := Lib.hid (Blk.new wr 38 [.int .i64 x2, .int .i64 x3])
      have hka := (Kept.refl [] wr).alloc (.cells #[.int .i64 x2, .int .i64 x3] 38)
      replace HI := Lib.hid (own_kept0 HI.out hka)
      replace K0 := Lib.hid (K0.out.trans hka)
      clear hka c0 c1
      generalize wr.alloc (.cells #[.int .i64 x2, .int .i64 x3] 38) = w5 at *
      generalize wr.heap.size = g11 at HX ⊢
      have x0 := HX.out.cell 0
      have hsz := K0.out.size
      simp only [List.getElem?_cons_zero] at x0
      go_wp2_with (at_builtin; refine wpList_app _ rfl (.tmp 14) (.tmp 17) _ rfl 3 (.int .i64 0) 1 8 Tryz.underlying28 infoInt rfl (by decide) w.heap.size (.slice A7 k c7) k _ rfl (HI.out.alloc _) (some ⟨_, 0, none⟩) 1 1 [vI x2] rfl rfl (Reads.of_blk (Blk.new _ _ _) (fun _ _ h => h)) (by simp [Value.oneCell']) (by omega) (by unfold maxLen; omega) (by simp; omega) ?_; intro va wa howna hka hba; have HOa := Lib.hid howna; have Fa := Lib.hid (((KeptB.refl w.heap.size [3] w5).alloc _).app hka (HI.out.alloc _) (by decide)); clear howna hka hba)
      clear hsz x0 HX
      go_roundw
      case rel =>
        refine ⟨k + 1, by omega, by go_num, Lib.hid ?_, Lib.hid (K0.out.thenB Fa.out (Nat.le_refl _))⟩
        have := HOa.out
        rw [HTK.out]
        simpa [atsP] using this
      case measure => simp [intOf]; omega
    · obtain rfl : k = X.length := by omega
      rw [List.take_length] at HI
      go_wp2_with fail
      show post (.returned (.slice A7 X.length c7)) _
      rw [HPOST.out]
      exact ⟨_, rfl, HI.out, K0.out⟩
end Go.Proofs.YtblfingmdipopaaGreat
