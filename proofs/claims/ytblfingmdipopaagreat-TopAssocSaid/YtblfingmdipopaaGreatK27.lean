/- The statements' small functions: a value of a ring from any number, sizes, few triples. -/
import Derived.Test.YtblfingmdipopaaGreatK26
import Derived.Test.YtblfingmdipopaaGreatK25
import Derived.Test.YtblfingmdipopaaGreatK22
import Derived.Test.YtblfingmdipopaaGreatK16
namespace Go.Proofs.YtblfingmdipopaaGreat
set_option linter.unusedSimpArgs false
set_option linter.unusedVariables false
open Go.ChangeShapes Go.WideShapes Go.ChangeAt Go.RowKit
open Go.RowKit (wrap32 wrap64)
set_option maxHeartbeats 8000000

theorem tmod_pos {x : Int} {n : Nat} (h : 0 ≤ x) (hn : n ≠ 0) : ∃ r : Nat, x.tmod n = (r : Int) ∧ x % (n : Int) = (r : Int) := by
  obtain ⟨r, hr⟩ := Int.eq_ofNat_of_zero_le (Int.emod_nonneg x (show (n : Int) ≠ 0 by omega))
  exact ⟨r, by rw [Int.tmod_eq_emod_of_nonneg h]; exact hr, hr⟩
/-- A number's low 62 bits, and its lowest one. -/
def lowM (x : Int) : Int := bits .and .i64 x 4611686018427387903
def lowB (x : Int) : Int := bits .and .i64 x 1
theorem lowM_in (x : Int) : 0 ≤ lowM x ∧ lowM x ≤ 4611686018427387903 := by
  unfold lowM bits
  have h : (BitVec.ofInt 64 x &&& BitVec.ofInt 64 4611686018427387903).toNat ≤ 4611686018427387903 := by
    rw [BitVec.toNat_and]
    exact Nat.le_trans Nat.and_le_right (by decide)
  have hm : ∀ m : Nat, m ≤ 4611686018427387903 → 0 ≤ IntKind.i64.wrap (m : Int) ∧ IntKind.i64.wrap (m : Int) ≤ 4611686018427387903 := by
    intro m hm
    rw [IntKind.wrap_i64]
    omega
  exact hm _ h
theorem lowB_in (x : Int) : 0 ≤ lowB x ∧ lowB x ≤ 1 := by
  unfold lowB bits
  have h : (BitVec.ofInt 64 x &&& BitVec.ofInt 64 1).toNat ≤ 1 := by
    rw [BitVec.toNat_and]
    exact Nat.le_trans Nat.and_le_right (by decide)
  have hm : ∀ m : Nat, m ≤ 1 → 0 ≤ IntKind.i64.wrap (m : Int) ∧ IntKind.i64.wrap (m : Int) ≤ 1 := by
    intro m hm
    rw [IntKind.wrap_i64]
    omega
  exact hm _ h
/-- A value of a ring, from any number. -/
def valP (r n : Int) : Int := if r = 2 then lowB n else if lowM n % 5 = 0 then infV else lowM n
theorem valP_ok (r n : Int) : OkV r (valP r n) := by
  unfold OkV valP
  have h1 := lowM_in n
  have h2 := lowB_in n
  split
  · omega
  · unfold infV
    split <;> omega
theorem value_any (r n : Int) (hr : r = 1 ∨ r = 2) (w : World) : Calls Tryz.prog 7 #[.int .i64 r, .int .i64 n] w fun e w' => e = .returned (.int .i64 (valP r n)) ∧ w' = w := by
  rcases hr with rfl | rfl
  · have h1 := lowM_in n
    have HM := Lib.hid (show bits .and .i64 n 4611686018427387903 = lowM n from rfl)
    by_cases h : lowM n % 5 = 0
    · have HV := Lib.hid (show valP 1 n = 4611686018427387904 by unfold valP; rw [if_neg (by decide), if_pos h])
      have h2 : (lowM n).tmod 5 = 0 := by rw [Int.tmod_eq_emod_of_nonneg h1.1]; exact h
      unfold lowM at h h1 h2
      go_enter Tryz.func7, Tryz.ntmps7
      go_wp2_with fail
      go_ret
      exact ⟨ret_int (by rw [HV.out]), rfl⟩
    · have HV := Lib.hid (show valP 1 n = lowM n by unfold valP; rw [if_neg (by decide), if_neg h])
      have h2 : ¬ (lowM n).tmod 5 = 0 := by rw [Int.tmod_eq_emod_of_nonneg h1.1]; exact h
      unfold lowM at h h1 h2
      go_enter Tryz.func7, Tryz.ntmps7
      go_wp2_with fail
      go_ret
      exact ⟨ret_int (by rw [HV.out]; rfl), rfl⟩
  · go_enter Tryz.func7, Tryz.ntmps7
    go_wp2_with fail
    go_ret
    exact ⟨ret_int rfl, rfl⟩
theorem factor_any (r n : Int) (hr : r = 1 ∨ r = 2) (w : World) : Calls Tryz.prog 44 #[.int .i64 r, .int .i64 n] w fun e w' => e = .returned (.int .i64 (valP r n)) ∧ w' = w := by
  have h5 : ¬ r = 5 := by omega
  have HR := Lib.hid hr
  clear hr
  go_enter Tryz.func44, Tryz.ntmps44
  go_wp2_with fail
  refine (value_any r n HR.out _).mono ?_
  rintro _ w2 ⟨rfl, rfl⟩
  go_wp2_with fail
  go_ret
  exact ⟨rfl, rfl⟩
theorem right13_any (r : Int) (hr : r = 1 ∨ r = 2) (w : World) : Calls Tryz.prog 43 #[.int .i64 r] w fun e w' => e = .returned (.int .i64 r) ∧ w' = w := by
  rcases hr with rfl | rfl
  · go_enter Tryz.func43, Tryz.ntmps43
    go_wp2_with fail
    go_ret
    exact ⟨rfl, rfl⟩
  · go_enter Tryz.func43, Tryz.ntmps43
    go_wp2_with fail
    go_ret
    exact ⟨rfl, rfl⟩
theorem small_any (n : Nat) (hn : n < 256) (w : World) : Calls Tryz.prog 19 #[.int .u8 (n : Int)] w fun e w' => e = .returned (.int .u8 ((n % 14 : Nat) : Int)) ∧ w' = w := by
  go_enter Tryz.func19, Tryz.ntmps19
  go_wp2_with fail
  go_ret
  exact ⟨by simp; try omega, rfl⟩
theorem size_any (n : Nat) (hn : n < 256) (w : World) : Calls Tryz.prog 77 #[.int .u8 (n : Int)] w fun e w' => e = .returned (.int .i64 ((n % 40 : Nat) : Int)) ∧ w' = w := by
  go_enter Tryz.func77, Tryz.ntmps77
  go_wp2_with fail
  go_ret
  exact ⟨by simp; try omega, rfl⟩
theorem few7_any (l : List Ed) (A : Option Addr) (c : Nat) (w : World) (hl : l.length ≤ maxLen) (hc : l.length ≤ c) (hcm : c ≤ maxLen) :
    Calls Tryz.prog 78 #[.slice A l.length c] w fun e w' => e = .returned (.slice A (l.take 60).length c) ∧ w' = w := by
  unfold maxLen at hl hcm
  by_cases h : 60 < l.length
  · rw [show (l.take 60).length = 60 by simp; omega]
    go_enter Tryz.func78, Tryz.ntmps78
    go_wp2_with fail
    go_ret
    exact ⟨rfl, rfl⟩
  · rw [List.take_of_length_le (by omega)]
    go_enter Tryz.func78, Tryz.ntmps78
    go_wp2_with fail
    go_ret
    exact ⟨rfl, rfl⟩
end Go.Proofs.YtblfingmdipopaaGreat

/- fretworkref09.Of by the least sums, fretworklaw09.Some: vectors of few items. Conditions: places within the vector. -/
namespace Go.Proofs.YtblfingmdipopaaGreat
set_option linter.unusedSimpArgs false
set_option linter.unusedVariables false
open Go.ChangeShapes Go.WideShapes Go.ChangeAt Go.RowKit
open Go.RowKit (wrap32 wrap64)
set_option maxHeartbeats 8000000

theorem infoVec : (Tryz.prog.info? 35).map (·.size) = some 2 := by kernel_rfl
/-- A vector that a call hands back: its items are the call's own. -/
def VcPost (w : World) (n : Nat) (X : List Ed) (e : Ending) (w' : World) : Prop := ∃ v, e = .returned (.agg #[.int .i64 n, v]) ∧ w'.ownsRow w.heap.size 38 2 v X.length (X.flatMap itV) ∧ Kept [] w w'
/-- Items that lie in a vector. -/
def InV (n : Nat) (l : List Ed) : Prop := ∀ e ∈ l, e.1 = 0 ∧ 0 ≤ e.2.1 ∧ e.2.1 < n
/-- A vector's items: they rise, and lie in it. -/
structure VcOk (n : Nat) (X : List Ed) : Prop where
  rises : RisesL X
  inn : InV n X
  len : X.length ≤ 65536
  num : n ≤ 4096
theorem it_at {w : World} {A : Option Addr} {l : List Ed} (h : Reads w A (l.flatMap itV)) {k : Nat} (hk : k < l.length) :
    ∃ b off, A = some ⟨b, off, none⟩ ∧ b < w.heap.size ∧ w.cell? ⟨b, off + k * 2, none⟩ = some (.int .i64 l[k].2.1) ∧ w.cell? ⟨b, off + k * 2 + 1, none⟩ = some (.int .i64 l[k].2.2) := by
  obtain ⟨b, off, e, hb, hc⟩ := rec_cell (m := 2) (fun _ _ => rfl) (by decide) h hk
  exact ⟨b, off, e, hb, hc 0 _ rfl, hc 1 _ rfl⟩
theorem canonV_ok {n : Nat} {l : List Ed} (hn : n ≤ 4096) (hl : l.length ≤ 65536) (hw : ∀ e ∈ l, In64 e.2.2) (hin : InV n l) : VcOk n (canonP l) := by
  obtain ⟨h1, h2, _⟩ := canonP_spec hw
  exact ⟨h1, fun e he => hin e (h2 e he), Nat.le_trans (canonP_length l) hl, hn⟩

set_option maxRecDepth 100000 in
theorem refOf9_any (n : Nat) (l : List Ed) (A : Option Addr) (c : Nat) (w : World) (hn : n ≤ 4096) (hl : l.length ≤ 65536) (hA : Reads w A (l.flatMap itV)) (hw : ∀ e ∈ l, In64 e.2.2) (hin : InV n l) :
    Calls Tryz.prog 21 #[.int .i64 1, .int .i64 n, .slice A l.length c] w (fun e w' => ∃ v, e = .returned (.tuple #[v, .int .i64 0]) ∧ VcPost w n (canonP l) (.returned v) w') := by
  have HA := Lib.hid hA
  have HW := Lib.hid hw
  have HIN := Lib.hid hin
  have HCO := Lib.hid (canonV_ok hn hl hw hin)
  clear hA hw hin
  obtain ⟨post, hpost⟩ : ∃ post : Ending → World → Prop, post = (fun e w' => ∃ v, e = .returned (.tuple #[v, .int .i64 0]) ∧ VcPost w n (canonP l) (.returned v) w') := ⟨_, rfl⟩
  rw [← hpost]
  have HPOST := Lib.hid hpost
  clear hpost
  have HZ := Lib.hid (Blk.new w 35 [.int .i64 0, .slice none 0 0])
  have K0 := Lib.hid ((Kept.refl [] w).alloc (.cells #[.int .i64 0, .slice none 0 0] 35))
  have HGZ := Lib.hid (show w.heap.size ≤ w.heap.size from Nat.le_refl _)
  have h1 : ¬ (n : Int) < 0 := by omega
  have h2 : ¬ (4096 : Int) < (n : Int) := by omega
  go_enter Tryz.func21, Tryz.ntmps21
  go_upto_region 1 with (fail)
  generalize w.alloc (.cells #[.int .i64 0, .slice none 0 0] 35) = w1 at *
  generalize hgq : w.heap.size = gz at HZ ⊢
  rw [hgq] at HGZ
  have HGE := Lib.hid (show w.heap.size ≤ gz by omega)
  clear hgq HGZ
  go_wp2_with fail
  refine (refIs_any _ _).mono ?_
  rintro _ w2 ⟨rfl, rfl⟩
  rw [show ringIs 1 = true from by decide]
  go_wp2_with fail
  clear h1 h2
  go_loopw [8, 9] (fun v x wr => ∃ k : Nat, k ≤ l.length ∧ x = .int .i64 k ∧ Hid (wr.ownsRow w.heap.size 107 3 v k ((l.take k).flatMap edV)) ∧ Hid (Blk wr gz 35 [.int .i64 0, .slice none 0 0]) ∧ Hid (Kept [] w wr)) (fun _ x _ => l.length - (intOf x).toNat)
  case atStart => exact ⟨0, Nat.zero_le _, rfl, Lib.hid (World.ownsRow_nil _ _ _ _), HZ, K0⟩
  case round =>
    clear HZ K0
    obtain ⟨k, hk, rfl, HO, HZ, K0⟩ := hrel
    obtain ⟨v, hv⟩ : ∃ v, v = u8 := ⟨_, rfl⟩
    subst hv
    obtain ⟨A5, c5, rfl⟩ := own_n HO.out
    by_cases hlt : k < l.length
    · have HTK := Lib.hid (List.take_succ_eq_append_getElem hlt)
      have hi := HIN.out l[k] (List.getElem_mem _)
      obtain ⟨b, off, rfl, hbl, c0, c1⟩ := it_at (HA.out.kept0 K0.out) hlt
      obtain ⟨x, hx⟩ : ∃ x, x = l[k] := ⟨_, rfl⟩
      rw [← hx] at c0 c1 HTK hi
      clear hx
      obtain ⟨x1, x2, x3⟩ := x
      dsimp only at c0 c1 hi
      obtain ⟨rfl, hi⟩ := hi
      have h1 : ¬ x2 < 0 := by omega
      have h2 : ¬ (n : Int) ≤ x2 := by omega
      clear hi
      go_upto_region 11 with (fail)
      clear h1 h2
      have HD := Lib.hid (own_kept0 HO.out (Kept.refl [] wr).drew)
      have hsz := K0.out.size
      go_region_law (refine step_app _ rfl (.tmp 46) (.tmp 58) _ rfl 107 (.agg #[.int .i64 0, .int .i64 0, .int .i64 0]) 3 24 Tryz.underlying54 infoEd rfl (by decide) w.heap.size (.slice A5 k c5) (k) _ rfl (HD.out.alloc _) (some ⟨_, 0, none⟩) 1 1 (edV (0, x2, x3)) rfl rfl (Reads.of_blk (Blk.new _ _ _) (fun _ _ h => h)) (by simp [edV, Value.oneCell']) (by omega) (by unfold maxLen; omega) (by simp; omega) ?_; intro va wa howna hka hba; have HOa := Lib.hid howna; have Fa := Lib.hid (((KeptB.refl w.heap.size [107] wr.drew).alloc _).app hka (HD.out.alloc _) (by decide)); clear howna hka hba)
      all_goals
        go_wp2_with fail
        go_roundw
        case rel =>
          refine ⟨k + 1, by omega, by go_num, Lib.hid ?_, Lib.hid ((HZ.out.kept (Kept.refl [] wr).drew (by simp)).keptB Fa.out (by decide)), Lib.hid ((K0.out.trans (Kept.refl [] wr).drew).thenB Fa.out (Nat.le_refl _))⟩
          have := HOa.out
          rw [HTK.out, List.flatMap_append]
          simpa [edV] using this
        case measure => simp [intOf]; omega
    · obtain rfl : k = l.length := by omega
      rw [List.take_length] at HO
      have HCM := Lib.hid (combP_one HW.out)
      go_wp2_with fail
      have HRC := Lib.hid (refCombine_ok 1 l A5 c5 wr (by decide) (by omega) (Reads.of_own HO.out) HW.out)
      rw [HCM.out] at HRC
      refine HRC.out.mono ?_
      rintro _ w3 ⟨v, rfl, ho, hk3⟩
      clear HRC
      replace HO := Lib.hid (own_base ho K0.out.size)
      dsimp only at HO
      clear ho
      replace HZ := Lib.hid (HZ.out.kept hk3 (by simp))
      replace K0 := Lib.hid (K0.out.trans hk3)
      clear hk3
      obtain ⟨C, hC⟩ : ∃ C, C = canonP l := ⟨_, rfl⟩
      rw [← hC] at HO HCO HPOST
      have hcl : C.length ≤ 65536 := HCO.out.len
      clear hC HCM
      obtain ⟨A6, c6, rfl⟩ := own_n HO.out
      go_upto_region 16 with (first | (refine wpList_storeBlk rfl 35 (.tmp 11) (.tmp 71) rfl w3.heap.size [.int .i64 0, .slice none 0 0] [.int .i64 n, .slice none 0 0] (Blk.new _ _ _) rfl rfl rfl infoVec (by simp [Value.oneCell']) ?_; intro w4 hb4 hk4))
      have hk43 := (Kept.refl [] w3).alloc (.cells #[.int .i64 0, .slice none 0 0] 35)
      have hk44 : Kept [] w3 w4 := hk43.then hk4 (fun q hq => by simp at hq; subst hq; exact .inr (Nat.le_refl _))
      have HG := Lib.hid hb4
      have HG7 := Lib.hid (show w.heap.size ≤ w3.heap.size ∧ gz ≠ w3.heap.size from ⟨K0.out.size, by have := HZ.out.lt; omega⟩)
      replace HZ := Lib.hid (HZ.out.kept hk44 (by simp))
      replace HO := Lib.hid (own_kept0 HO.out hk44)
      replace K0 := Lib.hid (K0.out.trans hk44)
      clear hk43 hk44 hk4 hb4
      generalize w3.heap.size = g7 at HG HG7 ⊢
      go_wp2_with fail
      go_loopw [12] (fun x wr => ∃ (k : Nat) (v : Value), k ≤ C.length ∧ x = .int .i64 k ∧ Hid (wr.ownsRow w.heap.size 38 2 v k ((C.take k).flatMap itV)) ∧ Hid (Blk wr g7 35 [.int .i64 n, v]) ∧ Hid (wr.ownsRow w.heap.size 107 3 (.slice A6 C.length c6) C.length (C.flatMap edV)) ∧ Hid (Blk wr gz 35 [.int .i64 0, .slice none 0 0]) ∧ Hid (Kept [] w wr)) (fun x _ => C.length - (intOf x).toNat)
      case atStart => exact ⟨0, _, Nat.zero_le _, rfl, Lib.hid (World.ownsRow_nil _ _ _ _), HG, HO, HZ, K0⟩
      case round =>
        clear HZ K0 HO HG
        obtain ⟨k, v, hk, rfl, HO, HG, HE, HZ, K0⟩ := hrel
        obtain ⟨A7, c7, rfl⟩ := own_n HO.out
        have d1 := HG.out.cell 1
        simp only [List.getElem?_cons_zero, List.getElem?_cons_succ] at d1
        have lg := HG.out.lt
        by_cases hlt : k < C.length
        · have HTK := Lib.hid (List.take_succ_eq_append_getElem hlt)
          obtain ⟨b, off, hA6, hbl, c0, c1, c2⟩ := edge_at (Reads.of_own HE.out) hlt
          subst hA6
          obtain ⟨x, hx⟩ : ∃ x, x = C[k] := ⟨_, rfl⟩
          rw [← hx] at c0 c1 c2 HTK
          clear hx
          obtain ⟨x1, x2, x3⟩ := x
          dsimp only at c0 c1 c2
          clear c0
          go_upto_region 19 with (fail)
          have HD := Lib.hid (own_kept0 HO.out (Kept.refl [] wr).drew)
          have HGd := Lib.hid (HG.out.kept (Kept.refl [] wr).drew (by simp))
          have hsz := K0.out.size
          go_region_law (refine step_app _ rfl (.tmp 79) (.tmp 91) _ rfl 38 (.agg #[.int .i64 0, .int .i64 0]) 2 16 Tryz.underlying27 infoItem rfl (by decide) w.heap.size (.slice A7 k c7) (k) _ rfl (HD.out.alloc _) (some ⟨_, 0, none⟩) 1 1 (itV (x1, x2, x3)) rfl rfl (Reads.of_blk (Blk.new _ _ _) (fun _ _ h => h)) (by simp [Value.oneCell']) (by omega) (by unfold maxLen; omega) (by simp; omega) ?_; intro va wa howna hka hba; have HOa := Lib.hid howna; have Fa := Lib.hid (((KeptB.refl w.heap.size [38] wr.drew).alloc _).app hka (HD.out.alloc _) (by decide)); clear howna hka hba; obtain ⟨A8, c8, rfl⟩ := own_n HOa.out; have HGa := Lib.hid (HGd.out.keptB Fa.out (by decide)); have fa := HGa.out.frozen 1; have da := HGa.out.cell 1; have la := HGa.out.lt; simp only [List.getElem?_cons_zero, List.getElem?_cons_succ] at da)
          all_goals
            clear fa da la d1 lg hsz c1 c2
            replace HE := Lib.hid (own_keptB (own_kept0 HE.out (Kept.refl [] wr).drew) Fa.out (by decide))
            replace HZ := Lib.hid ((HZ.out.kept (Kept.refl [] wr).drew (by simp)).keptB Fa.out (by decide))
            replace K0 := Lib.hid ((K0.out.trans (Kept.refl [] wr).drew).thenB Fa.out (Nat.le_refl _))
            replace HG := HGa
            replace HO := HOa
            clear HGa HOa HD HGd Fa
            have ko := (Kept.refl [g7] wa).setCell (p := ⟨g7, 1, none⟩) (.inl (by simp)) (.slice A8 (k + 1) c8)
            replace HO := Lib.hid (own_kept HO.out ko (fun u hu => by simp; rintro rfl; exact own_ne_blk HO.out HG.out (by decide) hu))
            replace HE := Lib.hid (own_kept HE.out ko (fun u hu => by simp; rintro rfl; exact own_ne_blk HE.out HG.out (by decide) hu))
            replace HZ := Lib.hid (HZ.out.kept ko (by simp; exact HG7.out.2))
            replace HG := Lib.hid (HG.out.set 1 (.slice A8 (k + 1) c8))
            simp only [List.set_cons_zero, List.set_cons_succ] at HG
            replace K0 := Lib.hid (K0.out.then ko (fun u hu => by simp at hu; subst hu; exact .inr HG7.out.1))
            clear ko
            generalize wa.setCell ⟨g7, 1, none⟩ (.slice A8 (k + 1) c8) = wb at *
            go_wp2_with fail
            go_roundw
            case rel =>
              refine ⟨k + 1, _, by omega, by go_num, Lib.hid ?_, HG, HE, HZ, K0⟩
              have := HO.out
              rw [HTK.out, List.flatMap_append]
              simpa using this
            case measure => simp [intOf]; omega
        · obtain rfl : k = C.length := by omega
          rw [List.take_length] at HO
          clear d1 lg
          go_wp2_with (first | (refine wpList_loadBlk rfl 35 (.tmp 11) rfl g7 [.int .i64 n, .slice A7 C.length c7] _ HG.out rfl Tryz.underlying35 rfl infoVec ?_) | (refine wpList_storeBlk rfl 35 (.tmp 6) (.tmp 94) rfl gz _ [.int .i64 n, .slice A7 C.length c7] HZ.out rfl rfl rfl infoVec (by simp [Value.oneCell']) ?_; intro w8 hb8 hk8))
          have e0 := hb8.cell 0
          have e1 := hb8.cell 1
          simp only [List.getElem?_cons_zero, List.getElem?_cons_succ] at e0 e1
          refine bodyPost_ret (v := .tuple #[.agg #[.int .i64 n, .slice A7 C.length c7], .int .i64 0]) (by simp [results, Tryz.results21, go_sem, e0, e1]) rfl ?_
          rw [HPOST.out]
          have f8 : KeptB w.heap.size [35] wr w8 := (KeptB.refl _ _ wr).step (L := [gz]) hk8 (fun u hu => by simp at hu; subst hu; exact ⟨HGE.out, _, _, _, HZ.out, by simp⟩)
          exact ⟨_, rfl, _, rfl, own_keptB HO.out f8 (by decide), K0.out.thenB f8 (Nat.le_refl _)⟩
end Go.Proofs.YtblfingmdipopaaGreat
