/- flags.New, Of, ones, Count: sets of fewer than 61 places. Conditions: places below 60. -/
import Derived.Test.YtblfingmdipopaaGreatM25
namespace Go.Proofs.YtblfingmdipopaaGreat
set_option linter.unusedSimpArgs false
set_option linter.unusedVariables false
open Go.ChangeShapes Go.WideShapes Go.ChangeAt Go.RowKit
open Go.RowKit (wrap32 wrap64)
set_option maxHeartbeats 8000000
theorem fNew_any (N : Nat) (hN : N ≤ 60) (w : World) :
    Calls Tryz.prog 100 #[.int .i64 N] w fun e w' => ∃ g, e = .returned (.slice (some ⟨g, 0, none⟩) (wordsN N) (wordsN N)) ∧ w.heap.size ≤ g ∧ Blk w' g 98 (List.replicate (wordsN N) (.int .u64 0)) ∧ Kept [] w w' := by
  have hw1 := wordsN_le N
  obtain ⟨post, hpost⟩ : ∃ post : Ending → World → Prop, post = fun e w' => ∃ g, e = .returned (.slice (some ⟨g, 0, none⟩) (wordsN N) (wordsN N)) ∧ w.heap.size ≤ g ∧ Blk w' g 98 (List.replicate (wordsN N) (.int .u64 0)) ∧ Kept [] w w' := ⟨_, rfl⟩
  rw [← hpost]
  have HPOST := Lib.hid hpost
  clear hpost
  go_enter Tryz.func100, Tryz.ntmps100
  go_wp2_with fail
  refine (fWords_any N w hN).mono ?_
  rintro _ w2 ⟨rfl, hw2⟩
  subst hw2
  go_wp2_with (first | (refine wpList_mk w2 rfl (.tmp 4) (.tmp 4) 46 rfl 98 (.int .u64 0) 8 Tryz.underlying46 infoU64 rfl .i64 .i64 _ _ (wordsN N) rfl rfl (by simp) (by simp) (by omega) (by unfold maxLen; omega) ?_; intro w3 hb3 hk3))
  show post (.returned (.slice (some ⟨w2.heap.size, 0, none⟩) (wordsN N) (wordsN N))) _
  rw [HPOST.out]
  exact ⟨_, rfl, Nat.le_refl _, hb3, hk3⟩
set_option maxRecDepth 100000 in
theorem fOf_any (N : Nat) (hN : N ≤ 60) (l : List Int) (A : Option Addr) (c : Nat) (w : World) (hl : l.length ≤ 65536) (hin : ∀ i ∈ l, 0 ≤ i ∧ i < N) (hA : Reads w A (l.map vI)) :
    Calls Tryz.prog 154 #[.int .i64 N, .slice A l.length c] w fun e w' => ∃ v, e = .returned v ∧ w'.ownsRow w.heap.size 98 1 v (wordsN N) (bitsV N (bitsP l)) ∧ Kept [] w w' := by
  have HIN := Lib.hid hin
  have HA := Lib.hid hA
  clear hin hA
  obtain ⟨post, hpost⟩ : ∃ post : Ending → World → Prop, post = (fun e w' => ∃ v, e = .returned v ∧ w'.ownsRow w.heap.size 98 1 v (wordsN N) (bitsV N (bitsP l)) ∧ Kept [] w w') := ⟨_, rfl⟩
  rw [← hpost]
  have HPOST := Lib.hid hpost
  clear hpost
  go_enter Tryz.func154, Tryz.ntmps154
  go_wp2_with fail
  refine (fNew_any N hN w).mono ?_
  rintro _ w2 ⟨g, rfl, hg, hb, hk⟩
  have HG2 := Lib.hid hg
  by_cases hz : N = 0
  · subst hz
    have hl0 : l = [] := by
      cases l with
      | nil => rfl
      | cons x l => have := HIN.out x (by simp); omega
    subst hl0
    have HK := Lib.hid hk
    have HB := Lib.hid hb
    clear hk hb hg
    go_wp2_with fail
    go_loopw [12] (fun i wr => i = .int .i64 0 ∧ wr = w2) (fun i _ => 0)
    case atStart => exact ⟨rfl, rfl⟩
    case round =>
      obtain ⟨rfl, rfl⟩ := hrel
      go_wp2_with fail
      show post (.returned (.slice (some ⟨g, 0, none⟩) (wordsN 0) (wordsN 0))) _
      rw [HPOST.out]
      exact ⟨_, rfl, own_of_blk HB.out HG2.out rfl (by decide), HK.out⟩
  · have h1 : wordsN N = 1 := by unfold wordsN; rw [if_neg hz]
    rw [h1] at hb ⊢
    have HG := Lib.hid (show Blk w2 g 98 [vU (bitsP (l.take 0))] from hb)
    have K0 := Lib.hid hk
    clear hk hb hg
    have HZ := Lib.hid hz
    have H1 := Lib.hid h1
    clear hz h1
    go_wp2_with fail
    go_loopw [12] (fun x wr => ∃ k : Nat, k ≤ l.length ∧ x = .int .i64 k ∧ Hid (Blk wr g 98 [vU (bitsP (l.take k))]) ∧ Hid (Kept [] w wr)) (fun x _ => l.length - (intOf x).toNat)
    case atStart => exact ⟨0, Nat.zero_le _, rfl, HG, K0⟩
    case round =>
      clear HG K0
      obtain ⟨k, hk, rfl, HG, K0⟩ := hrel
      by_cases hlt : k < l.length
      · have HTK := Lib.hid (List.take_succ_eq_append_getElem hlt)
        have hi := HIN.out l[k] (List.getElem_mem hlt)
        obtain ⟨b, off, rfl, hbl, hc⟩ := ints_at (HA.out.kept0 K0.out) hlt
        have c0 := hc k hlt
        have HBL := Lib.hid (bitsP_lt N (l.take k) (fun i hi => HIN.out i (List.mem_of_mem_take hi)))
        obtain ⟨x, hx⟩ : ∃ x, x = l[k] := ⟨_, rfl⟩
        rw [← hx] at c0 HTK hi
        clear hx hc hbl
        obtain ⟨i, rfl⟩ := Int.eq_ofNat_of_zero_le hi.1
        have hi2 : i < N := by omega
        have hsn := bitsP_snoc (l.take k) (i : Int)
        rw [← HTK.out] at hsn
        unfold putB at hsn
        rw [Int.toNat_natCast] at hsn
        have HSN := Lib.hid hsn
        obtain ⟨B, hB⟩ : ∃ B, B = bitsP (l.take k) := ⟨_, rfl⟩
        rw [← hB] at HG HBL HSN
        clear hB hsn hi
        have HOR := Lib.hid (bits_or (lt_64 hN HBL.out) (two_lt (show i < 64 by omega)))
        have h64 : (i : Int) / 64 = 0 := by omega
        have hlt2 : (i : Int) < (N : Int) := by omega
        go_wp2_with fail
        refine (fWithin_yes i (some ⟨g, 0, none⟩) 1 wr (by omega)).mono ?_
        rintro _ w3 ⟨rfl, hw3⟩
        subst hw3
        go_upto_region 6 with (fail)
        refine wp_region_held_drew (S := (fun _ => True)) (by kernel_rfl) ?_ (fun hHeld => ?_)
        · trivial
        replace HG := Lib.hid HG.out.drew
        replace K0 := Lib.hid K0.out.drew
        generalize w3.drew = w6 at *
        refine tkYes (i := 0) (v := ?_) rfl rfl (by kernel_rfl) (by kernel_rfl) (by kernel_rfl) (fun _ _ _ h => h) (by rfl) ?_ (by assumption) ?_
        rotate_left
        · (intro w' hSw; (try dsimp only at hSw); go_simp; try with_reducible rfl)
        try simp only [Act.put, List.setIfInBounds_toArray, List.set_cons_zero, List.set_cons_succ]
        refine tkYes (i := 1) (v := ?_) rfl rfl (by kernel_rfl) (by kernel_rfl) (by kernel_rfl) (fun _ _ _ h => h) (by rfl) ?_ (by assumption) ?_
        rotate_left
        · (intro w' hSw; (try dsimp only at hSw); go_simp; try with_reducible rfl)
        try simp only [Act.put, List.setIfInBounds_toArray, List.set_cons_zero, List.set_cons_succ]
        refine tkYes (i := 2) (v := ?_) rfl rfl (by kernel_rfl) (by kernel_rfl) (by kernel_rfl) (fun _ _ _ h => h) (by rfl) ?_ (by assumption) ?_
        rotate_left
        · (intro w' hSw; (try dsimp only at hSw); go_simp; try with_reducible rfl)
        try simp only [Act.put, List.setIfInBounds_toArray, List.set_cons_zero, List.set_cons_succ]
        refine tkYes (i := 3) (v := .pointer (some ⟨g, 0, none⟩)) rfl rfl (by kernel_rfl) (by kernel_rfl) (by kernel_rfl) (fun _ _ _ h => h) (by rfl) ?_ (by assumption) ?_
        skip
        · (intro w' hSw; (try dsimp only at hSw); go_simp; first | done | (simp; done) | (rw [h64]; simp; done) | (intro hbad; omega))
        try simp only [Act.put, List.setIfInBounds_toArray, List.set_cons_zero, List.set_cons_succ]
        refine tkYes (i := 5) (v := ?_) rfl rfl (by kernel_rfl) (by kernel_rfl) (by kernel_rfl) (fun _ _ _ h => h) (by rfl) ?_ (by assumption) ?_
        rotate_left
        · (intro w' hSw; (try dsimp only at hSw); go_simp; try with_reducible rfl)
        try simp only [Act.put, List.setIfInBounds_toArray, List.set_cons_zero, List.set_cons_succ]
        refine wpAnyH_ready (rs := [4, 6]) (by kernel_rfl) (by simp) ?_
        refine AllReadyH.cons rfl (fun K hK => ?_) (AllReadyH.cons rfl (fun K hK => ?_) AllReadyH.nil)
        · have q0 := HG.out.cell 0
          simp only [List.getElem?_cons_zero] at q0
          go_simp
          clear q0
          refine hK.out _ _ ?_ (fun hHeld => ?_)
          · trivial
          clear hK K
          try simp only [Act.put, List.setIfInBounds_toArray, List.set_cons_zero, List.set_cons_succ]
          refine wpAnyH_ready (rs := [6]) (by kernel_rfl) (by simp) ?_
          refine AllReadyH.cons rfl (fun K hK => ?_) AllReadyH.nil
          go_simp
          refine (fBit_any i _ (by omega)).mono ?_
          rintro _ yy ⟨rfl, hyy⟩
          subst hyy
          go_wp2_with fail
          refine hK.out _ _ ?_ (fun hHeld => ?_)
          · trivial
          clear hK K
          try simp only [Act.put, List.setIfInBounds_toArray, List.set_cons_zero, List.set_cons_succ]
          refine tkYes (i := 7) (v := vU (B ||| 2 ^ i)) rfl rfl (by kernel_rfl) (by kernel_rfl) (by kernel_rfl) (fun _ _ _ h => h) (by rfl) ?_ (by assumption) ?_
          skip
          · (intro w' hSw; (try dsimp only at hSw); go_simp; first | done | (rw [show ((2 : Int) ^ i) = ((2 ^ i : Nat) : Int) by simp, HOR.out]; done) | (rw [HOR.out]; done))
          try simp only [Act.put, List.setIfInBounds_toArray, List.set_cons_zero, List.set_cons_succ]
          refine tkYes (i := 8) (v := .pointer (some ⟨g, 0, none⟩)) rfl rfl (by kernel_rfl) (by kernel_rfl) (by kernel_rfl) (fun _ _ _ h => h) (by rfl) ?_ (by assumption) ?_
          skip
          · (intro w' hSw; (try dsimp only at hSw); go_simp; first | done | (simp; done) | (rw [h64]; simp; done) | (intro hbad; omega))
          try simp only [Act.put, List.setIfInBounds_toArray, List.set_cons_zero, List.set_cons_succ]
          refine wpAnyH_ready (rs := [9]) (by kernel_rfl) (by simp) ?_
          refine AllReadyH.cons rfl (fun K hK => ?_) AllReadyH.nil
          have q0 := HG.out.cell 0
          have f0 := HG.out.frozen 0
          have l0 := HG.out.lt
          simp only [List.getElem?_cons_zero] at q0
          go_simp
          clear q0 f0 l0
          refine hK.out _ _ ?_ (fun hHeld => ?_)
          · trivial
          clear hK K
          try simp only [Act.put, List.setIfInBounds_toArray, List.set_cons_zero, List.set_cons_succ]
          refine wpAnyH_done (by kernel_rfl) ?_ _
          have HGn := Lib.hid (show Blk (World.setCell _ ⟨g, 0, none⟩ (vU (B ||| 2 ^ i))) g 98 [vU (bitsP (l.take (k + 1)))] from by rw [HSN.out]; exact HG.out.set 0 (vU (B ||| 2 ^ i)))
          replace K0 := Lib.hid (K0.out.setCell (p := ⟨g, 0, none⟩) (.inr HG2.out) (vU (B ||| 2 ^ i)))
          go_wp2_with fail
          go_roundw
          case rel => exact ⟨k + 1, by omega, by go_num, HGn, K0⟩
          case measure => simp [intOf]; omega
        · go_simp
          refine (fBit_any i _ (by omega)).mono ?_
          rintro _ yy ⟨rfl, hyy⟩
          subst hyy
          go_wp2_with fail
          refine hK.out _ _ ?_ (fun hHeld => ?_)
          · trivial
          clear hK K
          try simp only [Act.put, List.setIfInBounds_toArray, List.set_cons_zero, List.set_cons_succ]
          refine wpAnyH_ready (rs := [4]) (by kernel_rfl) (by simp) ?_
          refine AllReadyH.cons rfl (fun K hK => ?_) AllReadyH.nil
          have q0 := HG.out.cell 0
          simp only [List.getElem?_cons_zero] at q0
          go_simp
          clear q0
          refine hK.out _ _ ?_ (fun hHeld => ?_)
          · trivial
          clear hK K
          try simp only [Act.put, List.setIfInBounds_toArray, List.set_cons_zero, List.set_cons_succ]
          refine tkYes (i := 7) (v := vU (B ||| 2 ^ i)) rfl rfl (by kernel_rfl) (by kernel_rfl) (by kernel_rfl) (fun _ _ _ h => h) (by rfl) ?_ (by assumption) ?_
          skip
          · (intro w' hSw; (try dsimp only at hSw); go_simp; first | done | (rw [show ((2 : Int) ^ i) = ((2 ^ i : Nat) : Int) by simp, HOR.out]; done) | (rw [HOR.out]; done))
          try simp only [Act.put, List.setIfInBounds_toArray, List.set_cons_zero, List.set_cons_succ]
          refine tkYes (i := 8) (v := .pointer (some ⟨g, 0, none⟩)) rfl rfl (by kernel_rfl) (by kernel_rfl) (by kernel_rfl) (fun _ _ _ h => h) (by rfl) ?_ (by assumption) ?_
          skip
          · (intro w' hSw; (try dsimp only at hSw); go_simp; first | done | (simp; done) | (rw [h64]; simp; done) | (intro hbad; omega))
          try simp only [Act.put, List.setIfInBounds_toArray, List.set_cons_zero, List.set_cons_succ]
          refine wpAnyH_ready (rs := [9]) (by kernel_rfl) (by simp) ?_
          refine AllReadyH.cons rfl (fun K hK => ?_) AllReadyH.nil
          have q0 := HG.out.cell 0
          have f0 := HG.out.frozen 0
          have l0 := HG.out.lt
          simp only [List.getElem?_cons_zero] at q0
          go_simp
          clear q0 f0 l0
          refine hK.out _ _ ?_ (fun hHeld => ?_)
          · trivial
          clear hK K
          try simp only [Act.put, List.setIfInBounds_toArray, List.set_cons_zero, List.set_cons_succ]
          refine wpAnyH_done (by kernel_rfl) ?_ _
          have HGn := Lib.hid (show Blk (World.setCell _ ⟨g, 0, none⟩ (vU (B ||| 2 ^ i))) g 98 [vU (bitsP (l.take (k + 1)))] from by rw [HSN.out]; exact HG.out.set 0 (vU (B ||| 2 ^ i)))
          replace K0 := Lib.hid (K0.out.setCell (p := ⟨g, 0, none⟩) (.inr HG2.out) (vU (B ||| 2 ^ i)))
          go_wp2_with fail
          go_roundw
          case rel => exact ⟨k + 1, by omega, by go_num, HGn, K0⟩
          case measure => simp [intOf]; omega
      · obtain rfl : k = l.length := by omega
        rw [List.take_length] at HG
        go_wp2_with fail
        show post (.returned (.slice (some ⟨g, 0, none⟩) 1 1)) _
        rw [HPOST.out]
        refine ⟨_, rfl, ?_, K0.out⟩
        rw [H1.out]
        exact own_of_blk (by unfold bitsV; rw [if_neg HZ.out]; exact HG.out) HG2.out (by unfold bitsV; rw [if_neg HZ.out]; rfl) (by decide)
/-- How many bits: none just where there are none. -/
theorem and_pred (b : Nat) (h : b ≠ 0) : b &&& (b - 1) < b := Nat.lt_of_le_of_lt Nat.and_le_right (by omega)
set_option maxRecDepth 100000 in
theorem fOnes_any (b : Nat) (hb : b < 2 ^ 60) (w : World) :
    Calls Tryz.prog 156 #[.int .u64 (b : Int)] w fun e w' => ∃ n : Nat, e = .returned (.int .i64 n) ∧ (n = 0 ↔ b = 0) ∧ n ≤ b ∧ w' = w := by
  obtain ⟨post, hpost⟩ : ∃ post : Ending → World → Prop, post = fun e w' => ∃ n : Nat, e = .returned (.int .i64 n) ∧ (n = 0 ↔ b = 0) ∧ n ≤ b ∧ w' = w := ⟨_, rfl⟩
  rw [← hpost]
  have HPOST := Lib.hid hpost
  clear hpost
  have HB := Lib.hid hb
  have hb0 : b ≤ 1152921504606846976 := by have := hb; omega
  clear hb
  go_enter Tryz.func156, Tryz.ntmps156
  go_wp2_with fail
  go_step3
  go_wp2_with fail
  go_step3
  go_wp2_with fail
  go_loopw [0, 3] (fun x y wr => ∃ q n : Nat, q + n ≤ b ∧ (n = 0 → q = b) ∧ x = .int .u64 (q : Int) ∧ y = .int .i64 (n : Int) ∧ wr = w) (fun x _ _ => (intOf x).toNat)
  case atStart => exact ⟨b, 0, by omega, fun _ => rfl, rfl, rfl, rfl⟩
  case round =>
    obtain ⟨q, n, hqn, hn0, rfl, rfl, rfl⟩ := hrel
    by_cases hq : q = 0
    · subst hq
      go_wp2_with fail
      show post (.returned (.int .i64 (n : Int))) _
      rw [HPOST.out]
      exact ⟨n, rfl, ⟨fun h => (hn0 h).symm, fun h => by omega⟩, by omega, rfl⟩
    · have hqz : ((q : Int) == 0) = false := beq_false_of_ne (by omega)
      have hw1 : IntKind.u64.wrap ((q : Int) - 1) = ((q - 1 : Nat) : Int) := by rw [u64_wrap]; omega
      have HAN := Lib.hid (bits_and (a := q) (b := q - 1) (by omega) (by omega))
      have HLT := Lib.hid (and_pred q hq)
      go_wp2_with fail
      go_roundw
      case rel => exact ⟨q &&& (q - 1), n + 1, by have := HLT.out; omega, fun h => by omega, by rw [HAN.out], by go_num, trivial⟩
      case measure =>
        rw [HAN.out]
        have := HLT.out
        simp [intOf]
        omega
theorem word_at {w : World} {A : Option Addr} {N b : Nat} (hz : N ≠ 0) (hr : Reads w A (bitsV N b)) : ∃ g off, A = some ⟨g, off, none⟩ ∧ g < w.heap.size ∧ w.cell? ⟨g, off, none⟩ = some (vU b) := by
  unfold bitsV at hr
  rw [if_neg hz] at hr
  obtain ⟨g, off, e, hg, hc⟩ := hr (by simp)
  have c0 := hc 0 _ rfl
  exact ⟨g, off, e, hg, c0⟩
theorem pow60 {N b : Nat} (hN : N ≤ 60) (hb : b < 2 ^ N) : b < 2 ^ 60 := Nat.lt_of_lt_of_le hb (Nat.pow_le_pow_right (by decide) hN)
theorem fCount_any (N b : Nat) (hN : N ≤ 60) (hb : b < 2 ^ N) (A : Option Addr) (c : Nat) (w : World) (hr : Reads w A (bitsV N b)) :
    Calls Tryz.prog 117 #[.slice A (wordsN N) c] w fun e w' => ∃ n : Nat, e = .returned (.int .i64 n) ∧ (n = 0 ↔ b = 0) ∧ w' = w := by
  obtain ⟨post, hpost⟩ : ∃ post : Ending → World → Prop, post = fun e w' => ∃ n : Nat, e = .returned (.int .i64 n) ∧ (n = 0 ↔ b = 0) ∧ w' = w := ⟨_, rfl⟩
  rw [← hpost]
  have HPOST := Lib.hid hpost
  clear hpost
  by_cases hz : N = 0
  · subst hz
    have hb0 : b = 0 := by simp at hb; exact hb
    clear hr
    rw [show wordsN 0 = 0 from rfl]
    go_enter Tryz.func117, Tryz.ntmps117
    go_wp2_with fail
    go_loopw [3, 8] (fun x y wr => x = .int .i64 0 ∧ y = .int .i64 0 ∧ wr = w) (fun _ _ _ => 0)
    case atStart => exact ⟨rfl, rfl, rfl⟩
    case round =>
      obtain ⟨rfl, rfl, rfl⟩ := hrel
      go_wp2_with fail
      show post (.returned (.int .i64 0)) _
      rw [HPOST.out]
      exact ⟨0, rfl, ⟨fun _ => hb0, fun _ => rfl⟩, rfl⟩
  · obtain ⟨g, off, rfl, hg, c0⟩ := word_at hz hr
    have H1 := Lib.hid (fOnes_any b (pow60 hN hb) w)
    have HC := Lib.hid c0
    have HB6 := Lib.hid (show b < 1152921504606846976 from pow60 hN hb)
    rw [show wordsN N = 1 by unfold wordsN; rw [if_neg hz]]
    clear hr hz hb hN hg c0
    go_enter Tryz.func117, Tryz.ntmps117
    go_wp2_with fail
    go_loopw [3, 8] (fun x y wr => ((x = .int .i64 0 ∧ y = .int .i64 0) ∨ ∃ n : Nat, (n = 0 ↔ b = 0) ∧ x = .int .i64 n ∧ y = .int .i64 1) ∧ wr = w) (fun _ y _ => 1 - (intOf y).toNat)
    case atStart => exact ⟨.inl ⟨rfl, rfl⟩, rfl⟩
    case round =>
      obtain ⟨h, hw⟩ := hrel
      subst hw
      rcases h with ⟨rfl, rfl⟩ | ⟨n, hn, rfl, rfl⟩
      · have c0 := HC.out
        go_wp2_with fail
        refine H1.out.mono ?_
        rintro _ w2 ⟨n, rfl, hn, hnb, hw2⟩
        subst hw2
        clear c0
        have hn64 : IntKind.i64.wrap (n : Int) = (n : Int) := by rw [IntKind.wrap_i64]; have := HB6.out; omega
        go_wp2_with fail
        go_roundw
        case rel => exact ⟨.inr ⟨n, hn, by simp [hn64], rfl⟩, trivial⟩
        case measure => simp [intOf]
      · go_wp2_with fail
        show post (.returned (.int .i64 (n : Int))) _
        rw [HPOST.out]
        exact ⟨n, rfl, hn, rfl⟩
end Go.Proofs.YtblfingmdipopaaGreat
