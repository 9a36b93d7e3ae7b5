/- How many edges go from, come to each vertex: the program's and the reference's. -/
import Derived.Test.YtibjpjpbmkdddaaE26
import Derived.Test.YtibjpjpbmkdddaaE23
namespace Go.Proofs.Ytibjpjpbmkdddaa
set_option linter.unusedSimpArgs false
set_option linter.unusedVariables false
open Go.ChangeShapes Go.WideShapes Go.ChangeAt Go.RowKit
open Go.RowKit (wrap32 wrap64)
set_option maxHeartbeats 8000000

theorem infoInt : Info Try.prog 3 (.int .i64 0) 1 8 := by unfold Info; kernel_rfl
abbrev vI (x : Int) : Value := .int .i64 x
/-- One more at v. -/
def cntS (N : Nat) (L : List Int) (v : Int) : List Int := if 0 ≤ v ∧ v < N then L.set v.toNat (L.getD v.toNat 0 + 1) else L
def cntL (sel : Ed → Int) (N : Nat) (l : List Ed) : List Int := l.foldl (fun L e => cntS N L (sel e)) (List.replicate N 0)
theorem cntL_succ (sel : Ed → Int) (N : Nat) (l : List Ed) {k : Nat} (h : k < l.length) : cntL sel N (l.take (k + 1)) = cntS N (cntL sel N (l.take k)) (sel l[k]) := by
  unfold cntL
  rw [List.take_succ_eq_append_getElem h, List.foldl_append]
  rfl
theorem getD_at {L : List Int} {j : Nat} (h : j < L.length) : L.getD j 0 = L[j] := by simp [List.getD, h]
theorem cntS_length (N : Nat) (L : List Int) (v : Int) : (cntS N L v).length = L.length := by unfold cntS; split <;> simp
theorem cntL_facts (sel : Ed → Int) (N : Nat) (l : List Ed) : (cntL sel N l).length = N ∧ ∀ x ∈ cntL sel N l, 0 ≤ x ∧ x ≤ l.length := by
  unfold cntL
  suffices h : ∀ (l : List Ed) (L : List Int) (k : Nat), L.length = N → (∀ x ∈ L, 0 ≤ x ∧ x ≤ k) → (l.foldl (fun L e => cntS N L (sel e)) L).length = N ∧ ∀ x ∈ l.foldl (fun L e => cntS N L (sel e)) L, 0 ≤ x ∧ x ≤ k + l.length by
    have := h l (List.replicate N 0) 0 (by simp) (by intro x hx; rw [(List.mem_replicate.1 hx).2]; omega)
    simpa using this
  intro l
  induction l with
  | nil => intro L k h1 h2; simpa using ⟨h1, h2⟩
  | cons e l ih =>
    intro L k h1 h2
    rw [List.foldl_cons]
    have := ih (cntS N L (sel e)) (k + 1) (by rw [cntS_length, h1]) (by
      intro x hx
      unfold cntS at hx
      split at hx
      · rcases List.mem_or_eq_of_mem_set hx with hx | rfl
        · have := h2 x hx; omega
        · rename_i hv
          have hb := h2 (L.getD (sel e).toNat 0) (by rw [getD_at (show (sel e).toNat < L.length by omega)]; exact List.getElem_mem _)
          omega
      · have := h2 x hx; omega)
    refine ⟨this.1, fun x hx => ?_⟩
    have := this.2 x hx
    simp only [List.length_cons]
    omega
/-- Of each vertex how many edges have it as an end. -/
def countP (sel : Ed → Int) (n : Int) (l : List Ed) : List Int := if n < 0 ∨ 4096 < n then [] else cntL sel n.toNat l
/-- A list of numbers that a call hands back. -/
def IntsPost (w : World) (L : List Int) (e : Ending) (w' : World) : Prop := ∃ A c, e = .returned (.slice A L.length c) ∧ Reads w' A (L.map vI) ∧ Kept [] w w'
theorem countP_out {sel : Ed → Int} {n : Int} {l : List Ed} (h : n < 0 ∨ 4096 < n) : countP sel n l = [] := if_pos h
theorem countP_in {sel : Ed → Int} {N : Nat} {l : List Ed} (h : N ≤ 4096) : countP sel N l = cntL sel N l := by
  unfold countP
  rw [if_neg (by omega), Int.toNat_natCast]
def selO (e : Ed) : Int := e.1
def selI (e : Ed) : Int := e.2.1
theorem clO (e : Ed) (w : World) : Calls Try.prog 52 #[.agg #[.int .i64 e.1, .int .i64 e.2.1, .int .i64 e.2.2]] w fun x w' => x = .returned (.int .i64 (selO e)) ∧ Kept [] w w' := by
  obtain ⟨a, b, c⟩ := e
  go_enter Try.func52, Try.ntmps52
  go_wp2_with fail
  go_ret
  exact ⟨rfl, (Kept.refl _ _).alloc _⟩
set_option maxRecDepth 100000 in
theorem countO (n : Int) (l : List Ed) (A : Option Addr) (c : Nat) (w : World) (hl : l.length ≤ 1048576) (hA : Reads w A (l.flatMap edV)) :
    Calls Try.prog 51 #[.agg #[.int .i64 n, .slice A l.length c], .func (.func 52) #[] #[]] w (IntsPost w (countP selO n l)) := by
  have HA := Lib.hid hA
  have HB := Lib.hid (Blk.new w 24 (grV n A l.length c))
  have K0 := Lib.hid ((Kept.refl [] w).alloc (.cells #[.int .i64 n, .slice A l.length c] 24))
  clear hA
  by_cases hn0 : n < 0
  · rw [countP_out (.inl hn0)]
    go_enter Try.func51, Try.ntmps51
    go_wp2_with fail
    go_ret
    exact ⟨none, 0, rfl, Reads.nil _ _, K0.out⟩
  by_cases hn1 : 4096 < n
  · rw [countP_out (.inr hn1)]
    go_enter Try.func51, Try.ntmps51
    go_wp2_with fail
    go_ret
    exact ⟨none, 0, rfl, Reads.nil _ _, K0.out⟩
  obtain ⟨N, rfl⟩ := Int.eq_ofNat_of_zero_le (show 0 ≤ n by omega)
  replace hn1 : N ≤ 4096 := by omega
  clear hn0
  rw [countP_in hn1]
  obtain ⟨post, hpost⟩ : ∃ post : Ending → World → Prop, post = IntsPost w (cntL selO N l) := ⟨_, rfl⟩
  rw [← hpost]
  have HPOST := Lib.hid hpost
  clear hpost
  have HGE := Lib.hid (Nat.le_refl w.heap.size)
  go_enter Try.func51, Try.ntmps51
  go_upto_region 3 with (fail)
  generalize w.alloc (.cells #[.int .i64 N, .slice A l.length c] 24) = w2 at *
  generalize hgq : w.heap.size = g at HB ⊢
  have y0 := HB.out.cell 0
  have y1 := HB.out.cell 1
  have hgl := HB.out.lt
  simp only [List.getElem?_cons_zero, List.getElem?_cons_succ] at y0 y1
  have hsz := K0.out.size
  go_upto_region 4 with (first | (at_make; refine wpList_mk _ rfl _ _ _ rfl 3 _ 8 Try.underlying41 infoInt rfl _ _ _ _ N rfl rfl rfl rfl (by omega) (by unfold maxLen; omega) ?_; intro w3 hblk hk3))
  have HGN := Lib.hid (show w.heap.size ≤ w2.heap.size ∧ g ≠ w2.heap.size from ⟨hsz, by omega⟩)
  replace HB := Lib.hid (HB.out.kept hk3 (by simp))
  replace K0 := Lib.hid (K0.out.trans hk3)
  have HC := Lib.hid (show Blk w3 w2.heap.size 3 ((cntL selO N (l.take 0)).map vI) by simpa [cntL] using hblk)
  clear hblk hk3 y0 y1 hgl hsz hgq
  generalize w2.heap.size = g5 at HC HGN ⊢
  have y0 := HB.out.cell 0
  have y1 := HB.out.cell 1
  have hgl := HB.out.lt
  simp only [List.getElem?_cons_zero, List.getElem?_cons_succ] at y0 y1
  go_wp2_with fail
  clear y0 y1 hgl
  go_loopw [23] (fun i wr => ∃ k : Nat, k ≤ l.length ∧ i = .int .i64 k ∧ Hid (Blk wr g 24 (grV N A l.length c)) ∧ Hid (Blk wr g5 3 ((cntL selO N (l.take k)).map vI)) ∧ Hid (Kept [] w wr)) (fun i _ => l.length - (intOf i).toNat)
  case atStart => exact ⟨0, Nat.zero_le _, rfl, HB, HC, K0⟩
  case round =>
    clear HB HC K0
    obtain ⟨k, hk, rfl, HB, HC, K0⟩ := hrel
    have y0 := HB.out.cell 0
    have y1 := HB.out.cell 1
    have hgl := HB.out.lt
    simp only [List.getElem?_cons_zero, List.getElem?_cons_succ] at y0 y1
    by_cases hlt : k < l.length
    · have HS := Lib.hid (cntL_succ selO N l hlt)
      obtain ⟨b, off, rfl, hbl, c0, c1, c2⟩ := edge_at (HA.out.kept0 K0.out) hlt
      obtain ⟨x, hx⟩ : ∃ x, x = l[k] := ⟨_, rfl⟩
      rw [← hx] at c0 c1 c2 HS
      clear hx
      have hlk := Nat.le_trans (List.length_take_le' k l) (Nat.le_refl _)
      have HLF := cntL_facts selO N (l.take k)
      generalize hmq : cntL selO N (l.take k) = L at HC HS HLF
      clear hmq
      have hLn := HLF.1
      have HLB := Lib.hid (show ∀ x ∈ L, (0 : Int) ≤ x ∧ x ≤ 1048576 from fun x hx => ⟨(HLF.2 x hx).1, by have := (HLF.2 x hx).2; simp at this; omega⟩)
      clear HLF hlk
      obtain ⟨v, hv⟩ : ∃ v, v = selO x := ⟨_, rfl⟩
      go_wp2_with fail
      refine (clO x _).mono ?_
      rintro _ w4 ⟨rfl, hk4⟩
      have k3 : Kept [] wr w4 := ((Kept.refl [] wr).alloc _).trans hk4
      replace HB := Lib.hid (HB.out.kept k3 (by simp))
      replace HC := Lib.hid (HC.out.kept k3 (by simp))
      replace K0 := Lib.hid (K0.out.trans k3)
      rw [← hv] at HS ⊢
      clear hk4 k3 c0 c1 c2 hbl y0 y1 hgl
      have y0 := HB.out.cell 0
      have y1 := HB.out.cell 1
      have hgl := HB.out.lt
      simp only [List.getElem?_cons_zero, List.getElem?_cons_succ] at y0 y1
      by_cases hv0 : v < 0
      · have HS2 := Lib.hid (show cntS N L v = L by unfold cntS; rw [if_neg (by omega)])
        clear hv
        go_wp2_with fail
        go_roundw
        case rel =>
          refine ⟨k + 1, by omega, by go_num, HB, Lib.hid ?_, K0⟩
          rw [HS.out, HS2.out]
          exact HC.out
        case measure => simp [intOf]; omega
      · obtain ⟨j, rfl⟩ := Int.eq_ofNat_of_zero_le (show 0 ≤ v by omega)
        clear hv0 hv
        by_cases hj : j < N
        · have hjl : j < L.length := by omega
          have hx := HLB.out L[j] (List.getElem_mem _)
          have HS2 := Lib.hid (show cntS N L (j : Int) = L.set j (L[j] + 1) by unfold cntS; rw [if_pos (by omega), Int.toNat_natCast, getD_at hjl])
          have z0 : w4.cell? ⟨g5, j, none⟩ = some (.int .i64 L[j]) := by rw [HC.out.cell, List.getElem?_map, List.getElem?_eq_getElem hjl]; rfl
          obtain ⟨x, hxq⟩ : ∃ x, x = L[j] := ⟨_, rfl⟩
          rw [← hxq] at hx HS2 z0
          clear hxq
          have f0 := HC.out.frozen j
          have g5l := HC.out.lt
          go_wp2_with fail
          have ko := (Kept.refl [g5] w4).setCell (p := ⟨g5, j, none⟩) (.inl (by simp)) (.int .i64 (x + 1))
          replace HB := Lib.hid (HB.out.kept ko (by simp; exact HGN.out.2))
          replace HC := Lib.hid (HC.out.set j (.int .i64 (x + 1)))
          rw [← List.map_set (f := vI)] at HC
          replace K0 := Lib.hid (K0.out.then ko (fun m hm => by simp at hm; subst hm; exact .inr HGN.out.1))
          clear ko z0 f0 g5l y0 y1
          generalize w4.setCell ⟨g5, j, none⟩ (.int .i64 (x + 1)) = wb at *
          go_roundw
          case rel =>
            refine ⟨k + 1, by omega, by go_num, HB, Lib.hid ?_, K0⟩
            rw [HS.out, HS2.out]
            exact HC.out
          case measure => simp [intOf]; omega
        · have HS2 := Lib.hid (show cntS N L (j : Int) = L by unfold cntS; rw [if_neg (by omega)])
          go_wp2_with fail
          go_roundw
          case rel =>
            refine ⟨k + 1, by omega, by go_num, HB, Lib.hid ?_, K0⟩
            rw [HS.out, HS2.out]
            exact HC.out
          case measure => simp [intOf]; omega
    · obtain rfl : k = l.length := by omega
      rw [List.take_length] at HC
      have HLN := Lib.hid (cntL_facts selO N l).1
      go_wp2_with fail
      rw [HPOST.out]
      show IntsPost w _ (.returned (.slice (some ⟨g5, 0, none⟩) N N)) wr
      refine ⟨_, N, by rw [HLN.out], Reads.of_blk HC.out (fun _ _ h => h), K0.out⟩
theorem outs_any (n : Int) (l : List Ed) (A : Option Addr) (c : Nat) (w : World) (hl : l.length ≤ 1048576) (hA : Reads w A (l.flatMap edV)) :
    Calls Try.prog 13 #[.agg #[.int .i64 n, .slice A l.length c]] w (IntsPost w (countP selO n l)) := by
  have K0 := Lib.hid ((Kept.refl [] w).alloc (.cells #[.int .i64 n, .slice A l.length c] 24))
  have HA := Lib.hid hA
  have HL := Lib.hid hl
  clear hA hl
  go_enter Try.func13, Try.ntmps13
  go_wp2_with fail
  refine (countO n l A c _ HL.out (HA.out.kept0 K0.out)).mono ?_
  rintro _ w3 ⟨A3, c3, rfl, hr, hk⟩
  have HR := Lib.hid hr
  have K := Lib.hid (K0.out.trans hk)
  clear hr hk
  go_wp2_with fail
  go_ret
  exact ⟨A3, c3, rfl, HR.out, K.out⟩
end Go.Proofs.Ytibjpjpbmkdddaa
