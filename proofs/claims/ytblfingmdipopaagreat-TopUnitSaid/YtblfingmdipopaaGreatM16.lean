/- Graphs made of others: edges turned, without loops, of weight one, to lesser vertices. -/
import Derived.Test.YtblfingmdipopaaGreatM14
namespace Go.Proofs.YtblfingmdipopaaGreat
set_option linter.unusedSimpArgs false
set_option linter.unusedVariables false
open Go.ChangeShapes Go.WideShapes Go.ChangeAt Go.RowKit
open Go.RowKit (wrap32 wrap64)
set_option maxHeartbeats 8000000
/-- The edges that are let through, changed. -/
def madeP (f : Ed → Ed) (p : Ed → Bool) (l : List Ed) : List Ed := (l.filter p).map f
theorem madeP_succ (f : Ed → Ed) (p : Ed → Bool) (l : List Ed) {k : Nat} (h : k < l.length) : madeP f p (l.take (k + 1)) = madeP f p (l.take k) ++ (if p l[k] = true then [f l[k]] else []) := by
  unfold madeP
  rw [List.take_succ_eq_append_getElem h, List.filter_append, List.map_append]
  congr 1
  by_cases hp : p l[k] = true
  · simp [hp]
  · simp [hp]
theorem madeP_length (f : Ed → Ed) (p : Ed → Bool) (l : List Ed) : (madeP f p l).length ≤ l.length := by
  unfold madeP
  rw [List.length_map]
  exact List.length_filter_le _ _
theorem madeP_in {f : Ed → Ed} {p : Ed → Bool} {l : List Ed} (hf : ∀ e, In64 e.2.2 → In64 (f e).2.2) (h : ∀ e ∈ l, In64 e.2.2) : ∀ e ∈ madeP f p l, In64 e.2.2 := by
  intro e he
  obtain ⟨x, hx, rfl⟩ := List.mem_map.1 he
  exact hf x (h x (List.mem_filter.1 hx).1)
def turnE (e : Ed) : Ed := (e.2.1, e.1, e.2.2)
def oneE (e : Ed) : Ed := (e.1, e.2.1, 1)
def allE (_ : Ed) : Bool := true
set_option maxRecDepth 100000 in
theorem chgT (e : Ed) (w : World) : Calls Tryz.prog 178 #[.agg #[.int .i64 e.1, .int .i64 e.2.1, .int .i64 e.2.2]] w fun x w' => x = .returned (.tuple #[.agg (edV (turnE e)).toArray, .bool (allE e)]) ∧ Kept [] w w' := by
  obtain ⟨a, b, c⟩ := e
  dsimp only
  go_enter Tryz.func178, Tryz.ntmps178
  go_wp2_with fail
  refine bodyPost_ret (v := .tuple #[.agg #[.int .i64 b, .int .i64 a, .int .i64 c], .bool true]) (by simp [results, Tryz.results178, go_sem]) rfl ?_
  exact ⟨rfl, ((Kept.refl _ _).alloc _).alloc _⟩
set_option maxRecDepth 100000 in
theorem chgP (e : Ed) (w : World) : Calls Tryz.prog 153 #[.agg #[.int .i64 e.1, .int .i64 e.2.1, .int .i64 e.2.2]] w fun x w' => x = .returned (.tuple #[.agg (edV (oneE e)).toArray, .bool (allE e)]) ∧ Kept [] w w' := by
  obtain ⟨a, b, c⟩ := e
  dsimp only
  go_enter Tryz.func153, Tryz.ntmps153
  go_wp2_with fail
  refine bodyPost_ret (v := .tuple #[.agg #[.int .i64 a, .int .i64 b, .int .i64 1], .bool true]) (by simp [results, Tryz.results153, go_sem]) rfl ?_
  exact ⟨rfl, ((Kept.refl _ _).alloc _).alloc _⟩
end Go.Proofs.YtblfingmdipopaaGreat

/- Graphs made of others: made, Turn, Simple, Plain, Lower. -/
namespace Go.Proofs.YtblfingmdipopaaGreat
set_option linter.unusedSimpArgs false
set_option linter.unusedVariables false
open Go.ChangeShapes Go.WideShapes Go.ChangeAt Go.RowKit
open Go.RowKit (wrap32 wrap64)
set_option maxHeartbeats 8000000
set_option maxRecDepth 100000 in
theorem mkT (n : Int) (l : List Ed) (A : Option Addr) (c : Nat) (w : World) (hl : l.length ≤ 1048576) (hA : Reads w A (l.flatMap edV)) (hw : ∀ e ∈ l, In64 e.2.2) :
    Calls Tryz.prog 148 #[.agg #[.int .i64 n, .slice A l.length c], .func (.func 178) #[] #[]] w (GrPost w n (canonP (madeP turnE allE l))) := by
  have HA := Lib.hid hA
  have HW := Lib.hid (madeP_in (f := turnE) (p := allE) (fun e h => h) hw)
  have HB := Lib.hid ((Blk.new w 56 (grV n A l.length c)).alloc (.cells #[.int .i64 0, .slice none 0 0] 56))
  have HZ := Lib.hid (Blk.new1F w (.cells #[.int .i64 n, .slice A l.length c] 56) 56 [.int .i64 0, .slice none 0 0])
  have K0 := Lib.hid (((Kept.refl [] w).alloc (.cells #[.int .i64 n, .slice A l.length c] 56)).alloc (.cells #[.int .i64 0, .slice none 0 0] 56))
  have HGZ := Lib.hid (show w.heap.size ≤ w.heap.size + 1 by omega)
  clear hA hw
  obtain ⟨post, hpost⟩ : ∃ post : Ending → World → Prop, post = GrPost w n (canonP (madeP turnE allE l)) := ⟨_, rfl⟩
  rw [← hpost]
  have HPOST := Lib.hid hpost
  clear hpost
  go_enter Tryz.func148, Tryz.ntmps148
  go_upto_region 1 with (fail)
  generalize ((w.alloc (.cells #[.int .i64 n, .slice A l.length c] 56)).alloc (.cells #[.int .i64 0, .slice none 0 0] 56)) = w2 at *
  generalize w.heap.size + 1 = gz at HZ HGZ ⊢
  generalize hgq : w.heap.size = g at HB ⊢
  have HGZ0 := HGZ
  rw [hgq] at HGZ
  have HGE := Lib.hid (show w.heap.size ≤ g from by rw [hgq]; exact Nat.le_refl _)
  clear hgq
  have y1 := HB.out.cell 1
  simp only [List.getElem?_cons_zero, List.getElem?_cons_succ] at y1
  go_wp2_with fail
  clear y1
  go_loopw [5, 13] (fun v i wr => ∃ k : Nat, k ≤ l.length ∧ i = .int .i64 k ∧ Hid (wr.ownsRow w.heap.size 107 3 v (madeP turnE allE (l.take k)).length ((madeP turnE allE (l.take k)).flatMap edV)) ∧ Hid (Blk wr g 56 (grV n A l.length c)) ∧ Hid (Blk wr gz 56 [.int .i64 0, .slice none 0 0]) ∧ Hid (Kept [] w wr)) (fun _ i _ => l.length - (intOf i).toNat)
  case atStart => exact ⟨0, Nat.zero_le _, rfl, Lib.hid (World.ownsRow_nil _ _ _ _), HB, HZ, K0⟩
  case round =>
    clear HB HZ K0
    obtain ⟨k, hk, rfl, HO, HB, HZ, K0⟩ := hrel
    obtain ⟨v, hv⟩ : ∃ v, v = u5 := ⟨_, rfl⟩
    subst hv
    have hml := Nat.le_trans (madeP_length turnE allE (l.take k)) (List.length_take_le' k l)
    by_cases hlt : k < l.length
    · have HS := Lib.hid (madeP_succ turnE allE l hlt)
      obtain ⟨b, off, rfl, hbl, c0, c1, c2⟩ := edge_at (HA.out.kept0 K0.out) hlt
      obtain ⟨x, hx⟩ : ∃ x, x = l[k] := ⟨_, rfl⟩
      rw [← hx] at c0 c1 c2 HS
      clear hx
      generalize hmq : madeP turnE allE (l.take k) = M at HO HS hml
      clear hmq
      obtain ⟨A5, c5, rfl⟩ := own_n HO.out
      go_wp2_with fail
      refine (chgT x _).mono ?_
      rintro _ w3 ⟨rfl, hk3⟩
      have k3 : Kept [] wr w3 := ((Kept.refl [] wr).alloc _).trans hk3
      replace HO := Lib.hid (own_kept0 HO.out k3)
      replace HB := Lib.hid (HB.out.kept k3 (by simp))
      replace HZ := Lib.hid (HZ.out.kept k3 (by simp))
      replace K0 := Lib.hid (K0.out.trans k3)
      clear hk3 k3 c0 c1 c2 hbl
      obtain ⟨y, hy⟩ : ∃ y, y = turnE x := ⟨_, rfl⟩
      rw [← hy] at HS ⊢
      clear hy
      obtain ⟨y1, y2, y3⟩ := y
      simp only [edV]
      by_cases hp : allE x = true
      · rw [if_pos hp] at HS
        try rw [hp]
        have hsz := K0.out.size
        clear hp
        go_wp2_with (first | (at_builtin; refine wpList_app _ rfl (.tmp 24) (.tmp 26) _ rfl 107 (.agg #[.int .i64 0, .int .i64 0, .int .i64 0]) 3 24 Tryz.underlying54 infoEd rfl (by decide) w.heap.size (.slice A5 M.length c5) _ _ rfl ((HO.out.alloc _).alloc _) (some ⟨_, 0, none⟩) 1 1 (edV (y1, y2, y3)) rfl rfl (Reads.of_blk (Blk.new1F _ _ _ _) (fun _ _ h => h)) (by simp [edV, Value.oneCell']) (by omega) (by unfold maxLen; omega) (by simp; omega) ?_; intro va wa howna hka hba; have HOa := Lib.hid howna; have Fa := Lib.hid ((((KeptB.refl w.heap.size [107] w3).alloc _).alloc _).app hka ((HO.out.alloc _).alloc _) (by decide)); clear howna hka hba))
        go_roundw
        case rel =>
          refine ⟨k + 1, by omega, by go_num, Lib.hid ?_, Lib.hid (HB.out.keptB Fa.out (by decide)), Lib.hid (HZ.out.keptB Fa.out (by decide)), Lib.hid (K0.out.thenB Fa.out (Nat.le_refl _))⟩
          rw [HS.out]
          have := HOa.out
          simpa using this
        case measure => simp [intOf]; omega
      · rw [if_neg hp] at HS
        first
          | exact absurd (show allE x = true from rfl) hp
          | (rw [show allE x = false by simpa using hp]
             clear hp
             have k4 := Lib.hid ((Kept.refl [] w3).alloc (.cells #[.int .i64 y1, .int .i64 y2, .int .i64 y3] 107))
             replace HO := Lib.hid (own_kept0 HO.out k4.out)
             replace HB := Lib.hid (HB.out.kept k4.out (by simp))
             replace HZ := Lib.hid (HZ.out.kept k4.out (by simp))
             replace K0 := Lib.hid (K0.out.trans k4.out)
             clear k4
             go_wp2_with fail
             go_roundw
             case rel =>
               refine ⟨k + 1, by omega, by go_num, Lib.hid ?_, HB, HZ, K0⟩
               rw [HS.out]
               have := HO.out
               simpa using this
             case measure => simp [intOf]; omega)
    · obtain rfl : k = l.length := by omega
      rw [List.take_length] at HO
      obtain ⟨A5, c5, rfl⟩ := own_n HO.out
      have HML := Lib.hid (Nat.le_trans (madeP_length turnE allE l) hl)
      have y0 := HB.out.cell 0
      simp only [List.getElem?_cons_zero, List.getElem?_cons_succ] at y0
      rw [List.take_length] at *
      clear hml
      go_wp2_with fail
      refine (canon_any n (madeP turnE allE l) A5 c5 _ HML.out (Reads.of_own HO.out) HW.out).mono ?_
      rintro _ w5 ⟨vr, rfl, ho5, hk5⟩
      obtain ⟨A6, c6, rfl⟩ := own_n ho5
      have HO5 := Lib.hid (own_le (base' := w.heap.size) ho5 K0.out.size)
      replace HZ := Lib.hid (HZ.out.kept hk5 (by simp))
      replace K0 := Lib.hid (K0.out.trans hk5)
      clear ho5 hk5 y0
      go_wp2_with (first | (refine wpList_storeBlk rfl 56 (.tmp 4) (.tmp 33) rfl gz _ [.int .i64 n, .slice A6 (canonP (madeP turnE allE l)).length c6] HZ.out rfl rfl rfl infoGraph (by simp [Value.oneCell']) ?_; intro w8 hb8 hk8))
      have e0 := hb8.cell 0
      have e1 := hb8.cell 1
      simp only [List.getElem?_cons_zero, List.getElem?_cons_succ] at e0 e1
      refine bodyPost_ret (v := .agg #[.int .i64 n, .slice A6 (canonP (madeP turnE allE l)).length c6]) (by simp [results, Tryz.results148, go_sem, e0, e1]) rfl ?_
      rw [HPOST.out]
      have f8 : KeptB w.heap.size [56] w5 w8 := (KeptB.refl _ _ w5).step (L := [gz]) hk8 (fun m hm => by simp at hm; subst hm; exact ⟨HGZ0.out, _, _, _, HZ.out, by simp⟩)
      exact ⟨_, rfl, own_keptB HO5.out f8 (by decide), K0.out.thenB f8 (Nat.le_refl _)⟩
set_option maxRecDepth 100000 in
theorem topT (n : Int) (l : List Ed) (A : Option Addr) (c : Nat) (w : World) (hl : l.length ≤ 1048576) (hA : Reads w A (l.flatMap edV)) (hw : ∀ e ∈ l, In64 e.2.2) :
    Calls Tryz.prog 152 #[.agg #[.int .i64 n, .slice A l.length c]] w (GrPost w n (canonP (madeP turnE allE l))) := by
  have HA := Lib.hid hA
  have HW := Lib.hid hw
  have HL := Lib.hid hl
  have HZ := Lib.hid (Blk.new1F w (.cells #[.int .i64 n, .slice A l.length c] 56) 56 [.int .i64 0, .slice none 0 0])
  have K0 := Lib.hid (((Kept.refl [] w).alloc (.cells #[.int .i64 n, .slice A l.length c] 56)).alloc (.cells #[.int .i64 0, .slice none 0 0] 56))
  clear hA hw hl
  obtain ⟨post, hpost⟩ : ∃ post : Ending → World → Prop, post = GrPost w n (canonP (madeP turnE allE l)) := ⟨_, rfl⟩
  rw [← hpost]
  have HPOST := Lib.hid hpost
  clear hpost
  go_enter Tryz.func152, Tryz.ntmps152
  go_wp2_with fail
  refine (mkT n l A c _ HL.out (HA.out.kept0 K0.out) HW.out).mono ?_
  rintro _ w5 ⟨vr, rfl, ho5, hk5⟩
  obtain ⟨A6, c6, rfl⟩ := own_n ho5
  have HO5 := Lib.hid (own_le (base' := w.heap.size) ho5 K0.out.size)
  replace HZ := Lib.hid (HZ.out.kept hk5 (by simp))
  have K1 := Lib.hid (K0.out.trans hk5)
  clear ho5 hk5
  go_wp2_with (first | (refine wpList_storeBlk rfl 56 (.tmp 2) (.tmp 4) rfl (w.heap.size + 1) _ [.int .i64 n, .slice A6 (canonP (madeP turnE allE l)).length c6] HZ.out rfl rfl rfl infoGraph (by simp [Value.oneCell']) ?_; intro w8 hb8 hk8))
  have e0 := hb8.cell 0
  have e1 := hb8.cell 1
  simp only [List.getElem?_cons_zero, List.getElem?_cons_succ] at e0 e1
  refine bodyPost_ret (v := .agg #[.int .i64 n, .slice A6 (canonP (madeP turnE allE l)).length c6]) (by simp [results, Tryz.results152, go_sem, e0, e1]) rfl ?_
  rw [HPOST.out]
  have f8 : KeptB w.heap.size [56] w5 w8 := (KeptB.refl _ _ w5).step (L := [w.heap.size + 1]) hk8 (fun m hm => by simp at hm; subst hm; exact ⟨by omega, _, _, _, HZ.out, by simp⟩)
  exact ⟨_, rfl, own_keptB HO5.out f8 (by decide), K1.out.thenB f8 (Nat.le_refl _)⟩
set_option maxRecDepth 100000 in
theorem mkP (n : Int) (l : List Ed) (A : Option Addr) (c : Nat) (w : World) (hl : l.length ≤ 1048576) (hA : Reads w A (l.flatMap edV)) (hw : ∀ e ∈ l, In64 e.2.2) :
    Calls Tryz.prog 148 #[.agg #[.int .i64 n, .slice A l.length c], .func (.func 153) #[] #[]] w (GrPost w n (canonP (madeP oneE allE l))) := by
  have HA := Lib.hid hA
  have HW := Lib.hid (madeP_in (f := oneE) (p := allE) (fun e h => by unfold In64 oneE; dsimp only; omega) hw)
  have HB := Lib.hid ((Blk.new w 56 (grV n A l.length c)).alloc (.cells #[.int .i64 0, .slice none 0 0] 56))
  have HZ := Lib.hid (Blk.new1F w (.cells #[.int .i64 n, .slice A l.length c] 56) 56 [.int .i64 0, .slice none 0 0])
  have K0 := Lib.hid (((Kept.refl [] w).alloc (.cells #[.int .i64 n, .slice A l.length c] 56)).alloc (.cells #[.int .i64 0, .slice none 0 0] 56))
  have HGZ := Lib.hid (show w.heap.size ≤ w.heap.size + 1 by omega)
  clear hA hw
  obtain ⟨post, hpost⟩ : ∃ post : Ending → World → Prop, post = GrPost w n (canonP (madeP oneE allE l)) := ⟨_, rfl⟩
  rw [← hpost]
  have HPOST := Lib.hid hpost
  clear hpost
  go_enter Tryz.func148, Tryz.ntmps148
  go_upto_region 1 with (fail)
  generalize ((w.alloc (.cells #[.int .i64 n, .slice A l.length c] 56)).alloc (.cells #[.int .i64 0, .slice none 0 0] 56)) = w2 at *
  generalize w.heap.size + 1 = gz at HZ HGZ ⊢
  generalize hgq : w.heap.size = g at HB ⊢
  have HGZ0 := HGZ
  rw [hgq] at HGZ
  have HGE := Lib.hid (show w.heap.size ≤ g from by rw [hgq]; exact Nat.le_refl _)
  clear hgq
  have y1 := HB.out.cell 1
  simp only [List.getElem?_cons_zero, List.getElem?_cons_succ] at y1
  go_wp2_with fail
  clear y1
  go_loopw [5, 13] (fun v i wr => ∃ k : Nat, k ≤ l.length ∧ i = .int .i64 k ∧ Hid (wr.ownsRow w.heap.size 107 3 v (madeP oneE allE (l.take k)).length ((madeP oneE allE (l.take k)).flatMap edV)) ∧ Hid (Blk wr g 56 (grV n A l.length c)) ∧ Hid (Blk wr gz 56 [.int .i64 0, .slice none 0 0]) ∧ Hid (Kept [] w wr)) (fun _ i _ => l.length - (intOf i).toNat)
  case atStart => exact ⟨0, Nat.zero_le _, rfl, Lib.hid (World.ownsRow_nil _ _ _ _), HB, HZ, K0⟩
  case round =>
    clear HB HZ K0
    obtain ⟨k, hk, rfl, HO, HB, HZ, K0⟩ := hrel
    obtain ⟨v, hv⟩ : ∃ v, v = u5 := ⟨_, rfl⟩
    subst hv
    have hml := Nat.le_trans (madeP_length oneE allE (l.take k)) (List.length_take_le' k l)
    by_cases hlt : k < l.length
    · have HS := Lib.hid (madeP_succ oneE allE l hlt)
      obtain ⟨b, off, rfl, hbl, c0, c1, c2⟩ := edge_at (HA.out.kept0 K0.out) hlt
      obtain ⟨x, hx⟩ : ∃ x, x = l[k] := ⟨_, rfl⟩
      rw [← hx] at c0 c1 c2 HS
      clear hx
      generalize hmq : madeP oneE allE (l.take k) = M at HO HS hml
      clear hmq
      obtain ⟨A5, c5, rfl⟩ := own_n HO.out
      go_wp2_with fail
      refine (chgP x _).mono ?_
      rintro _ w3 ⟨rfl, hk3⟩
      have k3 : Kept [] wr w3 := ((Kept.refl [] wr).alloc _).trans hk3
      replace HO := Lib.hid (own_kept0 HO.out k3)
      replace HB := Lib.hid (HB.out.kept k3 (by simp))
      replace HZ := Lib.hid (HZ.out.kept k3 (by simp))
      replace K0 := Lib.hid (K0.out.trans k3)
      clear hk3 k3 c0 c1 c2 hbl
      obtain ⟨y, hy⟩ : ∃ y, y = oneE x := ⟨_, rfl⟩
      rw [← hy] at HS ⊢
      clear hy
      obtain ⟨y1, y2, y3⟩ := y
      simp only [edV]
      by_cases hp : allE x = true
      · rw [if_pos hp] at HS
        try rw [hp]
        have hsz := K0.out.size
        clear hp
        go_wp2_with (first | (at_builtin; refine wpList_app _ rfl (.tmp 24) (.tmp 26) _ rfl 107 (.agg #[.int .i64 0, .int .i64 0, .int .i64 0]) 3 24 Tryz.underlying54 infoEd rfl (by decide) w.heap.size (.slice A5 M.length c5) _ _ rfl ((HO.out.alloc _).alloc _) (some ⟨_, 0, none⟩) 1 1 (edV (y1, y2, y3)) rfl rfl (Reads.of_blk (Blk.new1F _ _ _ _) (fun _ _ h => h)) (by simp [edV, Value.oneCell']) (by omega) (by unfold maxLen; omega) (by simp; omega) ?_; intro va wa howna hka hba; have HOa := Lib.hid howna; have Fa := Lib.hid ((((KeptB.refl w.heap.size [107] w3).alloc _).alloc _).app hka ((HO.out.alloc _).alloc _) (by decide)); clear howna hka hba))
        go_roundw
        case rel =>
          refine ⟨k + 1, by omega, by go_num, Lib.hid ?_, Lib.hid (HB.out.keptB Fa.out (by decide)), Lib.hid (HZ.out.keptB Fa.out (by decide)), Lib.hid (K0.out.thenB Fa.out (Nat.le_refl _))⟩
          rw [HS.out]
          have := HOa.out
          simpa using this
        case measure => simp [intOf]; omega
      · rw [if_neg hp] at HS
        first
          | exact absurd (show allE x = true from rfl) hp
          | (rw [show allE x = false by simpa using hp]
             clear hp
             have k4 := Lib.hid ((Kept.refl [] w3).alloc (.cells #[.int .i64 y1, .int .i64 y2, .int .i64 y3] 107))
             replace HO := Lib.hid (own_kept0 HO.out k4.out)
             replace HB := Lib.hid (HB.out.kept k4.out (by simp))
             replace HZ := Lib.hid (HZ.out.kept k4.out (by simp))
             replace K0 := Lib.hid (K0.out.trans k4.out)
             clear k4
             go_wp2_with fail
             go_roundw
             case rel =>
               refine ⟨k + 1, by omega, by go_num, Lib.hid ?_, HB, HZ, K0⟩
               rw [HS.out]
               have := HO.out
               simpa using this
             case measure => simp [intOf]; omega)
    · obtain rfl : k = l.length := by omega
      rw [List.take_length] at HO
      obtain ⟨A5, c5, rfl⟩ := own_n HO.out
      have HML := Lib.hid (Nat.le_trans (madeP_length oneE allE l) hl)
      have y0 := HB.out.cell 0
      simp only [List.getElem?_cons_zero, List.getElem?_cons_succ] at y0
      rw [List.take_length] at *
      clear hml
      go_wp2_with fail
      refine (canon_any n (madeP oneE allE l) A5 c5 _ HML.out (Reads.of_own HO.out) HW.out).mono ?_
      rintro _ w5 ⟨vr, rfl, ho5, hk5⟩
      obtain ⟨A6, c6, rfl⟩ := own_n ho5
      have HO5 := Lib.hid (own_le (base' := w.heap.size) ho5 K0.out.size)
      replace HZ := Lib.hid (HZ.out.kept hk5 (by simp))
      replace K0 := Lib.hid (K0.out.trans hk5)
      clear ho5 hk5 y0
      go_wp2_with (first | (refine wpList_storeBlk rfl 56 (.tmp 4) (.tmp 33) rfl gz _ [.int .i64 n, .slice A6 (canonP (madeP oneE allE l)).length c6] HZ.out rfl rfl rfl infoGraph (by simp [Value.oneCell']) ?_; intro w8 hb8 hk8))
      have e0 := hb8.cell 0
      have e1 := hb8.cell 1
      simp only [List.getElem?_cons_zero, List.getElem?_cons_succ] at e0 e1
      refine bodyPost_ret (v := .agg #[.int .i64 n, .slice A6 (canonP (madeP oneE allE l)).length c6]) (by simp [results, Tryz.results148, go_sem, e0, e1]) rfl ?_
      rw [HPOST.out]
      have f8 : KeptB w.heap.size [56] w5 w8 := (KeptB.refl _ _ w5).step (L := [gz]) hk8 (fun m hm => by simp at hm; subst hm; exact ⟨HGZ0.out, _, _, _, HZ.out, by simp⟩)
      exact ⟨_, rfl, own_keptB HO5.out f8 (by decide), K0.out.thenB f8 (Nat.le_refl _)⟩
set_option maxRecDepth 100000 in
theorem topP (n : Int) (l : List Ed) (A : Option Addr) (c : Nat) (w : World) (hl : l.length ≤ 1048576) (hA : Reads w A (l.flatMap edV)) (hw : ∀ e ∈ l, In64 e.2.2) :
    Calls Tryz.prog 111 #[.agg #[.int .i64 n, .slice A l.length c]] w (GrPost w n (canonP (madeP oneE allE l))) := by
  have HA := Lib.hid hA
  have HW := Lib.hid hw
  have HL := Lib.hid hl
  have HZ := Lib.hid (Blk.new1F w (.cells #[.int .i64 n, .slice A l.length c] 56) 56 [.int .i64 0, .slice none 0 0])
  have K0 := Lib.hid (((Kept.refl [] w).alloc (.cells #[.int .i64 n, .slice A l.length c] 56)).alloc (.cells #[.int .i64 0, .slice none 0 0] 56))
  clear hA hw hl
  obtain ⟨post, hpost⟩ : ∃ post : Ending → World → Prop, post = GrPost w n (canonP (madeP oneE allE l)) := ⟨_, rfl⟩
  rw [← hpost]
  have HPOST := Lib.hid hpost
  clear hpost
  go_enter Tryz.func111, Tryz.ntmps111
  go_wp2_with fail
  refine (mkP n l A c _ HL.out (HA.out.kept0 K0.out) HW.out).mono ?_
  rintro _ w5 ⟨vr, rfl, ho5, hk5⟩
  obtain ⟨A6, c6, rfl⟩ := own_n ho5
  have HO5 := Lib.hid (own_le (base' := w.heap.size) ho5 K0.out.size)
  replace HZ := Lib.hid (HZ.out.kept hk5 (by simp))
  have K1 := Lib.hid (K0.out.trans hk5)
  clear ho5 hk5
  go_wp2_with (first | (refine wpList_storeBlk rfl 56 (.tmp 2) (.tmp 4) rfl (w.heap.size + 1) _ [.int .i64 n, .slice A6 (canonP (madeP oneE allE l)).length c6] HZ.out rfl rfl rfl infoGraph (by simp [Value.oneCell']) ?_; intro w8 hb8 hk8))
  have e0 := hb8.cell 0
  have e1 := hb8.cell 1
  simp only [List.getElem?_cons_zero, List.getElem?_cons_succ] at e0 e1
  refine bodyPost_ret (v := .agg #[.int .i64 n, .slice A6 (canonP (madeP oneE allE l)).length c6]) (by simp [results, Tryz.results111, go_sem, e0, e1]) rfl ?_
  rw [HPOST.out]
  have f8 : KeptB w.heap.size [56] w5 w8 := (KeptB.refl _ _ w5).step (L := [w.heap.size + 1]) hk8 (fun m hm => by simp at hm; subst hm; exact ⟨by omega, _, _, _, HZ.out, by simp⟩)
  exact ⟨_, rfl, own_keptB HO5.out f8 (by decide), K1.out.thenB f8 (Nat.le_refl _)⟩
end Go.Proofs.YtblfingmdipopaaGreat
