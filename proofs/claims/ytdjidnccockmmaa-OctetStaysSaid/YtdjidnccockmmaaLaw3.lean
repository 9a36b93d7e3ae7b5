/- 'OctetStays' returns true for every bytes, and reads. Conditions: none. -/
import Derived.Test.YtdjidnccockmmaaLaw2
import Derived.Deep.DeepCutAuto
import Derived.Deep.RegionWith
namespace Go.Proofs.Ytdjidnccockmmaa
open Go.ChangeShapes Go.WideShapes Go.ChangeAt Go.RowKit
open Go.RowKit (wrap32 wrap64)
set_option maxHeartbeats 2000000

/-- A fault stays, and nothing is read. -/
theorem Rd.step_dead (R : Rd) (k n : Int) (h : R.e ≠ 0) : R.step k n = R := by
  have ha : ∀ m, R.after m = R := fun m => by unfold Rd.after; rw [if_pos h]
  have hf : R.fail n n = R := by unfold Rd.fail; rw [if_pos (.inl h)]
  unfold Rd.step
  simp only [ha, hf]
  split <;> (try rfl)
  split <;> (try rfl)
  split <;> (try rfl)
  split <;> (try rfl)
  split <;> rfl

theorem kcell {a b : World} (hk : Kept [] a b) : (∀ k o, k < a.heap.size → b.cell? ⟨k, o, none⟩ = a.cell? ⟨k, o, none⟩) ∧ (∀ k o, k < a.heap.size → b.frozen? ⟨k, o, none⟩ = a.frozen? ⟨k, o, none⟩) :=
  ⟨fun k o h => hk.cell (p := ⟨k, o, none⟩) h (by simp), fun k o h => hk.frozen (p := ⟨k, o, none⟩) h (by simp)⟩
theorem keep_set2 {a b : World} {B Z : Nat} {x0 x1 u0 u1 : Value} (h : Kept [] a b ∧ b.cell? ⟨B, 0, none⟩ = some x0 ∧ b.cell? ⟨B, 1, none⟩ = some x1) (hB : B < a.heap.size) (hZ : a.heap.size ≤ Z) :
    Kept [] a ((b.setCell ⟨Z, 0, none⟩ u0).setCell ⟨Z, 1, none⟩ u1) ∧ ((b.setCell ⟨Z, 0, none⟩ u0).setCell ⟨Z, 1, none⟩ u1).cell? ⟨B, 0, none⟩ = some x0 ∧ ((b.setCell ⟨Z, 0, none⟩ u0).setCell ⟨Z, 1, none⟩ u1).cell? ⟨B, 1, none⟩ = some x1 := by
  have e : ∀ o o' : Nat, (⟨Z, o, none⟩ : Addr) ≠ ⟨B, o', none⟩ := fun o o' h => by injection h; omega
  refine ⟨(h.1.setCell (p := ⟨Z, 0, none⟩) (.inr hZ) _).setCell (p := ⟨Z, 1, none⟩) (.inr hZ) _, ?_, ?_⟩
  · rw [World.cell?_setCell_other _ _ _ _ (e _ _), World.cell?_setCell_other _ _ _ _ (e _ _)]; exact h.2.1
  · rw [World.cell?_setCell_other _ _ _ _ (e _ _), World.cell?_setCell_other _ _ _ _ (e _ _)]; exact h.2.2

theorem six_kept {w v : World} {L : List Nat} {B1 B2 B3 i1 i2 : Nat} {x0 x1 y0 y1 z0 z1 : Value} (hk : Kept L w v) (h1 : B1 < w.heap.size) (h2 : B2 < w.heap.size) (h3 : B3 < w.heap.size) (l1 : B1 ∉ L) (l2 : B2 ∉ L) (l3 : B3 ∉ L)
    (h : w.cell? ⟨B1, 0, none⟩ = some x0 ∧ w.cell? ⟨B1, 1, none⟩ = some x1 ∧ w.cell? ⟨B2, i1, none⟩ = some y0 ∧ w.cell? ⟨B2, i2, none⟩ = some y1 ∧ w.cell? ⟨B3, 0, none⟩ = some z0 ∧ w.cell? ⟨B3, 1, none⟩ = some z1) :
    v.cell? ⟨B1, 0, none⟩ = some x0 ∧ v.cell? ⟨B1, 1, none⟩ = some x1 ∧ v.cell? ⟨B2, i1, none⟩ = some y0 ∧ v.cell? ⟨B2, i2, none⟩ = some y1 ∧ v.cell? ⟨B3, 0, none⟩ = some z0 ∧ v.cell? ⟨B3, 1, none⟩ = some z1 :=
  ⟨(hk.cell (p := ⟨B1, 0, none⟩) h1 l1).trans h.1, (hk.cell (p := ⟨B1, 1, none⟩) h1 l1).trans h.2.1, (hk.cell (p := ⟨B2, i1, none⟩) h2 l2).trans h.2.2.1, (hk.cell (p := ⟨B2, i2, none⟩) h2 l2).trans h.2.2.2.1,
   (hk.cell (p := ⟨B3, 0, none⟩) h3 l3).trans h.2.2.2.2.1, (hk.cell (p := ⟨B3, 1, none⟩) h3 l3).trans h.2.2.2.2.2⟩

section
variable {P : Program} {md : Region.Mode} {ops : Array Oper} {Q : Exit → Act → World → Prop} {S : World → Prop}
theorem takeYes {i d : Nat} {oi : Oper} {v : Value} {fuel : Nat} {listed : Array Bool} {T : Array Value} {D : List Deferred} {w : World} (hi : ops[i]? = some oi) (hd : oi.dst = some d)
    (hs : Region.noSelect ops = true) (hf : Region.free md ops listed i = true) (hr : (Region.ready md ops listed).contains i = true)
    (hQ : ∀ c a w, Q (.panic c) (a.put oi.dst v) w → Q (.panic c) a w) (hw : Region.wanted oi (yielded ops T) = true) (hy : ∀ w, S w → (execOp (Act.eval ⟨T, D⟩) oi).run P w = .ok (.value v) w) (hS : S w)
    (h : wpAnyH P md ops Q S fuel (listed.setIfInBounds i true) ⟨T.setIfInBounds d v, D⟩ w) : wpAnyH P md ops Q S (fuel + 1) listed ⟨T, D⟩ w :=
  wpAnyH_take hi hs hf hr hQ (.inl ⟨hw, hy⟩) hS (by rw [hd]; exact h)
theorem takeNo {i d : Nat} {oi : Oper} {fuel : Nat} {listed : Array Bool} {T : Array Value} {D : List Deferred} {w : World} (hi : ops[i]? = some oi) (hd : oi.dst = some d)
    (hs : Region.noSelect ops = true) (hf : Region.free md ops listed i = true) (hr : (Region.ready md ops listed).contains i = true)
    (hQ : ∀ c a w, Q (.panic c) (a.put oi.dst undef) w → Q (.panic c) a w) (hw : Region.wanted oi (yielded ops T) = false) (hS : S w)
    (h : wpAnyH P md ops Q S fuel (listed.setIfInBounds i true) ⟨T.setIfInBounds d undef, D⟩ w) : wpAnyH P md ops Q S (fuel + 1) listed ⟨T, D⟩ w :=
  wpAnyH_take hi hs hf hr hQ (.inr ⟨hw, rfl⟩) hS (by rw [hd]; exact h)
end

set_option maxRecDepth 100000 in
theorem octetStays_walk (l : List UInt8) (q : List (Int × Int)) (A B : Option Addr) (c d : Nat) (w : World) (hl : l.length ≤ maxLen) (hr : Reads w A (l.map byteV)) (hrq : Reads w B (q.flatMap readV)) :
    Calls Try.prog 6 #[.slice A l.length c, .slice B q.length d] w fun e w' => e = .returned (.bool true) ∧ Kept [] w w' := by
  unfold maxLen at hl
  have HR := Lib.hid hr
  have HQ := Lib.hid hrq
  clear hr hrq
  by_cases h2 : 2000 < l.length
  · go_enter Try.func6, Try.ntmps6
    go_wp2_with fail
    refine (live_any _).mono ?_
    rintro e w1 ⟨rfl, hk⟩
    have K := Lib.hid hk
    clear hk
    go_wp2_with fail
    go_ret
    exact ⟨rfl, K.out⟩
  · go_enter Try.func6, Try.ntmps6
    go_wp2_with fail
    refine (open_any l A c _ HR.out (by omega)).mono ?_
    rintro e w1 ⟨p, rfl, hp, hrp, hk⟩
    have K1 := Lib.hid hk
    have HP := Lib.hid hrp
    have hsz1 := hk.size
    clear hk hrp
    go_wp2_with fail
    refine (ropen_any l A c _ (HR.out.kept0 K1.out) (by omega)).mono ?_
    rintro e w2 ⟨s, rfl, hs, hrs, hk⟩
    have K2 := Lib.hid (K1.out.trans hk)
    have HP := Lib.hid (HP.out.kept0 hk)
    have HS := Lib.hid hrs
    have hsz2 := hk.size
    clear hk hrs
    have hpl := HP.out.lt
    have hsl := HS.out.lt
    have hsw : s ≠ p := fun e => HP.out.ne HS.out (by decide) e.symm
    go_wp2_with fail
    have hX := Blk.new w2 47 [.pointer (some ⟨p, 0, none⟩), .pointer (some ⟨s, 0, none⟩)]
    have HX := Lib.hid hX
    clear hX
    have hXw : w.heap.size ≤ w2.heap.size := K2.out.size
    go_loopw [6] (fun i wr => ∃ (k : Nat) (R : Rd), k ≤ q.length ∧ k ≤ 40 ∧ i = .int .i64 k ∧ RdAt 87 wr p R ∧ RdAt 92 wr s R ∧ Blk wr w2.heap.size 47 [.pointer (some ⟨p, 0, none⟩), .pointer (some ⟨s, 0, none⟩)] ∧ Kept [] w wr) (fun i _ => 40 - (intOf i).toNat)
    case atStart => exact ⟨0, _, Nat.zero_le _, by omega, rfl, HP.out.kept0 ((Kept.refl _ _).alloc _), HS.out.kept0 ((Kept.refl _ _).alloc _), HX.out, K2.out.alloc _⟩
    case round =>
      obtain ⟨k, R, hk, hk40, rfl, hrp, hrs, hx, hkw⟩ := hrel
      have RP := Lib.hid hrp
      have RS := Lib.hid hrs
      have HXr := Lib.hid hx
      have KW := Lib.hid hkw
      have hx0 := hx.cell 0
      have hx1 := hx.cell 1
      simp only [List.getElem?_cons_zero, List.getElem?_cons_succ] at hx0 hx1
      clear hrp hrs hx hkw
      by_cases hlt : k < q.length
      · by_cases hlt40 : k < 40
        · obtain ⟨b, off, rfl, hbl, hq0', hq1'⟩ := read_at HQ.out hlt
          have hq0 := (KW.out.cell (p := ⟨b, off + k * 2, none⟩) hbl (by simp)).trans hq0'
          have hq1 := (KW.out.cell (p := ⟨b, off + k * 2 + 1, none⟩) hbl (by simp)).trans hq1'
          have hpr := RP.out.lt
          have hsr := RS.out.lt
          clear hq0' hq1'
          go_wp2_with fail
          go_cut [7, 8] (fun z a wx => ∃ Z, z = .pointer (some ⟨Z, 0, none⟩) ∧ a = .int .i64 R.pos ∧ wr.heap.size ≤ Z ∧ Blk wx Z 40 [.int .i64 R.e, .int .i64 R.fat] ∧ Kept [] wr wx)
          case first =>
            go_region_held3 (fun w' => Kept [] wr w' ∧ w'.cell? ⟨w2.heap.size, 0, none⟩ = some (.pointer (some ⟨p, 0, none⟩)) ∧ w'.cell? ⟨w2.heap.size, 1, none⟩ = some (.pointer (some ⟨s, 0, none⟩))) (first | assumption | exact ⟨(Kept.refl _ _).drew, hx0, hx1⟩ | exact keep_step (by assumption) ((Kept.refl _ _).alloc _) HXr.out.lt | exact keep_set2 (by assumption) HXr.out.lt (Nat.le_refl _)) (first | (go_at_call 26; refine (fault_rd p R _ (RP.out.kept0 (And.left (by assumption)))).mono ?_; rintro e y ⟨rfl, hky⟩; have hS := keep_step (by assumption) hky HXr.out.lt; have hkc := kcell hky) | (go_at_call 30; refine (at_rd p R _ (RP.out.kept0 (And.left (by assumption)))).mono ?_; rintro e z ⟨rfl, rfl⟩))
            all_goals (try go_wp2_with fail)
            all_goals go_meet
            · exact ⟨_, rfl, rfl, hS.1.size, Blk.new y _ [.int .i64 R.e, .int .i64 R.fat], hS.1.alloc _⟩
            · exact ⟨_, rfl, rfl, hS.1.size, Blk.new y _ [.int .i64 R.e, .int .i64 R.fat], hS.1.alloc _⟩
            · refine ⟨_, rfl, rfl, Nat.le_refl _, ?_, (hS.1.setCell (p := ⟨wr.heap.size, 0, none⟩) (.inr (Nat.le_refl _)) _).setCell (p := ⟨wr.heap.size, 1, none⟩) (.inr (Nat.le_refl _)) _⟩
              have hn := ((Blk.new wr 40 [.int .i64 0, .int .i64 0]).drew.kept hky (by simp)).set 0 (.int .i64 R.e)
              exact hn.set 1 (.int .i64 R.fat)
          case rest =>
            obtain ⟨Z, rfl, rfl, hZ, hzb, hkc⟩ := hcut
            have CP := Lib.hid (RP.out.kept0 hkc)
            have CS := Lib.hid (RS.out.kept0 hkc)
            have cx := box_kept hkc HXr.out.lt (by simp) ⟨hx0, hx1⟩
            obtain ⟨cx0, cx1⟩ := cx
            have cq0 := (hkc.cell (p := ⟨b, off + k * 2, none⟩) (by exact Nat.lt_of_lt_of_le hbl KW.out.size) (by simp)).trans hq0
            have cq1 := (hkc.cell (p := ⟨b, off + k * 2 + 1, none⟩) (by exact Nat.lt_of_lt_of_le hbl KW.out.size) (by simp)).trans hq1
            have cz0 := hzb.cell 0
            have cz1 := hzb.cell 1
            simp only [List.getElem?_cons_zero, List.getElem?_cons_succ] at cz0 cz1
            have CXl := Lib.hid (Nat.lt_of_lt_of_le HXr.out.lt hkc.size)
            have CBl := Lib.hid (show b < wc.heap.size from Nat.lt_of_lt_of_le (Nat.lt_of_lt_of_le hbl KW.out.size) hkc.size)
            have CZl := Lib.hid hzb.lt
            have CK := Lib.hid (KW.out.trans hkc)
            have CXb := Lib.hid (HXr.out.kept hkc (by simp))
            clear hzb hkc hx0 hx1 hq0 hq1
            have F3 := guardFault
            have F4 := neqFault
            by_cases he : R.e = 0
            · have he0 : (R.e != 0) = false := by simp [he]
              have HE := Lib.hid he
              clear he
              go_wp2_with fail
              refine wp_region_held_drew (S := (fun w' => w'.cell? ⟨w2.heap.size, 0, none⟩ = some (.pointer (some ⟨p, 0, none⟩)) ∧ w'.cell? ⟨w2.heap.size, 1, none⟩ = some (.pointer (some ⟨s, 0, none⟩)) ∧ w'.cell? ⟨b, off + k * 2, none⟩ = some (.int .i64 q[k].1) ∧ w'.cell? ⟨b, off + k * 2 + 1, none⟩ = some (.int .i64 q[k].2) ∧ w'.cell? ⟨Z, 0, none⟩ = some (.int .i64 R.e) ∧ w'.cell? ⟨Z, 1, none⟩ = some (.int .i64 R.fat))) (by kernel_rfl) ?_ (fun hHeld => ?_)
              · exact ⟨cx0, cx1, cq0, cq1, cz0, cz1⟩
              refine takeYes (i := 0) (v := ?_) rfl rfl (by kernel_rfl) (by kernel_rfl) (by kernel_rfl) (fun _ _ _ h => h) (by rfl) ?_ (by assumption) ?_
              rotate_left
              · (intro w' hSw; (try dsimp only at hSw); go_simp; try with_reducible rfl)
              try simp only [Act.put, List.setIfInBounds_toArray, List.set_cons_zero, List.set_cons_succ]
              refine takeYes (i := 1) (v := ?_) rfl rfl (by kernel_rfl) (by kernel_rfl) (by kernel_rfl) (fun _ _ _ h => h) (by rfl) ?_ (by assumption) ?_
              rotate_left
              · (intro w' hSw; (try dsimp only at hSw); go_simp; try with_reducible rfl)
              try simp only [Act.put, List.setIfInBounds_toArray, List.set_cons_zero, List.set_cons_succ]
              refine takeYes (i := 2) (v := ?_) rfl rfl (by kernel_rfl) (by kernel_rfl) (by kernel_rfl) (fun _ _ _ h => h) (by rfl) ?_ (by assumption) ?_
              rotate_left
              · (intro w' hSw; (try dsimp only at hSw); go_simp; try with_reducible rfl)
              try simp only [Act.put, List.setIfInBounds_toArray, List.set_cons_zero, List.set_cons_succ]
              refine takeYes (i := 3) (v := ?_) rfl rfl (by kernel_rfl) (by kernel_rfl) (by kernel_rfl) (fun _ _ _ h => h) (by rfl) ?_ (by assumption) ?_
              rotate_left
              · (intro w' hSw; (try dsimp only at hSw); go_simp; try with_reducible rfl)
              try simp only [Act.put, List.setIfInBounds_toArray, List.set_cons_zero, List.set_cons_succ]
              refine takeYes (i := 4) (v := ?_) rfl rfl (by kernel_rfl) (by kernel_rfl) (by kernel_rfl) (fun _ _ _ h => h) (by rfl) ?_ (by assumption) ?_
              rotate_left
              · (intro w' hSw; (try dsimp only at hSw); go_simp; try with_reducible rfl)
              try simp only [Act.put, List.setIfInBounds_toArray, List.set_cons_zero, List.set_cons_succ]
              refine wpAnyH_ready (rs := [5]) (by kernel_rfl) (by simp) ?_
              refine AllReadyH.cons rfl (fun K hK => ?_) AllReadyH.nil
              go_simp
              refine (read_any p s R q[k].1 q[k].2 _ (CP.out.kept0 ((Kept.refl [] wc).drew)) (CS.out.kept0 ((Kept.refl [] wc).drew))).mono ?_; rintro e w3 ⟨rfl, hp3, hs3, hk3⟩; have hS3 := six_kept hk3 CXl.out CBl.out CZl.out (by simp; omega) (by simp; omega) (by simp; omega) ⟨cx0, cx1, cq0, cq1, cz0, cz1⟩
              go_wp2_with fail
              refine hK.out _ _ ?_ (fun hHeld => ?_)
              · exact hS3
              clear hK K
              try simp only [Act.put, List.setIfInBounds_toArray, List.set_cons_zero, List.set_cons_succ]
              refine takeYes (i := 6) (v := ?_) rfl rfl (by kernel_rfl) (by kernel_rfl) (by kernel_rfl) (fun _ _ _ h => h) (by rfl) ?_ (by assumption) ?_
              rotate_left
              · (intro w' hSw; (try dsimp only at hSw); go_simp; try with_reducible rfl)
              try simp only [Act.put, List.setIfInBounds_toArray, List.set_cons_zero, List.set_cons_succ]
              refine takeYes (i := 7) (v := ?_) rfl rfl (by kernel_rfl) (by kernel_rfl) (by kernel_rfl) (fun _ _ _ h => h) (by rfl) ?_ (by assumption) ?_
              rotate_left
              · (intro w' hSw; (try dsimp only at hSw); go_simp; try with_reducible rfl)
              try simp only [Act.put, List.setIfInBounds_toArray, List.set_cons_zero, List.set_cons_succ]
              refine takeYes (i := 8) (v := ?_) rfl rfl (by kernel_rfl) (by kernel_rfl) (by kernel_rfl) (fun _ _ _ h => h) (by rfl) ?_ (by assumption) ?_
              rotate_left
              · (intro w' hSw; (try dsimp only at hSw); go_simp; try with_reducible rfl)
              try simp only [Act.put, List.setIfInBounds_toArray, List.set_cons_zero, List.set_cons_succ]
              refine takeYes (i := 9) (v := ?_) rfl rfl (by kernel_rfl) (by kernel_rfl) (by kernel_rfl) (fun _ _ _ h => h) (by rfl) ?_ (by assumption) ?_
              rotate_left
              · (intro w' hSw; (try dsimp only at hSw); go_simp; try with_reducible rfl)
              try simp only [Act.put, List.setIfInBounds_toArray, List.set_cons_zero, List.set_cons_succ]
              refine takeYes (i := 10) (v := ?_) rfl rfl (by kernel_rfl) (by kernel_rfl) (by kernel_rfl) (fun _ _ _ h => h) (by rfl) ?_ (by assumption) ?_
              rotate_left
              · (intro w' hSw; (try dsimp only at hSw); go_simp; try with_reducible rfl)
              try simp only [Act.put, List.setIfInBounds_toArray, List.set_cons_zero, List.set_cons_succ]
              refine takeYes (i := 11) (v := ?_) rfl rfl (by kernel_rfl) (by kernel_rfl) (by kernel_rfl) (fun _ _ _ h => h) (by rfl) ?_ (by assumption) ?_
              rotate_left
              · (intro w' hSw; (try dsimp only at hSw); go_simp; try with_reducible rfl)
              try simp only [Act.put, List.setIfInBounds_toArray, List.set_cons_zero, List.set_cons_succ]
              refine takeNo (i := 12) rfl rfl (by kernel_rfl) (by kernel_rfl) (by kernel_rfl) (fun _ _ _ h => h) (by rfl) (by assumption) ?_
              try simp only [Act.put, List.setIfInBounds_toArray, List.set_cons_zero, List.set_cons_succ]
              refine takeNo (i := 13) rfl rfl (by kernel_rfl) (by kernel_rfl) (by kernel_rfl) (fun _ _ _ h => h) (by rfl) (by assumption) ?_
              try simp only [Act.put, List.setIfInBounds_toArray, List.set_cons_zero, List.set_cons_succ]
              refine takeNo (i := 14) rfl rfl (by kernel_rfl) (by kernel_rfl) (by kernel_rfl) (fun _ _ _ h => h) (by rfl) (by assumption) ?_
              try simp only [Act.put, List.setIfInBounds_toArray, List.set_cons_zero, List.set_cons_succ]
              refine takeNo (i := 15) rfl rfl (by kernel_rfl) (by kernel_rfl) (by kernel_rfl) (fun _ _ _ h => h) (by rfl) (by assumption) ?_
              try simp only [Act.put, List.setIfInBounds_toArray, List.set_cons_zero, List.set_cons_succ]
              refine takeNo (i := 16) rfl rfl (by kernel_rfl) (by kernel_rfl) (by kernel_rfl) (fun _ _ _ h => h) (by rfl) (by assumption) ?_
              try simp only [Act.put, List.setIfInBounds_toArray, List.set_cons_zero, List.set_cons_succ]
              refine takeNo (i := 17) rfl rfl (by kernel_rfl) (by kernel_rfl) (by kernel_rfl) (fun _ _ _ h => h) (by rfl) (by assumption) ?_
              try simp only [Act.put, List.setIfInBounds_toArray, List.set_cons_zero, List.set_cons_succ]
              refine takeNo (i := 18) rfl rfl (by kernel_rfl) (by kernel_rfl) (by kernel_rfl) (fun _ _ _ h => h) (by rfl) (by assumption) ?_
              try simp only [Act.put, List.setIfInBounds_toArray, List.set_cons_zero, List.set_cons_succ]
              refine takeNo (i := 19) rfl rfl (by kernel_rfl) (by kernel_rfl) (by kernel_rfl) (fun _ _ _ h => h) (by rfl) (by assumption) ?_
              try simp only [Act.put, List.setIfInBounds_toArray, List.set_cons_zero, List.set_cons_succ]
              refine takeNo (i := 20) rfl rfl (by kernel_rfl) (by kernel_rfl) (by kernel_rfl) (fun _ _ _ h => h) (by rfl) (by assumption) ?_
              try simp only [Act.put, List.setIfInBounds_toArray, List.set_cons_zero, List.set_cons_succ]
              refine takeNo (i := 21) rfl rfl (by kernel_rfl) (by kernel_rfl) (by kernel_rfl) (fun _ _ _ h => h) (by rfl) (by assumption) ?_
              try simp only [Act.put, List.setIfInBounds_toArray, List.set_cons_zero, List.set_cons_succ]
              refine takeNo (i := 22) rfl rfl (by kernel_rfl) (by kernel_rfl) (by kernel_rfl) (fun _ _ _ h => h) (by rfl) (by assumption) ?_
              try simp only [Act.put, List.setIfInBounds_toArray, List.set_cons_zero, List.set_cons_succ]
              refine takeNo (i := 23) rfl rfl (by kernel_rfl) (by kernel_rfl) (by kernel_rfl) (fun _ _ _ h => h) (by rfl) (by assumption) ?_
              try simp only [Act.put, List.setIfInBounds_toArray, List.set_cons_zero, List.set_cons_succ]
              refine takeYes (i := 24) (v := ?_) rfl rfl (by kernel_rfl) (by kernel_rfl) (by kernel_rfl) (fun _ _ _ h => h) (by rfl) ?_ (by assumption) ?_
              rotate_left
              · (intro w' hSw; (try dsimp only at hSw); go_simp; try with_reducible rfl)
              try simp only [Act.put, List.setIfInBounds_toArray, List.set_cons_zero, List.set_cons_succ]
              refine takeYes (i := 25) (v := ?_) rfl rfl (by kernel_rfl) (by kernel_rfl) (by kernel_rfl) (fun _ _ _ h => h) (by rfl) ?_ (by assumption) ?_
              rotate_left
              · (intro w' hSw; (try dsimp only at hSw); go_simp; try with_reducible rfl)
              try simp only [Act.put, List.setIfInBounds_toArray, List.set_cons_zero, List.set_cons_succ]
              refine wpAnyH_done (by kernel_rfl) ?_ _
              have P3 := Lib.hid hp3
              have S3 := Lib.hid hs3
              have X3 := Lib.hid (CXb.out.drew.kept hk3 (by simp; omega))
              have KW3 := Lib.hid (CK.out.drew.then hk3 (by simp; omega))
              clear hp3 hs3 hk3 hS3 hHeld cx0 cx1 cq0 cq1 cz0 cz1
              go_wp2_with fail
              go_roundw
              case rel => exact ⟨k + 1, _, by omega, by omega, by go_num, P3.out, S3.out, X3.out, KW3.out⟩
              case measure => simp [intOf]; omega
            · have he0 : (R.e != 0) = true := by rw [bne_iff_ne]; exact he
              have hst := Rd.step_dead R q[k].1 q[k].2 he
              have HST := Lib.hid hst
              clear he hst
              go_wp2_with fail
              go_region_held3 (fun w' => w'.cell? ⟨w2.heap.size, 0, none⟩ = some (.pointer (some ⟨p, 0, none⟩)) ∧ w'.cell? ⟨w2.heap.size, 1, none⟩ = some (.pointer (some ⟨s, 0, none⟩)) ∧ w'.cell? ⟨b, off + k * 2, none⟩ = some (.int .i64 q[k].1) ∧ w'.cell? ⟨b, off + k * 2 + 1, none⟩ = some (.int .i64 q[k].2) ∧ w'.cell? ⟨Z, 0, none⟩ = some (.int .i64 R.e) ∧ w'.cell? ⟨Z, 1, none⟩ = some (.int .i64 R.fat)) (first | exact ⟨cx0, cx1, cq0, cq1, cz0, cz1⟩ | assumption) (first | (go_at_call 28; refine (read_any p s R q[k].1 q[k].2 _ (CP.out.kept0 ((Kept.refl [] wc).drew)) (CS.out.kept0 ((Kept.refl [] wc).drew))).mono ?_; rintro e w3 ⟨rfl, hp3, hs3, hk3⟩; have hS3 := six_kept hk3 CXl.out CBl.out CZl.out (by simp; omega) (by simp; omega) (by simp; omega) ⟨cx0, cx1, cq0, cq1, cz0, cz1⟩; rw [HST.out] at hp3 hs3) | (go_at_call 26; refine (fault_rd p R _ hp3).mono ?_; rintro e w4 ⟨rfl, hk4⟩; have hp4 := hp3.kept0 hk4; have hS4 := six_kept hk4 (Nat.lt_of_lt_of_le CXl.out hk3.size) (Nat.lt_of_lt_of_le CBl.out hk3.size) (Nat.lt_of_lt_of_le CZl.out hk3.size) (by simp) (by simp) (by simp) hS3) | (go_at_call 30; refine (at_rd p R _ hp4).mono ?_; rintro e w5 ⟨rfl, rfl⟩))
              have P3 := Lib.hid hp4
              have S3 := Lib.hid (hs3.kept0 hk4)
              have X3 := Lib.hid ((CXb.out.drew.kept hk3 (by simp; omega)).kept hk4 (by simp))
              have KW3 := Lib.hid ((CK.out.drew.then hk3 (by simp; omega)).trans hk4)
              clear hp3 hs3 hk3 hS3 hk4 hS4 hp4 cx0 cx1 cq0 cq1 cz0 cz1
              go_wp2_with fail
              go_roundw
              case rel => exact ⟨k + 1, _, by omega, by omega, by go_num, P3.out, S3.out, X3.out, KW3.out⟩
              case measure => simp [intOf]; omega
        · clear hx0 hx1
          go_wp2_with fail
          refine (live_any _).mono ?_
          rintro e w5 ⟨rfl, hk⟩
          have KW := Lib.hid (KW.out.trans hk)
          clear hk RP RS HXr
          go_wp2_with fail
          go_ret
          exact ⟨rfl, KW.out⟩
      · clear hx0 hx1
        go_wp2_with fail
        refine (live_any _).mono ?_
        rintro e w5 ⟨rfl, hk⟩
        have KW := Lib.hid (KW.out.trans hk)
        clear hk RP RS HXr
        go_wp2_with fail
        go_ret
        exact ⟨rfl, KW.out⟩

set_option maxRecDepth 100000 in
theorem octetStays_lifted (os : Os) (started : os.Started) (H : Type) (enc : TypeId × Value → H) :
    ReturnsInHanded {} Try.checked os 6 .any (Rows.octetStaysSpec.pre6 enc Try.prog Try.f6 Rows.octetStaysRow.domain false) (Rows.octetStaysSpec.post enc Try.prog Try.f6 false true false false) := by
  refine returnsInHanded_of_change (C := Try.checked) own started (by kernel_rfl) Try.func6
    (ChangeSpec.witness6 (enc := enc) (C := Try.checked) false ⟨#[], #[.slice none 0 0, .slice none 0 0], []⟩ 8 (by kernel_rfl) (by kernel_rfl) (by kernel_rfl) (by kernel_rfl)) ?_
  intro W base args ds gs before hval0 hW hcnd _
  have hval : ∀ (j : Nat) t v, Try.f6.params[j]? = some t → args[j]? = some v → Value.okWide Try.prog W .any base t v := hval0
  have hW' := hW
  obtain ⟨p, q, hA0, hV, rfl, hfz, hnd⟩ := hW
  have hA : DataW.TrodAll enc Try.prog W 0 (fun _ => true) true Try.f6.params.toList args.toList ds p := hA0
  rw [Try.params6] at hA hval
  obtain ⟨v0, vs0, d0, ds0, p0, q0, hargs, rfl, rfl, h0, r0⟩ := trodAll_cons hA
  obtain ⟨v1, vs1, d1, ds1, p1, q1, rfl, rfl, rfl, h1, r1⟩ := trodAll_cons r0
  obtain ⟨rfl, rfl, rfl⟩ := trodAll_nil r1
  obtain rfl : args = #[v0, v1] := by cases args; simp_all
  obtain ⟨rfl, rfl⟩ := trodVars_none hV
  obtain ⟨A, c, l, rfl, hl, hm, hr, _⟩ := open_bytes Try.underlying25 Try.underlying5 cellsU8 (hval 0 25 v0 rfl rfl) h0
  obtain ⟨B, d, l2, rfl, _, _, hr2, _, _⟩ := open_recs readV (fun r => In64 r.1 ∧ In64 r.2) 2 (by decide) cellsRead (fun _ => rfl) (fun _ _ _ hx => elem_ints2 Try.underlying50 cellsRead rfl rfl rfl rfl Try.underlying3 Try.underlying3 cellsInt cellsInt hx) Try.underlying43 (hval 1 43 v1 rfl rfl) h1
  refine (octetStays_walk l l2 A B c d W (by omega) hr hr2).mono fun e W' ⟨he, hk⟩ => ?_
  exact ⟨_, he, post_true rfl Try.underlying4 rfl rfl rfl rfl laidOut (by decide +kernel) hW' hk⟩

theorem octetStays_holds : Rows.OctetStaysSaid :=
  OpenClaim.holds_of_wide 6 Try.f6 rfl rfl rfl rfl rfl rfl rfl ⟨rfl, rfl, rfl, rfl, rfl⟩ rfl rfl rfl rfl rfl (by kernel_rfl) Try.func6 (by kernel_rfl)
    (of_decide_eq_true (by kernel_rfl)) (by unfold Func.isWrapper; first | (rw [if_pos (by decide +kernel)]; kernel_rfl) | (rw [if_neg (by decide +kernel)]; exact ⟨rfl, rfl⟩))
    (fun os started H enc _ => octetStays_lifted os started H enc)
end Go.Proofs.Ytdjidnccockmmaa
