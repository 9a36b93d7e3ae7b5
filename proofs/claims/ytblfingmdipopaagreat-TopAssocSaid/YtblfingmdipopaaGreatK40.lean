/- csr.summed, csr.Of: triples that rise are a matrix. Conditions: values of the ring. -/
import Derived.Test.YtblfingmdipopaaGreatK22
import Derived.Test.YtblfingmdipopaaGreatK39
import Derived.Test.YtblfingmdipopaaGreatK11
import Derived.Deep.CutBlock
namespace Go.Proofs.YtblfingmdipopaaGreat
set_option linter.unusedSimpArgs false
set_option linter.unusedVariables false
open Go.ChangeShapes Go.WideShapes Go.ChangeAt Go.RowKit
open Go.RowKit (wrap32 wrap64)
set_option maxHeartbeats 8000000

theorem findK_out {k : Int × Int} : ∀ {l : List KE} (i : Nat), k ∉ l.map (·.1) → findK k l i = none
  | [], _, _ => rfl
  | x :: l, i, h => by
    have h2 : k ≠ x.1 ∧ k ∉ l.map (·.1) := by simpa [not_or] using h
    unfold findK
    rw [if_neg (by simpa using h2.1)]
    exact findK_out (i + 1) h2.2
/-- Where no place comes twice, the sums are the list. -/
theorem sumsK_nodup (r : Int) : ∀ (n : Nat) (l : List Ed), l.length = n → (l.map (fun e => (e.1, e.2.1))).Nodup → (sumsK r l).1.map (fun x => (x.1, x.2.1)) = l.map (fun e => ((e.1, e.2.1), wOf e.2.2))
  | 0, l, hl, _ => by
    obtain rfl := List.eq_nil_of_length_eq_zero hl
    rfl
  | n + 1, l, hl, hn => by
    have hlt : n < l.length := by omega
    have hs : l = l.take n ++ [l[n]] := by
      rw [← List.take_succ_eq_append_getElem hlt, ← hl, List.take_length]
    have hn2 : ((l.take n).map (fun e => (e.1, e.2.1))).Nodup := by
      rw [List.map_take]
      exact hn.sublist (List.take_sublist _ _)
    have ih := sumsK_nodup r n (l.take n) (by rw [List.length_take]; omega) hn2
    have h1 := sumsK_succ r l hlt
    rw [show l.take (n + 1) = l by rw [← hl, List.take_length]] at h1
    have hout : (l[n].1, l[n].2.1) ∉ (sumsK r (l.take n)).1.map (·.1) := by
      have h3 : (sumsK r (l.take n)).1.map (·.1) = (l.take n).map (fun e => (e.1, e.2.1)) := by
        have h4 := congrArg (List.map (fun x => x.1)) ih
        rw [List.map_map, List.map_map] at h4
        exact h4
      rw [h3]
      intro hc
      have h5 : (l.map (fun e => (e.1, e.2.1))).Nodup := hn
      rw [hs, List.map_append, List.nodup_append] at h5
      exact h5.2.2 _ hc _ (by simp) rfl
    have hf := findK_out 0 hout
    have hg : getK (l[n].1, l[n].2.1) (sumsK r (l.take n)).1 = none := by unfold getK; rw [hf]; rfl
    rw [h1]
    unfold stepK
    dsimp only
    rw [hg, findK_none _ _ hf, List.map_append, ih]
    rw [congrArg (List.map (fun e : Ed => ((e.1, e.2.1), wOf e.2.2))) hs, List.map_append]
    simp
theorem sumsK_once (r : Int) {l : List Ed} (hw : ∀ e ∈ l, In64 e.2.2) (hn : (l.map keyOf).Nodup) : (sumsK r l).1.map edOf = l ∧ ∀ x ∈ (sumsK r l).1, (wNarrow x.2.1).2 = true := by
  have h := sumsK_nodup r l.length l rfl hn
  constructor
  · have h2 := congrArg (List.map (fun x : (Int × Int) × Wd => ((x.1.1, x.1.2, (wNarrow x.2).1) : Ed))) h
    rw [List.map_map, List.map_map] at h2
    refine Eq.trans h2 ?_
    refine Eq.trans (List.map_congr_left (g := id) (fun e he => ?_)) (List.map_id _)
    simp [wNarrow_of (hw e he)]
  · intro x hx
    have h2 : (x.1, x.2.1) ∈ l.map (fun e => ((e.1, e.2.1), wOf e.2.2)) := by
      rw [← h]
      exact List.mem_map.2 ⟨x, hx, rfl⟩
    obtain ⟨e, he, h3⟩ := List.mem_map.1 h2
    injection h3 with _ h3
    rw [← h3, wNarrow_of (hw e he)]
set_option maxRecDepth 100000 in
theorem summed_any (r : Int) (hr : RingV r) (l : List Ed) (A : Option Addr) (c : Nat) (w : World) (hl : l.length ≤ 65536) (hA : Reads w A (l.flatMap edV)) (ho : ∀ e ∈ l, OkV r e.2.2) (hri : RisesL l) :
    Calls Tryz.prog 95 #[.int .i64 r, .slice A l.length c] w fun e w' => ∃ v, e = .returned (.tuple #[v, .int .i64 0]) ∧ w'.ownsRow w.heap.size 84 3 v l.length (l.flatMap edV) ∧ Kept [] w w' := by
  have hw : ∀ e ∈ l, In64 e.2.2 := fun e he => okV_64 (ho e he)
  have HPL := Lib.hid (sumsK_once r hw (risesL_nodup hri))
  have HRI := Lib.hid hri
  have HA := Lib.hid hA
  have HW := Lib.hid hw
  have hmm : ∀ (t : TypeId) (wx : World), (Instr.makeMap t none).run Tryz.prog wx = .ok (.map (some wx.heap.size)) (wx.alloc (.map #[] 0)) := fun _ _ => rfl
  have HM := Lib.hid (show MapK (w.alloc (.map #[] 0)) w.heap.size (sumsK r (l.take 0)).1 (sumsK r (l.take 0)).2 from ⟨heap_alloc_new w _, by simp [sumsK], by simp [sumsK]⟩)
  have K0 := Lib.hid ((Kept.refl [] w).alloc (.map #[] 0))
  clear hr hA hw ho hri
  obtain ⟨post, hpost⟩ : ∃ post : Ending → World → Prop, post = fun e w' => ∃ v, e = .returned (.tuple #[v, .int .i64 0]) ∧ w'.ownsRow w.heap.size 84 3 v l.length (l.flatMap edV) ∧ Kept [] w w' := ⟨_, rfl⟩
  rw [← hpost]
  have HPOST := Lib.hid hpost
  clear hpost
  go_enter Tryz.func95, Tryz.ntmps95
  go_wp2_with fail
  have HBL := Lib.hid (show w.heap.size ≤ w.heap.size from Nat.le_refl _)
  generalize hbq : w.heap.size = b at HM HBL ⊢
  have HB := Lib.hid (show w.heap.size ≤ b by omega)
  clear HBL hbq
  generalize w.alloc (.map #[] 0) = w0 at *
  go_loopw [21] (fun i wr => ∃ k : Nat, k ≤ l.length ∧ i = .int .i64 k ∧ Hid (MapK wr b (sumsK r (l.take k)).1 (sumsK r (l.take k)).2) ∧ Hid (Kept [] w wr)) (fun i _ => l.length - (intOf i).toNat)
  case atStart => exact ⟨0, Nat.zero_le _, rfl, HM, K0⟩
  case round =>
    clear HM K0
    obtain ⟨k, hk, rfl, HM, K0⟩ := hrel
    by_cases hlt : k < l.length
    · obtain ⟨bb, off, rfl, hbl, c0, c1, c2⟩ := edge_at (HA.out.kept0 K0.out) hlt
      have hin := HW.out l[k] (List.getElem_mem hlt)
      have HS := Lib.hid (sumsK_succ r l hlt)
      have HOK := Lib.hid (sumsK_ok r (l.take k))
      obtain ⟨x, hx⟩ : ∃ x, x = l[k] := ⟨_, rfl⟩
      rw [← hx] at c0 c1 c2 hin HS
      clear hx
      obtain ⟨x1, x2, x3⟩ := x
      dsimp only at c0 c1 c2 hin
      generalize sumsK r (l.take k) = S at HM HS HOK
      obtain ⟨ents, cl⟩ := S
      dsimp only at HM HOK
      have HIN := Lib.hid hin
      clear hin
      go_wp2_with fail
      refine (of_any x3 HIN.out _).mono ?_
      rintro _ w3 ⟨rfl, hk3⟩
      have HK := Lib.hid ((Blk.new1F wr (.cells (edV (x1, x2, x3)).toArray 84) 127 [.int .i64 x1, .int .i64 x2]).kept hk3 (by simp))
      have k3 : Kept [] wr w3 := (((Kept.refl [] wr).alloc _).alloc _).trans hk3
      replace HM := Lib.hid (HM.out.kept k3 (by simp))
      replace K0 := Lib.hid (K0.out.trans k3)
      have HG10 := Lib.hid K0.out.size
      clear hk3 k3 c0 c1 c2 hbl
      generalize wr.heap.size + 1 = g9 at HK ⊢
      go_upto_region 7 with (fail)
      have HZ := Lib.hid (Blk.new w3 100 (wdC (wOf x3)))
      replace HK := Lib.hid (HK.out.alloc (.cells (wdC (wOf x3)).toArray 100))
      replace HM := Lib.hid (HM.out.kept ((Kept.refl [] w3).alloc (.cells (wdC (wOf x3)).toArray 100)) (by simp))
      replace K0 := Lib.hid (K0.out.alloc (.cells (wdC (wOf x3)).toArray 100))
      generalize w3.alloc (.cells (wdC (wOf x3)).toArray 100) = w4 at *
      generalize w3.heap.size = g10 at HZ HG10 ⊢
      cases hq : getK (x1, x2) ents with
      | none =>
        go_upto_region 8 with (first | (refine wpList_loadBlk rfl 127 (.tmp 9) rfl g9 [.int .i64 x1, .int .i64 x2] _ HK.out rfl Tryz.underlying127 rfl infoTwo ?_) | (refine wpList_lookupK rfl (.tmp 34) (.tmp 35) _ true rfl 127 100 3 mapT (Tryz.zeroValue100 _) b cl ents HM.out rfl (x1, x2) rfl ?_; rw [hq]; simp only [Option.getD_none, Option.isSome_none, if_true]))
        have HZ' := Lib.hid (HZ.out.alloc (.cells (wdC (0, 0)).toArray 100))
        have HK' := Lib.hid (HK.out.alloc (.cells (wdC (0, 0)).toArray 100))
        have HM' := Lib.hid (HM.out.kept ((Kept.refl [] w4).alloc (.cells (wdC (0, 0)).toArray 100)) (by simp))
        have K0' := Lib.hid (K0.out.alloc (.cells (wdC (0, 0)).toArray 100))
        clear HZ HK HM K0
        have HZ := HZ'
        have HK := HK'
        have HM := HM'
        have K0 := K0'
        clear HZ' HK' HM' K0'
        generalize w4.alloc (.cells (wdC (0, 0)).toArray 100) = w5 at *
        go_wp2_with (first | (refine wpList_loadBlk rfl 127 (.tmp 9) rfl g9 [.int .i64 x1, .int .i64 x2] _ HK.out rfl Tryz.underlying127 rfl infoTwo ?_) | (refine wpList_loadBlk rfl 100 (.tmp 10) rfl g10 (wdC (wOf x3)) _ HZ.out rfl Tryz.underlying100 rfl infoWide ?_) | (refine wpList_updateK rfl (.tmp 44) (.tmp 45) (.tmp 46) _ rfl 127 100 3 mapT b cl ents HM.out rfl (x1, x2) rfl (wOf x3) rfl ?_; intro w8 hm8 hk8))
        replace K0 := Lib.hid (K0.out.then hk8 (fun m hm => by simp at hm; subst hm; exact .inr HB.out))
        have HM8 := Lib.hid (show MapK w8 b (sumsK r (l.take (k + 1))).1 (sumsK r (l.take (k + 1))).2 from by
          rw [HS.out]
          unfold stepK
          dsimp only
          rw [hq]
          exact hm8)
        clear hm8 hk8 hq
        go_roundw
        case rel => exact ⟨k + 1, by omega, by go_num, HM8, K0⟩
        case measure => simp [intOf]; omega
      | some u =>
        have HU := Lib.hid (getK_ok HOK.out hq)
        go_upto_region 8 with (first | (refine wpList_loadBlk rfl 127 (.tmp 9) rfl g9 [.int .i64 x1, .int .i64 x2] _ HK.out rfl Tryz.underlying127 rfl infoTwo ?_) | (refine wpList_lookupK rfl (.tmp 34) (.tmp 35) _ true rfl 127 100 3 mapT (Tryz.zeroValue100 _) b cl ents HM.out rfl (x1, x2) rfl ?_; rw [hq]; simp only [Option.getD_some, Option.isSome_some, if_true]))
        have HY := Lib.hid (Blk.new w4 100 (wdC u))
        have HZ' := Lib.hid (HZ.out.alloc (.cells (wdC u).toArray 100))
        have HK' := Lib.hid (HK.out.alloc (.cells (wdC u).toArray 100))
        have HM' := Lib.hid (HM.out.kept ((Kept.refl [] w4).alloc (.cells (wdC u).toArray 100)) (by simp))
        have K0' := Lib.hid (K0.out.alloc (.cells (wdC u).toArray 100))
        clear HZ HK HM K0
        have HZ := HZ'
        have HK := HK'
        have HM := HM'
        have K0 := K0'
        clear HZ' HK' HM' K0'
        generalize w4.alloc (.cells (wdC u).toArray 100) = w5 at *
        generalize w4.heap.size = g11 at HY ⊢
        go_wp2_with (first | (refine wpList_loadBlk rfl 100 (.tmp 11) rfl g11 (wdC u) _ HY.out rfl Tryz.underlying100 rfl infoWide ?_) | (refine wpList_loadBlk rfl 100 (.tmp 10) rfl g10 (wdC (wOf x3)) _ HZ.out rfl Tryz.underlying100 rfl infoWide ?_))
        refine (ringAdd_any r u (wOf x3) HU.out (wOf_ok x3) _).mono ?_
        rintro _ w6 ⟨rfl, hk6⟩
        replace HK := Lib.hid (HK.out.kept hk6 (by simp))
        replace HZ := Lib.hid (HZ.out.kept hk6 (by simp))
        replace HM := Lib.hid (HM.out.kept hk6 (by simp))
        replace K0 := Lib.hid (K0.out.trans hk6)
        clear hk6 HY
        have HNE := Lib.hid (HM.out.ne_blk HZ.out)
        have HN9 := Lib.hid (show g9 ≠ g10 from fun h => by have h1 := HK.out; have h2 := HZ.out; rw [h] at h1; exact Blk.types (by decide) h1 h2)
        go_upto_region 10 with (first | (refine wpList_storeBlk rfl 100 (.tmp 10) (.tmp 43) rfl g10 _ (wdC (rAdd r u (wOf x3))) HZ.out rfl rfl rfl infoWide (by simp [Value.oneCell']) ?_; intro w7 hb7 hk7))
        replace HZ := Lib.hid hb7
        replace HM := Lib.hid (HM.out.kept hk7 (by have := HNE.out; simpa using fun h => this h.symm))
        replace HK := Lib.hid (HK.out.kept hk7 (by have := HN9.out; simpa using this))
        replace K0 := Lib.hid (K0.out.then hk7 (fun m hm => by simp at hm; subst hm; exact .inr HG10.out))
        clear hb7 hk7
        go_wp2_with (first | (refine wpList_loadBlk rfl 127 (.tmp 9) rfl g9 [.int .i64 x1, .int .i64 x2] _ HK.out rfl Tryz.underlying127 rfl infoTwo ?_) | (refine wpList_loadBlk rfl 100 (.tmp 10) rfl g10 (wdC (rAdd r u (wOf x3))) _ HZ.out rfl Tryz.underlying100 rfl infoWide ?_) | (refine wpList_updateK rfl (.tmp 44) (.tmp 45) (.tmp 46) _ rfl 127 100 3 mapT b cl ents HM.out rfl (x1, x2) rfl (rAdd r u (wOf x3)) rfl ?_; intro w8 hm8 hk8))
        replace K0 := Lib.hid (K0.out.then hk8 (fun m hm => by simp at hm; subst hm; exact .inr HB.out))
        have HM8 := Lib.hid (show MapK w8 b (sumsK r (l.take (k + 1))).1 (sumsK r (l.take (k + 1))).2 from by
          rw [HS.out]
          unfold stepK
          dsimp only
          rw [hq]
          exact hm8)
        clear hm8 hk8 hq
        go_roundw
        case rel => exact ⟨k + 1, by omega, by go_num, HM8, K0⟩
        case measure => simp [intOf]; omega
    · obtain rfl : k = l.length := by omega
      have HOK := Lib.hid (sumsK_ok r l)
      have HLL := Lib.hid (Nat.le_trans (sumsK_length r l) hl)
      have HGI := Lib.hid K0.out.size
      rw [List.take_length] at HM
      generalize sumsK r l = S at HM HOK HPL HLL
      obtain ⟨ents, cl⟩ := S
      dsimp only at HM HOK HPL HLL
      clear hlt hk
      go_upto_block 2 with (first | (refine wpList_rangeK rfl (.tmp 48) _ _ _ rfl Tryz.underlying199 b cl ents HM.out rfl ?_; intro hrg; have HRG := Lib.hid hrg; clear hrg))
      replace K0 := Lib.hid (K0.out.alloc (.mapIter (some b) cl #[] cl))
      generalize wr.alloc (.mapIter (some b) cl #[] cl) = w2 at *
      generalize wr.heap.size = it at *
      go_wp2_with fail
      go_frame
      go_loopg [13] ents.length (fun gk v wx => ∃ (done todo : List KE), Hid (todo.length = gk) ∧ Hid (RangeK wx b it ents cl done todo) ∧ Hid (wx.ownsRow w.heap.size 84 3 v done.length ((done.map edOf).flatMap edV)) ∧ Hid (∀ x ∈ done, (wNarrow x.2.1).2 = true) ∧ Hid (Kept [] w wx))
      case atStart => exact ⟨[], ents, Lib.hid rfl, HRG, Lib.hid (World.ownsRow_nil _ _ _ _), Lib.hid (by simp), K0⟩
      case round =>
        clear HRG K0 HM
        obtain ⟨done, todo, HT, HRG, HO, HD, K0⟩ := hrel
        have hb13 := own_n HO.out
        obtain ⟨A13, c13, hv13⟩ := hb13
        obtain ⟨v, hv⟩ : ∃ v, v = u13 := ⟨_, rfl⟩
        subst hv
        subst hv13
        rcases HRG.out.next (P := Tryz.prog) 0 with ⟨h0, hrun⟩ | ⟨x, todo', w3, hrun, hR, hl2, hk, hen⟩
        · subst h0
          have hperm : done.Perm ents := by have := HRG.out.perm; simpa using this
          have HPM := Lib.hid hperm
          have hdl : done.length ≤ 1048576 := by rw [hperm.length_eq]; have := HLL.out; omega
          clear hperm
          go_wp2_with fail
          refine (sortT_any (done.map edOf) l done.length w.heap.size _ _ (by simp) HO.out hdl (by have := HPM.out.map edOf; rwa [HPL.out.1] at this) HRI.out).mono ?_
          rintro _ w4 ⟨rfl, ho, hk⟩
          replace K0 := Lib.hid (K0.out.app hk HO.out)
          replace HO := Lib.hid ho
          clear ho hk hrun
          go_wp2_with fail
          show post (.returned (.tuple #[.slice A13 done.length c13, .int .i64 0])) _
          rw [HPOST.out]
          have hln : done.length = l.length := by have h1 := (HPM.out.map edOf).length_eq; rw [HPL.out.1, List.length_map] at h1; exact h1
          have h2 := HO.out
          rw [hln] at h2 ⊢
          exact ⟨_, rfl, h2, K0.out⟩
        · have hxe : x ∈ ents := hR.perm.mem_iff.1 (by simp)
          have hdl : done.length ≤ 1048576 := by have := hR.perm.length_eq; have := HLL.out; simp at *; omega
          have HXE := Lib.hid hxe
          have HXO := Lib.hid (HOK.out x hxe)
          have HL2 := Lib.hid hl2
          have NO := Lib.hid (HRG.out.ne_own HO.out)
          have HEN := Lib.hid hen
          clear hxe hl2
          go_upto_region 16 with (fail)
          clear hen hrun HEN
          have k2 : Kept [] w3 ((w3.alloc (.cells #[.int .i64 x.1.1, .int .i64 x.1.2] 127)).alloc (.cells (wdC x.2.1).toArray 100)) := ((Kept.refl [] w3).alloc _).alloc _
          have H14 := Lib.hid ((Blk.new w3 127 [.int .i64 x.1.1, .int .i64 x.1.2]).alloc (.cells (wdC x.2.1).toArray 100))
          have H15 := Lib.hid (Blk.new1F w3 (.cells #[.int .i64 x.1.1, .int .i64 x.1.2] 127) 100 (wdC x.2.1))
          replace HRG := Lib.hid (hR.kept k2 (by simp) (by simp))
          replace HO := Lib.hid (own_kept0 (own_kept HO.out hk (fun g hg hm => by have := NO.out; simp at hm; subst hm; exact this hg)) k2)
          replace K0 := Lib.hid ((K0.out.then hk (fun m hm => by simp at hm; subst hm; exact .inr HGI.out)).trans k2)
          clear hR hk k2 NO
          generalize ((w3.alloc (.cells #[.int .i64 x.1.1, .int .i64 x.1.2] 127)).alloc (.cells (wdC x.2.1).toArray 100)) = w5 at *
          generalize w3.heap.size + 1 = g15 at H15 ⊢
          generalize w3.heap.size = g14 at H14 ⊢
          go_wp2_with (first | (refine wpList_loadBlk rfl 100 (.tmp 15) rfl g15 (wdC x.2.1) _ H15.out rfl Tryz.underlying100 rfl infoWide ?_))
          refine (ringNarrow_any r x.2.1 HXO.out _).mono ?_
          rintro _ w6 ⟨rfl, hk6⟩
          replace HRG := Lib.hid (HRG.out.kept hk6 (by simp) (by simp))
          replace HO := Lib.hid (own_kept0 HO.out hk6)
          replace K0 := Lib.hid (K0.out.trans hk6)
          replace H14 := Lib.hid (H14.out.kept hk6 (by simp))
          clear hk6 H15
          have hnb := HPL.out.2 x HXE.out
          rw [hnb]
          have HNB := Lib.hid hnb
          clear hnb
          have z0 := H14.out.cell 0
          have z1 := H14.out.cell 1
          simp only [List.getElem?_cons_zero, List.getElem?_cons_succ] at z0 z1
          have hsz := K0.out.size
          go_wp2_with (first | (at_builtin; refine wpList_app _ rfl (.tmp 63) (.tmp 70) _ rfl 84 (.agg #[.int .i64 0, .int .i64 0, .int .i64 0]) 3 24 Tryz.underlying24 infoTrI rfl (by decide) w.heap.size (.slice A13 done.length c13) _ _ rfl (HO.out.alloc _) (some ⟨_, 0, none⟩) 1 1 (edV (edOf x)) rfl rfl (Reads.of_blk (Blk.new _ _ _) (fun _ _ h => h)) (by simp [edV, Value.oneCell']) (by omega) (by unfold maxLen; omega) (by simp; omega) ?_; intro va wa howna hka hba; have HOa := Lib.hid howna; have NOa := Lib.hid (HRG.out.ne_own HO.out); have NMa := Lib.hid (HRG.out.map.ne_own HO.out); have HRa := Lib.hid ((HRG.out.kept ((Kept.refl [] _).alloc _) (by simp) (by simp)).kept hka (by simpa using NMa.out) (by simpa using NOa.out)); have K0a := Lib.hid ((K0.out.alloc _).app hka (HO.out.alloc _)); clear howna hka hba))
          go_roundg todo'.length
          case rel =>
            refine ⟨done ++ [x], todo', Lib.hid rfl, HRa, Lib.hid (by have := HOa.out; simpa using this), Lib.hid (fun y hy => ?_), K0a⟩
            rcases List.mem_append.1 hy with hy | hy
            · exact HD.out y hy
            · simp at hy; subst hy; exact HNB.out
          case measure => have := HL2.out; have := HT.out; omega
theorem within_yes (a b : Int) (w : World) (h : 0 ≤ a ∧ a ≤ b) : Calls Tryz.prog 85 #[.int .i64 a, .int .i64 b] w fun e w' => e = .returned (.bool true) ∧ w' = w := by
  have h1 := within_c a b w
  rwa [show (decide (0 ≤ a) && decide (a ≤ b)) = true by simp [h.1, h.2]] at h1
theorem ofT_any (x : Ed) (n m g1 g2 : Nat) (w : World) (h1 : Blk w g1 3 [.int .i64 n]) (h2 : Blk w g2 3 [.int .i64 m]) (hx : (0 ≤ x.1 ∧ x.1 < n) ∧ 0 ≤ x.2.1 ∧ x.2.1 < m) (hn : n ≤ 4096) (hm : m ≤ 4096) :
    Calls Tryz.prog 94 #[.agg (edV x).toArray, .pointer (some ⟨g1, 0, none⟩), .pointer (some ⟨g2, 0, none⟩)] w fun e w' => e = .returned (.bool false) ∧ Kept [] w w' := by
  obtain ⟨x1, x2, x3⟩ := x
  dsimp only at hx
  have k0 := (Kept.refl [] w).alloc (.cells (edV (x1, x2, x3)).toArray 84)
  have HX := Lib.hid (Blk.new w 84 (edV (x1, x2, x3)))
  have HD1 := Lib.hid (h1.kept k0 (by simp))
  have HD2 := Lib.hid (h2.kept k0 (by simp))
  have HK := Lib.hid k0
  have HX2 := Lib.hid hx
  clear k0 hx h1 h2
  have hwn : IntKind.i64.wrap ((n : Int) - 1) = (n : Int) - 1 := by rw [IntKind.wrap_i64]; omega
  have hwm : IntKind.i64.wrap ((m : Int) - 1) = (m : Int) - 1 := by rw [IntKind.wrap_i64]; omega
  go_enter Tryz.func94, Tryz.ntmps94
  go_upto_region 1 with (fail)
  generalize w.alloc (.cells (edV (x1, x2, x3)).toArray 84) = w1 at *
  generalize w.heap.size = gx at HX ⊢
  have c0 := HX.out.cell 0
  have c1 := HX.out.cell 1
  have d1 := HD1.out.cell 0
  have d2 := HD2.out.cell 0
  simp only [edV, List.getElem?_cons_zero, List.getElem?_cons_succ] at c0 c1 d1 d2
  go_wp2_with fail
  refine (within_yes x1 ((n : Int) - 1) _ (by have := HX2.out; omega)).mono ?_
  rintro _ w1 ⟨rfl, rfl⟩
  go_wp2_with fail
  refine (within_yes x2 ((m : Int) - 1) _ (by have := HX2.out; omega)).mono ?_
  rintro _ w2 ⟨rfl, rfl⟩
  go_wp2_with fail
  go_ret
  exact ⟨rfl, HK.out⟩
theorem indexT_any (S : List Ed) (n m g1 g2 : Nat) (A : Option Addr) (c : Nat) (w : World) (hl : S.length ≤ 65536) (hn : n ≤ 4096) (hm : m ≤ 4096) (hs : InM n m S) (h1 : Blk w g1 3 [.int .i64 n]) (h2 : Blk w g2 3 [.int .i64 m]) (hr : Reads w A (S.flatMap edV)) :
    Calls Tryz.prog 130 #[.slice A S.length c, .func (.func 94) #[] #[.pointer (some ⟨g1, 0, none⟩), .pointer (some ⟨g2, 0, none⟩)]] w fun e w' => e = .returned (.int .i64 (-1)) ∧ Kept [] w w' := by
  have HR := Lib.hid hr
  have HG1 := Lib.hid h1
  have HG2 := Lib.hid h2
  have HS := Lib.hid hs
  have HN := Lib.hid hn
  have HM := Lib.hid hm
  clear hr h1 h2 hs hn hm
  go_enter Tryz.func130, Tryz.ntmps130
  go_wp2_with fail
  go_loopw [8] (fun i wr => ∃ k : Nat, k ≤ S.length ∧ i = .int .i64 k ∧ Hid (Kept [] w wr)) (fun i _ => S.length - (intOf i).toNat)
  case atStart => exact ⟨0, Nat.zero_le _, rfl, Lib.hid (Kept.refl _ _)⟩
  case round =>
    obtain ⟨k, hk, rfl, KW⟩ := hrel
    by_cases hlt : k < S.length
    · obtain ⟨b, off, rfl, hbl, h0, h1, h2⟩ := edge_at (HR.out.kept0 KW.out) hlt
      go_wp2_with fail
      refine (ofT_any S[k] n m g1 g2 _ (HG1.out.kept KW.out (by simp)) (HG2.out.kept KW.out (by simp)) (HS.out _ (List.getElem_mem hlt)) HN.out HM.out).mono ?_
      rintro e w1 ⟨rfl, hk1⟩
      have KW := Lib.hid (KW.out.trans hk1)
      clear hk1 h0 h1 h2
      go_wp2_with fail
      go_roundw
      case rel => exact ⟨k + 1, by omega, by go_num, KW⟩
      case measure => simp [intOf]; omega
    · go_wp2_with fail
      go_ret
      exact ⟨rfl, KW.out⟩
theorem containsT_any (S : List Ed) (n m g1 g2 : Nat) (A : Option Addr) (c : Nat) (w : World) (hl : S.length ≤ 65536) (hn : n ≤ 4096) (hm : m ≤ 4096) (hs : InM n m S) (h1 : Blk w g1 3 [.int .i64 n]) (h2 : Blk w g2 3 [.int .i64 m]) (hr : Reads w A (S.flatMap edV)) :
    Calls Tryz.prog 93 #[.slice A S.length c, .func (.func 94) #[] #[.pointer (some ⟨g1, 0, none⟩), .pointer (some ⟨g2, 0, none⟩)]] w fun e w' => e = .returned (.bool false) ∧ Kept [] w w' := by
  have HI := Lib.hid (indexT_any S n m g1 g2 A c w hl hn hm hs h1 h2 hr)
  clear hl hn hm hs h1 h2 hr
  go_enter Tryz.func93, Tryz.ntmps93
  go_wp2_with fail
  refine HI.out.mono ?_
  rintro _ w1 ⟨rfl, hk⟩
  have HK := Lib.hid hk
  clear hk
  go_wp2_with fail
  go_ret
  exact ⟨rfl, HK.out⟩
set_option maxRecDepth 100000 in
theorem csrOf_any (r : Int) (hr : RingV r) (n m : Nat) (l : List Ed) (A : Option Addr) (c : Nat) (w : World) (hok : MtOkM n m l) (ho : ∀ e ∈ l, OkV r e.2.2) (hA : Reads w A (l.flatMap edV)) :
    Calls Tryz.prog 55 #[.int .i64 r, .int .i64 n, .int .i64 m, .slice A l.length c] w (fun e w' => ∃ v, e = .returned (.tuple #[v, .int .i64 0]) ∧ MtPost w n m l (.returned v) w') := by
  have HRV := Lib.hid hr
  have HOK := Lib.hid hok
  have HO := Lib.hid ho
  have HA := Lib.hid hA
  have HLN := Lib.hid hok.len
  have HNN := Lib.hid hok.num
  have HMM := Lib.hid hok.mum
  clear hr hok ho hA
  have ri : ringIs r = true := by rcases HRV.out with rfl | rfl | rfl <;> rfl
  obtain ⟨post, hpost⟩ : ∃ post : Ending → World → Prop, post = (fun e w' => ∃ v, e = .returned (.tuple #[v, .int .i64 0]) ∧ MtPost w n m l (.returned v) w') := ⟨_, rfl⟩
  rw [← hpost]
  have HPOST := Lib.hid hpost
  clear hpost
  go_enter Tryz.func55, Tryz.ntmps55
  go_wp2_with fail
  refine (ringIs_any r _).mono ?_
  rintro _ w1 ⟨rfl, hw1⟩
  rw [ri]
  have HB := Lib.hid (((Blk.new w 3 [.int .i64 n]).alloc (.cells #[.int .i64 m] 3)).alloc (.cells #[.int .i64 0, .int .i64 0, .slice none 0 0, .slice none 0 0, .slice none 0 0] 31))
  have HM := Lib.hid ((Blk.new1F w (.cells #[.int .i64 n] 3) 3 [.int .i64 m]).alloc (.cells #[.int .i64 0, .int .i64 0, .slice none 0 0, .slice none 0 0, .slice none 0 0] 31))
  have HZ0 := Blk.new ((w.alloc (.cells #[.int .i64 n] 3)).alloc (.cells #[.int .i64 m] 3)) 31 [.int .i64 0, .int .i64 0, .slice none 0 0, .slice none 0 0, .slice none 0 0]
  rw [show ((w.alloc (.cells #[.int .i64 n] 3)).alloc (.cells #[.int .i64 m] 3)).heap.size = w.heap.size + 1 + 1 by simp] at HZ0
  have HZ := Lib.hid HZ0
  have K0 := Lib.hid ((((Kept.refl [] w).alloc (.cells #[.int .i64 n] 3)).alloc (.cells #[.int .i64 m] 3)).alloc (.cells #[.int .i64 0, .int .i64 0, .slice none 0 0, .slice none 0 0, .slice none 0 0] 31))
  clear HZ0
  rw [← hw1] at HB HM HZ K0
  clear hw1
  have b0 := HB.out.cell 0
  have m0 := HM.out.cell 0
  simp only [List.getElem?_cons_zero] at b0 m0
  go_wp2_with fail
  refine (within_yes n 4096 _ (by have := HNN.out; omega)).mono ?_
  rintro _ w2 ⟨rfl, rfl⟩
  go_wp2_with fail
  refine (within_yes m 4096 _ (by have := HMM.out; omega)).mono ?_
  rintro _ w3 ⟨rfl, rfl⟩
  have h5 : ¬ (65536 : Int) < (l.length : Int) := by have := HLN.out; omega
  go_wp2_with fail
  refine (containsT_any l n m w.heap.size (w.heap.size + 1) A c _ HLN.out HNN.out HMM.out HOK.out.inn HB.out HM.out (HA.out.kept0 K0.out)).mono ?_
  rintro _ w4 ⟨rfl, hk⟩
  clear b0 m0
  replace HB := Lib.hid (HB.out.kept hk (by simp))
  replace HM := Lib.hid (HM.out.kept hk (by simp))
  replace HZ := Lib.hid (HZ.out.kept hk (by simp))
  replace K0 := Lib.hid (K0.out.trans hk)
  clear hk h5
  go_wp2_with fail
  refine (summed_any r HRV.out l A c _ HLN.out (HA.out.kept0 K0.out) HO.out HOK.out.rises).mono ?_
  rintro _ w5 ⟨v, rfl, ho5, hk⟩
  have HV := Lib.hid (own_le ho5 K0.out.size)
  replace HB := Lib.hid (HB.out.kept hk (by simp))
  replace HM := Lib.hid (HM.out.kept hk (by simp))
  replace HZ := Lib.hid (HZ.out.kept hk (by simp))
  replace K0 := Lib.hid (K0.out.trans hk)
  clear hk ho5
  obtain ⟨A5, c5, rfl⟩ := own_n HV.out
  have b0 := HB.out.cell 0
  have m0 := HM.out.cell 0
  simp only [List.getElem?_cons_zero] at b0 m0
  go_wp2_with fail
  refine (built_any n m l A5 c5 _ HNN.out (by have := HLN.out; omega) (Reads.of_own HV.out) (fun e he => (HOK.out.inn e he).1)).mono ?_
  rintro _ w6 ⟨v1, v2, v3, rfl, hmt, hk⟩
  have HMT := Lib.hid (hmt.le K0.out.size)
  obtain ⟨b1, c1, A2, c2, A3, c3, rfl, rfl, rfl, _, _⟩ := HMT.out.form
  replace HB := Lib.hid (HB.out.kept hk (by simp))
  replace HM := Lib.hid (HM.out.kept hk (by simp))
  replace HZ := Lib.hid (HZ.out.kept hk (by simp))
  replace K0 := Lib.hid (K0.out.trans hk)
  clear hk hmt b0 m0
  go_wp2_with (first | (refine wpList_storeBlk rfl 31 (.tmp 8) (.tmp 50) rfl (w.heap.size + 1 + 1) _ [.int .i64 n, .int .i64 m, .slice (some ⟨b1, 0, none⟩) (n + 1) c1, .slice A2 l.length c2, .slice A3 l.length c3] HZ.out rfl rfl rfl infoRows (by simp [Value.oneCell']) ?_; intro w8 hb8 hk8))
  have e0 := hb8.cell 0
  have e1 := hb8.cell 1
  have e2 := hb8.cell 2
  have e3 := hb8.cell 3
  have e4 := hb8.cell 4
  simp only [List.getElem?_cons_zero, List.getElem?_cons_succ] at e0 e1 e2 e3 e4
  refine bodyPost_ret (v := .tuple #[.agg #[.int .i64 n, .int .i64 m, .slice (some ⟨b1, 0, none⟩) (n + 1) c1, .slice A2 l.length c2, .slice A3 l.length c3], .int .i64 0]) (by simp [results, Tryz.results55, go_sem, e0, e1, e2, e3, e4]) rfl ?_
  rw [HPOST.out]
  have f8 : KeptB w.heap.size [31] w6 w8 := (KeptB.refl _ _ w6).step (L := [w.heap.size + 1 + 1]) hk8 (fun u hu => by simp at hu; subst hu; exact ⟨by omega, _, _, _, HZ.out, by simp⟩)
  exact ⟨_, rfl, _, _, _, rfl, HMT.out.keptB f8 (by decide) (by decide), K0.out.thenB f8 (Nat.le_refl _)⟩
end Go.Proofs.YtblfingmdipopaaGreat
