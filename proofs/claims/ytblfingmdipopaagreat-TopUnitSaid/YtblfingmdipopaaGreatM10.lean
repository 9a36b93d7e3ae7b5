/- Edges are combined. -/
import Derived.Test.YtblfingmdipopaaGreatM09
import Derived.Deep.CutBlock
namespace Go.Proofs.YtblfingmdipopaaGreat
set_option linter.unusedSimpArgs false
set_option linter.unusedVariables false
open Go.ChangeShapes Go.WideShapes Go.ChangeAt Go.RowKit
open Go.RowKit (wrap32 wrap64)
set_option maxHeartbeats 8000000
theorem mapT : MapT Tryz.prog 199 127 100 3 := ⟨Tryz.underlying199, Tryz.underlying127, Tryz.underlying3, by kernel_rfl, by kernel_rfl⟩
theorem infoTwo : (Tryz.prog.info? 127).map (·.size) = some 2 := by kernel_rfl
theorem infoEd : Info Tryz.prog 107 (.agg #[.int .i64 0, .int .i64 0, .int .i64 0]) 3 24 := by unfold Info; kernel_rfl
theorem Blk.types {w : World} {g : Nat} {t1 t2 : TypeId} {cs ds : List Value} (hne : t1 ≠ t2) (h1 : Blk w g t1 cs) (h2 : Blk w g t2 ds) : False := by
  unfold Blk at h1 h2
  rw [h1] at h2
  injection h2 with h2
  injection h2 with _ h3 _
  exact hne h3
theorem MapK.ne_blk {w : World} {b c g : Nat} {l : List KE} {t : TypeId} {cs : List Value} (h : MapK w b l c) (hb : Blk w g t cs) : g ≠ b := by
  rintro rfl
  have h1 := h.at_
  unfold Blk at hb
  rw [hb] at h1
  cases h1
theorem RangeK.ne_own {w : World} {b r c : Nat} {l d todo : List KE} (h : RangeK w b r l c d todo) {e : TypeId} {size n base' : Nat} {v : Value} {xs : List Value} (ho : w.ownsRow base' e size v n xs) : v.ownBlock ≠ some r := by
  rcases ho.2 with ⟨rfl, _⟩ | ⟨g, cap, cur, rfl, _, hg, _⟩
  · simp [Value.ownBlock]
  · have h1 := h.it
    simp [Value.ownBlock]
    rintro rfl
    rw [hg] at h1; cases h1
theorem MapK.ne_own {w : World} {b c : Nat} {l : List KE} (h : MapK w b l c) {e : TypeId} {size n base' : Nat} {v : Value} {xs : List Value} (ho : w.ownsRow base' e size v n xs) : v.ownBlock ≠ some b := by
  rcases ho.2 with ⟨rfl, _⟩ | ⟨g, cap, cur, rfl, _, hg, _⟩
  · simp [Value.ownBlock]
  · have h1 := h.at_
    simp [Value.ownBlock]
    rintro rfl
    rw [hg] at h1; cases h1
theorem putK_length (k : Int × Int) (v : Wd) (c : Nat) : ∀ l : List KE, (putK k v c l).length ≤ l.length + 1
  | [] => by simp [putK]
  | x :: l => by unfold putK; split <;> simp; exact putK_length k v c l
theorem sumsK_length (r : Int) (l : List Ed) : (sumsK r l).1.length ≤ l.length := by
  unfold sumsK
  suffices ∀ (l : List Ed) (s : List KE × Nat), (l.foldl (stepK r) s).1.length ≤ s.1.length + l.length from by simpa using this l ([], 0)
  intro l
  induction l with
  | nil => intro s; simp
  | cons e l ih =>
    intro s
    have h1 := ih (stepK r s e)
    have h2 : (stepK r s e).1.length ≤ s.1.length + 1 := putK_length _ _ _ _
    simp only [List.foldl_cons, List.length_cons]
    omega
/-- An edge of the sums. -/
def edOf (x : KE) : Ed := (x.1.1, x.1.2, (wNarrow x.2.1).1)
theorem edge_at {w : World} {A : Option Addr} {l : List Ed} (h : Reads w A (l.flatMap edV)) {k : Nat} (hk : k < l.length) :
    ∃ b off, A = some ⟨b, off, none⟩ ∧ b < w.heap.size ∧ w.cell? ⟨b, off + k * 3, none⟩ = some (.int .i64 l[k].1) ∧ w.cell? ⟨b, off + k * 3 + 1, none⟩ = some (.int .i64 l[k].2.1) ∧ w.cell? ⟨b, off + k * 3 + 2, none⟩ = some (.int .i64 l[k].2.2) := by
  obtain ⟨b, off, e, hb, hc⟩ := rec_cell (m := 3) (fun _ _ => rfl) (by decide) h hk
  exact ⟨b, off, e, hb, hc 0 _ rfl, hc 1 _ rfl, hc 2 _ rfl⟩
/-- What Combine comes to. -/
def combP (r : Int) (l : List Ed) : Int × List Ed := if ringIs r = false then (8, []) else if (sumsK r l).1.all (fun x => (wNarrow x.2.1).2) = true then (0, sortE ((sumsK r l).1.map edOf)) else (12, [])
set_option maxRecDepth 100000 in
theorem combine_ok (r : Int) (l : List Ed) (A : Option Addr) (c : Nat) (w : World) (hr : ringIs r = true) (hl : l.length ≤ 1048576) (hA : Reads w A (l.flatMap edV)) (hw : ∀ e ∈ l, In64 e.2.2) :
    Calls Tryz.prog 176 #[.int .i64 r, .slice A l.length c] w fun e w' => ∃ v, e = .returned (.tuple #[v, .int .i64 (combP r l).1]) ∧ w'.ownsRow w.heap.size 107 3 v (combP r l).2.length ((combP r l).2.flatMap edV) ∧ Kept [] w w' := by
  have HR := Lib.hid hr
  have HA := Lib.hid hA
  have HW := Lib.hid hw
  have hmm : ∀ (t : TypeId) (wx : World), (Instr.makeMap t none).run Tryz.prog wx = .ok (.map (some wx.heap.size)) (wx.alloc (.map #[] 0)) := fun _ _ => rfl
  have HM := Lib.hid (show MapK (w.alloc (.map #[] 0)) w.heap.size (sumsK r (l.take 0)).1 (sumsK r (l.take 0)).2 from ⟨heap_alloc_new w _, by simp [sumsK], by simp [sumsK]⟩)
  have K0 := Lib.hid ((Kept.refl [] w).alloc (.map #[] 0))
  clear hr hA hw
  obtain ⟨post, hpost⟩ : ∃ post : Ending → World → Prop, post = fun e w' => ∃ v, e = .returned (.tuple #[v, .int .i64 (combP r l).1]) ∧ w'.ownsRow w.heap.size 107 3 v (combP r l).2.length ((combP r l).2.flatMap edV) ∧ Kept [] w w' := ⟨_, rfl⟩
  rw [← hpost]
  have HPOST := Lib.hid hpost
  clear hpost
  go_enter Tryz.func176, Tryz.ntmps176
  go_wp2_with fail
  refine (ringIs_any r _).mono ?_
  rintro _ w ⟨rfl, rfl⟩
  rw [HR.out]
  go_wp2_with fail
  have HBL := Lib.hid (show w.heap.size ≤ w.heap.size from Nat.le_refl _)
  generalize hbq : w.heap.size = b at HM HBL ⊢
  have HB := Lib.hid (show w.heap.size ≤ b by omega)
  clear HBL hbq
  generalize w.alloc (.map #[] 0) = w0 at *
  go_loopw [24] (fun i wr => ∃ k : Nat, k ≤ l.length ∧ i = .int .i64 k ∧ Hid (MapK wr b (sumsK r (l.take k)).1 (sumsK r (l.take k)).2) ∧ Hid (Kept [] w wr)) (fun i _ => l.length - (intOf i).toNat)
  case atStart => exact ⟨0, Nat.zero_le _, rfl, HM, K0⟩
  case round =>
    clear HM K0
    obtain ⟨k, hk, rfl, HM, K0⟩ := hrel
    by_cases hlt : k < l.length
    · obtain ⟨bb, off, rfl, hbl, c0, c1, c2⟩ := edge_at (HA.out.kept0 K0.out) hlt
      have hin := HW.out l[k] (List.getElem_mem hlt)
      have HS := Lib.hid (sumsK_succ r l hlt)
      have HOK := Lib.hid (sumsK_ok r (l.take k))
      obtain ⟨x, hx⟩ : ∃ x, x = l[k] := ⟨_, rfl⟩
      rw [← hx] at c0 c1 c2 hin HS
      clear hx
      obtain ⟨x1, x2, x3⟩ := x
      dsimp only at c0 c1 c2 hin
      generalize sumsK r (l.take k) = S at HM HS HOK
      obtain ⟨ents, cl⟩ := S
      dsimp only at HM HOK
      have HIN := Lib.hid hin
      clear hin
      go_wp2_with fail
      refine (of_any x3 HIN.out _).mono ?_
      rintro _ w3 ⟨rfl, hk3⟩
      have HK := Lib.hid ((Blk.new1F wr (.cells (edV (x1, x2, x3)).toArray 107) 127 [.int .i64 x1, .int .i64 x2]).kept hk3 (by simp))
      have k3 : Kept [] wr w3 := (((Kept.refl [] wr).alloc _).alloc _).trans hk3
      replace HM := Lib.hid (HM.out.kept k3 (by simp))
      replace K0 := Lib.hid (K0.out.trans k3)
      have HG10 := Lib.hid K0.out.size
      clear hk3 k3 c0 c1 c2 hbl
      generalize wr.heap.size + 1 = g9 at HK ⊢
      go_upto_region 9 with (fail)
      have HZ := Lib.hid (Blk.new w3 100 (wdC (wOf x3)))
      replace HK := Lib.hid (HK.out.alloc (.cells (wdC (wOf x3)).toArray 100))
      replace HM := Lib.hid (HM.out.kept ((Kept.refl [] w3).alloc (.cells (wdC (wOf x3)).toArray 100)) (by simp))
      replace K0 := Lib.hid (K0.out.alloc (.cells (wdC (wOf x3)).toArray 100))
      generalize w3.alloc (.cells (wdC (wOf x3)).toArray 100) = w4 at *
      generalize w3.heap.size = g10 at HZ HG10 ⊢
      cases hq : getK (x1, x2) ents with
      | none =>
        go_upto_region 10 with (first | (refine wpList_loadBlk rfl 127 (.tmp 9) rfl g9 [.int .i64 x1, .int .i64 x2] _ HK.out rfl Tryz.underlying127 rfl infoTwo ?_) | (refine wpList_lookupK rfl (.tmp 37) (.tmp 38) _ true rfl 127 100 3 mapT (Tryz.zeroValue100 _) b cl ents HM.out rfl (x1, x2) rfl ?_; rw [hq]; simp only [Option.getD_none, Option.isSome_none, if_true]))
        have HZ' := Lib.hid (HZ.out.alloc (.cells (wdC (0, 0)).toArray 100))
        have HK' := Lib.hid (HK.out.alloc (.cells (wdC (0, 0)).toArray 100))
        have HM' := Lib.hid (HM.out.kept ((Kept.refl [] w4).alloc (.cells (wdC (0, 0)).toArray 100)) (by simp))
        have K0' := Lib.hid (K0.out.alloc (.cells (wdC (0, 0)).toArray 100))
        clear HZ HK HM K0
        have HZ := HZ'
        have HK := HK'
        have HM := HM'
        have K0 := K0'
        clear HZ' HK' HM' K0'
        generalize w4.alloc (.cells (wdC (0, 0)).toArray 100) = w5 at *
        go_wp2_with (first | (refine wpList_loadBlk rfl 127 (.tmp 9) rfl g9 [.int .i64 x1, .int .i64 x2] _ HK.out rfl Tryz.underlying127 rfl infoTwo ?_) | (refine wpList_loadBlk rfl 100 (.tmp 10) rfl g10 (wdC (wOf x3)) _ HZ.out rfl Tryz.underlying100 rfl infoWide ?_) | (refine wpList_updateK rfl (.tmp 47) (.tmp 48) (.tmp 49) _ rfl 127 100 3 mapT b cl ents HM.out rfl (x1, x2) rfl (wOf x3) rfl ?_; intro w8 hm8 hk8))
        replace K0 := Lib.hid (K0.out.then hk8 (fun m hm => by simp at hm; subst hm; exact .inr HB.out))
        have HM8 := Lib.hid (show MapK w8 b (sumsK r (l.take (k + 1))).1 (sumsK r (l.take (k + 1))).2 from by
          rw [HS.out]
          unfold stepK
          dsimp only
          rw [hq]
          exact hm8)
        clear hm8 hk8 hq
        go_roundw
        case rel => exact ⟨k + 1, by omega, by go_num, HM8, K0⟩
        case measure => simp [intOf]; omega
      | some u =>
        have HU := Lib.hid (getK_ok HOK.out hq)
        go_upto_region 10 with (first | (refine wpList_loadBlk rfl 127 (.tmp 9) rfl g9 [.int .i64 x1, .int .i64 x2] _ HK.out rfl Tryz.underlying127 rfl infoTwo ?_) | (refine wpList_lookupK rfl (.tmp 37) (.tmp 38) _ true rfl 127 100 3 mapT (Tryz.zeroValue100 _) b cl ents HM.out rfl (x1, x2) rfl ?_; rw [hq]; simp only [Option.getD_some, Option.isSome_some, if_true]))
        have HY := Lib.hid (Blk.new w4 100 (wdC u))
        have HZ' := Lib.hid (HZ.out.alloc (.cells (wdC u).toArray 100))
        have HK' := Lib.hid (HK.out.alloc (.cells (wdC u).toArray 100))
        have HM' := Lib.hid (HM.out.kept ((Kept.refl [] w4).alloc (.cells (wdC u).toArray 100)) (by simp))
        have K0' := Lib.hid (K0.out.alloc (.cells (wdC u).toArray 100))
        clear HZ HK HM K0
        have HZ := HZ'
        have HK := HK'
        have HM := HM'
        have K0 := K0'
        clear HZ' HK' HM' K0'
        generalize w4.alloc (.cells (wdC u).toArray 100) = w5 at *
        generalize w4.heap.size = g11 at HY ⊢
        go_wp2_with (first | (refine wpList_loadBlk rfl 100 (.tmp 11) rfl g11 (wdC u) _ HY.out rfl Tryz.underlying100 rfl infoWide ?_) | (refine wpList_loadBlk rfl 100 (.tmp 10) rfl g10 (wdC (wOf x3)) _ HZ.out rfl Tryz.underlying100 rfl infoWide ?_))
        refine (ringAdd_any r u (wOf x3) HU.out (wOf_ok x3) _).mono ?_
        rintro _ w6 ⟨rfl, hk6⟩
        replace HK := Lib.hid (HK.out.kept hk6 (by simp))
        replace HZ := Lib.hid (HZ.out.kept hk6 (by simp))
        replace HM := Lib.hid (HM.out.kept hk6 (by simp))
        replace K0 := Lib.hid (K0.out.trans hk6)
        clear hk6 HY
        have HNE := Lib.hid (HM.out.ne_blk HZ.out)
        have HN9 := Lib.hid (show g9 ≠ g10 from fun h => by have h1 := HK.out; have h2 := HZ.out; rw [h] at h1; exact Blk.types (by decide) h1 h2)
        go_upto_region 12 with (first | (refine wpList_storeBlk rfl 100 (.tmp 10) (.tmp 46) rfl g10 _ (wdC (rAdd r u (wOf x3))) HZ.out rfl rfl rfl infoWide (by simp [Value.oneCell']) ?_; intro w7 hb7 hk7))
        replace HZ := Lib.hid hb7
        replace HM := Lib.hid (HM.out.kept hk7 (by have := HNE.out; simpa using fun h => this h.symm))
        replace HK := Lib.hid (HK.out.kept hk7 (by have := HN9.out; simpa using this))
        replace K0 := Lib.hid (K0.out.then hk7 (fun m hm => by simp at hm; subst hm; exact .inr HG10.out))
        clear hb7 hk7
        go_wp2_with (first | (refine wpList_loadBlk rfl 127 (.tmp 9) rfl g9 [.int .i64 x1, .int .i64 x2] _ HK.out rfl Tryz.underlying127 rfl infoTwo ?_) | (refine wpList_loadBlk rfl 100 (.tmp 10) rfl g10 (wdC (rAdd r u (wOf x3))) _ HZ.out rfl Tryz.underlying100 rfl infoWide ?_) | (refine wpList_updateK rfl (.tmp 47) (.tmp 48) (.tmp 49) _ rfl 127 100 3 mapT b cl ents HM.out rfl (x1, x2) rfl (rAdd r u (wOf x3)) rfl ?_; intro w8 hm8 hk8))
        replace K0 := Lib.hid (K0.out.then hk8 (fun m hm => by simp at hm; subst hm; exact .inr HB.out))
        have HM8 := Lib.hid (show MapK w8 b (sumsK r (l.take (k + 1))).1 (sumsK r (l.take (k + 1))).2 from by
          rw [HS.out]
          unfold stepK
          dsimp only
          rw [hq]
          exact hm8)
        clear hm8 hk8 hq
        go_roundw
        case rel => exact ⟨k + 1, by omega, by go_num, HM8, K0⟩
        case measure => simp [intOf]; omega
    · obtain rfl : k = l.length := by omega
      have HOK := Lib.hid (sumsK_ok r l)
      have HLL := Lib.hid (Nat.le_trans (sumsK_length r l) hl)
      have HGI := Lib.hid K0.out.size
      have HC := Lib.hid (show combP r l = if (sumsK r l).1.all (fun x => (wNarrow x.2.1).2) = true then (0, sortE ((sumsK r l).1.map edOf)) else (12, []) by unfold combP; rw [if_neg (by rw [HR.out]; simp)])
      rw [List.take_length] at HM
      generalize sumsK r l = S at HM HOK HC HLL
      obtain ⟨ents, cl⟩ := S
      dsimp only at HM HOK HC HLL
      clear hlt hk
      go_upto_block 2 with (first | (refine wpList_rangeK rfl (.tmp 51) _ _ _ rfl Tryz.underlying199 b cl ents HM.out rfl ?_; intro hrg; have HRG := Lib.hid hrg; clear hrg))
      replace K0 := Lib.hid (K0.out.alloc (.mapIter (some b) cl #[] cl))
      generalize wr.alloc (.mapIter (some b) cl #[] cl) = w2 at *
      generalize wr.heap.size = it at *
      go_wp2_with fail
      go_frame
      go_loopg [13] ents.length (fun gk v wx => ∃ (done todo : List KE), Hid (todo.length = gk) ∧ Hid (RangeK wx b it ents cl done todo) ∧ Hid (wx.ownsRow w.heap.size 107 3 v done.length ((done.map edOf).flatMap edV)) ∧ Hid (∀ x ∈ done, (wNarrow x.2.1).2 = true) ∧ Hid (Kept [] w wx))
      case atStart => exact ⟨[], ents, Lib.hid rfl, HRG, Lib.hid (World.ownsRow_nil _ _ _ _), Lib.hid (by simp), K0⟩
      case round =>
        clear HRG K0 HM
        obtain ⟨done, todo, HT, HRG, HO, HD, K0⟩ := hrel
        have hb13 := own_n HO.out
        obtain ⟨A13, c13, hv13⟩ := hb13
        obtain ⟨v, hv⟩ : ∃ v, v = u13 := ⟨_, rfl⟩
        subst hv
        subst hv13
        rcases HRG.out.next (P := Tryz.prog) 0 with ⟨h0, hrun⟩ | ⟨x, todo', w3, hrun, hR, hl2, hk, hen⟩
        · subst h0
          have hperm : done.Perm ents := by have := HRG.out.perm; simpa using this
          have HPM := Lib.hid hperm
          have hdl : done.length ≤ 1048576 := by rw [hperm.length_eq]; exact HLL.out
          clear hperm
          go_wp2_with fail
          refine (sort_any (done.map edOf) done.length w.heap.size _ _ (by simp) HO.out hdl).mono ?_
          rintro _ w4 ⟨rfl, ho, hk⟩
          replace K0 := Lib.hid (K0.out.app hk HO.out)
          replace HO := Lib.hid ho
          clear ho hk hrun
          go_wp2_with fail
          show post (.returned (.tuple #[.slice A13 done.length c13, .int .i64 0])) _
          rw [HPOST.out]
          have hall : (ents.all fun x => (wNarrow x.2.1).2) = true := by
            rw [List.all_eq_true]
            exact fun x hx => HD.out x (HPM.out.mem_iff.2 hx)
          have hc := HC.out
          rw [if_pos hall] at hc
          refine ⟨_, by rw [hc], ?_, K0.out⟩
          rw [hc]
          have := HO.out
          rw [sortE_perm (HPM.out.map edOf)] at this
          rw [show (0, sortE (ents.map edOf)).2.length = done.length by simp [sortE_length, HPM.out.length_eq]]
          exact this
        · have hxe : x ∈ ents := hR.perm.mem_iff.1 (by simp)
          have hdl : done.length ≤ 1048576 := by have := hR.perm.length_eq; have := HLL.out; simp at *; omega
          have HXE := Lib.hid hxe
          have HXO := Lib.hid (HOK.out x hxe)
          have HL2 := Lib.hid hl2
          have NO := Lib.hid (HRG.out.ne_own HO.out)
          have HEN := Lib.hid hen
          clear hxe hl2
          go_upto_region 18 with (fail)
          clear hen hrun HEN
          have k2 : Kept [] w3 ((w3.alloc (.cells #[.int .i64 x.1.1, .int .i64 x.1.2] 127)).alloc (.cells (wdC x.2.1).toArray 100)) := ((Kept.refl [] w3).alloc _).alloc _
          have H14 := Lib.hid ((Blk.new w3 127 [.int .i64 x.1.1, .int .i64 x.1.2]).alloc (.cells (wdC x.2.1).toArray 100))
          have H15 := Lib.hid (Blk.new1F w3 (.cells #[.int .i64 x.1.1, .int .i64 x.1.2] 127) 100 (wdC x.2.1))
          replace HRG := Lib.hid (hR.kept k2 (by simp) (by simp))
          replace HO := Lib.hid (own_kept0 (own_kept HO.out hk (fun g hg hm => by have := NO.out; simp at hm; subst hm; exact this hg)) k2)
          replace K0 := Lib.hid ((K0.out.then hk (fun m hm => by simp at hm; subst hm; exact .inr HGI.out)).trans k2)
          clear hR hk k2 NO
          generalize ((w3.alloc (.cells #[.int .i64 x.1.1, .int .i64 x.1.2] 127)).alloc (.cells (wdC x.2.1).toArray 100)) = w5 at *
          generalize w3.heap.size + 1 = g15 at H15 ⊢
          generalize w3.heap.size = g14 at H14 ⊢
          go_wp2_with (first | (refine wpList_loadBlk rfl 100 (.tmp 15) rfl g15 (wdC x.2.1) _ H15.out rfl Tryz.underlying100 rfl infoWide ?_))
          refine (ringNarrow_any r x.2.1 HXO.out _).mono ?_
          rintro _ w6 ⟨rfl, hk6⟩
          replace HRG := Lib.hid (HRG.out.kept hk6 (by simp) (by simp))
          replace HO := Lib.hid (own_kept0 HO.out hk6)
          replace K0 := Lib.hid (K0.out.trans hk6)
          replace H14 := Lib.hid (H14.out.kept hk6 (by simp))
          clear hk6 H15
          by_cases hnb : (wNarrow x.2.1).2 = true
          · rw [hnb]
            have HNB := Lib.hid hnb
            clear hnb
            have z0 := H14.out.cell 0
            have z1 := H14.out.cell 1
            simp only [List.getElem?_cons_zero, List.getElem?_cons_succ] at z0 z1
            have hsz := K0.out.size
            go_wp2_with (first | (at_builtin; refine wpList_app _ rfl (.tmp 66) (.tmp 73) _ rfl 107 (.agg #[.int .i64 0, .int .i64 0, .int .i64 0]) 3 24 Tryz.underlying54 infoEd rfl (by decide) w.heap.size (.slice A13 done.length c13) _ _ rfl (HO.out.alloc _) (some ⟨_, 0, none⟩) 1 1 (edV (edOf x)) rfl rfl (Reads.of_blk (Blk.new _ _ _) (fun _ _ h => h)) (by simp [edV, Value.oneCell']) (by omega) (by unfold maxLen; omega) (by simp; omega) ?_; intro va wa howna hka hba; have HOa := Lib.hid howna; have NOa := Lib.hid (HRG.out.ne_own HO.out); have NMa := Lib.hid (HRG.out.map.ne_own HO.out); have HRa := Lib.hid ((HRG.out.kept ((Kept.refl [] _).alloc _) (by simp) (by simp)).kept hka (by simpa using NMa.out) (by simpa using NOa.out)); have K0a := Lib.hid ((K0.out.alloc _).app hka (HO.out.alloc _)); clear howna hka hba))
            go_roundg todo'.length
            case rel =>
              refine ⟨done ++ [x], todo', Lib.hid rfl, HRa, Lib.hid (by have := HOa.out; simpa using this), Lib.hid (fun y hy => ?_), K0a⟩
              rcases List.mem_append.1 hy with hy | hy
              · exact HD.out y hy
              · simp at hy; subst hy; exact HNB.out
            case measure => have := HL2.out; have := HT.out; omega
          · have hnf : (wNarrow x.2.1).2 = false := by simpa using hnb
            rw [hnf]
            have HNB := Lib.hid hnf
            clear hnb hnf
            go_wp2_with fail
            show post (.returned (.tuple #[.slice none 0 0, .int .i64 12])) _
            rw [HPOST.out]
            have hall : ¬ (ents.all fun x => (wNarrow x.2.1).2) = true := by
              rw [List.all_eq_true]
              intro h
              have := h x HXE.out
              rw [HNB.out] at this
              cases this
            have hc := HC.out
            rw [if_neg hall] at hc
            exact ⟨_, by rw [hc], by rw [hc]; exact World.ownsRow_nil _ _ _ _, K0.out⟩
end Go.Proofs.YtblfingmdipopaaGreat
