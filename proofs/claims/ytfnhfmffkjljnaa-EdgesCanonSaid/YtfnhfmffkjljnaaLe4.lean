/- 'EdgesCanon' returns true for every graph and more edges. Conditions: none. -/
import Derived.Test.YtfnhfmffkjljnaaLe0
namespace Go.Proofs.Ytfnhfmffkjljnaa
set_option linter.unusedSimpArgs false
set_option linter.unusedVariables false
open Go.ChangeShapes Go.WideShapes Go.ChangeAt Go.RowKit
open Go.RowKit (wrap32 wrap64)
set_option maxHeartbeats 40000000
/-- What lies in memory while the two graphs are put together. -/
structure CanSt (w0 w : World) (g g5 g6 : Nat) (n : Int) (A : Option Addr) (k c : Nat) (va vb : Value) (la lb : List Ed) : Prop where
  x : Blk w g 24 [.int .i64 n, .slice A k c]
  a : Blk w g5 24 [.int .i64 n, va]
  b : Blk w g6 24 [.int .i64 n, vb]
  oa : w.ownsRow w0.heap.size 41 3 va la.length (la.flatMap edV)
  ob : w.ownsRow w0.heap.size 41 3 vb lb.length (lb.flatMap edV)
  n56 : g5 ≠ g6
  n5 : g ≠ g5
  n6 : g ≠ g6
  ge5 : w0.heap.size ≤ g5
  ge6 : w0.heap.size ≤ g6
  k : Kept [] w0 w
  dis : ∀ q, va.ownBlock = some q → vb.ownBlock ≠ some q
theorem own_list {w : World} {base n : Nat} {v : Value} {xs : List Value} {g : Nat} {t : TypeId} {cs : List Value} (h : w.ownsRow base 41 3 v n xs) (hb : Blk w g t cs) (hne : 41 ≠ t) : g ∉ v.ownBlock.toList := by
  have := own_ne_blk h hb hne
  cases hv : v.ownBlock with
  | none => simp
  | some q => rw [hv] at this; simpa [eq_comm] using this
theorem own_far {w : World} {base n g : Nat} {v u : Value} {xs : List Value} {i : Nat} {t : TypeId} {cs : List Value} (h : w.ownsRow base 41 3 v n xs) (hb : Blk w g t cs) (hne : 41 ≠ t) : (w.setCell ⟨g, i, none⟩ u).ownsRow base 41 3 v n xs :=
  own_kept (L := [g]) h ((Kept.refl [g] w).setCell (p := ⟨g, i, none⟩) (.inl (by simp)) u) (fun q hq => by have := own_ne_blk h hb hne; rw [hq] at this; simpa using this)
section
variable {w0 w w1 : World} {g g5 g6 : Nat} {n : Int} {A : Option Addr} {k c : Nat} {va vb v' : Value} {la lb : List Ed}
theorem CanSt.appA (h : CanSt w0 w g g5 g6 n A k c va vb la lb) {lx : List Ed} (ho : w1.ownsRow w0.heap.size 41 3 v' lx.length (lx.flatMap edV)) (hk : Kept va.ownBlock.toList w w1) (hv : v'.ownBlock = va.ownBlock ∨ v'.ownBlock = some w.heap.size) :
    CanSt w0 (w1.setCell ⟨g5, 1, none⟩ v') g g5 g6 n A k c v' vb lx lb := by
  have hx := h.x.kept hk (own_list h.oa h.x (by decide))
  have ha := h.a.kept hk (own_list h.oa h.a (by decide))
  have hb := h.b.kept hk (own_list h.oa h.b (by decide))
  have hob := own_kept h.ob hk (fun q hq hm => by
    cases hv : va.ownBlock with
    | none => rw [hv] at hm; simp at hm
    | some p => rw [hv] at hm; simp at hm; subst hm; exact h.dis _ hv hq)
  refine ⟨hx.far (p := ⟨g5, 1, none⟩) h.n5 _, by have := ha.set 1 v'; exact this, hb.far (p := ⟨g5, 1, none⟩) (Ne.symm h.n56) _, ?_, own_far hob ha (by decide), h.n56, h.n5, h.n6, h.ge5, h.ge6, ?_, ?_⟩
  · exact own_far (i := 1) (u := v') ho ha (by decide)
  · exact (h.k.app hk h.oa).setCell (p := ⟨g5, 1, none⟩) (.inr h.ge5) _
  · intro q hq hb'
    rcases hv with hv | hv
    · exact h.dis q (hv ▸ hq) hb'
    · rw [hv] at hq
      injection hq with hq
      subst hq
      exact own_blt h.ob hb'
theorem CanSt.appB (h : CanSt w0 w g g5 g6 n A k c va vb la lb) {lx : List Ed} (ho : w1.ownsRow w0.heap.size 41 3 v' lx.length (lx.flatMap edV)) (hk : Kept vb.ownBlock.toList w w1) (hv : v'.ownBlock = vb.ownBlock ∨ v'.ownBlock = some w.heap.size) :
    CanSt w0 (w1.setCell ⟨g6, 1, none⟩ v') g g5 g6 n A k c va v' la lx := by
  have hx := h.x.kept hk (own_list h.ob h.x (by decide))
  have ha := h.a.kept hk (own_list h.ob h.a (by decide))
  have hb := h.b.kept hk (own_list h.ob h.b (by decide))
  have hoa := own_kept h.oa hk (fun q hq hm => by
    cases hv : vb.ownBlock with
    | none => rw [hv] at hm; simp at hm
    | some p => rw [hv] at hm; simp at hm; subst hm; exact h.dis _ hq hv)
  refine ⟨hx.far (p := ⟨g6, 1, none⟩) h.n6 _, ha.far (p := ⟨g6, 1, none⟩) h.n56 _, by have := hb.set 1 v'; exact this, own_far hoa hb (by decide), ?_, h.n56, h.n5, h.n6, h.ge5, h.ge6, ?_, ?_⟩
  · exact own_far (i := 1) (u := v') ho hb (by decide)
  · exact (h.k.app hk h.ob).setCell (p := ⟨g6, 1, none⟩) (.inr h.ge6) _
  · intro q hq hb'
    rcases hv with hv | hv
    · exact h.dis q hq (hv ▸ hb')
    · rw [hv] at hb'
      injection hb' with hb'
      subst hb'
      exact own_blt h.oa hq
end
/-- Is an edge there, with no more weight? -/
def hit (e x : Ed) : Prop := x.1 = e.1 ∧ x.2.1 = e.2.1 ∧ x.2.2 ≤ e.2.2
theorem hit_there {l : List Ed} (h : ∀ e ∈ l, In64 e.2.2) {e : Ed} (he : e ∈ l) (hno : ∀ q (hq : q < (canonP l).length), ¬ hit e (canonP l)[q]) : False := by
  obtain ⟨x, hx, h1, h2⟩ := (canonP_spec h).2.2 e he
  obtain ⟨q, hq, rfl⟩ := List.getElem_of_mem hx
  injection h1 with h1 h3
  exact hno q hq ⟨h1, h3, h2⟩

set_option maxRecDepth 100000 in
theorem edgesCanon_walk (n : Int) (l : List Ed) (A : Option Addr) (c : Nat) (m : List Ed) (B : Option Addr) (d : Nat) (w : World) (hA : Reads w A (l.flatMap edV)) (hw : ∀ e ∈ l, In64 e.2.2) (h1 : l.length ≤ c) (h2 : c ≤ maxLen) (hB : Reads w B (m.flatMap edV)) (hwm : ∀ e ∈ m, In64 e.2.2) (m1 : m.length ≤ d) (m2 : d ≤ maxLen) :
    Calls Try.prog 6 #[.agg #[.int .i64 n, .slice A l.length c], .slice B m.length d] w fun e w' => e = .returned (.bool true) ∧ Kept [] w w' := by
  have HX := Lib.hid (Blk.new w 24 (grV n A l.length c))
  have K0 := Lib.hid ((Kept.refl [] w).alloc (.cells (grV n A l.length c).toArray 24))
  have HA := Lib.hid (Reads.take hA 60)
  have HW := Lib.hid (show ∀ e ∈ l.take 60, In64 e.2.2 from fun e he => hw e (List.mem_of_mem_take he))
  have HL := Lib.hid (show (l.take 60).length ≤ 60 by rw [List.length_take]; omega)
  have h3 := Nat.le_trans h1 h2
  have HBm := Lib.hid (Reads.take hB 30)
  have HWm := Lib.hid (show ∀ e ∈ m.take 30, In64 e.2.2 from fun e he => hwm e (List.mem_of_mem_take he))
  have HLm := Lib.hid (show (m.take 30).length ≤ 30 by rw [List.length_take]; omega)
  have m3 := Nat.le_trans m1 m2
  unfold maxLen at m2 m3
  clear hA hw hB hwm
  go_enter Try.func6, Try.ntmps6
  go_wp2_with fail
  refine (few_any n l A c _ h3 h1 h2).mono ?_
  rintro x w1 ⟨rfl, hk⟩
  replace K0 := Lib.hid (K0.out.trans hk)
  replace HX := Lib.hid (HX.out.kept hk (by simp))
  clear hk h1 h2 h3
  generalize l.take 60 = M at *
  obtain ⟨g, hg⟩ : ∃ g, g = w.heap.size := ⟨_, rfl⟩
  have HGE := Lib.hid (show w.heap.size ≤ g by omega)
  rw [← hg] at HX ⊢
  clear hg
  go_upto_if 15 with (first | (refine wpList_storeBlk rfl 24 (.tmp 2) (.tmp 12) rfl g _ (grV n A M.length c) HX.out rfl rfl rfl infoGraph (by simp [Value.oneCell']) ?_; intro w2 hb2 hk2))
  replace K0 := Lib.hid (K0.out.then hk2 (fun m hm => by simp at hm; subst hm; exact .inr HGE.out))
  replace HX := Lib.hid hb2
  clear hb2 hk2
  clear HGE
  go_cut [1] (fun v wx => v = .slice B (m.take 30).length d ∧ wx = w2)
  case first =>
    by_cases hm : 30 < m.length
    · have hm' : (30 : Int) < (m.length : Int) := by omega
      have e30 : (m.take 30).length = 30 := by rw [List.length_take]; omega
      go_wp2_with fail
      go_meet
      exact ⟨by rw [e30], rfl⟩
    · have hm' : ¬ (30 : Int) < (m.length : Int) := by omega
      have e30 : (m.take 30).length = m.length := by rw [List.length_take]; omega
      go_wp2_with fail
      go_meet
      exact ⟨by rw [e30], rfl⟩
  case rest =>
  obtain ⟨rfl, rfl⟩ := hcut
  clear m1 m2 m3
  generalize m.take 30 = P at *
  have x0 := HX.out.cell 0
  have x1 := HX.out.cell 1
  have xl := HX.out.lt
  simp only [List.getElem?_cons_zero, List.getElem?_cons_succ] at x0 x1
  go_upto_region 4 with (fail)
  go_cut [5, 6] (fun v5 v6 wx => ∃ g5 g6, v5 = .pointer (some ⟨g5, 0, none⟩) ∧ v6 = .pointer (some ⟨g6, 0, none⟩) ∧ Hid (CanSt w wx g g5 g6 n A M.length c (.slice none 0 0) (.slice none 0 0) [] []))
  case first =>
    have C1 := Lib.hid (show CanSt w (((wc.alloc (.cells #[.int .i64 n, .slice none 0 0] 24)).alloc (.cells #[.int .i64 n, .slice none 0 0] 24)).drew) g wc.heap.size (wc.heap.size + 1) n A M.length c (.slice none 0 0) (.slice none 0 0) [] [] from
      ⟨((HX.out.alloc _).alloc _).drew, ((Blk.new wc 24 [.int .i64 n, .slice none 0 0]).alloc _).drew, (Blk.new1F wc _ 24 [.int .i64 n, .slice none 0 0]).drew, World.ownsRow_nil _ _ _ _, World.ownsRow_nil _ _ _ _, by omega, by omega, by omega, K0.out.size, Nat.le_succ_of_le K0.out.size, ((K0.out.alloc _).alloc _).drew, fun q hq => by simp [Value.ownBlock] at hq⟩)
    have C2 := Lib.hid (show CanSt w (((wc.alloc (.cells #[.int .i64 n, .slice none 0 0] 24)).alloc (.cells #[.int .i64 n, .slice none 0 0] 24)).drew) g (wc.heap.size + 1) wc.heap.size n A M.length c (.slice none 0 0) (.slice none 0 0) [] [] from
      ⟨((HX.out.alloc _).alloc _).drew, (Blk.new1F wc _ 24 [.int .i64 n, .slice none 0 0]).drew, ((Blk.new wc 24 [.int .i64 n, .slice none 0 0]).alloc _).drew, World.ownsRow_nil _ _ _ _, World.ownsRow_nil _ _ _ _, by omega, by omega, by omega, Nat.le_succ_of_le K0.out.size, K0.out.size, ((K0.out.alloc _).alloc _).drew, fun q hq => by simp [Value.ownBlock] at hq⟩)
    clear HX HA HW HL HBm HWm HLm K0
    go_region_law (fail)
    all_goals (go_wp2_with fail; go_meet; first | exact ⟨_, _, rfl, rfl, C1⟩ | exact ⟨_, _, rfl, rfl, C2⟩)
  case rest =>
  obtain ⟨g5, g6, rfl, rfl, HC⟩ := hcut
  clear x0 x1 xl
  have y0 := HC.out.a.cell 0
  have y1 := HC.out.a.cell 1
  have yl := HC.out.a.lt
  have x0 := HC.out.x.cell 0
  have x1 := HC.out.x.cell 1
  have xl := HC.out.x.lt
  simp only [List.getElem?_cons_zero, List.getElem?_cons_succ] at y0 y1 x0 x1
  have HBY := Lib.hid (show (([] : List Ed).length + M.length) * 24 ≤ 140737488355328 by have := HL.out; have := HLm.out; (try simp only [List.length_append, List.length_nil]); omega)
  have HBZ := Lib.hid (show ([] : List Ed).length + M.length ≤ maxLen by have := HL.out; have := HLm.out; unfold maxLen; (try simp only [List.length_append, List.length_nil]); omega)
  go_upto_region 6 with (first | (at_builtin; refine wpList_app _ rfl (.tmp 25) (.tmp 27) _ rfl 41 (.agg #[.int .i64 0, .int .i64 0, .int .i64 0]) 3 24 Try.underlying22 infoEd rfl (by decide) w.heap.size (.slice none 0 0) ([] : List Ed).length (([] : List Ed).flatMap edV) rfl HC.out.oa A M.length c (M.flatMap edV) rfl (edV_len M) (HA.out.kept0 HC.out.k) (edV_ones M) HBY.out HBZ.out HC.out.k.size ?_; intro v' w' ho hk hv; have ho2 : w'.ownsRow w.heap.size 41 3 v' (([] : List Ed) ++ M).length ((([] : List Ed) ++ M).flatMap edV) := (by rw [List.length_append, List.flatMap_append]; exact ho); replace ho : w'.ownsRow w.heap.size 41 3 v' (M).length ((M).flatMap edV) := (ho2); clear ho2; obtain ⟨Aa, ca, rfl⟩ := own_n ho; have z0 := (HC.out.a.kept hk (own_list HC.out.oa HC.out.a (by decide))).cell 1; have zf := (HC.out.a.kept hk (own_list HC.out.oa HC.out.a (by decide))).frozen 1; have zl := (HC.out.a.kept hk (own_list HC.out.oa HC.out.a (by decide))).lt; simp only [List.getElem?_cons_zero, List.getElem?_cons_succ] at z0; have HO := Lib.hid ho; have HK := Lib.hid hk; have HV := Lib.hid hv; clear ho hk hv y0 y1 yl x0 x1 xl))
  replace HC := Lib.hid (HC.out.appA HO.out HK.out HV.out)
  clear HO HK HV z0 zf zl HBY HBZ
  obtain ⟨wa, hwa⟩ : ∃ wa, wa = w'.setCell ⟨g5, 1, none⟩ (.slice Aa (M).length ca) := ⟨_, rfl⟩
  rw [← hwa] at HC ⊢
  clear hwa
  obtain ⟨N, hN⟩ : ∃ x : List Ed, x = M ++ P := ⟨_, rfl⟩
  have EN := Lib.hid hN
  clear hN
  have y0 := HC.out.a.cell 0
  have y1 := HC.out.a.cell 1
  have yl := HC.out.a.lt
  have x0 := HC.out.x.cell 0
  have x1 := HC.out.x.cell 1
  have xl := HC.out.x.lt
  simp only [List.getElem?_cons_zero, List.getElem?_cons_succ] at y0 y1 x0 x1
  have HBY := Lib.hid (show (M.length + P.length) * 24 ≤ 140737488355328 by have := HL.out; have := HLm.out; (try simp only [List.length_append, List.length_nil]); omega)
  have HBZ := Lib.hid (show M.length + P.length ≤ maxLen by have := HL.out; have := HLm.out; unfold maxLen; (try simp only [List.length_append, List.length_nil]); omega)
  go_upto_region 7 with (first | (at_builtin; refine wpList_app _ rfl (.tmp 31) (.tmp 32) _ rfl 41 (.agg #[.int .i64 0, .int .i64 0, .int .i64 0]) 3 24 Try.underlying22 infoEd rfl (by decide) w.heap.size (.slice Aa M.length ca) M.length (M.flatMap edV) rfl HC.out.oa B P.length d (P.flatMap edV) rfl (edV_len P) (HBm.out.kept0 HC.out.k) (edV_ones P) HBY.out HBZ.out HC.out.k.size ?_; intro v' w' ho hk hv; have ho2 : w'.ownsRow w.heap.size 41 3 v' (M ++ P).length ((M ++ P).flatMap edV) := (by rw [List.length_append, List.flatMap_append]; exact ho); replace ho : w'.ownsRow w.heap.size 41 3 v' (N).length ((N).flatMap edV) := (by rw [EN.out]; exact ho2); clear ho2; obtain ⟨Ab, cb, rfl⟩ := own_n ho; have z0 := (HC.out.a.kept hk (own_list HC.out.oa HC.out.a (by decide))).cell 1; have zf := (HC.out.a.kept hk (own_list HC.out.oa HC.out.a (by decide))).frozen 1; have zl := (HC.out.a.kept hk (own_list HC.out.oa HC.out.a (by decide))).lt; simp only [List.getElem?_cons_zero, List.getElem?_cons_succ] at z0; have HO := Lib.hid ho; have HK := Lib.hid hk; have HV := Lib.hid hv; clear ho hk hv y0 y1 yl x0 x1 xl))
  replace HC := Lib.hid (HC.out.appA HO.out HK.out HV.out)
  clear HO HK HV z0 zf zl HBY HBZ
  obtain ⟨wb, hwb⟩ : ∃ wb, wb = w'.setCell ⟨g5, 1, none⟩ (.slice Ab (N).length cb) := ⟨_, rfl⟩
  rw [← hwb] at HC ⊢
  clear hwb
  have y0 := HC.out.b.cell 0
  have y1 := HC.out.b.cell 1
  have yl := HC.out.b.lt
  have x0 := HC.out.x.cell 0
  have x1 := HC.out.x.cell 1
  have xl := HC.out.x.lt
  simp only [List.getElem?_cons_zero, List.getElem?_cons_succ] at y0 y1 x0 x1
  have HBY := Lib.hid (show (([] : List Ed).length + P.length) * 24 ≤ 140737488355328 by have := HL.out; have := HLm.out; (try simp only [List.length_append, List.length_nil]); omega)
  have HBZ := Lib.hid (show ([] : List Ed).length + P.length ≤ maxLen by have := HL.out; have := HLm.out; unfold maxLen; (try simp only [List.length_append, List.length_nil]); omega)
  go_upto_region 8 with (first | (at_builtin; refine wpList_app _ rfl (.tmp 36) (.tmp 37) _ rfl 41 (.agg #[.int .i64 0, .int .i64 0, .int .i64 0]) 3 24 Try.underlying22 infoEd rfl (by decide) w.heap.size (.slice none 0 0) ([] : List Ed).length (([] : List Ed).flatMap edV) rfl HC.out.ob B P.length d (P.flatMap edV) rfl (edV_len P) (HBm.out.kept0 HC.out.k) (edV_ones P) HBY.out HBZ.out HC.out.k.size ?_; intro v' w' ho hk hv; have ho2 : w'.ownsRow w.heap.size 41 3 v' (([] : List Ed) ++ P).length ((([] : List Ed) ++ P).flatMap edV) := (by rw [List.length_append, List.flatMap_append]; exact ho); replace ho : w'.ownsRow w.heap.size 41 3 v' (P).length ((P).flatMap edV) := (ho2); clear ho2; obtain ⟨Ae, ce, rfl⟩ := own_n ho; have z0 := (HC.out.b.kept hk (own_list HC.out.ob HC.out.b (by decide))).cell 1; have zf := (HC.out.b.kept hk (own_list HC.out.ob HC.out.b (by decide))).frozen 1; have zl := (HC.out.b.kept hk (own_list HC.out.ob HC.out.b (by decide))).lt; simp only [List.getElem?_cons_zero, List.getElem?_cons_succ] at z0; have HO := Lib.hid ho; have HK := Lib.hid hk; have HV := Lib.hid hv; clear ho hk hv y0 y1 yl x0 x1 xl))
  replace HC := Lib.hid (HC.out.appB HO.out HK.out HV.out)
  clear HO HK HV z0 zf zl HBY HBZ
  obtain ⟨we1, hwe1⟩ : ∃ we1, we1 = w'.setCell ⟨g6, 1, none⟩ (.slice Ae (P).length ce) := ⟨_, rfl⟩
  rw [← hwe1] at HC ⊢
  clear hwe1
  obtain ⟨N2, hN2⟩ : ∃ x : List Ed, x = P ++ M := ⟨_, rfl⟩
  have EN2 := Lib.hid hN2
  clear hN2
  have y0 := HC.out.b.cell 0
  have y1 := HC.out.b.cell 1
  have yl := HC.out.b.lt
  have x0 := HC.out.x.cell 0
  have x1 := HC.out.x.cell 1
  have xl := HC.out.x.lt
  simp only [List.getElem?_cons_zero, List.getElem?_cons_succ] at y0 y1 x0 x1
  have HBY := Lib.hid (show (P.length + M.length) * 24 ≤ 140737488355328 by have := HL.out; have := HLm.out; (try simp only [List.length_append, List.length_nil]); omega)
  have HBZ := Lib.hid (show P.length + M.length ≤ maxLen by have := HL.out; have := HLm.out; unfold maxLen; (try simp only [List.length_append, List.length_nil]); omega)
  go_upto_region 9 with (first | (at_builtin; refine wpList_app _ rfl (.tmp 41) (.tmp 43) _ rfl 41 (.agg #[.int .i64 0, .int .i64 0, .int .i64 0]) 3 24 Try.underlying22 infoEd rfl (by decide) w.heap.size (.slice Ae P.length ce) P.length (P.flatMap edV) rfl HC.out.ob A M.length c (M.flatMap edV) rfl (edV_len M) (HA.out.kept0 HC.out.k) (edV_ones M) HBY.out HBZ.out HC.out.k.size ?_; intro v' w' ho hk hv; have ho2 : w'.ownsRow w.heap.size 41 3 v' (P ++ M).length ((P ++ M).flatMap edV) := (by rw [List.length_append, List.flatMap_append]; exact ho); replace ho : w'.ownsRow w.heap.size 41 3 v' (N2).length ((N2).flatMap edV) := (by rw [EN2.out]; exact ho2); clear ho2; obtain ⟨Af, cf, rfl⟩ := own_n ho; have z0 := (HC.out.b.kept hk (own_list HC.out.ob HC.out.b (by decide))).cell 1; have zf := (HC.out.b.kept hk (own_list HC.out.ob HC.out.b (by decide))).frozen 1; have zl := (HC.out.b.kept hk (own_list HC.out.ob HC.out.b (by decide))).lt; simp only [List.getElem?_cons_zero, List.getElem?_cons_succ] at z0; have HO := Lib.hid ho; have HK := Lib.hid hk; have HV := Lib.hid hv; clear ho hk hv y0 y1 yl x0 x1 xl))
  replace HC := Lib.hid (HC.out.appB HO.out HK.out HV.out)
  clear HO HK HV z0 zf zl HBY HBZ
  obtain ⟨wd, hwd⟩ : ∃ wd, wd = w'.setCell ⟨g6, 1, none⟩ (.slice Af (N2).length cf) := ⟨_, rfl⟩
  rw [← hwd] at HC ⊢
  clear hwd
  obtain ⟨A5, hA5⟩ : ∃ x, x = Ab := ⟨_, rfl⟩
  obtain ⟨c5, hc5⟩ : ∃ x, x = cb := ⟨_, rfl⟩
  obtain ⟨A6, hA6⟩ : ∃ x, x = Af := ⟨_, rfl⟩
  obtain ⟨c6, hc6⟩ : ∃ x, x = cf := ⟨_, rfl⟩
  subst hA5
  subst hc5
  subst hA6
  subst hc6
  have HN := Lib.hid (show N.length ≤ 90 by have := HL.out; have := HLm.out; rw [EN.out, List.length_append]; omega)
  have HN2 := Lib.hid (show N2.length ≤ 90 by have := HL.out; have := HLm.out; rw [EN2.out, List.length_append]; omega)
  have HI := Lib.hid (show ∀ e ∈ N, In64 e.2.2 by rw [EN.out]; exact app_in HW.out HWm.out)
  have HI2 := Lib.hid (show ∀ e ∈ N2, In64 e.2.2 by rw [EN2.out]; exact app_in HWm.out HW.out)
  have HEQ := Lib.hid (show canonP N = canonP N2 by rw [EN.out, EN2.out]; exact canon_comm HW.out HWm.out)
  have HX := Lib.hid HC.out.a
  have HY := Lib.hid HC.out.b
  have R5 := Lib.hid (Reads.of_own HC.out.oa)
  have R6 := Lib.hid (Reads.of_own HC.out.ob)
  replace K0 := Lib.hid HC.out.k
  clear HC HA HBm HW HWm HL HLm EN EN2
  go_wp2_with (first | (refine wpList_loadBlk rfl 24 (.tmp 5) rfl g5 [.int .i64 n, .slice A5 N.length c5] _ HX.out rfl Try.underlying24 rfl infoGraph ?_))
  refine (canon_any n N A5 c5 _ (by have := HN.out; omega) R5.out HI.out).mono ?_
  rintro x we ⟨vr, rfl, ho, hk⟩
  have HCI := Lib.hid (canonP_in HI.out)
  have HCL := Lib.hid (canonP_length N)
  have HCR := Lib.hid (canon_rises HI.out)
  have HCC := Lib.hid (canon_canon HI.out)
  have HHIT := Lib.hid (fun (e : Ed) (he : e ∈ N) => hit_there HI.out he)
  obtain ⟨A7, c7, rfl⟩ := own_n ho
  have R7 := Lib.hid (Reads.of_own ho)
  generalize canonP N = C at *
  have kd := Lib.hid (hk.alloc (.cells #[.int .i64 n, .slice A7 C.length c7] 24))
  have HZ := Lib.hid (Blk.new we 24 [.int .i64 n, .slice A7 C.length c7])
  replace R7 := Lib.hid (R7.out.kept0 ((Kept.refl [] we).alloc (.cells #[.int .i64 n, .slice A7 C.length c7] 24)))
  replace R5 := Lib.hid (R5.out.kept0 kd.out)
  replace R6 := Lib.hid (R6.out.kept0 kd.out)
  replace HX := Lib.hid (HX.out.kept kd.out (by simp))
  replace HY := Lib.hid (HY.out.kept kd.out (by simp))
  replace K0 := Lib.hid (K0.out.trans kd.out)
  clear ho hk kd
  go_upto_region 10 with (fail)
  generalize we.alloc (.cells #[.int .i64 n, .slice A7 C.length c7] 24) = wf at *
  generalize we.heap.size = g7 at HZ ⊢
  refine wp_region_held_drew (S := (fun w' => w'.cell? ⟨g7, 1, none⟩ = some (.slice A7 C.length c7) ∧ w'.rangeAt g7 0 [.int .i64 n, .slice A7 C.length c7] ∧ w'.rangeAt g6 0 [.int .i64 n, .slice A6 N2.length c6])) (by kernel_rfl) ?_ (fun hHeld => ?_)
  · exact ⟨HZ.out.cell 1, HZ.out.cell2, HY.out.cell2⟩
  replace HX := Lib.hid HX.out.drew
  replace HY := Lib.hid HY.out.drew
  replace HZ := Lib.hid HZ.out.drew
  replace K0 := Lib.hid (K0.out.drew)
  replace R5 := Lib.hid R5.out.drew
  replace R6 := Lib.hid R6.out.drew
  replace R7 := Lib.hid R7.out.drew
  refine wpAnyH_ready (rs := [0]) (by kernel_rfl) (by simp) ?_
  refine AllReadyH.cons rfl (fun K hK => ?_) AllReadyH.nil
  go_simp
  refine (live_any _).mono ?_
  rintro x v1 ⟨rfl, hk⟩
  replace R5 := Lib.hid (R5.out.kept0 hk)
  replace R6 := Lib.hid (R6.out.kept0 hk)
  replace R7 := Lib.hid (R7.out.kept0 hk)
  replace HX := Lib.hid (HX.out.kept hk (by simp))
  replace HY := Lib.hid (HY.out.kept hk (by simp))
  replace HZ := Lib.hid (HZ.out.kept hk (by simp))
  replace K0 := Lib.hid (K0.out.trans hk)
  clear hk 
  go_wp2_with fail
  refine hK.out _ _ ?_ (fun hHeld => ?_)
  · exact ⟨HZ.out.cell 1, HZ.out.cell2, HY.out.cell2⟩
  clear hK K
  try simp only [Act.put, List.setIfInBounds_toArray, List.set_cons_zero, List.set_cons_succ]
  refine tkYes (i := 1) (v := .bool false) rfl rfl (by kernel_rfl) (by kernel_rfl) (by kernel_rfl) (fun _ _ _ h => h) (by rfl) ?_ (by assumption) ?_
  skip
  · (intro w' hSw; (try dsimp only at hSw); go_simp; try (simp; done))
  try simp only [Act.put, List.setIfInBounds_toArray, List.set_cons_zero, List.set_cons_succ]
  refine tkYes (i := 2) (v := ?_) rfl rfl (by kernel_rfl) (by kernel_rfl) (by kernel_rfl) (fun _ _ _ h => h) (by rfl) ?_ (by assumption) ?_
  rotate_left
  · (intro w' hSw; (try dsimp only at hSw); go_simp; try with_reducible rfl)
  try simp only [Act.put, List.setIfInBounds_toArray, List.set_cons_zero, List.set_cons_succ]
  refine tkYes (i := 3) (v := ?_) rfl rfl (by kernel_rfl) (by kernel_rfl) (by kernel_rfl) (fun _ _ _ h => h) (by rfl) ?_ (by assumption) ?_
  rotate_left
  · (intro w' hSw; (try dsimp only at hSw); go_simp; try with_reducible rfl)
  try simp only [Act.put, List.setIfInBounds_toArray, List.set_cons_zero, List.set_cons_succ]
  refine tkYes (i := 4) (v := ?_) rfl rfl (by kernel_rfl) (by kernel_rfl) (by kernel_rfl) (fun _ _ _ h => h) (by rfl) ?_ (by assumption) ?_
  rotate_left
  · (intro w' hSw; (try dsimp only at hSw); go_simp; try with_reducible rfl)
  try simp only [Act.put, List.setIfInBounds_toArray, List.set_cons_zero, List.set_cons_succ]
  refine wpAnyH_ready (rs := [5]) (by kernel_rfl) (by simp) ?_
  refine AllReadyH.cons rfl (fun K hK => ?_) AllReadyH.nil
  go_simp
  refine (refRises_any C A7 c7 _ (by have := HCL.out; have := HN.out; unfold maxLen; omega) R7.out).mono ?_
  rintro x v2 ⟨rfl, hk⟩
  rw [HCR.out]
  replace R5 := Lib.hid (R5.out.kept0 hk)
  replace R6 := Lib.hid (R6.out.kept0 hk)
  replace R7 := Lib.hid (R7.out.kept0 hk)
  replace HX := Lib.hid (HX.out.kept hk (by simp))
  replace HY := Lib.hid (HY.out.kept hk (by simp))
  replace HZ := Lib.hid (HZ.out.kept hk (by simp))
  replace K0 := Lib.hid (K0.out.trans hk)
  clear hk 
  go_wp2_with fail
  refine hK.out _ _ ?_ (fun hHeld => ?_)
  · exact ⟨HZ.out.cell 1, HZ.out.cell2, HY.out.cell2⟩
  clear hK K
  try simp only [Act.put, List.setIfInBounds_toArray, List.set_cons_zero, List.set_cons_succ]
  refine tkYes (i := 6) (v := .bool false) rfl rfl (by kernel_rfl) (by kernel_rfl) (by kernel_rfl) (fun _ _ _ h => h) (by rfl) ?_ (by assumption) ?_
  skip
  · (intro w' hSw; (try dsimp only at hSw); go_simp; try (simp; done))
  try simp only [Act.put, List.setIfInBounds_toArray, List.set_cons_zero, List.set_cons_succ]
  refine tkYes (i := 7) (v := .bool false) rfl rfl (by kernel_rfl) (by kernel_rfl) (by kernel_rfl) (fun _ _ _ h => h) (by rfl) ?_ (by assumption) ?_
  skip
  · (intro w' hSw; (try dsimp only at hSw); go_simp; try (simp; done))
  try simp only [Act.put, List.setIfInBounds_toArray, List.set_cons_zero, List.set_cons_succ]
  refine tkYes (i := 8) (v := ?_) rfl rfl (by kernel_rfl) (by kernel_rfl) (by kernel_rfl) (fun _ _ _ h => h) (by rfl) ?_ (by assumption) ?_
  rotate_left
  · (intro w' hSw; (try dsimp only at hSw); go_simp; try with_reducible rfl)
  try simp only [Act.put, List.setIfInBounds_toArray, List.set_cons_zero, List.set_cons_succ]
  refine tkLoad (i := 9) 24 (.tmp 7) g7 (0) [.int .i64 n, .slice A7 C.length c7] _ rfl rfl (by kernel_rfl) (by kernel_rfl) (by kernel_rfl) (fun _ _ _ h => h) (by rfl) rfl rfl (fun w hw => hw.2.1) Try.underlying24 rfl infoGraph (by assumption) ?_
  try simp only [Act.put, List.setIfInBounds_toArray, List.set_cons_zero, List.set_cons_succ]
  refine tkLoad (i := 10) 24 (.tmp 6) g6 (0) [.int .i64 n, .slice A6 N2.length c6] _ rfl rfl (by kernel_rfl) (by kernel_rfl) (by kernel_rfl) (fun _ _ _ h => h) (by rfl) rfl rfl (fun w hw => hw.2.2) Try.underlying24 rfl infoGraph (by assumption) ?_
  try simp only [Act.put, List.setIfInBounds_toArray, List.set_cons_zero, List.set_cons_succ]
  refine wpAnyH_ready (rs := [11]) (by kernel_rfl) (by simp) ?_
  refine AllReadyH.cons rfl (fun K hK => ?_) AllReadyH.nil
  go_simp
  refine (canon_any n N2 A6 c6 _ (by have := HN2.out; omega) R6.out HI2.out).mono ?_
  rintro x v3 ⟨vr, rfl, ho, hk⟩
  obtain ⟨B1, d1, rfl⟩ := own_n ho
  replace R5 := Lib.hid (R5.out.kept0 hk)
  replace R6 := Lib.hid (R6.out.kept0 hk)
  replace R7 := Lib.hid (R7.out.kept0 hk)
  have R1 := Lib.hid (Reads.of_own ho)
  replace HX := Lib.hid (HX.out.kept hk (by simp))
  replace HY := Lib.hid (HY.out.kept hk (by simp))
  replace HZ := Lib.hid (HZ.out.kept hk (by simp))
  replace K0 := Lib.hid (K0.out.trans hk)
  clear hk ho
  go_wp2_with fail
  refine hK.out _ _ ?_ (fun hHeld => ?_)
  · exact ⟨HZ.out.cell 1, HZ.out.cell2, HY.out.cell2⟩
  clear hK K
  try simp only [Act.put, List.setIfInBounds_toArray, List.set_cons_zero, List.set_cons_succ]
  refine wpAnyH_ready (rs := [12]) (by kernel_rfl) (by simp) ?_
  refine AllReadyH.cons rfl (fun K hK => ?_) AllReadyH.nil
  go_simp
  refine (same_any n n C (canonP N2) A7 B1 c7 d1 _ (by have := HCL.out; have := HN.out; unfold maxLen; omega) (by rw [← HEQ.out]; exact (by have := HCL.out; have := HN.out; unfold maxLen; omega)) R7.out R1.out).mono ?_
  rintro x v4 ⟨rfl, hk⟩
  rw [← HEQ.out, gsame]
  replace R5 := Lib.hid (R5.out.kept0 hk)
  replace R6 := Lib.hid (R6.out.kept0 hk)
  replace R7 := Lib.hid (R7.out.kept0 hk)
  replace R1 := Lib.hid (R1.out.kept0 hk)
  replace HX := Lib.hid (HX.out.kept hk (by simp))
  replace HY := Lib.hid (HY.out.kept hk (by simp))
  replace HZ := Lib.hid (HZ.out.kept hk (by simp))
  replace K0 := Lib.hid (K0.out.trans hk)
  clear hk 
  go_wp2_with fail
  refine hK.out _ _ ?_ (fun hHeld => ?_)
  · exact ⟨HZ.out.cell 1, HZ.out.cell2, HY.out.cell2⟩
  clear hK K
  try simp only [Act.put, List.setIfInBounds_toArray, List.set_cons_zero, List.set_cons_succ]
  clear R1
  refine tkYes (i := 13) (v := .bool false) rfl rfl (by kernel_rfl) (by kernel_rfl) (by kernel_rfl) (fun _ _ _ h => h) (by rfl) ?_ (by assumption) ?_
  skip
  · (intro w' hSw; (try dsimp only at hSw); go_simp; try (simp; done))
  try simp only [Act.put, List.setIfInBounds_toArray, List.set_cons_zero, List.set_cons_succ]
  refine tkYes (i := 14) (v := .bool false) rfl rfl (by kernel_rfl) (by kernel_rfl) (by kernel_rfl) (fun _ _ _ h => h) (by rfl) ?_ (by assumption) ?_
  skip
  · (intro w' hSw; (try dsimp only at hSw); go_simp; try (simp; done))
  try simp only [Act.put, List.setIfInBounds_toArray, List.set_cons_zero, List.set_cons_succ]
  refine tkYes (i := 15) (v := ?_) rfl rfl (by kernel_rfl) (by kernel_rfl) (by kernel_rfl) (fun _ _ _ h => h) (by rfl) ?_ (by assumption) ?_
  rotate_left
  · (intro w' hSw; (try dsimp only at hSw); go_simp; try with_reducible rfl)
  try simp only [Act.put, List.setIfInBounds_toArray, List.set_cons_zero, List.set_cons_succ]
  refine tkLoad (i := 16) 24 (.tmp 7) g7 (0) [.int .i64 n, .slice A7 C.length c7] _ rfl rfl (by kernel_rfl) (by kernel_rfl) (by kernel_rfl) (fun _ _ _ h => h) (by rfl) rfl rfl (fun w hw => hw.2.1) Try.underlying24 rfl infoGraph (by assumption) ?_
  try simp only [Act.put, List.setIfInBounds_toArray, List.set_cons_zero, List.set_cons_succ]
  refine tkLoad (i := 18) 24 (.tmp 7) g7 (0) [.int .i64 n, .slice A7 C.length c7] _ rfl rfl (by kernel_rfl) (by kernel_rfl) (by kernel_rfl) (fun _ _ _ h => h) (by rfl) rfl rfl (fun w hw => hw.2.1) Try.underlying24 rfl infoGraph (by assumption) ?_
  try simp only [Act.put, List.setIfInBounds_toArray, List.set_cons_zero, List.set_cons_succ]
  refine wpAnyH_ready (rs := [17]) (by kernel_rfl) (by simp) ?_
  refine AllReadyH.cons rfl (fun K hK => ?_) AllReadyH.nil
  go_simp
  refine (canon_any n C A7 c7 _ (by have := HCL.out; have := HN.out; omega) R7.out HCI.out).mono ?_
  rintro x v5 ⟨vr, rfl, ho, hk⟩
  obtain ⟨B1, d1, rfl⟩ := own_n ho
  replace R5 := Lib.hid (R5.out.kept0 hk)
  replace R6 := Lib.hid (R6.out.kept0 hk)
  replace R7 := Lib.hid (R7.out.kept0 hk)
  have R1 := Lib.hid (Reads.of_own ho)
  replace HX := Lib.hid (HX.out.kept hk (by simp))
  replace HY := Lib.hid (HY.out.kept hk (by simp))
  replace HZ := Lib.hid (HZ.out.kept hk (by simp))
  replace K0 := Lib.hid (K0.out.trans hk)
  clear hk ho
  go_wp2_with fail
  refine hK.out _ _ ?_ (fun hHeld => ?_)
  · exact ⟨HZ.out.cell 1, HZ.out.cell2, HY.out.cell2⟩
  clear hK K
  try simp only [Act.put, List.setIfInBounds_toArray, List.set_cons_zero, List.set_cons_succ]
  refine wpAnyH_ready (rs := [19]) (by kernel_rfl) (by simp) ?_
  refine AllReadyH.cons rfl (fun K hK => ?_) AllReadyH.nil
  go_simp
  refine (same_any n n (canonP C) C B1 A7 d1 c7 _ (by rw [HCC.out]; exact (by have := HCL.out; have := HN.out; unfold maxLen; omega)) (by have := HCL.out; have := HN.out; unfold maxLen; omega) R1.out R7.out).mono ?_
  rintro x v6 ⟨rfl, hk⟩
  rw [HCC.out, gsame]
  replace R5 := Lib.hid (R5.out.kept0 hk)
  replace R6 := Lib.hid (R6.out.kept0 hk)
  replace R7 := Lib.hid (R7.out.kept0 hk)
  replace R1 := Lib.hid (R1.out.kept0 hk)
  replace HX := Lib.hid (HX.out.kept hk (by simp))
  replace HY := Lib.hid (HY.out.kept hk (by simp))
  replace HZ := Lib.hid (HZ.out.kept hk (by simp))
  replace K0 := Lib.hid (K0.out.trans hk)
  clear hk 
  go_wp2_with fail
  refine hK.out _ _ ?_ (fun hHeld => ?_)
  · exact ⟨HZ.out.cell 1, HZ.out.cell2, HY.out.cell2⟩
  clear hK K
  try simp only [Act.put, List.setIfInBounds_toArray, List.set_cons_zero, List.set_cons_succ]
  clear R1
  refine tkYes (i := 20) (v := .bool false) rfl rfl (by kernel_rfl) (by kernel_rfl) (by kernel_rfl) (fun _ _ _ h => h) (by rfl) ?_ (by assumption) ?_
  skip
  · (intro w' hSw; (try dsimp only at hSw); go_simp; try (simp; done))
  try simp only [Act.put, List.setIfInBounds_toArray, List.set_cons_zero, List.set_cons_succ]
  refine tkYes (i := 21) (v := .bool false) rfl rfl (by kernel_rfl) (by kernel_rfl) (by kernel_rfl) (fun _ _ _ h => h) (by rfl) ?_ (by assumption) ?_
  skip
  · (intro w' hSw; (try dsimp only at hSw); go_simp; try (simp; done))
  try simp only [Act.put, List.setIfInBounds_toArray, List.set_cons_zero, List.set_cons_succ]
  refine wpAnyH_done (by kernel_rfl) ?_ _
  go_wp2_with fail
  go_loopw [8] (fun i wr => ∃ k : Nat, k ≤ N.length ∧ i = .int .i64 k ∧ Hid (Blk wr g5 24 [.int .i64 n, .slice A5 N.length c5] ∧ Blk wr g7 24 [.int .i64 n, .slice A7 C.length c7] ∧ Reads wr A5 (N.flatMap edV) ∧ Reads wr A7 (C.flatMap edV) ∧ Kept [] w wr)) (fun i _ => N.length - (intOf i).toNat)
  case atStart => exact ⟨0, Nat.zero_le _, rfl, Lib.hid ⟨HX.out, HZ.out, R5.out, R7.out, K0.out⟩⟩
  case round =>
    clear HX HZ R5 R7 K0
    obtain ⟨k, hk, rfl, HQ⟩ := hrel
    have a1 := HQ.out.1.cell 1
    have a2 := HQ.out.2.1.cell 1
    have a3 := HQ.out.1.lt
    have a4 := HQ.out.2.1.lt
    simp only [List.getElem?_cons_zero, List.getElem?_cons_succ] at a1 a2
    by_cases hlt : k < N.length
    · have hlt2 : (k : Int) < (N.length : Int) := by omega
      have hNL := HN.out
      go_upto_block 2 with (fail)
      go_cut [9] (fun v wx => v = .bool true ∧ Hid (Blk wx g5 24 [.int .i64 n, .slice A5 N.length c5] ∧ Blk wx g7 24 [.int .i64 n, .slice A7 C.length c7] ∧ Reads wx A5 (N.flatMap edV) ∧ Reads wx A7 (C.flatMap edV) ∧ Kept [] w wx))
      case first =>
        go_wp2_with fail
        go_loopw [9, 10] (fun v i wx => ∃ (b : Bool) (j : Nat), j ≤ C.length ∧ v = .bool b ∧ i = .int .i64 j ∧ Hid (b = false → ∀ q (hq : q < C.length), q < j → ¬ hit N[k] C[q]) ∧ Hid (Blk wx g5 24 [.int .i64 n, .slice A5 N.length c5] ∧ Blk wx g7 24 [.int .i64 n, .slice A7 C.length c7] ∧ Reads wx A5 (N.flatMap edV) ∧ Reads wx A7 (C.flatMap edV) ∧ Kept [] w wx)) (fun _ i _ => C.length - (intOf i).toNat)
        case atStart => exact ⟨false, 0, Nat.zero_le _, rfl, rfl, Lib.hid (fun _ q _ h => absurd h (Nat.not_lt_zero _)), HQ⟩
        case round =>
          clear HQ a1 a2 a3 a4
          obtain ⟨b, j, hj, rfl, rfl, HN1, HQ⟩ := hrel
          have a1 := HQ.out.1.cell 1
          have a2 := HQ.out.2.1.cell 1
          have a3 := HQ.out.1.lt
          have a4 := HQ.out.2.1.lt
          simp only [List.getElem?_cons_zero, List.getElem?_cons_succ] at a1 a2
          by_cases hjt : j < C.length
          · have hjt2 : (j : Int) < (C.length : Int) := by omega
            have hCL := HCL.out
            obtain ⟨b5, o5, e5, l5, p0, p1, p2⟩ := edge_at HQ.out.2.2.1 hlt
            obtain ⟨b7, o7, e7, l7, q0, q1, q2⟩ := edge_at HQ.out.2.2.2.1 hjt
            subst e5
            subst e7
            have n1 : ¬ N.length ≤ k := by omega
            have n3 : ¬ (N.length : Int) ≤ (k : Int) := by omega
            have n6 : ¬ C.length ≤ j := by omega
            have n7 : ¬ (C.length : Int) ≤ (j : Int) := by omega
            cases b
            · obtain ⟨X, hX⟩ : ∃ X, X = C[j] := ⟨_, rfl⟩
              obtain ⟨Y, hY⟩ : ∃ Y, Y = N[k] := ⟨_, rfl⟩
              rw [← hX] at q0 q1 q2
              rw [← hY] at p0 p1 p2
              have EX := Lib.hid hX
              have EY := Lib.hid hY
              clear hX hY
              go_upto_region 19 with (fail)
              by_cases f1 : X.1 = Y.1
              · by_cases f2 : X.2.1 = Y.2.1
                · refine wp_region_held_drew (S := (fun w' => w'.cell? ⟨g7, 1, none⟩ = some (.slice (some ⟨b7, o7, none⟩) C.length c7) ∧ w'.cell? ⟨g5, 1, none⟩ = some (.slice (some ⟨b5, o5, none⟩) N.length c5) ∧ w'.cell? ⟨b7, o7 + j * 3, none⟩ = some (.int .i64 X.1) ∧ w'.cell? ⟨b7, o7 + j * 3 + 1, none⟩ = some (.int .i64 X.2.1) ∧ w'.cell? ⟨b7, o7 + j * 3 + 2, none⟩ = some (.int .i64 X.2.2) ∧ w'.cell? ⟨b5, o5 + k * 3, none⟩ = some (.int .i64 Y.1) ∧ w'.cell? ⟨b5, o5 + k * 3 + 1, none⟩ = some (.int .i64 Y.2.1) ∧ w'.cell? ⟨b5, o5 + k * 3 + 2, none⟩ = some (.int .i64 Y.2.2))) (by kernel_rfl) ?_ (fun hHeld => ?_)
                  · exact ⟨a2, a1, q0, q1, q2, p0, p1, p2⟩
                  refine tkYes (i := 0) (v := ?_) rfl rfl (by kernel_rfl) (by kernel_rfl) (by kernel_rfl) (fun _ _ _ h => h) (by rfl) ?_ (by assumption) ?_
                  rotate_left
                  · (intro w' hSw; (try dsimp only at hSw); go_simp; try with_reducible rfl)
                  try simp only [Act.put, List.setIfInBounds_toArray, List.set_cons_zero, List.set_cons_succ]
                  refine tkYes (i := 1) (v := ?_) rfl rfl (by kernel_rfl) (by kernel_rfl) (by kernel_rfl) (fun _ _ _ h => h) (by rfl) ?_ (by assumption) ?_
                  rotate_left
                  · (intro w' hSw; (try dsimp only at hSw); go_simp; try with_reducible rfl)
                  try simp only [Act.put, List.setIfInBounds_toArray, List.set_cons_zero, List.set_cons_succ]
                  refine tkYes (i := 2) (v := ?_) rfl rfl (by kernel_rfl) (by kernel_rfl) (by kernel_rfl) (fun _ _ _ h => h) (by rfl) ?_ (by assumption) ?_
                  rotate_left
                  · (intro w' hSw; (try dsimp only at hSw); go_simp; try with_reducible rfl)
                  try simp only [Act.put, List.setIfInBounds_toArray, List.set_cons_zero, List.set_cons_succ]
                  refine tkYes (i := 3) (v := ?_) rfl rfl (by kernel_rfl) (by kernel_rfl) (by kernel_rfl) (fun _ _ _ h => h) (by rfl) ?_ (by assumption) ?_
                  rotate_left
                  · (intro w' hSw; (try dsimp only at hSw); go_simp; try with_reducible rfl)
                  try simp only [Act.put, List.setIfInBounds_toArray, List.set_cons_zero, List.set_cons_succ]
                  refine tkYes (i := 4) (v := ?_) rfl rfl (by kernel_rfl) (by kernel_rfl) (by kernel_rfl) (fun _ _ _ h => h) (by rfl) ?_ (by assumption) ?_
                  rotate_left
                  · (intro w' hSw; (try dsimp only at hSw); go_simp; try with_reducible rfl)
                  try simp only [Act.put, List.setIfInBounds_toArray, List.set_cons_zero, List.set_cons_succ]
                  refine tkYes (i := 5) (v := .pointer (some ⟨b7, o7 + j * 3, none⟩)) rfl rfl (by kernel_rfl) (by kernel_rfl) (by kernel_rfl) (fun _ _ _ h => h) (by rfl) ?_ (by assumption) ?_
                  skip
                  · (intro w' hSw; (try dsimp only at hSw); go_simp; try (simp; done))
                  try simp only [Act.put, List.setIfInBounds_toArray, List.set_cons_zero, List.set_cons_succ]
                  refine tkYes (i := 6) (v := ?_) rfl rfl (by kernel_rfl) (by kernel_rfl) (by kernel_rfl) (fun _ _ _ h => h) (by rfl) ?_ (by assumption) ?_
                  rotate_left
                  · (intro w' hSw; (try dsimp only at hSw); go_simp; try with_reducible rfl)
                  try simp only [Act.put, List.setIfInBounds_toArray, List.set_cons_zero, List.set_cons_succ]
                  refine tkYes (i := 7) (v := ?_) rfl rfl (by kernel_rfl) (by kernel_rfl) (by kernel_rfl) (fun _ _ _ h => h) (by rfl) ?_ (by assumption) ?_
                  rotate_left
                  · (intro w' hSw; (try dsimp only at hSw); go_simp; try with_reducible rfl)
                  try simp only [Act.put, List.setIfInBounds_toArray, List.set_cons_zero, List.set_cons_succ]
                  refine tkYes (i := 8) (v := ?_) rfl rfl (by kernel_rfl) (by kernel_rfl) (by kernel_rfl) (fun _ _ _ h => h) (by rfl) ?_ (by assumption) ?_
                  rotate_left
                  · (intro w' hSw; (try dsimp only at hSw); go_simp; try with_reducible rfl)
                  try simp only [Act.put, List.setIfInBounds_toArray, List.set_cons_zero, List.set_cons_succ]
                  refine tkYes (i := 9) (v := ?_) rfl rfl (by kernel_rfl) (by kernel_rfl) (by kernel_rfl) (fun _ _ _ h => h) (by rfl) ?_ (by assumption) ?_
                  rotate_left
                  · (intro w' hSw; (try dsimp only at hSw); go_simp; try with_reducible rfl)
                  try simp only [Act.put, List.setIfInBounds_toArray, List.set_cons_zero, List.set_cons_succ]
                  refine tkYes (i := 10) (v := ?_) rfl rfl (by kernel_rfl) (by kernel_rfl) (by kernel_rfl) (fun _ _ _ h => h) (by rfl) ?_ (by assumption) ?_
                  rotate_left
                  · (intro w' hSw; (try dsimp only at hSw); go_simp; try with_reducible rfl)
                  try simp only [Act.put, List.setIfInBounds_toArray, List.set_cons_zero, List.set_cons_succ]
                  refine tkYes (i := 11) (v := .pointer (some ⟨b5, o5 + k * 3, none⟩)) rfl rfl (by kernel_rfl) (by kernel_rfl) (by kernel_rfl) (fun _ _ _ h => h) (by rfl) ?_ (by assumption) ?_
                  skip
                  · (intro w' hSw; (try dsimp only at hSw); go_simp; try (simp; done))
                  try simp only [Act.put, List.setIfInBounds_toArray, List.set_cons_zero, List.set_cons_succ]
                  refine tkYes (i := 12) (v := ?_) rfl rfl (by kernel_rfl) (by kernel_rfl) (by kernel_rfl) (fun _ _ _ h => h) (by rfl) ?_ (by assumption) ?_
                  rotate_left
                  · (intro w' hSw; (try dsimp only at hSw); go_simp; try with_reducible rfl)
                  try simp only [Act.put, List.setIfInBounds_toArray, List.set_cons_zero, List.set_cons_succ]
                  refine tkYes (i := 13) (v := ?_) rfl rfl (by kernel_rfl) (by kernel_rfl) (by kernel_rfl) (fun _ _ _ h => h) (by rfl) ?_ (by assumption) ?_
                  rotate_left
                  · (intro w' hSw; (try dsimp only at hSw); go_simp; try with_reducible rfl)
                  try simp only [Act.put, List.setIfInBounds_toArray, List.set_cons_zero, List.set_cons_succ]
                  refine tkYes (i := 14) (v := .bool true) rfl rfl (by kernel_rfl) (by kernel_rfl) (by kernel_rfl) (fun _ _ _ h => h) (by rfl) ?_ (by assumption) ?_
                  skip
                  · (intro w' hSw; (try dsimp only at hSw); go_simp; try (simp [f1]; done))
                  try simp only [Act.put, List.setIfInBounds_toArray, List.set_cons_zero, List.set_cons_succ]
                  refine tkYes (i := 15) (v := ?_) rfl rfl (by kernel_rfl) (by kernel_rfl) (by kernel_rfl) (fun _ _ _ h => h) (by rfl) ?_ (by assumption) ?_
                  rotate_left
                  · (intro w' hSw; (try dsimp only at hSw); go_simp; try with_reducible rfl)
                  try simp only [Act.put, List.setIfInBounds_toArray, List.set_cons_zero, List.set_cons_succ]
                  refine tkYes (i := 16) (v := ?_) rfl rfl (by kernel_rfl) (by kernel_rfl) (by kernel_rfl) (fun _ _ _ h => h) (by rfl) ?_ (by assumption) ?_
                  rotate_left
                  · (intro w' hSw; (try dsimp only at hSw); go_simp; try with_reducible rfl)
                  try simp only [Act.put, List.setIfInBounds_toArray, List.set_cons_zero, List.set_cons_succ]
                  refine tkYes (i := 17) (v := ?_) rfl rfl (by kernel_rfl) (by kernel_rfl) (by kernel_rfl) (fun _ _ _ h => h) (by rfl) ?_ (by assumption) ?_
                  rotate_left
                  · (intro w' hSw; (try dsimp only at hSw); go_simp; try with_reducible rfl)
                  try simp only [Act.put, List.setIfInBounds_toArray, List.set_cons_zero, List.set_cons_succ]
                  refine tkYes (i := 18) (v := ?_) rfl rfl (by kernel_rfl) (by kernel_rfl) (by kernel_rfl) (fun _ _ _ h => h) (by rfl) ?_ (by assumption) ?_
                  rotate_left
                  · (intro w' hSw; (try dsimp only at hSw); go_simp; try with_reducible rfl)
                  try simp only [Act.put, List.setIfInBounds_toArray, List.set_cons_zero, List.set_cons_succ]
                  refine tkYes (i := 19) (v := .pointer (some ⟨b7, o7 + j * 3, none⟩)) rfl rfl (by kernel_rfl) (by kernel_rfl) (by kernel_rfl) (fun _ _ _ h => h) (by rfl) ?_ (by assumption) ?_
                  skip
                  · (intro w' hSw; (try dsimp only at hSw); go_simp; try (simp; done))
                  try simp only [Act.put, List.setIfInBounds_toArray, List.set_cons_zero, List.set_cons_succ]
                  refine tkYes (i := 20) (v := ?_) rfl rfl (by kernel_rfl) (by kernel_rfl) (by kernel_rfl) (fun _ _ _ h => h) (by rfl) ?_ (by assumption) ?_
                  rotate_left
                  · (intro w' hSw; (try dsimp only at hSw); go_simp; try with_reducible rfl)
                  try simp only [Act.put, List.setIfInBounds_toArray, List.set_cons_zero, List.set_cons_succ]
                  refine tkYes (i := 21) (v := ?_) rfl rfl (by kernel_rfl) (by kernel_rfl) (by kernel_rfl) (fun _ _ _ h => h) (by rfl) ?_ (by assumption) ?_
                  rotate_left
                  · (intro w' hSw; (try dsimp only at hSw); go_simp; try with_reducible rfl)
                  try simp only [Act.put, List.setIfInBounds_toArray, List.set_cons_zero, List.set_cons_succ]
                  refine tkYes (i := 22) (v := ?_) rfl rfl (by kernel_rfl) (by kernel_rfl) (by kernel_rfl) (fun _ _ _ h => h) (by rfl) ?_ (by assumption) ?_
                  rotate_left
                  · (intro w' hSw; (try dsimp only at hSw); go_simp; try with_reducible rfl)
                  try simp only [Act.put, List.setIfInBounds_toArray, List.set_cons_zero, List.set_cons_succ]
                  refine tkYes (i := 23) (v := ?_) rfl rfl (by kernel_rfl) (by kernel_rfl) (by kernel_rfl) (fun _ _ _ h => h) (by rfl) ?_ (by assumption) ?_
                  rotate_left
                  · (intro w' hSw; (try dsimp only at hSw); go_simp; try with_reducible rfl)
                  try simp only [Act.put, List.setIfInBounds_toArray, List.set_cons_zero, List.set_cons_succ]
                  refine tkYes (i := 24) (v := ?_) rfl rfl (by kernel_rfl) (by kernel_rfl) (by kernel_rfl) (fun _ _ _ h => h) (by rfl) ?_ (by assumption) ?_
                  rotate_left
                  · (intro w' hSw; (try dsimp only at hSw); go_simp; try with_reducible rfl)
                  try simp only [Act.put, List.setIfInBounds_toArray, List.set_cons_zero, List.set_cons_succ]
                  refine tkYes (i := 25) (v := .pointer (some ⟨b5, o5 + k * 3, none⟩)) rfl rfl (by kernel_rfl) (by kernel_rfl) (by kernel_rfl) (fun _ _ _ h => h) (by rfl) ?_ (by assumption) ?_
                  skip
                  · (intro w' hSw; (try dsimp only at hSw); go_simp; try (simp; done))
                  try simp only [Act.put, List.setIfInBounds_toArray, List.set_cons_zero, List.set_cons_succ]
                  refine tkYes (i := 26) (v := ?_) rfl rfl (by kernel_rfl) (by kernel_rfl) (by kernel_rfl) (fun _ _ _ h => h) (by rfl) ?_ (by assumption) ?_
                  rotate_left
                  · (intro w' hSw; (try dsimp only at hSw); go_simp; try with_reducible rfl)
                  try simp only [Act.put, List.setIfInBounds_toArray, List.set_cons_zero, List.set_cons_succ]
                  refine tkYes (i := 27) (v := ?_) rfl rfl (by kernel_rfl) (by kernel_rfl) (by kernel_rfl) (fun _ _ _ h => h) (by rfl) ?_ (by assumption) ?_
                  rotate_left
                  · (intro w' hSw; (try dsimp only at hSw); go_simp; try with_reducible rfl)
                  try simp only [Act.put, List.setIfInBounds_toArray, List.set_cons_zero, List.set_cons_succ]
                  refine tkYes (i := 28) (v := .bool true) rfl rfl (by kernel_rfl) (by kernel_rfl) (by kernel_rfl) (fun _ _ _ h => h) (by rfl) ?_ (by assumption) ?_
                  skip
                  · (intro w' hSw; (try dsimp only at hSw); go_simp; try (simp [f2]; done))
                  try simp only [Act.put, List.setIfInBounds_toArray, List.set_cons_zero, List.set_cons_succ]
                  refine tkYes (i := 29) (v := .bool true) rfl rfl (by kernel_rfl) (by kernel_rfl) (by kernel_rfl) (fun _ _ _ h => h) (by rfl) ?_ (by assumption) ?_
                  skip
                  · (intro w' hSw; (try dsimp only at hSw); go_simp; try (simp; done))
                  try simp only [Act.put, List.setIfInBounds_toArray, List.set_cons_zero, List.set_cons_succ]
                  refine tkYes (i := 30) (v := ?_) rfl rfl (by kernel_rfl) (by kernel_rfl) (by kernel_rfl) (fun _ _ _ h => h) (by rfl) ?_ (by assumption) ?_
                  rotate_left
                  · (intro w' hSw; (try dsimp only at hSw); go_simp; try with_reducible rfl)
                  try simp only [Act.put, List.setIfInBounds_toArray, List.set_cons_zero, List.set_cons_succ]
                  refine tkYes (i := 31) (v := ?_) rfl rfl (by kernel_rfl) (by kernel_rfl) (by kernel_rfl) (fun _ _ _ h => h) (by rfl) ?_ (by assumption) ?_
                  rotate_left
                  · (intro w' hSw; (try dsimp only at hSw); go_simp; try with_reducible rfl)
                  try simp only [Act.put, List.setIfInBounds_toArray, List.set_cons_zero, List.set_cons_succ]
                  refine tkYes (i := 32) (v := ?_) rfl rfl (by kernel_rfl) (by kernel_rfl) (by kernel_rfl) (fun _ _ _ h => h) (by rfl) ?_ (by assumption) ?_
                  rotate_left
                  · (intro w' hSw; (try dsimp only at hSw); go_simp; try with_reducible rfl)
                  try simp only [Act.put, List.setIfInBounds_toArray, List.set_cons_zero, List.set_cons_succ]
                  refine tkYes (i := 33) (v := ?_) rfl rfl (by kernel_rfl) (by kernel_rfl) (by kernel_rfl) (fun _ _ _ h => h) (by rfl) ?_ (by assumption) ?_
                  rotate_left
                  · (intro w' hSw; (try dsimp only at hSw); go_simp; try with_reducible rfl)
                  try simp only [Act.put, List.setIfInBounds_toArray, List.set_cons_zero, List.set_cons_succ]
                  refine tkYes (i := 34) (v := .pointer (some ⟨b7, o7 + j * 3, none⟩)) rfl rfl (by kernel_rfl) (by kernel_rfl) (by kernel_rfl) (fun _ _ _ h => h) (by rfl) ?_ (by assumption) ?_
                  skip
                  · (intro w' hSw; (try dsimp only at hSw); go_simp; try (simp; done))
                  try simp only [Act.put, List.setIfInBounds_toArray, List.set_cons_zero, List.set_cons_succ]
                  refine tkYes (i := 35) (v := ?_) rfl rfl (by kernel_rfl) (by kernel_rfl) (by kernel_rfl) (fun _ _ _ h => h) (by rfl) ?_ (by assumption) ?_
                  rotate_left
                  · (intro w' hSw; (try dsimp only at hSw); go_simp; try with_reducible rfl)
                  try simp only [Act.put, List.setIfInBounds_toArray, List.set_cons_zero, List.set_cons_succ]
                  refine tkYes (i := 36) (v := ?_) rfl rfl (by kernel_rfl) (by kernel_rfl) (by kernel_rfl) (fun _ _ _ h => h) (by rfl) ?_ (by assumption) ?_
                  rotate_left
                  · (intro w' hSw; (try dsimp only at hSw); go_simp; try with_reducible rfl)
                  try simp only [Act.put, List.setIfInBounds_toArray, List.set_cons_zero, List.set_cons_succ]
                  refine tkYes (i := 37) (v := ?_) rfl rfl (by kernel_rfl) (by kernel_rfl) (by kernel_rfl) (fun _ _ _ h => h) (by rfl) ?_ (by assumption) ?_
                  rotate_left
                  · (intro w' hSw; (try dsimp only at hSw); go_simp; try with_reducible rfl)
                  try simp only [Act.put, List.setIfInBounds_toArray, List.set_cons_zero, List.set_cons_succ]
                  refine tkYes (i := 38) (v := ?_) rfl rfl (by kernel_rfl) (by kernel_rfl) (by kernel_rfl) (fun _ _ _ h => h) (by rfl) ?_ (by assumption) ?_
                  rotate_left
                  · (intro w' hSw; (try dsimp only at hSw); go_simp; try with_reducible rfl)
                  try simp only [Act.put, List.setIfInBounds_toArray, List.set_cons_zero, List.set_cons_succ]
                  refine tkYes (i := 39) (v := ?_) rfl rfl (by kernel_rfl) (by kernel_rfl) (by kernel_rfl) (fun _ _ _ h => h) (by rfl) ?_ (by assumption) ?_
                  rotate_left
                  · (intro w' hSw; (try dsimp only at hSw); go_simp; try with_reducible rfl)
                  try simp only [Act.put, List.setIfInBounds_toArray, List.set_cons_zero, List.set_cons_succ]
                  refine tkYes (i := 40) (v := .pointer (some ⟨b5, o5 + k * 3, none⟩)) rfl rfl (by kernel_rfl) (by kernel_rfl) (by kernel_rfl) (fun _ _ _ h => h) (by rfl) ?_ (by assumption) ?_
                  skip
                  · (intro w' hSw; (try dsimp only at hSw); go_simp; try (simp; done))
                  try simp only [Act.put, List.setIfInBounds_toArray, List.set_cons_zero, List.set_cons_succ]
                  refine tkYes (i := 41) (v := ?_) rfl rfl (by kernel_rfl) (by kernel_rfl) (by kernel_rfl) (fun _ _ _ h => h) (by rfl) ?_ (by assumption) ?_
                  rotate_left
                  · (intro w' hSw; (try dsimp only at hSw); go_simp; try with_reducible rfl)
                  try simp only [Act.put, List.setIfInBounds_toArray, List.set_cons_zero, List.set_cons_succ]
                  refine tkYes (i := 42) (v := ?_) rfl rfl (by kernel_rfl) (by kernel_rfl) (by kernel_rfl) (fun _ _ _ h => h) (by rfl) ?_ (by assumption) ?_
                  rotate_left
                  · (intro w' hSw; (try dsimp only at hSw); go_simp; try with_reducible rfl)
                  try simp only [Act.put, List.setIfInBounds_toArray, List.set_cons_zero, List.set_cons_succ]
                  refine tkYes (i := 43) (v := .bool (decide (X.2.2 ≤ Y.2.2))) rfl rfl (by kernel_rfl) (by kernel_rfl) (by kernel_rfl) (fun _ _ _ h => h) (by rfl) ?_ (by assumption) ?_
                  skip
                  · (intro w' hSw; (try dsimp only at hSw); go_simp; try (simp; done))
                  try simp only [Act.put, List.setIfInBounds_toArray, List.set_cons_zero, List.set_cons_succ]
                  refine tkYes (i := 44) (v := .bool (decide (X.2.2 ≤ Y.2.2))) rfl rfl (by kernel_rfl) (by kernel_rfl) (by kernel_rfl) (fun _ _ _ h => h) (by rfl) ?_ (by assumption) ?_
                  skip
                  · (intro w' hSw; (try dsimp only at hSw); go_simp; try (simp; done))
                  try simp only [Act.put, List.setIfInBounds_toArray, List.set_cons_zero, List.set_cons_succ]
                  refine tkYes (i := 45) (v := .bool (decide (X.2.2 ≤ Y.2.2))) rfl rfl (by kernel_rfl) (by kernel_rfl) (by kernel_rfl) (fun _ _ _ h => h) (by rfl) ?_ (by assumption) ?_
                  skip
                  · (intro w' hSw; (try dsimp only at hSw); go_simp; try (simp; done))
                  try simp only [Act.put, List.setIfInBounds_toArray, List.set_cons_zero, List.set_cons_succ]
                  refine tkYes (i := 46) (v := ?_) rfl rfl (by kernel_rfl) (by kernel_rfl) (by kernel_rfl) (fun _ _ _ h => h) (by rfl) ?_ (by assumption) ?_
                  rotate_left
                  · (intro w' hSw; (try dsimp only at hSw); go_simp; try with_reducible rfl)
                  try simp only [Act.put, List.setIfInBounds_toArray, List.set_cons_zero, List.set_cons_succ]
                  refine wpAnyH_done (by kernel_rfl) ?_ _
                  go_wp2_with fail
                  go_roundw
                  case rel => exact ⟨decide (X.2.2 ≤ Y.2.2), j + 1, by omega, rfl, by go_num, Lib.hid (fun hb q hq hqj => (Nat.lt_succ_iff_lt_or_eq.1 hqj).elim (fun h => HN1.out rfl q hq h) (fun he => by subst he; intro hh; rw [← EX.out, ← EY.out] at hh; exact absurd hh.2.2 (of_decide_eq_false hb))), Lib.hid ⟨HQ.out.1.drew, HQ.out.2.1.drew, HQ.out.2.2.1.kept0 ((Kept.refl [] _).drew), HQ.out.2.2.2.1.kept0 ((Kept.refl [] _).drew), HQ.out.2.2.2.2.drew⟩⟩
                  case measure => simp [intOf]; omega
                · refine wp_region_held_drew (S := (fun w' => w'.cell? ⟨g7, 1, none⟩ = some (.slice (some ⟨b7, o7, none⟩) C.length c7) ∧ w'.cell? ⟨g5, 1, none⟩ = some (.slice (some ⟨b5, o5, none⟩) N.length c5) ∧ w'.cell? ⟨b7, o7 + j * 3, none⟩ = some (.int .i64 X.1) ∧ w'.cell? ⟨b7, o7 + j * 3 + 1, none⟩ = some (.int .i64 X.2.1) ∧ w'.cell? ⟨b7, o7 + j * 3 + 2, none⟩ = some (.int .i64 X.2.2) ∧ w'.cell? ⟨b5, o5 + k * 3, none⟩ = some (.int .i64 Y.1) ∧ w'.cell? ⟨b5, o5 + k * 3 + 1, none⟩ = some (.int .i64 Y.2.1) ∧ w'.cell? ⟨b5, o5 + k * 3 + 2, none⟩ = some (.int .i64 Y.2.2))) (by kernel_rfl) ?_ (fun hHeld => ?_)
                  · exact ⟨a2, a1, q0, q1, q2, p0, p1, p2⟩
                  refine tkYes (i := 0) (v := ?_) rfl rfl (by kernel_rfl) (by kernel_rfl) (by kernel_rfl) (fun _ _ _ h => h) (by rfl) ?_ (by assumption) ?_
                  rotate_left
                  · (intro w' hSw; (try dsimp only at hSw); go_simp; try with_reducible rfl)
                  try simp only [Act.put, List.setIfInBounds_toArray, List.set_cons_zero, List.set_cons_succ]
                  refine tkYes (i := 1) (v := ?_) rfl rfl (by kernel_rfl) (by kernel_rfl) (by kernel_rfl) (fun _ _ _ h => h) (by rfl) ?_ (by assumption) ?_
                  rotate_left
                  · (intro w' hSw; (try dsimp only at hSw); go_simp; try with_reducible rfl)
                  try simp only [Act.put, List.setIfInBounds_toArray, List.set_cons_zero, List.set_cons_succ]
                  refine tkYes (i := 2) (v := ?_) rfl rfl (by kernel_rfl) (by kernel_rfl) (by kernel_rfl) (fun _ _ _ h => h) (by rfl) ?_ (by assumption) ?_
                  rotate_left
                  · (intro w' hSw; (try dsimp only at hSw); go_simp; try with_reducible rfl)
                  try simp only [Act.put, List.setIfInBounds_toArray, List.set_cons_zero, List.set_cons_succ]
                  refine tkYes (i := 3) (v := ?_) rfl rfl (by kernel_rfl) (by kernel_rfl) (by kernel_rfl) (fun _ _ _ h => h) (by rfl) ?_ (by assumption) ?_
                  rotate_left
                  · (intro w' hSw; (try dsimp only at hSw); go_simp; try with_reducible rfl)
                  try simp only [Act.put, List.setIfInBounds_toArray, List.set_cons_zero, List.set_cons_succ]
                  refine tkYes (i := 4) (v := ?_) rfl rfl (by kernel_rfl) (by kernel_rfl) (by kernel_rfl) (fun _ _ _ h => h) (by rfl) ?_ (by assumption) ?_
                  rotate_left
                  · (intro w' hSw; (try dsimp only at hSw); go_simp; try with_reducible rfl)
                  try simp only [Act.put, List.setIfInBounds_toArray, List.set_cons_zero, List.set_cons_succ]
                  refine tkYes (i := 5) (v := .pointer (some ⟨b7, o7 + j * 3, none⟩)) rfl rfl (by kernel_rfl) (by kernel_rfl) (by kernel_rfl) (fun _ _ _ h => h) (by rfl) ?_ (by assumption) ?_
                  skip
                  · (intro w' hSw; (try dsimp only at hSw); go_simp; try (simp; done))
                  try simp only [Act.put, List.setIfInBounds_toArray, List.set_cons_zero, List.set_cons_succ]
                  refine tkYes (i := 6) (v := ?_) rfl rfl (by kernel_rfl) (by kernel_rfl) (by kernel_rfl) (fun _ _ _ h => h) (by rfl) ?_ (by assumption) ?_
                  rotate_left
                  · (intro w' hSw; (try dsimp only at hSw); go_simp; try with_reducible rfl)
                  try simp only [Act.put, List.setIfInBounds_toArray, List.set_cons_zero, List.set_cons_succ]
                  refine tkYes (i := 7) (v := ?_) rfl rfl (by kernel_rfl) (by kernel_rfl) (by kernel_rfl) (fun _ _ _ h => h) (by rfl) ?_ (by assumption) ?_
                  rotate_left
                  · (intro w' hSw; (try dsimp only at hSw); go_simp; try with_reducible rfl)
                  try simp only [Act.put, List.setIfInBounds_toArray, List.set_cons_zero, List.set_cons_succ]
                  refine tkYes (i := 8) (v := ?_) rfl rfl (by kernel_rfl) (by kernel_rfl) (by kernel_rfl) (fun _ _ _ h => h) (by rfl) ?_ (by assumption) ?_
                  rotate_left
                  · (intro w' hSw; (try dsimp only at hSw); go_simp; try with_reducible rfl)
                  try simp only [Act.put, List.setIfInBounds_toArray, List.set_cons_zero, List.set_cons_succ]
                  refine tkYes (i := 9) (v := ?_) rfl rfl (by kernel_rfl) (by kernel_rfl) (by kernel_rfl) (fun _ _ _ h => h) (by rfl) ?_ (by assumption) ?_
                  rotate_left
                  · (intro w' hSw; (try dsimp only at hSw); go_simp; try with_reducible rfl)
                  try simp only [Act.put, List.setIfInBounds_toArray, List.set_cons_zero, List.set_cons_succ]
                  refine tkYes (i := 10) (v := ?_) rfl rfl (by kernel_rfl) (by kernel_rfl) (by kernel_rfl) (fun _ _ _ h => h) (by rfl) ?_ (by assumption) ?_
                  rotate_left
                  · (intro w' hSw; (try dsimp only at hSw); go_simp; try with_reducible rfl)
                  try simp only [Act.put, List.setIfInBounds_toArray, List.set_cons_zero, List.set_cons_succ]
                  refine tkYes (i := 11) (v := .pointer (some ⟨b5, o5 + k * 3, none⟩)) rfl rfl (by kernel_rfl) (by kernel_rfl) (by kernel_rfl) (fun _ _ _ h => h) (by rfl) ?_ (by assumption) ?_
                  skip
                  · (intro w' hSw; (try dsimp only at hSw); go_simp; try (simp; done))
                  try simp only [Act.put, List.setIfInBounds_toArray, List.set_cons_zero, List.set_cons_succ]
                  refine tkYes (i := 12) (v := ?_) rfl rfl (by kernel_rfl) (by kernel_rfl) (by kernel_rfl) (fun _ _ _ h => h) (by rfl) ?_ (by assumption) ?_
                  rotate_left
                  · (intro w' hSw; (try dsimp only at hSw); go_simp; try with_reducible rfl)
                  try simp only [Act.put, List.setIfInBounds_toArray, List.set_cons_zero, List.set_cons_succ]
                  refine tkYes (i := 13) (v := ?_) rfl rfl (by kernel_rfl) (by kernel_rfl) (by kernel_rfl) (fun _ _ _ h => h) (by rfl) ?_ (by assumption) ?_
                  rotate_left
                  · (intro w' hSw; (try dsimp only at hSw); go_simp; try with_reducible rfl)
                  try simp only [Act.put, List.setIfInBounds_toArray, List.set_cons_zero, List.set_cons_succ]
                  refine tkYes (i := 14) (v := .bool true) rfl rfl (by kernel_rfl) (by kernel_rfl) (by kernel_rfl) (fun _ _ _ h => h) (by rfl) ?_ (by assumption) ?_
                  skip
                  · (intro w' hSw; (try dsimp only at hSw); go_simp; try (simp [f1]; done))
                  try simp only [Act.put, List.setIfInBounds_toArray, List.set_cons_zero, List.set_cons_succ]
                  refine tkYes (i := 15) (v := ?_) rfl rfl (by kernel_rfl) (by kernel_rfl) (by kernel_rfl) (fun _ _ _ h => h) (by rfl) ?_ (by assumption) ?_
                  rotate_left
                  · (intro w' hSw; (try dsimp only at hSw); go_simp; try with_reducible rfl)
                  try simp only [Act.put, List.setIfInBounds_toArray, List.set_cons_zero, List.set_cons_succ]
                  refine tkYes (i := 16) (v := ?_) rfl rfl (by kernel_rfl) (by kernel_rfl) (by kernel_rfl) (fun _ _ _ h => h) (by rfl) ?_ (by assumption) ?_
                  rotate_left
                  · (intro w' hSw; (try dsimp only at hSw); go_simp; try with_reducible rfl)
                  try simp only [Act.put, List.setIfInBounds_toArray, List.set_cons_zero, List.set_cons_succ]
                  refine tkYes (i := 17) (v := ?_) rfl rfl (by kernel_rfl) (by kernel_rfl) (by kernel_rfl) (fun _ _ _ h => h) (by rfl) ?_ (by assumption) ?_
                  rotate_left
                  · (intro w' hSw; (try dsimp only at hSw); go_simp; try with_reducible rfl)
                  try simp only [Act.put, List.setIfInBounds_toArray, List.set_cons_zero, List.set_cons_succ]
                  refine tkYes (i := 18) (v := ?_) rfl rfl (by kernel_rfl) (by kernel_rfl) (by kernel_rfl) (fun _ _ _ h => h) (by rfl) ?_ (by assumption) ?_
                  rotate_left
                  · (intro w' hSw; (try dsimp only at hSw); go_simp; try with_reducible rfl)
                  try simp only [Act.put, List.setIfInBounds_toArray, List.set_cons_zero, List.set_cons_succ]
                  refine tkYes (i := 19) (v := .pointer (some ⟨b7, o7 + j * 3, none⟩)) rfl rfl (by kernel_rfl) (by kernel_rfl) (by kernel_rfl) (fun _ _ _ h => h) (by rfl) ?_ (by assumption) ?_
                  skip
                  · (intro w' hSw; (try dsimp only at hSw); go_simp; try (simp; done))
                  try simp only [Act.put, List.setIfInBounds_toArray, List.set_cons_zero, List.set_cons_succ]
                  refine tkYes (i := 20) (v := ?_) rfl rfl (by kernel_rfl) (by kernel_rfl) (by kernel_rfl) (fun _ _ _ h => h) (by rfl) ?_ (by assumption) ?_
                  rotate_left
                  · (intro w' hSw; (try dsimp only at hSw); go_simp; try with_reducible rfl)
                  try simp only [Act.put, List.setIfInBounds_toArray, List.set_cons_zero, List.set_cons_succ]
                  refine tkYes (i := 21) (v := ?_) rfl rfl (by kernel_rfl) (by kernel_rfl) (by kernel_rfl) (fun _ _ _ h => h) (by rfl) ?_ (by assumption) ?_
                  rotate_left
                  · (intro w' hSw; (try dsimp only at hSw); go_simp; try with_reducible rfl)
                  try simp only [Act.put, List.setIfInBounds_toArray, List.set_cons_zero, List.set_cons_succ]
                  refine tkYes (i := 22) (v := ?_) rfl rfl (by kernel_rfl) (by kernel_rfl) (by kernel_rfl) (fun _ _ _ h => h) (by rfl) ?_ (by assumption) ?_
                  rotate_left
                  · (intro w' hSw; (try dsimp only at hSw); go_simp; try with_reducible rfl)
                  try simp only [Act.put, List.setIfInBounds_toArray, List.set_cons_zero, List.set_cons_succ]
                  refine tkYes (i := 23) (v := ?_) rfl rfl (by kernel_rfl) (by kernel_rfl) (by kernel_rfl) (fun _ _ _ h => h) (by rfl) ?_ (by assumption) ?_
                  rotate_left
                  · (intro w' hSw; (try dsimp only at hSw); go_simp; try with_reducible rfl)
                  try simp only [Act.put, List.setIfInBounds_toArray, List.set_cons_zero, List.set_cons_succ]
                  refine tkYes (i := 24) (v := ?_) rfl rfl (by kernel_rfl) (by kernel_rfl) (by kernel_rfl) (fun _ _ _ h => h) (by rfl) ?_ (by assumption) ?_
                  rotate_left
                  · (intro w' hSw; (try dsimp only at hSw); go_simp; try with_reducible rfl)
                  try simp only [Act.put, List.setIfInBounds_toArray, List.set_cons_zero, List.set_cons_succ]
                  refine tkYes (i := 25) (v := .pointer (some ⟨b5, o5 + k * 3, none⟩)) rfl rfl (by kernel_rfl) (by kernel_rfl) (by kernel_rfl) (fun _ _ _ h => h) (by rfl) ?_ (by assumption) ?_
                  skip
                  · (intro w' hSw; (try dsimp only at hSw); go_simp; try (simp; done))
                  try simp only [Act.put, List.setIfInBounds_toArray, List.set_cons_zero, List.set_cons_succ]
                  refine tkYes (i := 26) (v := ?_) rfl rfl (by kernel_rfl) (by kernel_rfl) (by kernel_rfl) (fun _ _ _ h => h) (by rfl) ?_ (by assumption) ?_
                  rotate_left
                  · (intro w' hSw; (try dsimp only at hSw); go_simp; try with_reducible rfl)
                  try simp only [Act.put, List.setIfInBounds_toArray, List.set_cons_zero, List.set_cons_succ]
                  refine tkYes (i := 27) (v := ?_) rfl rfl (by kernel_rfl) (by kernel_rfl) (by kernel_rfl) (fun _ _ _ h => h) (by rfl) ?_ (by assumption) ?_
                  rotate_left
                  · (intro w' hSw; (try dsimp only at hSw); go_simp; try with_reducible rfl)
                  try simp only [Act.put, List.setIfInBounds_toArray, List.set_cons_zero, List.set_cons_succ]
                  refine tkYes (i := 28) (v := .bool false) rfl rfl (by kernel_rfl) (by kernel_rfl) (by kernel_rfl) (fun _ _ _ h => h) (by rfl) ?_ (by assumption) ?_
                  skip
                  · (intro w' hSw; (try dsimp only at hSw); go_simp; try (simp [f2]; done))
                  try simp only [Act.put, List.setIfInBounds_toArray, List.set_cons_zero, List.set_cons_succ]
                  refine tkYes (i := 29) (v := .bool false) rfl rfl (by kernel_rfl) (by kernel_rfl) (by kernel_rfl) (fun _ _ _ h => h) (by rfl) ?_ (by assumption) ?_
                  skip
                  · (intro w' hSw; (try dsimp only at hSw); go_simp; try (simp; done))
                  try simp only [Act.put, List.setIfInBounds_toArray, List.set_cons_zero, List.set_cons_succ]
                  refine tkYes (i := 30) (v := ?_) rfl rfl (by kernel_rfl) (by kernel_rfl) (by kernel_rfl) (fun _ _ _ h => h) (by rfl) ?_ (by assumption) ?_
                  rotate_left
                  · (intro w' hSw; (try dsimp only at hSw); go_simp; try with_reducible rfl)
                  try simp only [Act.put, List.setIfInBounds_toArray, List.set_cons_zero, List.set_cons_succ]
                  refine tkNo (i := 31) rfl rfl (by kernel_rfl) (by kernel_rfl) (by kernel_rfl) (fun _ _ _ h => h) (by rfl) (by assumption) ?_
                  try simp only [Act.put, List.setIfInBounds_toArray, List.set_cons_zero, List.set_cons_succ]
                  refine tkNo (i := 32) rfl rfl (by kernel_rfl) (by kernel_rfl) (by kernel_rfl) (fun _ _ _ h => h) (by rfl) (by assumption) ?_
                  try simp only [Act.put, List.setIfInBounds_toArray, List.set_cons_zero, List.set_cons_succ]
                  refine tkNo (i := 33) rfl rfl (by kernel_rfl) (by kernel_rfl) (by kernel_rfl) (fun _ _ _ h => h) (by rfl) (by assumption) ?_
                  try simp only [Act.put, List.setIfInBounds_toArray, List.set_cons_zero, List.set_cons_succ]
                  refine tkNo (i := 34) rfl rfl (by kernel_rfl) (by kernel_rfl) (by kernel_rfl) (fun _ _ _ h => h) (by rfl) (by assumption) ?_
                  try simp only [Act.put, List.setIfInBounds_toArray, List.set_cons_zero, List.set_cons_succ]
                  refine tkNo (i := 35) rfl rfl (by kernel_rfl) (by kernel_rfl) (by kernel_rfl) (fun _ _ _ h => h) (by rfl) (by assumption) ?_
                  try simp only [Act.put, List.setIfInBounds_toArray, List.set_cons_zero, List.set_cons_succ]
                  refine tkNo (i := 36) rfl rfl (by kernel_rfl) (by kernel_rfl) (by kernel_rfl) (fun _ _ _ h => h) (by rfl) (by assumption) ?_
                  try simp only [Act.put, List.setIfInBounds_toArray, List.set_cons_zero, List.set_cons_succ]
                  refine tkNo (i := 37) rfl rfl (by kernel_rfl) (by kernel_rfl) (by kernel_rfl) (fun _ _ _ h => h) (by rfl) (by assumption) ?_
                  try simp only [Act.put, List.setIfInBounds_toArray, List.set_cons_zero, List.set_cons_succ]
                  refine tkNo (i := 38) rfl rfl (by kernel_rfl) (by kernel_rfl) (by kernel_rfl) (fun _ _ _ h => h) (by rfl) (by assumption) ?_
                  try simp only [Act.put, List.setIfInBounds_toArray, List.set_cons_zero, List.set_cons_succ]
                  refine tkNo (i := 39) rfl rfl (by kernel_rfl) (by kernel_rfl) (by kernel_rfl) (fun _ _ _ h => h) (by rfl) (by assumption) ?_
                  try simp only [Act.put, List.setIfInBounds_toArray, List.set_cons_zero, List.set_cons_succ]
                  refine tkNo (i := 40) rfl rfl (by kernel_rfl) (by kernel_rfl) (by kernel_rfl) (fun _ _ _ h => h) (by rfl) (by assumption) ?_
                  try simp only [Act.put, List.setIfInBounds_toArray, List.set_cons_zero, List.set_cons_succ]
                  refine tkNo (i := 41) rfl rfl (by kernel_rfl) (by kernel_rfl) (by kernel_rfl) (fun _ _ _ h => h) (by rfl) (by assumption) ?_
                  try simp only [Act.put, List.setIfInBounds_toArray, List.set_cons_zero, List.set_cons_succ]
                  refine tkNo (i := 42) rfl rfl (by kernel_rfl) (by kernel_rfl) (by kernel_rfl) (fun _ _ _ h => h) (by rfl) (by assumption) ?_
                  try simp only [Act.put, List.setIfInBounds_toArray, List.set_cons_zero, List.set_cons_succ]
                  refine tkNo (i := 43) rfl rfl (by kernel_rfl) (by kernel_rfl) (by kernel_rfl) (fun _ _ _ h => h) (by rfl) (by assumption) ?_
                  try simp only [Act.put, List.setIfInBounds_toArray, List.set_cons_zero, List.set_cons_succ]
                  refine tkYes (i := 44) (v := .bool false) rfl rfl (by kernel_rfl) (by kernel_rfl) (by kernel_rfl) (fun _ _ _ h => h) (by rfl) ?_ (by assumption) ?_
                  skip
                  · (intro w' hSw; (try dsimp only at hSw); go_simp; try (simp; done))
                  try simp only [Act.put, List.setIfInBounds_toArray, List.set_cons_zero, List.set_cons_succ]
                  refine tkYes (i := 45) (v := .bool false) rfl rfl (by kernel_rfl) (by kernel_rfl) (by kernel_rfl) (fun _ _ _ h => h) (by rfl) ?_ (by assumption) ?_
                  skip
                  · (intro w' hSw; (try dsimp only at hSw); go_simp; try (simp; done))
                  try simp only [Act.put, List.setIfInBounds_toArray, List.set_cons_zero, List.set_cons_succ]
                  refine tkYes (i := 46) (v := ?_) rfl rfl (by kernel_rfl) (by kernel_rfl) (by kernel_rfl) (fun _ _ _ h => h) (by rfl) ?_ (by assumption) ?_
                  rotate_left
                  · (intro w' hSw; (try dsimp only at hSw); go_simp; try with_reducible rfl)
                  try simp only [Act.put, List.setIfInBounds_toArray, List.set_cons_zero, List.set_cons_succ]
                  refine wpAnyH_done (by kernel_rfl) ?_ _
                  go_wp2_with fail
                  go_roundw
                  case rel => exact ⟨false, j + 1, by omega, rfl, by go_num, Lib.hid (fun _ q hq hqj => (Nat.lt_succ_iff_lt_or_eq.1 hqj).elim (fun h => HN1.out rfl q hq h) (fun he => by subst he; intro hh; rw [← EX.out, ← EY.out] at hh; exact f2 hh.2.1)), Lib.hid ⟨HQ.out.1.drew, HQ.out.2.1.drew, HQ.out.2.2.1.kept0 ((Kept.refl [] _).drew), HQ.out.2.2.2.1.kept0 ((Kept.refl [] _).drew), HQ.out.2.2.2.2.drew⟩⟩
                  case measure => simp [intOf]; omega
              · refine wp_region_held_drew (S := (fun w' => w'.cell? ⟨g7, 1, none⟩ = some (.slice (some ⟨b7, o7, none⟩) C.length c7) ∧ w'.cell? ⟨g5, 1, none⟩ = some (.slice (some ⟨b5, o5, none⟩) N.length c5) ∧ w'.cell? ⟨b7, o7 + j * 3, none⟩ = some (.int .i64 X.1) ∧ w'.cell? ⟨b7, o7 + j * 3 + 1, none⟩ = some (.int .i64 X.2.1) ∧ w'.cell? ⟨b7, o7 + j * 3 + 2, none⟩ = some (.int .i64 X.2.2) ∧ w'.cell? ⟨b5, o5 + k * 3, none⟩ = some (.int .i64 Y.1) ∧ w'.cell? ⟨b5, o5 + k * 3 + 1, none⟩ = some (.int .i64 Y.2.1) ∧ w'.cell? ⟨b5, o5 + k * 3 + 2, none⟩ = some (.int .i64 Y.2.2))) (by kernel_rfl) ?_ (fun hHeld => ?_)
                · exact ⟨a2, a1, q0, q1, q2, p0, p1, p2⟩
                refine tkYes (i := 0) (v := ?_) rfl rfl (by kernel_rfl) (by kernel_rfl) (by kernel_rfl) (fun _ _ _ h => h) (by rfl) ?_ (by assumption) ?_
                rotate_left
                · (intro w' hSw; (try dsimp only at hSw); go_simp; try with_reducible rfl)
                try simp only [Act.put, List.setIfInBounds_toArray, List.set_cons_zero, List.set_cons_succ]
                refine tkYes (i := 1) (v := ?_) rfl rfl (by kernel_rfl) (by kernel_rfl) (by kernel_rfl) (fun _ _ _ h => h) (by rfl) ?_ (by assumption) ?_
                rotate_left
                · (intro w' hSw; (try dsimp only at hSw); go_simp; try with_reducible rfl)
                try simp only [Act.put, List.setIfInBounds_toArray, List.set_cons_zero, List.set_cons_succ]
                refine tkYes (i := 2) (v := ?_) rfl rfl (by kernel_rfl) (by kernel_rfl) (by kernel_rfl) (fun _ _ _ h => h) (by rfl) ?_ (by assumption) ?_
                rotate_left
                · (intro w' hSw; (try dsimp only at hSw); go_simp; try with_reducible rfl)
                try simp only [Act.put, List.setIfInBounds_toArray, List.set_cons_zero, List.set_cons_succ]
                refine tkYes (i := 3) (v := ?_) rfl rfl (by kernel_rfl) (by kernel_rfl) (by kernel_rfl) (fun _ _ _ h => h) (by rfl) ?_ (by assumption) ?_
                rotate_left
                · (intro w' hSw; (try dsimp only at hSw); go_simp; try with_reducible rfl)
                try simp only [Act.put, List.setIfInBounds_toArray, List.set_cons_zero, List.set_cons_succ]
                refine tkYes (i := 4) (v := ?_) rfl rfl (by kernel_rfl) (by kernel_rfl) (by kernel_rfl) (fun _ _ _ h => h) (by rfl) ?_ (by assumption) ?_
                rotate_left
                · (intro w' hSw; (try dsimp only at hSw); go_simp; try with_reducible rfl)
                try simp only [Act.put, List.setIfInBounds_toArray, List.set_cons_zero, List.set_cons_succ]
                refine tkYes (i := 5) (v := .pointer (some ⟨b7, o7 + j * 3, none⟩)) rfl rfl (by kernel_rfl) (by kernel_rfl) (by kernel_rfl) (fun _ _ _ h => h) (by rfl) ?_ (by assumption) ?_
                skip
                · (intro w' hSw; (try dsimp only at hSw); go_simp; try (simp; done))
                try simp only [Act.put, List.setIfInBounds_toArray, List.set_cons_zero, List.set_cons_succ]
                refine tkYes (i := 6) (v := ?_) rfl rfl (by kernel_rfl) (by kernel_rfl) (by kernel_rfl) (fun _ _ _ h => h) (by rfl) ?_ (by assumption) ?_
                rotate_left
                · (intro w' hSw; (try dsimp only at hSw); go_simp; try with_reducible rfl)
                try simp only [Act.put, List.setIfInBounds_toArray, List.set_cons_zero, List.set_cons_succ]
                refine tkYes (i := 7) (v := ?_) rfl rfl (by kernel_rfl) (by kernel_rfl) (by kernel_rfl) (fun _ _ _ h => h) (by rfl) ?_ (by assumption) ?_
                rotate_left
                · (intro w' hSw; (try dsimp only at hSw); go_simp; try with_reducible rfl)
                try simp only [Act.put, List.setIfInBounds_toArray, List.set_cons_zero, List.set_cons_succ]
                refine tkYes (i := 8) (v := ?_) rfl rfl (by kernel_rfl) (by kernel_rfl) (by kernel_rfl) (fun _ _ _ h => h) (by rfl) ?_ (by assumption) ?_
                rotate_left
                · (intro w' hSw; (try dsimp only at hSw); go_simp; try with_reducible rfl)
                try simp only [Act.put, List.setIfInBounds_toArray, List.set_cons_zero, List.set_cons_succ]
                refine tkYes (i := 9) (v := ?_) rfl rfl (by kernel_rfl) (by kernel_rfl) (by kernel_rfl) (fun _ _ _ h => h) (by rfl) ?_ (by assumption) ?_
                rotate_left
                · (intro w' hSw; (try dsimp only at hSw); go_simp; try with_reducible rfl)
                try simp only [Act.put, List.setIfInBounds_toArray, List.set_cons_zero, List.set_cons_succ]
                refine tkYes (i := 10) (v := ?_) rfl rfl (by kernel_rfl) (by kernel_rfl) (by kernel_rfl) (fun _ _ _ h => h) (by rfl) ?_ (by assumption) ?_
                rotate_left
                · (intro w' hSw; (try dsimp only at hSw); go_simp; try with_reducible rfl)
                try simp only [Act.put, List.setIfInBounds_toArray, List.set_cons_zero, List.set_cons_succ]
                refine tkYes (i := 11) (v := .pointer (some ⟨b5, o5 + k * 3, none⟩)) rfl rfl (by kernel_rfl) (by kernel_rfl) (by kernel_rfl) (fun _ _ _ h => h) (by rfl) ?_ (by assumption) ?_
                skip
                · (intro w' hSw; (try dsimp only at hSw); go_simp; try (simp; done))
                try simp only [Act.put, List.setIfInBounds_toArray, List.set_cons_zero, List.set_cons_succ]
                refine tkYes (i := 12) (v := ?_) rfl rfl (by kernel_rfl) (by kernel_rfl) (by kernel_rfl) (fun _ _ _ h => h) (by rfl) ?_ (by assumption) ?_
                rotate_left
                · (intro w' hSw; (try dsimp only at hSw); go_simp; try with_reducible rfl)
                try simp only [Act.put, List.setIfInBounds_toArray, List.set_cons_zero, List.set_cons_succ]
                refine tkYes (i := 13) (v := ?_) rfl rfl (by kernel_rfl) (by kernel_rfl) (by kernel_rfl) (fun _ _ _ h => h) (by rfl) ?_ (by assumption) ?_
                rotate_left
                · (intro w' hSw; (try dsimp only at hSw); go_simp; try with_reducible rfl)
                try simp only [Act.put, List.setIfInBounds_toArray, List.set_cons_zero, List.set_cons_succ]
                refine tkYes (i := 14) (v := .bool false) rfl rfl (by kernel_rfl) (by kernel_rfl) (by kernel_rfl) (fun _ _ _ h => h) (by rfl) ?_ (by assumption) ?_
                skip
                · (intro w' hSw; (try dsimp only at hSw); go_simp; try (simp [f1]; done))
                try simp only [Act.put, List.setIfInBounds_toArray, List.set_cons_zero, List.set_cons_succ]
                refine tkYes (i := 15) (v := ?_) rfl rfl (by kernel_rfl) (by kernel_rfl) (by kernel_rfl) (fun _ _ _ h => h) (by rfl) ?_ (by assumption) ?_
                rotate_left
                · (intro w' hSw; (try dsimp only at hSw); go_simp; try with_reducible rfl)
                try simp only [Act.put, List.setIfInBounds_toArray, List.set_cons_zero, List.set_cons_succ]
                refine tkNo (i := 16) rfl rfl (by kernel_rfl) (by kernel_rfl) (by kernel_rfl) (fun _ _ _ h => h) (by rfl) (by assumption) ?_
                try simp only [Act.put, List.setIfInBounds_toArray, List.set_cons_zero, List.set_cons_succ]
                refine tkNo (i := 17) rfl rfl (by kernel_rfl) (by kernel_rfl) (by kernel_rfl) (fun _ _ _ h => h) (by rfl) (by assumption) ?_
                try simp only [Act.put, List.setIfInBounds_toArray, List.set_cons_zero, List.set_cons_succ]
                refine tkNo (i := 18) rfl rfl (by kernel_rfl) (by kernel_rfl) (by kernel_rfl) (fun _ _ _ h => h) (by rfl) (by assumption) ?_
                try simp only [Act.put, List.setIfInBounds_toArray, List.set_cons_zero, List.set_cons_succ]
                refine tkNo (i := 19) rfl rfl (by kernel_rfl) (by kernel_rfl) (by kernel_rfl) (fun _ _ _ h => h) (by rfl) (by assumption) ?_
                try simp only [Act.put, List.setIfInBounds_toArray, List.set_cons_zero, List.set_cons_succ]
                refine tkNo (i := 20) rfl rfl (by kernel_rfl) (by kernel_rfl) (by kernel_rfl) (fun _ _ _ h => h) (by rfl) (by assumption) ?_
                try simp only [Act.put, List.setIfInBounds_toArray, List.set_cons_zero, List.set_cons_succ]
                refine tkNo (i := 21) rfl rfl (by kernel_rfl) (by kernel_rfl) (by kernel_rfl) (fun _ _ _ h => h) (by rfl) (by assumption) ?_
                try simp only [Act.put, List.setIfInBounds_toArray, List.set_cons_zero, List.set_cons_succ]
                refine tkNo (i := 22) rfl rfl (by kernel_rfl) (by kernel_rfl) (by kernel_rfl) (fun _ _ _ h => h) (by rfl) (by assumption) ?_
                try simp only [Act.put, List.setIfInBounds_toArray, List.set_cons_zero, List.set_cons_succ]
                refine tkNo (i := 23) rfl rfl (by kernel_rfl) (by kernel_rfl) (by kernel_rfl) (fun _ _ _ h => h) (by rfl) (by assumption) ?_
                try simp only [Act.put, List.setIfInBounds_toArray, List.set_cons_zero, List.set_cons_succ]
                refine tkNo (i := 24) rfl rfl (by kernel_rfl) (by kernel_rfl) (by kernel_rfl) (fun _ _ _ h => h) (by rfl) (by assumption) ?_
                try simp only [Act.put, List.setIfInBounds_toArray, List.set_cons_zero, List.set_cons_succ]
                refine tkNo (i := 25) rfl rfl (by kernel_rfl) (by kernel_rfl) (by kernel_rfl) (fun _ _ _ h => h) (by rfl) (by assumption) ?_
                try simp only [Act.put, List.setIfInBounds_toArray, List.set_cons_zero, List.set_cons_succ]
                refine tkNo (i := 26) rfl rfl (by kernel_rfl) (by kernel_rfl) (by kernel_rfl) (fun _ _ _ h => h) (by rfl) (by assumption) ?_
                try simp only [Act.put, List.setIfInBounds_toArray, List.set_cons_zero, List.set_cons_succ]
                refine tkNo (i := 27) rfl rfl (by kernel_rfl) (by kernel_rfl) (by kernel_rfl) (fun _ _ _ h => h) (by rfl) (by assumption) ?_
                try simp only [Act.put, List.setIfInBounds_toArray, List.set_cons_zero, List.set_cons_succ]
                refine tkNo (i := 28) rfl rfl (by kernel_rfl) (by kernel_rfl) (by kernel_rfl) (fun _ _ _ h => h) (by rfl) (by assumption) ?_
                try simp only [Act.put, List.setIfInBounds_toArray, List.set_cons_zero, List.set_cons_succ]
                refine tkYes (i := 29) (v := .bool false) rfl rfl (by kernel_rfl) (by kernel_rfl) (by kernel_rfl) (fun _ _ _ h => h) (by rfl) ?_ (by assumption) ?_
                skip
                · (intro w' hSw; (try dsimp only at hSw); go_simp; try (simp; done))
                try simp only [Act.put, List.setIfInBounds_toArray, List.set_cons_zero, List.set_cons_succ]
                refine tkYes (i := 30) (v := ?_) rfl rfl (by kernel_rfl) (by kernel_rfl) (by kernel_rfl) (fun _ _ _ h => h) (by rfl) ?_ (by assumption) ?_
                rotate_left
                · (intro w' hSw; (try dsimp only at hSw); go_simp; try with_reducible rfl)
                try simp only [Act.put, List.setIfInBounds_toArray, List.set_cons_zero, List.set_cons_succ]
                refine tkNo (i := 31) rfl rfl (by kernel_rfl) (by kernel_rfl) (by kernel_rfl) (fun _ _ _ h => h) (by rfl) (by assumption) ?_
                try simp only [Act.put, List.setIfInBounds_toArray, List.set_cons_zero, List.set_cons_succ]
                refine tkNo (i := 32) rfl rfl (by kernel_rfl) (by kernel_rfl) (by kernel_rfl) (fun _ _ _ h => h) (by rfl) (by assumption) ?_
                try simp only [Act.put, List.setIfInBounds_toArray, List.set_cons_zero, List.set_cons_succ]
                refine tkNo (i := 33) rfl rfl (by kernel_rfl) (by kernel_rfl) (by kernel_rfl) (fun _ _ _ h => h) (by rfl) (by assumption) ?_
                try simp only [Act.put, List.setIfInBounds_toArray, List.set_cons_zero, List.set_cons_succ]
                refine tkNo (i := 34) rfl rfl (by kernel_rfl) (by kernel_rfl) (by kernel_rfl) (fun _ _ _ h => h) (by rfl) (by assumption) ?_
                try simp only [Act.put, List.setIfInBounds_toArray, List.set_cons_zero, List.set_cons_succ]
                refine tkNo (i := 35) rfl rfl (by kernel_rfl) (by kernel_rfl) (by kernel_rfl) (fun _ _ _ h => h) (by rfl) (by assumption) ?_
                try simp only [Act.put, List.setIfInBounds_toArray, List.set_cons_zero, List.set_cons_succ]
                refine tkNo (i := 36) rfl rfl (by kernel_rfl) (by kernel_rfl) (by kernel_rfl) (fun _ _ _ h => h) (by rfl) (by assumption) ?_
                try simp only [Act.put, List.setIfInBounds_toArray, List.set_cons_zero, List.set_cons_succ]
                refine tkNo (i := 37) rfl rfl (by kernel_rfl) (by kernel_rfl) (by kernel_rfl) (fun _ _ _ h => h) (by rfl) (by assumption) ?_
                try simp only [Act.put, List.setIfInBounds_toArray, List.set_cons_zero, List.set_cons_succ]
                refine tkNo (i := 38) rfl rfl (by kernel_rfl) (by kernel_rfl) (by kernel_rfl) (fun _ _ _ h => h) (by rfl) (by assumption) ?_
                try simp only [Act.put, List.setIfInBounds_toArray, List.set_cons_zero, List.set_cons_succ]
                refine tkNo (i := 39) rfl rfl (by kernel_rfl) (by kernel_rfl) (by kernel_rfl) (fun _ _ _ h => h) (by rfl) (by assumption) ?_
                try simp only [Act.put, List.setIfInBounds_toArray, List.set_cons_zero, List.set_cons_succ]
                refine tkNo (i := 40) rfl rfl (by kernel_rfl) (by kernel_rfl) (by kernel_rfl) (fun _ _ _ h => h) (by rfl) (by assumption) ?_
                try simp only [Act.put, List.setIfInBounds_toArray, List.set_cons_zero, List.set_cons_succ]
                refine tkNo (i := 41) rfl rfl (by kernel_rfl) (by kernel_rfl) (by kernel_rfl) (fun _ _ _ h => h) (by rfl) (by assumption) ?_
                try simp only [Act.put, List.setIfInBounds_toArray, List.set_cons_zero, List.set_cons_succ]
                refine tkNo (i := 42) rfl rfl (by kernel_rfl) (by kernel_rfl) (by kernel_rfl) (fun _ _ _ h => h) (by rfl) (by assumption) ?_
                try simp only [Act.put, List.setIfInBounds_toArray, List.set_cons_zero, List.set_cons_succ]
                refine tkNo (i := 43) rfl rfl (by kernel_rfl) (by kernel_rfl) (by kernel_rfl) (fun _ _ _ h => h) (by rfl) (by assumption) ?_
                try simp only [Act.put, List.setIfInBounds_toArray, List.set_cons_zero, List.set_cons_succ]
                refine tkYes (i := 44) (v := .bool false) rfl rfl (by kernel_rfl) (by kernel_rfl) (by kernel_rfl) (fun _ _ _ h => h) (by rfl) ?_ (by assumption) ?_
                skip
                · (intro w' hSw; (try dsimp only at hSw); go_simp; try (simp; done))
                try simp only [Act.put, List.setIfInBounds_toArray, List.set_cons_zero, List.set_cons_succ]
                refine tkYes (i := 45) (v := .bool false) rfl rfl (by kernel_rfl) (by kernel_rfl) (by kernel_rfl) (fun _ _ _ h => h) (by rfl) ?_ (by assumption) ?_
                skip
                · (intro w' hSw; (try dsimp only at hSw); go_simp; try (simp; done))
                try simp only [Act.put, List.setIfInBounds_toArray, List.set_cons_zero, List.set_cons_succ]
                refine tkYes (i := 46) (v := ?_) rfl rfl (by kernel_rfl) (by kernel_rfl) (by kernel_rfl) (fun _ _ _ h => h) (by rfl) ?_ (by assumption) ?_
                rotate_left
                · (intro w' hSw; (try dsimp only at hSw); go_simp; try with_reducible rfl)
                try simp only [Act.put, List.setIfInBounds_toArray, List.set_cons_zero, List.set_cons_succ]
                refine wpAnyH_done (by kernel_rfl) ?_ _
                go_wp2_with fail
                go_roundw
                case rel => exact ⟨false, j + 1, by omega, rfl, by go_num, Lib.hid (fun _ q hq hqj => (Nat.lt_succ_iff_lt_or_eq.1 hqj).elim (fun h => HN1.out rfl q hq h) (fun he => by subst he; intro hh; rw [← EX.out, ← EY.out] at hh; exact f1 hh.1)), Lib.hid ⟨HQ.out.1.drew, HQ.out.2.1.drew, HQ.out.2.2.1.kept0 ((Kept.refl [] _).drew), HQ.out.2.2.2.1.kept0 ((Kept.refl [] _).drew), HQ.out.2.2.2.2.drew⟩⟩
                case measure => simp [intOf]; omega
            · obtain ⟨X, hX⟩ : ∃ X, X = C[j] := ⟨_, rfl⟩
              obtain ⟨Y, hY⟩ : ∃ Y, Y = N[k] := ⟨_, rfl⟩
              rw [← hX] at q0 q1 q2
              rw [← hY] at p0 p1 p2
              have EX := Lib.hid hX
              have EY := Lib.hid hY
              clear hX hY
              go_upto_region 19 with (fail)
              refine wp_region_held_drew (S := (fun w' => w'.cell? ⟨g7, 1, none⟩ = some (.slice (some ⟨b7, o7, none⟩) C.length c7) ∧ w'.cell? ⟨g5, 1, none⟩ = some (.slice (some ⟨b5, o5, none⟩) N.length c5) ∧ w'.cell? ⟨b7, o7 + j * 3, none⟩ = some (.int .i64 X.1) ∧ w'.cell? ⟨b7, o7 + j * 3 + 1, none⟩ = some (.int .i64 X.2.1) ∧ w'.cell? ⟨b7, o7 + j * 3 + 2, none⟩ = some (.int .i64 X.2.2) ∧ w'.cell? ⟨b5, o5 + k * 3, none⟩ = some (.int .i64 Y.1) ∧ w'.cell? ⟨b5, o5 + k * 3 + 1, none⟩ = some (.int .i64 Y.2.1) ∧ w'.cell? ⟨b5, o5 + k * 3 + 2, none⟩ = some (.int .i64 Y.2.2))) (by kernel_rfl) ?_ (fun hHeld => ?_)
              · exact ⟨a2, a1, q0, q1, q2, p0, p1, p2⟩
              refine tkYes (i := 0) (v := ?_) rfl rfl (by kernel_rfl) (by kernel_rfl) (by kernel_rfl) (fun _ _ _ h => h) (by rfl) ?_ (by assumption) ?_
              rotate_left
              · (intro w' hSw; (try dsimp only at hSw); go_simp; try with_reducible rfl)
              try simp only [Act.put, List.setIfInBounds_toArray, List.set_cons_zero, List.set_cons_succ]
              refine tkYes (i := 1) (v := ?_) rfl rfl (by kernel_rfl) (by kernel_rfl) (by kernel_rfl) (fun _ _ _ h => h) (by rfl) ?_ (by assumption) ?_
              rotate_left
              · (intro w' hSw; (try dsimp only at hSw); go_simp; try with_reducible rfl)
              try simp only [Act.put, List.setIfInBounds_toArray, List.set_cons_zero, List.set_cons_succ]
              refine tkNo (i := 2) rfl rfl (by kernel_rfl) (by kernel_rfl) (by kernel_rfl) (fun _ _ _ h => h) (by rfl) (by assumption) ?_
              try simp only [Act.put, List.setIfInBounds_toArray, List.set_cons_zero, List.set_cons_succ]
              refine tkNo (i := 3) rfl rfl (by kernel_rfl) (by kernel_rfl) (by kernel_rfl) (fun _ _ _ h => h) (by rfl) (by assumption) ?_
              try simp only [Act.put, List.setIfInBounds_toArray, List.set_cons_zero, List.set_cons_succ]
              refine tkNo (i := 4) rfl rfl (by kernel_rfl) (by kernel_rfl) (by kernel_rfl) (fun _ _ _ h => h) (by rfl) (by assumption) ?_
              try simp only [Act.put, List.setIfInBounds_toArray, List.set_cons_zero, List.set_cons_succ]
              refine tkNo (i := 5) rfl rfl (by kernel_rfl) (by kernel_rfl) (by kernel_rfl) (fun _ _ _ h => h) (by rfl) (by assumption) ?_
              try simp only [Act.put, List.setIfInBounds_toArray, List.set_cons_zero, List.set_cons_succ]
              refine tkNo (i := 6) rfl rfl (by kernel_rfl) (by kernel_rfl) (by kernel_rfl) (fun _ _ _ h => h) (by rfl) (by assumption) ?_
              try simp only [Act.put, List.setIfInBounds_toArray, List.set_cons_zero, List.set_cons_succ]
              refine tkNo (i := 7) rfl rfl (by kernel_rfl) (by kernel_rfl) (by kernel_rfl) (fun _ _ _ h => h) (by rfl) (by assumption) ?_
              try simp only [Act.put, List.setIfInBounds_toArray, List.set_cons_zero, List.set_cons_succ]
              refine tkNo (i := 8) rfl rfl (by kernel_rfl) (by kernel_rfl) (by kernel_rfl) (fun _ _ _ h => h) (by rfl) (by assumption) ?_
              try simp only [Act.put, List.setIfInBounds_toArray, List.set_cons_zero, List.set_cons_succ]
              refine tkNo (i := 9) rfl rfl (by kernel_rfl) (by kernel_rfl) (by kernel_rfl) (fun _ _ _ h => h) (by rfl) (by assumption) ?_
              try simp only [Act.put, List.setIfInBounds_toArray, List.set_cons_zero, List.set_cons_succ]
              refine tkNo (i := 10) rfl rfl (by kernel_rfl) (by kernel_rfl) (by kernel_rfl) (fun _ _ _ h => h) (by rfl) (by assumption) ?_
              try simp only [Act.put, List.setIfInBounds_toArray, List.set_cons_zero, List.set_cons_succ]
              refine tkNo (i := 11) rfl rfl (by kernel_rfl) (by kernel_rfl) (by kernel_rfl) (fun _ _ _ h => h) (by rfl) (by assumption) ?_
              try simp only [Act.put, List.setIfInBounds_toArray, List.set_cons_zero, List.set_cons_succ]
              refine tkNo (i := 12) rfl rfl (by kernel_rfl) (by kernel_rfl) (by kernel_rfl) (fun _ _ _ h => h) (by rfl) (by assumption) ?_
              try simp only [Act.put, List.setIfInBounds_toArray, List.set_cons_zero, List.set_cons_succ]
              refine tkNo (i := 13) rfl rfl (by kernel_rfl) (by kernel_rfl) (by kernel_rfl) (fun _ _ _ h => h) (by rfl) (by assumption) ?_
              try simp only [Act.put, List.setIfInBounds_toArray, List.set_cons_zero, List.set_cons_succ]
              refine tkNo (i := 14) rfl rfl (by kernel_rfl) (by kernel_rfl) (by kernel_rfl) (fun _ _ _ h => h) (by rfl) (by assumption) ?_
              try simp only [Act.put, List.setIfInBounds_toArray, List.set_cons_zero, List.set_cons_succ]
              refine tkNo (i := 15) rfl rfl (by kernel_rfl) (by kernel_rfl) (by kernel_rfl) (fun _ _ _ h => h) (by rfl) (by assumption) ?_
              try simp only [Act.put, List.setIfInBounds_toArray, List.set_cons_zero, List.set_cons_succ]
              refine tkNo (i := 16) rfl rfl (by kernel_rfl) (by kernel_rfl) (by kernel_rfl) (fun _ _ _ h => h) (by rfl) (by assumption) ?_
              try simp only [Act.put, List.setIfInBounds_toArray, List.set_cons_zero, List.set_cons_succ]
              refine tkNo (i := 17) rfl rfl (by kernel_rfl) (by kernel_rfl) (by kernel_rfl) (fun _ _ _ h => h) (by rfl) (by assumption) ?_
              try simp only [Act.put, List.setIfInBounds_toArray, List.set_cons_zero, List.set_cons_succ]
              refine tkNo (i := 18) rfl rfl (by kernel_rfl) (by kernel_rfl) (by kernel_rfl) (fun _ _ _ h => h) (by rfl) (by assumption) ?_
              try simp only [Act.put, List.setIfInBounds_toArray, List.set_cons_zero, List.set_cons_succ]
              refine tkNo (i := 19) rfl rfl (by kernel_rfl) (by kernel_rfl) (by kernel_rfl) (fun _ _ _ h => h) (by rfl) (by assumption) ?_
              try simp only [Act.put, List.setIfInBounds_toArray, List.set_cons_zero, List.set_cons_succ]
              refine tkNo (i := 20) rfl rfl (by kernel_rfl) (by kernel_rfl) (by kernel_rfl) (fun _ _ _ h => h) (by rfl) (by assumption) ?_
              try simp only [Act.put, List.setIfInBounds_toArray, List.set_cons_zero, List.set_cons_succ]
              refine tkNo (i := 21) rfl rfl (by kernel_rfl) (by kernel_rfl) (by kernel_rfl) (fun _ _ _ h => h) (by rfl) (by assumption) ?_
              try simp only [Act.put, List.setIfInBounds_toArray, List.set_cons_zero, List.set_cons_succ]
              refine tkNo (i := 22) rfl rfl (by kernel_rfl) (by kernel_rfl) (by kernel_rfl) (fun _ _ _ h => h) (by rfl) (by assumption) ?_
              try simp only [Act.put, List.setIfInBounds_toArray, List.set_cons_zero, List.set_cons_succ]
              refine tkNo (i := 23) rfl rfl (by kernel_rfl) (by kernel_rfl) (by kernel_rfl) (fun _ _ _ h => h) (by rfl) (by assumption) ?_
              try simp only [Act.put, List.setIfInBounds_toArray, List.set_cons_zero, List.set_cons_succ]
              refine tkNo (i := 24) rfl rfl (by kernel_rfl) (by kernel_rfl) (by kernel_rfl) (fun _ _ _ h => h) (by rfl) (by assumption) ?_
              try simp only [Act.put, List.setIfInBounds_toArray, List.set_cons_zero, List.set_cons_succ]
              refine tkNo (i := 25) rfl rfl (by kernel_rfl) (by kernel_rfl) (by kernel_rfl) (fun _ _ _ h => h) (by rfl) (by assumption) ?_
              try simp only [Act.put, List.setIfInBounds_toArray, List.set_cons_zero, List.set_cons_succ]
              refine tkNo (i := 26) rfl rfl (by kernel_rfl) (by kernel_rfl) (by kernel_rfl) (fun _ _ _ h => h) (by rfl) (by assumption) ?_
              try simp only [Act.put, List.setIfInBounds_toArray, List.set_cons_zero, List.set_cons_succ]
              refine tkNo (i := 27) rfl rfl (by kernel_rfl) (by kernel_rfl) (by kernel_rfl) (fun _ _ _ h => h) (by rfl) (by assumption) ?_
              try simp only [Act.put, List.setIfInBounds_toArray, List.set_cons_zero, List.set_cons_succ]
              refine tkNo (i := 28) rfl rfl (by kernel_rfl) (by kernel_rfl) (by kernel_rfl) (fun _ _ _ h => h) (by rfl) (by assumption) ?_
              try simp only [Act.put, List.setIfInBounds_toArray, List.set_cons_zero, List.set_cons_succ]
              refine tkNo (i := 29) rfl rfl (by kernel_rfl) (by kernel_rfl) (by kernel_rfl) (fun _ _ _ h => h) (by rfl) (by assumption) ?_
              try simp only [Act.put, List.setIfInBounds_toArray, List.set_cons_zero, List.set_cons_succ]
              refine tkNo (i := 30) rfl rfl (by kernel_rfl) (by kernel_rfl) (by kernel_rfl) (fun _ _ _ h => h) (by rfl) (by assumption) ?_
              try simp only [Act.put, List.setIfInBounds_toArray, List.set_cons_zero, List.set_cons_succ]
              refine tkNo (i := 31) rfl rfl (by kernel_rfl) (by kernel_rfl) (by kernel_rfl) (fun _ _ _ h => h) (by rfl) (by assumption) ?_
              try simp only [Act.put, List.setIfInBounds_toArray, List.set_cons_zero, List.set_cons_succ]
              refine tkNo (i := 32) rfl rfl (by kernel_rfl) (by kernel_rfl) (by kernel_rfl) (fun _ _ _ h => h) (by rfl) (by assumption) ?_
              try simp only [Act.put, List.setIfInBounds_toArray, List.set_cons_zero, List.set_cons_succ]
              refine tkNo (i := 33) rfl rfl (by kernel_rfl) (by kernel_rfl) (by kernel_rfl) (fun _ _ _ h => h) (by rfl) (by assumption) ?_
              try simp only [Act.put, List.setIfInBounds_toArray, List.set_cons_zero, List.set_cons_succ]
              refine tkNo (i := 34) rfl rfl (by kernel_rfl) (by kernel_rfl) (by kernel_rfl) (fun _ _ _ h => h) (by rfl) (by assumption) ?_
              try simp only [Act.put, List.setIfInBounds_toArray, List.set_cons_zero, List.set_cons_succ]
              refine tkNo (i := 35) rfl rfl (by kernel_rfl) (by kernel_rfl) (by kernel_rfl) (fun _ _ _ h => h) (by rfl) (by assumption) ?_
              try simp only [Act.put, List.setIfInBounds_toArray, List.set_cons_zero, List.set_cons_succ]
              refine tkNo (i := 36) rfl rfl (by kernel_rfl) (by kernel_rfl) (by kernel_rfl) (fun _ _ _ h => h) (by rfl) (by assumption) ?_
              try simp only [Act.put, List.setIfInBounds_toArray, List.set_cons_zero, List.set_cons_succ]
              refine tkNo (i := 37) rfl rfl (by kernel_rfl) (by kernel_rfl) (by kernel_rfl) (fun _ _ _ h => h) (by rfl) (by assumption) ?_
              try simp only [Act.put, List.setIfInBounds_toArray, List.set_cons_zero, List.set_cons_succ]
              refine tkNo (i := 38) rfl rfl (by kernel_rfl) (by kernel_rfl) (by kernel_rfl) (fun _ _ _ h => h) (by rfl) (by assumption) ?_
              try simp only [Act.put, List.setIfInBounds_toArray, List.set_cons_zero, List.set_cons_succ]
              refine tkNo (i := 39) rfl rfl (by kernel_rfl) (by kernel_rfl) (by kernel_rfl) (fun _ _ _ h => h) (by rfl) (by assumption) ?_
              try simp only [Act.put, List.setIfInBounds_toArray, List.set_cons_zero, List.set_cons_succ]
              refine tkNo (i := 40) rfl rfl (by kernel_rfl) (by kernel_rfl) (by kernel_rfl) (fun _ _ _ h => h) (by rfl) (by assumption) ?_
              try simp only [Act.put, List.setIfInBounds_toArray, List.set_cons_zero, List.set_cons_succ]
              refine tkNo (i := 41) rfl rfl (by kernel_rfl) (by kernel_rfl) (by kernel_rfl) (fun _ _ _ h => h) (by rfl) (by assumption) ?_
              try simp only [Act.put, List.setIfInBounds_toArray, List.set_cons_zero, List.set_cons_succ]
              refine tkNo (i := 42) rfl rfl (by kernel_rfl) (by kernel_rfl) (by kernel_rfl) (fun _ _ _ h => h) (by rfl) (by assumption) ?_
              try simp only [Act.put, List.setIfInBounds_toArray, List.set_cons_zero, List.set_cons_succ]
              refine tkNo (i := 43) rfl rfl (by kernel_rfl) (by kernel_rfl) (by kernel_rfl) (fun _ _ _ h => h) (by rfl) (by assumption) ?_
              try simp only [Act.put, List.setIfInBounds_toArray, List.set_cons_zero, List.set_cons_succ]
              refine tkNo (i := 44) rfl rfl (by kernel_rfl) (by kernel_rfl) (by kernel_rfl) (fun _ _ _ h => h) (by rfl) (by assumption) ?_
              try simp only [Act.put, List.setIfInBounds_toArray, List.set_cons_zero, List.set_cons_succ]
              refine tkYes (i := 45) (v := .bool true) rfl rfl (by kernel_rfl) (by kernel_rfl) (by kernel_rfl) (fun _ _ _ h => h) (by rfl) ?_ (by assumption) ?_
              skip
              · (intro w' hSw; (try dsimp only at hSw); go_simp; try (simp; done))
              try simp only [Act.put, List.setIfInBounds_toArray, List.set_cons_zero, List.set_cons_succ]
              refine tkYes (i := 46) (v := ?_) rfl rfl (by kernel_rfl) (by kernel_rfl) (by kernel_rfl) (fun _ _ _ h => h) (by rfl) ?_ (by assumption) ?_
              rotate_left
              · (intro w' hSw; (try dsimp only at hSw); go_simp; try with_reducible rfl)
              try simp only [Act.put, List.setIfInBounds_toArray, List.set_cons_zero, List.set_cons_succ]
              refine wpAnyH_done (by kernel_rfl) ?_ _
              go_wp2_with fail
              go_roundw
              case rel => exact ⟨true, j + 1, by omega, rfl, by go_num, Lib.hid (fun h => by cases h), Lib.hid ⟨HQ.out.1.drew, HQ.out.2.1.drew, HQ.out.2.2.1.kept0 ((Kept.refl [] _).drew), HQ.out.2.2.2.1.kept0 ((Kept.refl [] _).drew), HQ.out.2.2.2.2.drew⟩⟩
              case measure => simp [intOf]; omega
          · go_wp2_with fail
            go_meet
            refine ⟨?_, HQ⟩
            cases b
            · exact (HHIT.out N[k] (List.getElem_mem _) (fun q hq => HN1.out rfl q hq (by omega))).elim
            · rfl
      case rest =>
        obtain ⟨rfl, HQ'⟩ := hcut
        clear HQ a1 a2 a3 a4
        go_wp2_with fail
        go_roundw
        case rel => exact ⟨k + 1, by omega, by go_num, HQ'⟩
        case measure => simp [intOf]; omega
    · have hlt2 : ¬ (k : Int) < (N.length : Int) := by omega
      go_wp2_with fail
      go_ret
      exact ⟨rfl, HQ.out.2.2.2.2⟩

set_option maxRecDepth 100000 in
theorem edgesCanon_lifted (os : Os) (started : os.Started) (H : Type) (enc : TypeId × Value → H) :
    ReturnsInHanded {} Try.checked os 6 .any (Rows.edgesCanonSpec.pre6 enc Try.prog Try.f6 Rows.edgesCanonRow.domain false) (Rows.edgesCanonSpec.post enc Try.prog Try.f6 false true false false) := by
  refine returnsInHanded_of_change (C := Try.checked) own started (by kernel_rfl) Try.func6
    (ChangeSpec.witness6 (enc := enc) (C := Try.checked) false ⟨#[], #[.agg #[.int .i64 0, .slice none 0 0], .slice none 0 0], []⟩ 8 (by kernel_rfl) (by kernel_rfl) (by kernel_rfl) (by kernel_rfl)) ?_
  intro W base args ds gs before hval0 hW hcnd _
  have hval : ∀ (j : Nat) t v, Try.f6.params[j]? = some t → args[j]? = some v → Value.okWide Try.prog W .any base t v := hval0
  have hW' := hW
  obtain ⟨p, q, hA0, hV, rfl, hfz, hnd⟩ := hW
  have hA : DataW.TrodAll enc Try.prog W 0 (fun _ => true) true Try.f6.params.toList args.toList ds p := hA0
  rw [Try.params6] at hA hval
  obtain ⟨v0, vs0, d0, ds0, p0, q0, hargs, rfl, rfl, h0, r0⟩ := trodAll_cons hA
  obtain ⟨v1, vs1, d1, ds1, p1, q1, rfl, rfl, rfl, h1, r1⟩ := trodAll_cons r0
  obtain ⟨rfl, rfl, rfl⟩ := trodAll_nil r1
  obtain rfl : args = #[v0, v1] := by cases args; simp_all
  obtain ⟨rfl, rfl⟩ := trodVars_none hV
  obtain ⟨n, A, c, l, rfl, l1, l2, hAr, hw, hn⟩ := open_graph (hval 0 24 v0 rfl rfl) h0
  obtain ⟨B, d, m, rfl, m1, m2, hBr, hwm⟩ := open_edges (hval 1 22 v1 rfl rfl) h1
  refine (edgesCanon_walk n l A c m B d W hAr hw l1 l2 hBr hwm m1 m2).mono fun e W' ⟨he, hk⟩ => ?_
  exact ⟨_, he, post_true rfl Try.underlying4 rfl rfl rfl rfl laidOut (by decide +kernel) hW' hk⟩

theorem edgesCanon_holds : Rows.EdgesCanonSaid :=
  OpenClaim.holds_of_wide 6 Try.f6 rfl rfl rfl rfl rfl rfl rfl ⟨rfl, rfl, rfl, rfl, rfl⟩ rfl rfl rfl rfl rfl (by kernel_rfl) Try.func6 (by kernel_rfl)
    (of_decide_eq_true (by kernel_rfl)) (by unfold Func.isWrapper; first | (rw [if_pos (by decide +kernel)]; kernel_rfl) | (rw [if_neg (by decide +kernel)]; exact ⟨rfl, rfl⟩))
    (fun os started H enc _ => edgesCanon_lifted os started H enc)
end Go.Proofs.Ytfnhfmffkjljnaa
