/- Loader: the walk of Decode. -/
import Derived.Test.YtibjpjpbmkdddaaLr
import Derived.Test.YtibjpjpbmkdddaaLj
import Derived.Test.YtibjpjpbmkdddaaE21
import Derived.Test.YtibjpjpbmkdddaaE15
namespace Go.Proofs.Ytibjpjpbmkdddaa
set_option linter.unusedSimpArgs false
set_option linter.unusedVariables false
open Go.ChangeShapes Go.WideShapes Go.ChangeAt Go.RowKit
open Go.RowKit (wrap32 wrap64)
set_option maxHeartbeats 8000000

section
variable {P : Program} {ops : Array Oper} {K : Act → World → Prop} {Q : Exit → Act → World → Prop} {o : Oper} {a : Act} {w : World}
theorem step_storeBlk {E : Prop} (hg : o.guard = none) (ty : TypeId) (x y : Operand) (ho : o.op = .store ty x y) (g : Nat) (cs news : List Value) (hb : Blk w g ty cs) (hl : news.length = cs.length) (hx : a.eval x = .pointer (some ⟨g, 0, none⟩)) (hy : a.eval y = .agg news.toArray)
    (hi : (P.info? ty).map (·.size) = some news.length) (h1 : news.toArray.all (·.oneCell') = true) (h : ∀ w', Blk w' g ty news → Kept [g] w w' → K (a.put o.dst undef) w') :
    if Region.wanted o (yielded ops a.tmps) = true then Oper.wp P o a w K Q else E := by
  refine step_storeMid hg ty x y ho g 0 news.toArray hx hy (fun j hj => ?_) (by simpa using hi) h1 ?_
  · rw [Nat.zero_add, hb.cell, hb.frozen]
    exact ⟨by rw [List.getElem?_eq_getElem (by simp at hj; omega)]; rfl, rfl⟩
  · have h2 := Blk.setMid news w 0 cs (by omega) hb
    simp only [List.take_zero, List.nil_append, Nat.zero_add] at h2
    rw [hl, List.drop_length, List.append_nil] at h2
    exact h _ h2.1 h2.2
end
theorem stp_inj {e a e' a' : Int} (h : Ending.panicked [stp e' a'] = .panicked [stp e a]) : e' = e ∧ a' = a := by
  simpa [stp] using h
/-- How Decode ends. -/
def DecPost (w : World) (r : Except (Int × Int) (Int × List Ed)) (x : Ending) (w' : World) : Prop :=
  match r with
  | .ok (n, l) => (∃ v, x = .returned (.tuple #[.agg #[.int .i64 n, v], .agg #[.int .i64 0, .int .i64 0]]) ∧ w'.ownsRow w.heap.size 28 3 v l.length (l.flatMap edV)) ∧ Kept [] w w'
  | .error (e, a) => x = .returned (.tuple #[.agg #[.int .i64 0, .slice none 0 0], .agg #[.int .i64 e, .int .i64 a]]) ∧ Kept [] w w'
theorem decG_err {b : List UInt8} {e a : Int} (h : (Rd.mk b 0 0 0).graphE = .error (e, a)) : e ≠ 0 := (good_graph.ebad (by rw [← graph_E]; exact h)).1
theorem decG_in {b : List UInt8} {k N : Int} {l : List Ed} {R : Rd} (h : (Rd.mk b 0 0 0).graphE = .ok ((k, N, l), R)) : okRaw (k, N, l) ∧ rawB (k, N, l) = b := good_graph.esound (by rw [← graph_E]; exact h)
theorem okRaw_in {k N : Int} {l : List Ed} (h : okRaw (k, N, l)) : ∀ e ∈ l, In64 e.2.2 := fun e he => by
  have h1 := (h.2.2.2 e he).2.2
  unfold In64
  split at h1
  · omega
  · rw [h1]; decide
theorem okRaw_len {k N : Int} {l : List Ed} (h : okRaw (k, N, l)) : l.length ≤ 65536 := by
  have h1 : (l.length : Int) ≤ 65536 := h.2.2.1.2
  omega
set_option maxRecDepth 100000 in
theorem decode_any (b : List UInt8) (A : Option Addr) (c : Nat) (w : World) (hr : Reads w A (b.map byteV)) (hl : b.length ≤ 1073741824) :
    Calls Try.prog 24 #[.slice A b.length c] w (DecPost w (decG b)) := by
  have HR := Lib.hid (hr.kept0 (((Kept.refl [] w).alloc (.cells #[.int .i64 0, .slice none 0 0] 24)).alloc (.cells #[.int .i64 0, .int .i64 0] 36)))
  have K0 := Lib.hid (((Kept.refl [] w).alloc (.cells #[.int .i64 0, .slice none 0 0] 24)).alloc (.cells #[.int .i64 0, .int .i64 0] 36))
  have HZ1 := Lib.hid ((Blk.new w 24 [.int .i64 0, .slice none 0 0]).alloc (.cells #[.int .i64 0, .int .i64 0] 36))
  have HZ2 := Lib.hid (Blk.new1F w (.cells #[.int .i64 0, .slice none 0 0] 24) 36 [.int .i64 0, .int .i64 0])
  have HG1 := Lib.hid (Nat.le_refl w.heap.size)
  have HG2 := Lib.hid (show w.heap.size ≤ w.heap.size + 1 by omega)
  clear hr
  obtain ⟨post, hpost⟩ : ∃ post : Ending → World → Prop, post = DecPost w (decG b) := ⟨_, rfl⟩
  rw [← hpost]
  have HPOST := Lib.hid hpost
  clear hpost
  go_enter Try.func24, Try.ntmps24
  go_wp2_with fail
  refine (open_any b A c _ HR.out hl).mono ?_
  rintro e w1 ⟨p, rfl, hp, hrd, hk⟩
  replace K0 := Lib.hid (K0.out.trans hk)
  replace HZ1 := Lib.hid (HZ1.out.kept hk (by simp))
  replace HZ2 := Lib.hid (HZ2.out.kept hk (by simp))
  have HRD := Lib.hid hrd
  have HP := Lib.hid (show w.heap.size ≤ p by simp at hp; omega)
  clear hp hrd hk HR
  go_upto_region 3 with (fail)
  obtain ⟨r1, hr1⟩ : ∃ r1, r1 = w.heap.size := ⟨_, rfl⟩
  obtain ⟨r2, hr2⟩ : ∃ r2, r2 = w.heap.size + 1 := ⟨_, rfl⟩
  rw [← hr2] at HZ2 HG2 ⊢
  replace HG1 := Lib.hid (show w.heap.size ≤ r1 by omega)
  rw [← hr1] at HZ1 ⊢
  clear hr1 hr2
  have K1 : Kept [] w1 ((w1.alloc (.cells #[.pointer (some ⟨p, 0, none⟩)] 77)).alloc (.cells #[.int .i64 0, .slice none 0 0] 24)) := ((Kept.refl [] w1).alloc _).alloc _
  have HB := Lib.hid ((Blk.new w1 77 [.pointer (some ⟨p, 0, none⟩)]).alloc (.cells #[.int .i64 0, .slice none 0 0] 24))
  have HG := Lib.hid (Blk.new1F w1 (.cells #[.pointer (some ⟨p, 0, none⟩)] 77) 24 [.int .i64 0, .slice none 0 0])
  have HNE := Lib.hid (show r1 ≠ w1.heap.size + 1 by have := HZ1.out.lt; omega)
  have HGG := Lib.hid (show w.heap.size ≤ w1.heap.size + 1 by have := K0.out.size; omega)
  replace HZ1 := Lib.hid (HZ1.out.kept K1 (by simp))
  replace HZ2 := Lib.hid (HZ2.out.kept K1 (by simp))
  replace HRD := Lib.hid (HRD.out.kept0 K1)
  replace K0 := Lib.hid (K0.out.trans K1)
  clear K1
  generalize (w1.alloc (.cells #[.pointer (some ⟨p, 0, none⟩)] 77)).alloc (.cells #[.int .i64 0, .slice none 0 0] 24) = w3 at *
  generalize w1.heap.size + 1 = g at *
  generalize w1.heap.size = q at *
  go_wp2_with fail
  refine (caughtG_of _ _ (GPost p g _ (Rd.graphE ⟨b, 0, 0, 0⟩)) (graph_any p q g _ _ _ _ (HRD.out.kept0 ((Kept.refl [] _).alloc _)) (HB.out.alloc _) (HG.out.alloc _)) ?_).mono ?_
  · intro x wz hG
    have hf : w3.heap.size ∉ [p, g] := by
      obtain ⟨_, _, hb, _⟩ := HRD.out.ex
      have h1 := hb.lt
      have h2 := HG.out.lt
      simp
      omega
    rcases hr : (Rd.mk b 0 0 0).graphE with ⟨e, a⟩ | ⟨⟨k, N, l⟩, R'⟩
    · rw [hr] at hG
      obtain ⟨rfl, hk⟩ := hG
      exact ⟨.inr ⟨e, a, rfl⟩, (Blk.new w3 36 [.int .i64 0, .int .i64 0]).kept hk hf⟩
    · rw [hr] at hG
      obtain ⟨rfl, _, hk⟩ := hG
      exact ⟨.inl rfl, (Blk.new w3 36 [.int .i64 0, .int .i64 0]).kept hk hf⟩
  rintro x w4 ⟨w5, hk5, hcase⟩
  have hzf : r1 ∉ [p, g] := by have h1 := rd_ne HRD.out HZ1.out (by decide); have h2 := HNE.out; simp at h1 ⊢; exact ⟨h1, h2⟩
  have hzg : r2 ∉ [p, g] := by have h1 := rd_ne HRD.out HZ2.out (by decide); have h2 := HZ2.out.ne HG.out (by decide); simp at h1 ⊢; exact ⟨h1, h2⟩
  have hz1 : r1 ∉ [w3.heap.size] := by have := HZ1.out.lt; simp; omega
  have hz2 : r2 ∉ [w3.heap.size] := by have := HZ2.out.lt; simp; omega
  have hgf : g ∉ [w3.heap.size] := by have := HG.out.lt; simp; omega
  rcases hr : (Rd.mk b 0 0 0).graphE with ⟨e, a⟩ | ⟨⟨k, N, l⟩, R'⟩
  · rw [hr] at hcase
    have he := decG_err hr
    have E1 := Lib.hid (show decG b = .error (e, a) by unfold decG; rw [hr]; rfl)
    obtain ⟨hk, rfl⟩ : Kept [p, g] (w3.alloc (.cells #[.int .i64 0, .int .i64 0] 36)) w5 ∧ x = .returned (.agg #[.int .i64 e, .int .i64 a]) := by
      rcases hcase with ⟨hG, rfl⟩ | ⟨e', a', hG, rfl⟩
      · exact absurd hG.1 (by simp)
      · obtain ⟨rfl, rfl⟩ := stp_inj hG.1
        exact ⟨hG.2, rfl⟩
    have K2 := Lib.hid ((K0.out.alloc (.cells #[.int .i64 0, .int .i64 0] 36)).then hk (fun m hm => by simp at hm; rcases hm with rfl | rfl <;> first | exact .inr HP.out | exact .inr HGG.out))
    replace HZ1 := Lib.hid (((HZ1.out.alloc _).kept hk hzf).kept hk5 hz1)
    replace HZ2 := Lib.hid (((HZ2.out.alloc _).kept hk hzg).kept hk5 hz2)
    replace K0 := Lib.hid (K2.out.then hk5 (fun m hm => by simp at hm; subst hm; exact .inr K0.out.size))
    clear hk hk5 hcase hr hzf hzg hz1 hz2 hgf K2 HRD HB HG
    have HF := Lib.hid (Blk.new w4 36 [.int .i64 e, .int .i64 a])
    have hne : w4.heap.size ≠ r2 := by have := HZ2.out.lt; omega
    have HNF := Lib.hid hne
    replace HZ1 := Lib.hid (HZ1.out.alloc (.cells #[.int .i64 e, .int .i64 a] 36))
    replace HZ2 := Lib.hid (HZ2.out.alloc (.cells #[.int .i64 e, .int .i64 a] 36))
    replace K0 := Lib.hid (K0.out.alloc (.cells #[.int .i64 e, .int .i64 a] 36))
    clear hne
    go_upto_region 5 with (fail)
    generalize w4.alloc (.cells #[.int .i64 e, .int .i64 a] 36) = w6 at *
    generalize w4.heap.size = f6 at *
    refine wp_region_held_drew (S := (fun w' => w'.rangeAt f6 0 [.int .i64 e, .int .i64 a])) (by kernel_rfl) ?_ (fun hHeld => ?_)
    · exact HF.out.cell2
    replace HF := Lib.hid HF.out.drew
    replace HZ1 := Lib.hid HZ1.out.drew
    replace HZ2 := Lib.hid HZ2.out.drew
    replace K0 := Lib.hid K0.out.drew
    refine tkYes (i := 0) (v := ?_) rfl rfl (by kernel_rfl) (by kernel_rfl) (by kernel_rfl) (fun _ _ _ h => h) (by rfl) ?_ (by assumption) ?_
    rotate_left
    · (intro w' hSw; (try dsimp only at hSw); go_simp; try with_reducible rfl)
    try simp only [Act.put, List.setIfInBounds_toArray, List.set_cons_zero, List.set_cons_succ]
    refine tkLoad (i := 1) 36 (.tmp 6) f6 (0) [.int .i64 e, .int .i64 a] _ rfl rfl (by kernel_rfl) (by kernel_rfl) (by kernel_rfl) (fun _ _ _ h => h) (by rfl) rfl rfl (fun w hw => hw) Try.underlying36 rfl infoFault (by assumption) ?_
    try simp only [Act.put, List.setIfInBounds_toArray, List.set_cons_zero, List.set_cons_succ]
    refine wpAnyH_ready (rs := [2]) (by kernel_rfl) (by simp) ?_
    refine AllReadyH.cons rfl (fun K hK => ?_) AllReadyH.nil
    refine step_storeBlk rfl 24 (.tmp 2) (.tmp 15) rfl r1 _ [.int .i64 0, .slice none 0 0] HZ1.out rfl rfl rfl infoGraph (by simp [Value.oneCell']) ?_
    intro w7 hb hk
    replace K0 := Lib.hid (K0.out.then hk (fun m hm => by simp at hm; subst hm; exact .inr HG1.out))
    replace HF := Lib.hid (HF.out.kept hk (by have := HF.out.ne HZ1.out (by decide); simpa using this))
    replace HZ2 := Lib.hid (HZ2.out.kept hk (by have := HZ2.out.ne HZ1.out (by decide); simpa using this))
    replace HZ1 := Lib.hid hb
    clear hb hk
    refine hK.out _ _ ?_ (fun hHeld => ?_)
    · exact HF.out.cell2
    clear hK K
    try simp only [Act.put, List.setIfInBounds_toArray, List.set_cons_zero, List.set_cons_succ]
    refine wpAnyH_ready (rs := [3]) (by kernel_rfl) (by simp) ?_
    refine AllReadyH.cons rfl (fun K hK => ?_) AllReadyH.nil
    refine step_storeBlk rfl 36 (.tmp 3) (.tmp 16) rfl r2 _ [.int .i64 e, .int .i64 a] HZ2.out rfl rfl rfl infoFault (by simp [Value.oneCell']) ?_
    intro w8 hb hk
    replace K0 := Lib.hid (K0.out.then hk (fun m hm => by simp at hm; subst hm; exact .inr HG2.out))
    replace HF := Lib.hid (HF.out.kept hk (by simpa using HNF.out))
    replace HZ1 := Lib.hid (HZ1.out.kept hk (by have := HZ1.out.ne HZ2.out (by decide); simpa using this))
    replace HZ2 := Lib.hid hb
    clear hb hk
    refine hK.out _ _ ?_ (fun hHeld => ?_)
    · exact HF.out.cell2
    clear hK K
    try simp only [Act.put, List.setIfInBounds_toArray, List.set_cons_zero, List.set_cons_succ]
    refine wpAnyH_done (by kernel_rfl) ?_ _
    go_wp2_with fail
    have g0 := HZ1.out.cell 0
    have g1 := HZ1.out.cell 1
    have z0 := HZ2.out.cell 0
    have z1 := HZ2.out.cell 1
    simp only [List.getElem?_cons_zero, List.getElem?_cons_succ] at g0 g1 z0 z1
    refine bodyPost_ret (v := .tuple #[.agg #[.int .i64 0, .slice none 0 0], .agg #[.int .i64 e, .int .i64 a]]) (by simp [results, Try.results24, go_sem, g0, g1, z0, z1]) rfl ?_
    rw [HPOST.out, E1.out]
    exact ⟨rfl, K0.out⟩
  · rw [hr] at hcase
    have HIN := Lib.hid (decG_in hr).1
    have E1 := Lib.hid (show decG b = .ok (N, canonP l) by unfold decG; rw [hr]; rfl)
    obtain ⟨u, hk, hg5, ho5, rfl⟩ : ∃ u, Kept [p, g] (w3.alloc (.cells #[.int .i64 0, .int .i64 0] 36)) w5 ∧ Blk w5 g 24 [.int .i64 N, u] ∧ w5.ownsRow (w3.alloc (.cells #[.int .i64 0, .int .i64 0] 36)).heap.size 28 3 u l.length (l.flatMap edV) ∧ x = .returned (.agg #[.int .i64 0, .int .i64 0]) := by
      rcases hcase with ⟨hG, rfl⟩ | ⟨e', a', hG, rfl⟩
      · obtain ⟨_, ⟨u, h1, h2⟩, h3⟩ := hG
        exact ⟨u, h3, h1, h2, rfl⟩
      · exact absurd hG.1 (by simp)
    have K2 := Lib.hid ((K0.out.alloc (.cells #[.int .i64 0, .int .i64 0] 36)).then hk (fun m hm => by simp at hm; rcases hm with rfl | rfl <;> first | exact .inr HP.out | exact .inr HGG.out))
    have HO := Lib.hid (own_kept ho5 hk5 (fun z hz hm => by
      simp only [List.mem_singleton] at hm
      have := own_ge ho5 hz
      simp at this
      omega))
    replace HG := Lib.hid (hg5.kept hk5 hgf)
    replace HZ1 := Lib.hid (((HZ1.out.alloc _).kept hk hzf).kept hk5 hz1)
    replace HZ2 := Lib.hid (((HZ2.out.alloc _).kept hk hzg).kept hk5 hz2)
    replace K0 := Lib.hid (K2.out.then hk5 (fun m hm => by simp at hm; subst hm; exact .inr K0.out.size))
    obtain ⟨A5, c5, rfl⟩ := own_n ho5
    replace HO := Lib.hid (Reads.of_own HO.out)
    clear hk hk5 hcase hr hzf hzg hz1 hz2 hgf K2 HRD HB hg5 ho5
    have HF := Lib.hid (Blk.new w4 36 [.int .i64 0, .int .i64 0])
    have HNF := Lib.hid (show w4.heap.size ≠ r2 by have := HZ2.out.lt; omega)
    have KA : Kept [] w4 (w4.alloc (.cells #[.int .i64 0, .int .i64 0] 36)) := (Kept.refl [] w4).alloc _
    replace HZ1 := Lib.hid (HZ1.out.kept KA (by simp))
    replace HZ2 := Lib.hid (HZ2.out.kept KA (by simp))
    replace HG := Lib.hid (HG.out.kept KA (by simp))
    replace HO := Lib.hid (HO.out.kept0 KA)
    replace K0 := Lib.hid (K0.out.trans KA)
    clear KA
    go_upto_region 6 with (fail)
    generalize w4.alloc (.cells #[.int .i64 0, .int .i64 0] 36) = w6 at *
    generalize w4.heap.size = f6 at *
    refine wp_region_held_drew (S := (fun w' => w'.rangeAt f6 0 [.int .i64 0, .int .i64 0] ∧ w'.rangeAt g 0 [.int .i64 N, .slice A5 l.length c5])) (by kernel_rfl) ?_ (fun hHeld => ?_)
    · exact ⟨HF.out.cell2, HG.out.cell2⟩
    replace HF := Lib.hid HF.out.drew
    replace HZ1 := Lib.hid HZ1.out.drew
    replace HZ2 := Lib.hid HZ2.out.drew
    replace HG := Lib.hid HG.out.drew
    replace HO := Lib.hid HO.out.drew
    replace K0 := Lib.hid K0.out.drew
    refine tkLoad (i := 0) 24 (.tmp 5) g (0) [.int .i64 N, .slice A5 l.length c5] _ rfl rfl (by kernel_rfl) (by kernel_rfl) (by kernel_rfl) (fun _ _ _ h => h) (by rfl) rfl rfl (fun w hw => hw.2) Try.underlying24 rfl infoGraph (by assumption) ?_
    try simp only [Act.put, List.setIfInBounds_toArray, List.set_cons_zero, List.set_cons_succ]
    refine tkLoad (i := 2) 36 (.tmp 6) f6 (0) [.int .i64 0, .int .i64 0] _ rfl rfl (by kernel_rfl) (by kernel_rfl) (by kernel_rfl) (fun _ _ _ h => h) (by rfl) rfl rfl (fun w hw => hw.1) Try.underlying36 rfl infoFault (by assumption) ?_
    try simp only [Act.put, List.setIfInBounds_toArray, List.set_cons_zero, List.set_cons_succ]
    refine wpAnyH_ready (rs := [1]) (by kernel_rfl) (by simp) ?_
    refine AllReadyH.cons rfl (fun K hK => ?_) AllReadyH.nil
    go_simp
    refine (canon_any N l A5 c5 _ (by have := okRaw_len HIN.out; omega) HO.out (okRaw_in HIN.out)).mono ?_
    rintro x w7 ⟨vr, rfl, ho, hk⟩
    obtain ⟨A7, c7, rfl⟩ := own_n ho
    replace HO := Lib.hid (own_le (base' := w.heap.size) ho K0.out.size)
    replace HF := Lib.hid (HF.out.kept hk (by simp))
    replace HZ1 := Lib.hid (HZ1.out.kept hk (by simp))
    replace HZ2 := Lib.hid (HZ2.out.kept hk (by simp))
    replace HG := Lib.hid (HG.out.kept hk (by simp))
    replace K0 := Lib.hid (K0.out.trans hk)
    clear ho hk
    go_wp2_with fail
    refine hK.out _ _ ?_ (fun hHeld => ?_)
    · exact ⟨HF.out.cell2, HG.out.cell2⟩
    clear hK K
    try simp only [Act.put, List.setIfInBounds_toArray, List.set_cons_zero, List.set_cons_succ]
    refine wpAnyH_ready (rs := [3]) (by kernel_rfl) (by simp) ?_
    refine AllReadyH.cons rfl (fun K hK => ?_) AllReadyH.nil
    refine step_storeBlk rfl 24 (.tmp 2) (.tmp 18) rfl r1 _ [.int .i64 N, .slice A7 (canonP l).length c7] HZ1.out rfl rfl rfl infoGraph (by simp [Value.oneCell']) ?_
    intro w8 hb hk
    replace K0 := Lib.hid (K0.out.then hk (fun m hm => by simp at hm; subst hm; exact .inr HG1.out))
    replace HF := Lib.hid (HF.out.kept hk (by have := HF.out.ne HZ1.out (by decide); simpa using this))
    replace HZ2 := Lib.hid (HZ2.out.kept hk (by have := HZ2.out.ne HZ1.out (by decide); simpa using this))
    replace HG := Lib.hid (HG.out.kept hk (by simpa using fun e => HNE.out e.symm))
    replace HO := Lib.hid (own_kept (L := [r1]) HO.out hk (fun z hz => by have := own_ne_blk HO.out HZ1.out (by decide); rw [hz] at this; simpa using this))
    replace HZ1 := Lib.hid hb
    clear hb hk
    refine hK.out _ _ ?_ (fun hHeld => ?_)
    · exact ⟨HF.out.cell2, HG.out.cell2⟩
    clear hK K
    try simp only [Act.put, List.setIfInBounds_toArray, List.set_cons_zero, List.set_cons_succ]
    refine wpAnyH_ready (rs := [4]) (by kernel_rfl) (by simp) ?_
    refine AllReadyH.cons rfl (fun K hK => ?_) AllReadyH.nil
    refine step_storeBlk rfl 36 (.tmp 3) (.tmp 19) rfl r2 _ [.int .i64 0, .int .i64 0] HZ2.out rfl rfl rfl infoFault (by simp [Value.oneCell']) ?_
    intro w9 hb hk
    replace K0 := Lib.hid (K0.out.then hk (fun m hm => by simp at hm; subst hm; exact .inr HG2.out))
    replace HF := Lib.hid (HF.out.kept hk (by simpa using HNF.out))
    replace HZ1 := Lib.hid (HZ1.out.kept hk (by have := HZ1.out.ne HZ2.out (by decide); simpa using this))
    replace HG := Lib.hid (HG.out.kept hk (by have := HG.out.ne HZ2.out (by decide); simpa using this))
    replace HO := Lib.hid (own_kept (L := [r2]) HO.out hk (fun z hz => by have := own_ne_blk HO.out HZ2.out (by decide); rw [hz] at this; simpa using this))
    replace HZ2 := Lib.hid hb
    clear hb hk
    refine hK.out _ _ ?_ (fun hHeld => ?_)
    · exact ⟨HF.out.cell2, HG.out.cell2⟩
    clear hK K
    try simp only [Act.put, List.setIfInBounds_toArray, List.set_cons_zero, List.set_cons_succ]
    refine wpAnyH_done (by kernel_rfl) ?_ _
    go_wp2_with fail
    have g0 := HZ1.out.cell 0
    have g1 := HZ1.out.cell 1
    have z0 := HZ2.out.cell 0
    have z1 := HZ2.out.cell 1
    simp only [List.getElem?_cons_zero, List.getElem?_cons_succ] at g0 g1 z0 z1
    refine bodyPost_ret (v := .tuple #[.agg #[.int .i64 N, .slice A7 (canonP l).length c7], .agg #[.int .i64 0, .int .i64 0]]) (by simp [results, Try.results24, go_sem, g0, g1, z0, z1]) rfl ?_
    rw [HPOST.out, E1.out]
    exact ⟨⟨_, rfl, HO.out⟩, K0.out⟩
end Go.Proofs.Ytibjpjpbmkdddaa
