/- Loader: the walk of DecodeMatrix. -/
import Derived.Test.YtibjpjpbmkdddaaLm
import Derived.Test.YtibjpjpbmkdddaaLl
namespace Go.Proofs.Ytibjpjpbmkdddaa
set_option linter.unusedSimpArgs false
set_option linter.unusedVariables false
open Go.ChangeShapes Go.WideShapes Go.ChangeAt Go.RowKit
open Go.RowKit (wrap32 wrap64)
set_option maxHeartbeats 8000000

/-- How DecodeMatrix ends. -/
def DecMPost (w : World) (r : Except (Int × Int) Raw) (x : Ending) (w' : World) : Prop :=
  match r with
  | .ok (m, c, l) => (∃ v, x = .returned (.tuple #[.int .i64 m, .int .i64 c, v, .agg #[.int .i64 0, .int .i64 0]]) ∧ w'.ownsRow w.heap.size 30 3 v l.length (l.flatMap edV)) ∧ Kept [] w w'
  | .error (e, a) => x = .returned (.tuple #[.int .i64 0, .int .i64 0, .slice none 0 0, .agg #[.int .i64 e, .int .i64 a]]) ∧ Kept [] w w'
theorem decM_err {b : List UInt8} {e a : Int} (h : (Rd.mk b 0 0 0).matE = .error (e, a)) : e ≠ 0 := (good_mat.ebad (by rw [← mat_E]; exact h)).1
theorem decM_in {b : List UInt8} {k N : Int} {l : List Ed} {R : Rd} (h : (Rd.mk b 0 0 0).matE = .ok ((k, N, l), R)) : okMat (k, N, l) ∧ matB (k, N, l) = b := good_mat.esound (by rw [← mat_E]; exact h)
structure MtAt (w0 w : World) (r2 r3 r4 r5 : Nat) (m c : Int) (v : Value) (fs : List Value) : Prop where
  fm : Blk w r2 3 [.int .i64 m]
  fc : Blk w r3 3 [.int .i64 c]
  ft : Blk w r4 26 [v]
  ff : Blk w r5 36 fs
  kept : Kept [] w0 w
  ne : r2 ≠ r3
  g2 : w0.heap.size ≤ r2
  g3 : w0.heap.size ≤ r3
  g4 : w0.heap.size ≤ r4
  g5 : w0.heap.size ≤ r5
section
variable {w0 w w' : World} {r2 r3 r4 r5 : Nat} {m c : Int} {v : Value} {fs : List Value}
theorem MtAt.kept0 (h : MtAt w0 w r2 r3 r4 r5 m c v fs) (hk : Kept [] w w') : MtAt w0 w' r2 r3 r4 r5 m c v fs := ⟨h.fm.kept hk (by simp), h.fc.kept hk (by simp), h.ft.kept hk (by simp), h.ff.kept hk (by simp), h.kept.trans hk, h.ne, h.g2, h.g3, h.g4, h.g5⟩
theorem MtAt.setM (h : MtAt w0 w r2 r3 r4 r5 m c v fs) (n : Int) : MtAt w0 (w.setCell ⟨r2, 0, none⟩ (.int .i64 n)) r2 r3 r4 r5 n c v fs :=
  have hk : Kept [r2] w (w.setCell ⟨r2, 0, none⟩ (.int .i64 n)) := (Kept.refl [r2] w).setCell (p := ⟨r2, 0, none⟩) (.inl (by simp)) _
  ⟨h.fm.set 0 _, h.fc.kept hk (by simpa using fun e => h.ne e.symm), h.ft.kept hk (by have := h.ft.ne h.fm (by decide); simpa using this), h.ff.kept hk (by have := h.ff.ne h.fm (by decide); simpa using this), h.kept.setCell (p := ⟨r2, 0, none⟩) (.inr h.g2) _, h.ne, h.g2, h.g3, h.g4, h.g5⟩
theorem MtAt.setC (h : MtAt w0 w r2 r3 r4 r5 m c v fs) (n : Int) : MtAt w0 (w.setCell ⟨r3, 0, none⟩ (.int .i64 n)) r2 r3 r4 r5 m n v fs :=
  have hk : Kept [r3] w (w.setCell ⟨r3, 0, none⟩ (.int .i64 n)) := (Kept.refl [r3] w).setCell (p := ⟨r3, 0, none⟩) (.inl (by simp)) _
  ⟨h.fm.kept hk (by simpa using h.ne), h.fc.set 0 _, h.ft.kept hk (by have := h.ft.ne h.fc (by decide); simpa using this), h.ff.kept hk (by have := h.ff.ne h.fc (by decide); simpa using this), h.kept.setCell (p := ⟨r3, 0, none⟩) (.inr h.g3) _, h.ne, h.g2, h.g3, h.g4, h.g5⟩
theorem MtAt.setT (h : MtAt w0 w r2 r3 r4 r5 m c v fs) (u : Value) : MtAt w0 (w.setCell ⟨r4, 0, none⟩ u) r2 r3 r4 r5 m c u fs :=
  have hk : Kept [r4] w (w.setCell ⟨r4, 0, none⟩ u) := (Kept.refl [r4] w).setCell (p := ⟨r4, 0, none⟩) (.inl (by simp)) _
  ⟨h.fm.kept hk (by have := h.fm.ne h.ft (by decide); simpa using this), h.fc.kept hk (by have := h.fc.ne h.ft (by decide); simpa using this), h.ft.set 0 _, h.ff.kept hk (by have := h.ff.ne h.ft (by decide); simpa using this), h.kept.setCell (p := ⟨r4, 0, none⟩) (.inr h.g4) _, h.ne, h.g2, h.g3, h.g4, h.g5⟩
theorem MtAt.setF {gs : List Value} (h : MtAt w0 w r2 r3 r4 r5 m c v fs) (hb : Blk w' r5 36 gs) (hk : Kept [r5] w w') : MtAt w0 w' r2 r3 r4 r5 m c v gs :=
  ⟨h.fm.kept hk (by have := h.fm.ne h.ff (by decide); simpa using this), h.fc.kept hk (by have := h.fc.ne h.ff (by decide); simpa using this), h.ft.kept hk (by have := h.ft.ne h.ff (by decide); simpa using this), hb, h.kept.then hk (fun m hm => by simp at hm; subst hm; exact .inr h.g5), h.ne, h.g2, h.g3, h.g4, h.g5⟩
end
theorem own_farT {w : World} {base n g : Nat} {v u : Value} {xs : List Value} {i : Nat} {t : TypeId} {cs : List Value} (h : w.ownsRow base 30 3 v n xs) (hb : Blk w g t cs) (hne : 30 ≠ t) : (w.setCell ⟨g, i, none⟩ u).ownsRow base 30 3 v n xs :=
  own_kept (L := [g]) h ((Kept.refl [g] w).setCell (p := ⟨g, i, none⟩) (.inl (by simp)) u) (fun q hq => by have := own_ne_blk h hb hne; rw [hq] at this; simpa using this)
set_option maxRecDepth 100000 in
theorem decodeM_any (b : List UInt8) (A : Option Addr) (c : Nat) (w : World) (hr : Reads w A (b.map byteV)) (hl : b.length ≤ 1073741824) :
    Calls Try.prog 9 #[.slice A b.length c] w (DecMPost w (decM b)) := by
  have D0 : MtAt w ((((w.alloc (.cells #[.int .i64 0] 3)).alloc (.cells #[.int .i64 0] 3)).alloc (.cells #[.slice none 0 0] 26)).alloc (.cells #[.int .i64 0, .int .i64 0] 36)) w.heap.size (w.heap.size + 1) (w.heap.size + 2) (w.heap.size + 3) 0 0 (.slice none 0 0) [.int .i64 0, .int .i64 0] := by
    have s1 : (w.alloc (.cells #[.int .i64 0] 3)).heap.size = w.heap.size + 1 := by simp
    have s2 : ((w.alloc (.cells #[.int .i64 0] 3)).alloc (.cells #[.int .i64 0] 3)).heap.size = w.heap.size + 2 := by simp
    have s3 : (((w.alloc (.cells #[.int .i64 0] 3)).alloc (.cells #[.int .i64 0] 3)).alloc (.cells #[.slice none 0 0] 26)).heap.size = w.heap.size + 3 := by simp
    refine ⟨(((Blk.new w 3 [.int .i64 0]).alloc _).alloc _).alloc _, ?_, ?_, ?_, (((((Kept.refl [] w).alloc _).alloc _).alloc _).alloc _), by omega, by omega, by omega, by omega, by omega⟩
    · rw [← s1]; exact ((Blk.new _ 3 [.int .i64 0]).alloc _).alloc _
    · rw [← s2]; exact (Blk.new _ 26 [.slice none 0 0]).alloc _
    · rw [← s3]; exact Blk.new _ 36 [.int .i64 0, .int .i64 0]
  have HD := Lib.hid D0
  have HR := Lib.hid (hr.kept0 D0.kept)
  have SZ := Lib.hid (show w.heap.size ≤ ((((w.alloc (.cells #[.int .i64 0] 3)).alloc (.cells #[.int .i64 0] 3)).alloc (.cells #[.slice none 0 0] 26)).alloc (.cells #[.int .i64 0, .int .i64 0] 36)).heap.size from D0.kept.size)
  clear hr D0
  obtain ⟨post, hpost⟩ : ∃ post : Ending → World → Prop, post = DecMPost w (decM b) := ⟨_, rfl⟩
  rw [← hpost]
  have HPOST := Lib.hid hpost
  clear hpost
  go_enter Try.func9, Try.ntmps9
  go_wp2_with fail
  refine (open_any b A c _ HR.out hl).mono ?_
  rintro e w1 ⟨p, rfl, hp, hrd, hk⟩
  replace HD := Lib.hid (HD.out.kept0 hk)
  have HRD := Lib.hid hrd
  have HP := Lib.hid (show w.heap.size ≤ p by have := SZ.out; omega)
  clear hp hrd hk HR SZ
  go_upto_region 2 with (fail)
  obtain ⟨r2, hr2⟩ : ∃ r2, r2 = w.heap.size := ⟨_, rfl⟩
  obtain ⟨r3, hr3⟩ : ∃ r3, r3 = w.heap.size + 1 := ⟨_, rfl⟩
  obtain ⟨r4, hr4⟩ : ∃ r4, r4 = w.heap.size + 1 + 1 := ⟨_, rfl⟩
  obtain ⟨r5, hr5⟩ : ∃ r5, r5 = w.heap.size + 1 + 1 + 1 := ⟨_, rfl⟩
  have HD' : Hid (MtAt w w1 r2 r3 r4 r5 0 0 (.slice none 0 0) [.int .i64 0, .int .i64 0]) := by rw [hr2, hr3, hr4, hr5]; exact HD
  rw [← hr5, ← hr4, ← hr3, ← hr2]
  replace HD := HD'
  clear hr2 hr3 hr4 hr5 HD'
  have K1 : Kept [] w1 (w1.alloc (.cells #[.pointer (some ⟨p, 0, none⟩)] 77)) := (Kept.refl [] w1).alloc _
  have HB := Lib.hid (Blk.new w1 77 [.pointer (some ⟨p, 0, none⟩)])
  replace HD := Lib.hid (HD.out.kept0 K1)
  replace HRD := Lib.hid (HRD.out.kept0 K1)
  clear K1
  generalize w1.alloc (.cells #[.pointer (some ⟨p, 0, none⟩)] 77) = w3 at *
  generalize w1.heap.size = q at *
  go_wp2_with fail
  refine (caughtM_of _ _ (MPost p r2 r3 r4 _ (Rd.matE ⟨b, 0, 0, 0⟩)) (mat_any p q r2 r3 r4 _ _ _ _ _ (HRD.out.kept0 ((Kept.refl [] _).alloc _)) (HB.out.alloc _) (HD.out.fm.alloc _) (HD.out.fc.alloc _) (HD.out.ft.alloc _) HD.out.ne) ?_).mono ?_
  · intro x wz hG
    have hf : w3.heap.size ∉ [p, r2, r3, r4] := by
      obtain ⟨_, _, hb, _⟩ := HRD.out.ex
      have h1 := hb.lt
      have h2 := HD.out.fm.lt
      have h3 := HD.out.fc.lt
      have h4 := HD.out.ft.lt
      simp
      omega
    rcases hr : (Rd.mk b 0 0 0).matE with ⟨e, a⟩ | ⟨⟨k, N, l⟩, R'⟩
    · rw [hr] at hG
      obtain ⟨rfl, _, hk⟩ := hG
      exact ⟨.inr ⟨e, a, rfl⟩, (Blk.new w3 36 [.int .i64 0, .int .i64 0]).kept hk hf⟩
    · rw [hr] at hG
      obtain ⟨rfl, _, hk⟩ := hG
      exact ⟨.inl rfl, (Blk.new w3 36 [.int .i64 0, .int .i64 0]).kept hk hf⟩
  rintro x w4 ⟨w5, hk5, hcase⟩
  have nz : ∀ z, z ∉ [w3.heap.size] ↔ z ≠ w3.heap.size := fun z => by simp
  have n2 : r2 ∉ [w3.heap.size] := (nz _).2 (by have := HD.out.fm.lt; omega)
  have n3 : r3 ∉ [w3.heap.size] := (nz _).2 (by have := HD.out.fc.lt; omega)
  have n4 : r4 ∉ [w3.heap.size] := (nz _).2 (by have := HD.out.ft.lt; omega)
  have n5 : r5 ∉ [w3.heap.size] := (nz _).2 (by have := HD.out.ff.lt; omega)
  have n6 : r5 ∉ [p, r2, r3, r4] := by have h1 := rd_ne HRD.out HD.out.ff (by decide); have h2 := HD.out.ff.ne HD.out.fm (by decide); have h3 := HD.out.ff.ne HD.out.fc (by decide); have h4 := HD.out.ff.ne HD.out.ft (by decide); simp at h1 ⊢; exact ⟨h1, h2, h3, h4⟩
  have kk : ∀ {w5 : World}, Kept [p, r2, r3, r4] (w3.alloc (.cells #[.int .i64 0, .int .i64 0] 36)) w5 → Kept [] w w5 := fun hk => (HD.out.kept.alloc (.cells #[.int .i64 0, .int .i64 0] 36)).then hk (fun m hm => by
    simp only [List.mem_cons, List.not_mem_nil, or_false] at hm
    rcases hm with rfl | rfl | rfl | rfl
    · exact .inr HP.out
    · exact .inr HD.out.g2
    · exact .inr HD.out.g3
    · exact .inr HD.out.g4)
  have k5 : ∀ {wa : World}, Kept [] w wa → Kept [w3.heap.size] wa w4 → Kept [] w w4 := fun h hk => h.then hk (fun m hm => by simp only [List.mem_singleton] at hm; subst hm; exact .inr HD.out.kept.size)
  rcases hr : (Rd.mk b 0 0 0).matE with ⟨e, a⟩ | ⟨⟨m, cc, l⟩, R'⟩
  · rw [hr] at hcase
    have he := decM_err hr
    have E1 := Lib.hid (show decM b = .error (e, a) by unfold decM; rw [hr]; rfl)
    obtain ⟨m, cc, u, hm, hc, ht, hk, rfl⟩ : ∃ m cc u, Blk w5 r2 3 [.int .i64 m] ∧ Blk w5 r3 3 [.int .i64 cc] ∧ Blk w5 r4 26 [u] ∧ Kept [p, r2, r3, r4] (w3.alloc (.cells #[.int .i64 0, .int .i64 0] 36)) w5 ∧ x = .returned (.agg #[.int .i64 e, .int .i64 a]) := by
      rcases hcase with ⟨hG, rfl⟩ | ⟨e', a', hG, rfl⟩
      · exact absurd hG.1 (by simp)
      · obtain ⟨rfl, rfl⟩ := stp_inj hG.1
        obtain ⟨_, ⟨m, cc, u, h1, h2, h3⟩, h4⟩ := hG
        exact ⟨m, cc, u, h1, h2, h3, h4, rfl⟩
    replace HD := Lib.hid (show MtAt w w4 r2 r3 r4 r5 m cc u [.int .i64 0, .int .i64 0] from ⟨hm.kept hk5 n2, hc.kept hk5 n3, ht.kept hk5 n4, ((HD.out.ff.alloc _).kept hk n6).kept hk5 n5, k5 (kk hk) hk5, HD.out.ne, HD.out.g2, HD.out.g3, HD.out.g4, HD.out.g5⟩)
    clear kk k5 nz n2 n3 n4 n5 n6 hm hc ht hk hk5 hcase hr HB HRD
    go_upto_region 3 with (first | (refine wpList_storeBlk rfl 36 (.tmp 5) (.tmp 11) rfl r5 _ [.int .i64 e, .int .i64 a] HD.out.ff rfl rfl rfl infoFault (by simp [Value.oneCell']) ?_; intro w6 hb6 hk6))
    replace HD := Lib.hid (HD.out.setF hb6 hk6)
    clear hb6 hk6
    have x0 := HD.out.ff.cell 0
    have xl := HD.out.ff.lt
    simp only [List.getElem?_cons_zero] at x0
    go_upto_region 4 with (fail)
    clear x0 xl
    refine wp_region_held_drew (S := (fun w' => w'.rangeAt r5 0 [.int .i64 e, .int .i64 a])) (by kernel_rfl) ?_ (fun hHeld => ?_)
    · exact HD.out.ff.cell2
    replace HD := Lib.hid (HD.out.kept0 ((Kept.refl [] w6).drew))
    generalize World.drew w6 = w7 at *
    refine tkLoad (i := 0) 36 (.tmp 5) r5 (0) [.int .i64 e, .int .i64 a] _ rfl rfl (by kernel_rfl) (by kernel_rfl) (by kernel_rfl) (fun _ _ _ h => h) (by rfl) rfl rfl (fun w hw => hw) Try.underlying36 rfl infoFault (by assumption) ?_
    try simp only [Act.put, List.setIfInBounds_toArray, List.set_cons_zero, List.set_cons_succ]
    have s0 := HD.out.fm.cell 0
    have sf := HD.out.fm.frozen 0
    have sl := HD.out.fm.lt
    simp only [List.getElem?_cons_zero] at s0
    refine wpAnyH_ready (rs := [1]) (by kernel_rfl) (by simp) ?_
    refine AllReadyH.cons rfl (fun K hK => ?_) AllReadyH.nil
    go_simp
    go_wp2_with fail
    replace HD := Lib.hid (HD.out.setM 0)
    clear s0 sf sl
    refine hK.out _ _ ?_ (fun hHeld => ?_)
    · exact HD.out.ff.cell2
    clear hK K
    try simp only [Act.put, List.setIfInBounds_toArray, List.set_cons_zero, List.set_cons_succ]
    generalize World.setCell _ ⟨r2, 0, none⟩ _ = wa at *
    have s0 := HD.out.fc.cell 0
    have sf := HD.out.fc.frozen 0
    have sl := HD.out.fc.lt
    simp only [List.getElem?_cons_zero] at s0
    refine wpAnyH_ready (rs := [2]) (by kernel_rfl) (by simp) ?_
    refine AllReadyH.cons rfl (fun K hK => ?_) AllReadyH.nil
    go_simp
    go_wp2_with fail
    replace HD := Lib.hid (HD.out.setC 0)
    clear s0 sf sl
    refine hK.out _ _ ?_ (fun hHeld => ?_)
    · exact HD.out.ff.cell2
    clear hK K
    try simp only [Act.put, List.setIfInBounds_toArray, List.set_cons_zero, List.set_cons_succ]
    generalize World.setCell _ ⟨r3, 0, none⟩ _ = wb at *
    have s0 := HD.out.ft.cell 0
    have sf := HD.out.ft.frozen 0
    have sl := HD.out.ft.lt
    simp only [List.getElem?_cons_zero] at s0
    refine wpAnyH_ready (rs := [3]) (by kernel_rfl) (by simp) ?_
    refine AllReadyH.cons rfl (fun K hK => ?_) AllReadyH.nil
    go_simp
    go_wp2_with fail
    replace HD := Lib.hid (HD.out.setT (.slice none 0 0))
    clear s0 sf sl
    refine hK.out _ _ ?_ (fun hHeld => ?_)
    · exact HD.out.ff.cell2
    clear hK K
    try simp only [Act.put, List.setIfInBounds_toArray, List.set_cons_zero, List.set_cons_succ]
    generalize World.setCell _ ⟨r4, 0, none⟩ _ = wc at *
    refine wpAnyH_ready (rs := [4]) (by kernel_rfl) (by simp) ?_
    refine AllReadyH.cons rfl (fun K hK => ?_) AllReadyH.nil
    refine step_storeBlk rfl 36 (.tmp 5) (.tmp 15) rfl r5 _ [.int .i64 e, .int .i64 a] HD.out.ff rfl rfl rfl infoFault (by simp [Value.oneCell']) ?_
    intro wd hb hk
    replace HD := Lib.hid (HD.out.setF hb hk)
    clear hb hk
    refine hK.out _ _ ?_ (fun hHeld => ?_)
    · exact HD.out.ff.cell2
    clear hK K
    try simp only [Act.put, List.setIfInBounds_toArray, List.set_cons_zero, List.set_cons_succ]
    refine wpAnyH_done (by kernel_rfl) ?_ _
    go_wp2_with fail
    have g0 := HD.out.fm.cell 0
    have g1 := HD.out.fc.cell 0
    have g2 := HD.out.ft.cell 0
    have z0 := HD.out.ff.cell 0
    have z1 := HD.out.ff.cell 1
    simp only [List.getElem?_cons_zero, List.getElem?_cons_succ] at g0 g1 g2 z0 z1
    refine bodyPost_ret (v := .tuple #[.int .i64 0, .int .i64 0, .slice none 0 0, .agg #[.int .i64 e, .int .i64 a]]) (by simp [results, Try.results9, go_sem, g0, g1, g2, z0, z1]) rfl ?_
    rw [HPOST.out, E1.out]
    exact ⟨rfl, HD.out.kept⟩
  · rw [hr] at hcase
    have E1 := Lib.hid (show decM b = .ok (m, cc, l) by unfold decM; rw [hr]; rfl)
    obtain ⟨u, hm, hc, ht, ho5, hk, rfl⟩ : ∃ u, Blk w5 r2 3 [.int .i64 m] ∧ Blk w5 r3 3 [.int .i64 cc] ∧ Blk w5 r4 26 [u] ∧ w5.ownsRow (w3.alloc (.cells #[.int .i64 0, .int .i64 0] 36)).heap.size 30 3 u l.length (l.flatMap edV) ∧ Kept [p, r2, r3, r4] (w3.alloc (.cells #[.int .i64 0, .int .i64 0] 36)) w5 ∧ x = .returned (.agg #[.int .i64 0, .int .i64 0]) := by
      rcases hcase with ⟨hG, rfl⟩ | ⟨e', a', hG, rfl⟩
      · obtain ⟨_, ⟨u, h1, h2, h3, h4⟩, h5⟩ := hG
        exact ⟨u, h1, h2, h3, h4, h5, rfl⟩
      · exact absurd hG.1 (by simp)
    have HO := Lib.hid (own_le (base' := w.heap.size) (own_kept ho5 hk5 (fun z hz hm => by
      simp only [List.mem_singleton] at hm
      have := own_ge ho5 hz
      simp at this
      omega)) (by have := HD.out.kept.size; simp; omega))
    replace HD := Lib.hid (show MtAt w w4 r2 r3 r4 r5 m cc u [.int .i64 0, .int .i64 0] from ⟨hm.kept hk5 n2, hc.kept hk5 n3, ht.kept hk5 n4, ((HD.out.ff.alloc _).kept hk n6).kept hk5 n5, k5 (kk hk) hk5, HD.out.ne, HD.out.g2, HD.out.g3, HD.out.g4, HD.out.g5⟩)
    obtain ⟨A5, c5, rfl⟩ := own_n ho5
    clear kk k5 nz n2 n3 n4 n5 n6 hm hc ht hk hk5 hcase hr HB HRD ho5
    go_upto_region 3 with (first | (refine wpList_storeBlk rfl 36 (.tmp 5) (.tmp 11) rfl r5 _ [.int .i64 0, .int .i64 0] HD.out.ff rfl rfl rfl infoFault (by simp [Value.oneCell']) ?_; intro w6 hb6 hk6))
    replace HO := Lib.hid (own_kept HO.out hk6 (fun z hz => by have := own_ne_blk HO.out HD.out.ff (by decide); rw [hz] at this; simpa using this))
    replace HD := Lib.hid (HD.out.setF hb6 hk6)
    clear hb6 hk6
    have x0 := HD.out.ff.cell 0
    have xl := HD.out.ff.lt
    simp only [List.getElem?_cons_zero] at x0
    go_upto_region 5 with (fail)
    clear x0 xl
    refine wp_region_held_drew (S := (fun w' => w'.cell? ⟨r2, 0, none⟩ = some (.int .i64 m) ∧ w'.cell? ⟨r3, 0, none⟩ = some (.int .i64 cc) ∧ w'.cell? ⟨r4, 0, none⟩ = some (.slice A5 l.length c5) ∧ w'.rangeAt r5 0 [.int .i64 0, .int .i64 0])) (by kernel_rfl) ?_ (fun hHeld => ?_)
    · exact ⟨HD.out.fm.cell 0, HD.out.fc.cell 0, HD.out.ft.cell 0, HD.out.ff.cell2⟩
    replace HO := Lib.hid HO.out.drew
    replace HD := Lib.hid (HD.out.kept0 ((Kept.refl [] w6).drew))
    generalize World.drew w6 = w7 at *
    refine tkYes (i := 0) (v := ?_) rfl rfl (by kernel_rfl) (by kernel_rfl) (by kernel_rfl) (fun _ _ _ h => h) (by rfl) ?_ (by assumption) ?_
    rotate_left
    · (intro w' hSw; (try dsimp only at hSw); go_simp; try with_reducible rfl)
    try simp only [Act.put, List.setIfInBounds_toArray, List.set_cons_zero, List.set_cons_succ]
    refine tkYes (i := 1) (v := ?_) rfl rfl (by kernel_rfl) (by kernel_rfl) (by kernel_rfl) (fun _ _ _ h => h) (by rfl) ?_ (by assumption) ?_
    rotate_left
    · (intro w' hSw; (try dsimp only at hSw); go_simp; try with_reducible rfl)
    try simp only [Act.put, List.setIfInBounds_toArray, List.set_cons_zero, List.set_cons_succ]
    refine tkYes (i := 2) (v := ?_) rfl rfl (by kernel_rfl) (by kernel_rfl) (by kernel_rfl) (fun _ _ _ h => h) (by rfl) ?_ (by assumption) ?_
    rotate_left
    · (intro w' hSw; (try dsimp only at hSw); go_simp; try with_reducible rfl)
    try simp only [Act.put, List.setIfInBounds_toArray, List.set_cons_zero, List.set_cons_succ]
    refine tkLoad (i := 3) 36 (.tmp 5) r5 (0) [.int .i64 0, .int .i64 0] _ rfl rfl (by kernel_rfl) (by kernel_rfl) (by kernel_rfl) (fun _ _ _ h => h) (by rfl) rfl rfl (fun w hw => hw.2.2.2) Try.underlying36 rfl infoFault (by assumption) ?_
    try simp only [Act.put, List.setIfInBounds_toArray, List.set_cons_zero, List.set_cons_succ]
    have s0 := HD.out.fm.cell 0
    have sf := HD.out.fm.frozen 0
    have sl := HD.out.fm.lt
    simp only [List.getElem?_cons_zero] at s0
    refine wpAnyH_ready (rs := [4]) (by kernel_rfl) (by simp) ?_
    refine AllReadyH.cons rfl (fun K hK => ?_) AllReadyH.nil
    go_simp
    go_wp2_with fail
    replace HO := Lib.hid (own_farT (i := 0) (u := .int .i64 m) HO.out HD.out.fm (by decide))
    replace HD := Lib.hid (HD.out.setM m)
    clear s0 sf sl
    refine hK.out _ _ ?_ (fun hHeld => ?_)
    · exact ⟨HD.out.fm.cell 0, HD.out.fc.cell 0, HD.out.ft.cell 0, HD.out.ff.cell2⟩
    clear hK K
    try simp only [Act.put, List.setIfInBounds_toArray, List.set_cons_zero, List.set_cons_succ]
    generalize World.setCell _ ⟨r2, 0, none⟩ _ = wa at *
    have s0 := HD.out.fc.cell 0
    have sf := HD.out.fc.frozen 0
    have sl := HD.out.fc.lt
    simp only [List.getElem?_cons_zero] at s0
    refine wpAnyH_ready (rs := [5]) (by kernel_rfl) (by simp) ?_
    refine AllReadyH.cons rfl (fun K hK => ?_) AllReadyH.nil
    go_simp
    go_wp2_with fail
    replace HO := Lib.hid (own_farT (i := 0) (u := .int .i64 cc) HO.out HD.out.fc (by decide))
    replace HD := Lib.hid (HD.out.setC cc)
    clear s0 sf sl
    refine hK.out _ _ ?_ (fun hHeld => ?_)
    · exact ⟨HD.out.fm.cell 0, HD.out.fc.cell 0, HD.out.ft.cell 0, HD.out.ff.cell2⟩
    clear hK K
    try simp only [Act.put, List.setIfInBounds_toArray, List.set_cons_zero, List.set_cons_succ]
    generalize World.setCell _ ⟨r3, 0, none⟩ _ = wb at *
    have s0 := HD.out.ft.cell 0
    have sf := HD.out.ft.frozen 0
    have sl := HD.out.ft.lt
    simp only [List.getElem?_cons_zero] at s0
    refine wpAnyH_ready (rs := [6]) (by kernel_rfl) (by simp) ?_
    refine AllReadyH.cons rfl (fun K hK => ?_) AllReadyH.nil
    go_simp
    go_wp2_with fail
    replace HO := Lib.hid (own_farT (i := 0) (u := .slice A5 l.length c5) HO.out HD.out.ft (by decide))
    replace HD := Lib.hid (HD.out.setT (.slice A5 l.length c5))
    clear s0 sf sl
    refine hK.out _ _ ?_ (fun hHeld => ?_)
    · exact ⟨HD.out.fm.cell 0, HD.out.fc.cell 0, HD.out.ft.cell 0, HD.out.ff.cell2⟩
    clear hK K
    try simp only [Act.put, List.setIfInBounds_toArray, List.set_cons_zero, List.set_cons_succ]
    generalize World.setCell _ ⟨r4, 0, none⟩ _ = wc at *
    refine wpAnyH_ready (rs := [7]) (by kernel_rfl) (by simp) ?_
    refine AllReadyH.cons rfl (fun K hK => ?_) AllReadyH.nil
    refine step_storeBlk rfl 36 (.tmp 5) (.tmp 19) rfl r5 _ [.int .i64 0, .int .i64 0] HD.out.ff rfl rfl rfl infoFault (by simp [Value.oneCell']) ?_
    intro wd hb hk
    replace HO := Lib.hid (own_kept HO.out hk (fun z hz => by have := own_ne_blk HO.out HD.out.ff (by decide); rw [hz] at this; simpa using this))
    replace HD := Lib.hid (HD.out.setF hb hk)
    clear hb hk
    refine hK.out _ _ ?_ (fun hHeld => ?_)
    · exact ⟨HD.out.fm.cell 0, HD.out.fc.cell 0, HD.out.ft.cell 0, HD.out.ff.cell2⟩
    clear hK K
    try simp only [Act.put, List.setIfInBounds_toArray, List.set_cons_zero, List.set_cons_succ]
    refine wpAnyH_done (by kernel_rfl) ?_ _
    go_wp2_with fail
    have g0 := HD.out.fm.cell 0
    have g1 := HD.out.fc.cell 0
    have g2 := HD.out.ft.cell 0
    have z0 := HD.out.ff.cell 0
    have z1 := HD.out.ff.cell 1
    simp only [List.getElem?_cons_zero, List.getElem?_cons_succ] at g0 g1 g2 z0 z1
    refine bodyPost_ret (v := .tuple #[.int .i64 m, .int .i64 cc, .slice A5 l.length c5, .agg #[.int .i64 0, .int .i64 0]]) (by simp [results, Try.results9, go_sem, g0, g1, g2, z0, z1]) rfl ?_
    rw [HPOST.out, E1.out]
    exact ⟨⟨_, rfl, HO.out⟩, HD.out.kept⟩
end Go.Proofs.Ytibjpjpbmkdddaa
