/- Loader: the closure that reads a matrix. -/
import Derived.Test.YtibjpjpbmkdddaaLk
import Derived.Test.YtibjpjpbmkdddaaTake
namespace Go.Proofs.Ytibjpjpbmkdddaa
set_option linter.unusedSimpArgs false
set_option linter.unusedVariables false
open Go.ChangeShapes Go.WideShapes Go.ChangeAt Go.RowKit
open Go.RowKit (wrap32 wrap64)
set_option maxHeartbeats 8000000

/-- What bytes are as a matrix: how many rows and columns, the triples; or what is wrong first, and where. -/
def Rd.matE (R : Rd) : Except (Int × Int) ((Int × Int × List Ed) × Rd) :=
  (R.mark frm1).bind fun R1 => (R1.rd 4 0 4096 5).bind fun m => (m.2.rd 4 0 4096 5).bind fun c => (c.2.rd 4 0 65536 5).bind fun n => (Rd.trips m.1 c.1 n.1.toNat (-1, 0, 0) n.2 []).bind fun e =>
    if e.2.atEnd = true then .ok ((m.1, c.1, e.1), e.2) else .error (4, e.2.pos)
structure MgAt (w0 w : World) (p q mb cb tb : Nat) (R : Rd) (m c : Int) (v : Value) : Prop where
  rd : RdAt 138 w p R
  src : Blk w q 77 [.pointer (some ⟨p, 0, none⟩)]
  fm : Blk w mb 3 [.int .i64 m]
  fc : Blk w cb 3 [.int .i64 c]
  ft : Blk w tb 26 [v]
  kept : Kept [p, mb, cb, tb] w0 w
  ne : mb ≠ cb
section
variable {w0 w w' : World} {p q mb cb tb : Nat} {R R' : Rd} {m c : Int} {v : Value}
theorem MgAt.call (h : MgAt w0 w p q mb cb tb R m c v) (hr : RdAt 138 w' p R') (hk : Kept [p] w w') : MgAt w0 w' p q mb cb tb R' m c v :=
  ⟨hr, h.src.kept hk (rd_ne h.rd h.src (by decide)), h.fm.kept hk (rd_ne h.rd h.fm (by decide)), h.fc.kept hk (rd_ne h.rd h.fc (by decide)), h.ft.kept hk (rd_ne h.rd h.ft (by decide)), h.kept.then hk (fun m hm => .inl (by simp at hm; simp [hm])), h.ne⟩
theorem MgAt.call0 (h : MgAt w0 w p q mb cb tb R m c v) (hk : Kept [p] w w') : (∃ m c u, Blk w' mb 3 [.int .i64 m] ∧ Blk w' cb 3 [.int .i64 c] ∧ Blk w' tb 26 [u]) ∧ Kept [p, mb, cb, tb] w0 w' :=
  ⟨⟨_, _, _, h.fm.kept hk (rd_ne h.rd h.fm (by decide)), h.fc.kept hk (rd_ne h.rd h.fc (by decide)), h.ft.kept hk (rd_ne h.rd h.ft (by decide))⟩, h.kept.then hk (fun m hm => .inl (by simp at hm; simp [hm]))⟩
theorem MgAt.kept0 (h : MgAt w0 w p q mb cb tb R m c v) (hk : Kept [] w w') : MgAt w0 w' p q mb cb tb R m c v :=
  ⟨h.rd.kept0 hk, h.src.kept hk (by simp), h.fm.kept hk (by simp), h.fc.kept hk (by simp), h.ft.kept hk (by simp), h.kept.then hk (by simp), h.ne⟩
theorem MgAt.setM (h : MgAt w0 w p q mb cb tb R m c v) (n : Int) : MgAt w0 (w.setCell ⟨mb, 0, none⟩ (.int .i64 n)) p q mb cb tb R n c v :=
  have hk : Kept [mb] w (w.setCell ⟨mb, 0, none⟩ (.int .i64 n)) := (Kept.refl [mb] w).setCell (p := ⟨mb, 0, none⟩) (.inl (by simp)) _
  ⟨h.rd.kept1 h.fm (by decide) (by decide) hk, h.src.kept hk (by have := h.src.ne h.fm (by decide); simpa using this), h.fm.set 0 _, h.fc.kept hk (by simpa using fun e => h.ne e.symm), h.ft.kept hk (by have := h.ft.ne h.fm (by decide); simpa using this), h.kept.setCell (p := ⟨mb, 0, none⟩) (.inl (by simp)) _, h.ne⟩
theorem MgAt.setC (h : MgAt w0 w p q mb cb tb R m c v) (n : Int) : MgAt w0 (w.setCell ⟨cb, 0, none⟩ (.int .i64 n)) p q mb cb tb R m n v :=
  have hk : Kept [cb] w (w.setCell ⟨cb, 0, none⟩ (.int .i64 n)) := (Kept.refl [cb] w).setCell (p := ⟨cb, 0, none⟩) (.inl (by simp)) _
  ⟨h.rd.kept1 h.fc (by decide) (by decide) hk, h.src.kept hk (by have := h.src.ne h.fc (by decide); simpa using this), h.fm.kept hk (by simpa using h.ne), h.fc.set 0 _, h.ft.kept hk (by have := h.ft.ne h.fc (by decide); simpa using this), h.kept.setCell (p := ⟨cb, 0, none⟩) (.inl (by simp)) _, h.ne⟩
theorem MgAt.setT (h : MgAt w0 w p q mb cb tb R m c v) (u : Value) : MgAt w0 (w.setCell ⟨tb, 0, none⟩ u) p q mb cb tb R m c u :=
  have hk : Kept [tb] w (w.setCell ⟨tb, 0, none⟩ u) := (Kept.refl [tb] w).setCell (p := ⟨tb, 0, none⟩) (.inl (by simp)) _
  ⟨h.rd.kept1 h.ft (by decide) (by decide) hk, h.src.kept hk (by have := h.src.ne h.ft (by decide); simpa using this), h.fm.kept hk (by have := h.fm.ne h.ft (by decide); simpa using this), h.fc.kept hk (by have := h.fc.ne h.ft (by decide); simpa using this), h.ft.set 0 _, h.kept.setCell (p := ⟨tb, 0, none⟩) (.inl (by simp)) _, h.ne⟩
end
def MPost (p mb cb tb : Nat) (w : World) (r : Except (Int × Int) ((Int × Int × List Ed) × Rd)) (x : Ending) (w' : World) : Prop :=
  match r with
  | .ok ((m, c, l), _) => x = .returned (.tuple #[]) ∧ (∃ u, Blk w' mb 3 [.int .i64 m] ∧ Blk w' cb 3 [.int .i64 c] ∧ Blk w' tb 26 [u] ∧ w'.ownsRow w.heap.size 30 3 u l.length (l.flatMap edV)) ∧ Kept [p, mb, cb, tb] w w'
  | .error (e, a) => x = .panicked [stp e a] ∧ (∃ m c u, Blk w' mb 3 [.int .i64 m] ∧ Blk w' cb 3 [.int .i64 c] ∧ Blk w' tb 26 [u]) ∧ Kept [p, mb, cb, tb] w w'
set_option maxRecDepth 100000 in
theorem mat_any (p q mb cb tb : Nat) (R : Rd) (m0 c0 : Int) (v0 : Value) (w : World) (h : RdAt 138 w p R) (hq : Blk w q 77 [.pointer (some ⟨p, 0, none⟩)]) (hm : Blk w mb 3 [.int .i64 m0]) (hc : Blk w cb 3 [.int .i64 c0]) (ht : Blk w tb 26 [v0]) (hne : mb ≠ cb) :
    Calls Try.prog 37 #[.pointer (some ⟨q, 0, none⟩), .pointer (some ⟨mb, 0, none⟩), .pointer (some ⟨cb, 0, none⟩), .pointer (some ⟨tb, 0, none⟩)] w (MPost p mb cb tb w R.matE) := by
  have HD := Lib.hid (show MgAt w w p q mb cb tb R m0 c0 v0 from ⟨h, hq, hm, hc, ht, Kept.refl _ _, hne⟩)
  clear h hq hm hc ht hne
  obtain ⟨post, hpost⟩ : ∃ post : Ending → World → Prop, post = MPost p mb cb tb w R.matE := ⟨_, rfl⟩
  rw [← hpost]
  have HPOST := Lib.hid hpost
  clear hpost
  have y0 := HD.out.src.cell 0
  have l0 := HD.out.src.lt
  simp only [List.getElem?_cons_zero] at y0
  go_enter Try.func37, Try.ntmps37
  go_wp2_with fail
  refine (smark_any p R frm1 _ rfl HD.out.rd).mono ?_
  intro x w1 hx
  rcases hr : R.mark frm1 with ⟨e, a⟩ | R1
  · rw [hr] at hx
    obtain ⟨rfl, hk⟩ := hx
    have K := Lib.hid (HD.out.call0 hk)
    have E1 := Lib.hid hr
    clear hk hr y0 l0
    go_wp2_with fail
    refine ⟨rfl, ?_⟩
    rw [HPOST.out]
    simp only [Rd.matE, E1.out, Except.bind]
    exact ⟨rfl, K.out⟩
  rw [hr] at hx
  obtain ⟨rfl, hrd, hk⟩ := hx
  replace HD := Lib.hid (HD.out.call hrd hk)
  have E1 := Lib.hid hr
  clear hk hr hrd y0 l0
  go_upto_region 1 with (fail)
  refine wp_region_held_drew (S := (fun w' => w'.cell? ⟨q, 0, none⟩ = some (.pointer (some ⟨p, 0, none⟩)))) (by kernel_rfl) ?_ (fun hHeld => ?_)
  · exact HD.out.src.cell 0
  replace HD := Lib.hid (HD.out.kept0 ((Kept.refl [] w1).drew))
  generalize World.drew w1 = w1 at *
  refine tkYes (i := 0) (v := ?_) rfl rfl (by kernel_rfl) (by kernel_rfl) (by kernel_rfl) (fun _ _ _ h => h) (by rfl) ?_ (by assumption) ?_
  rotate_left
  · (intro w' hSw; (try dsimp only at hSw); go_simp; try with_reducible rfl)
  try simp only [Act.put, List.setIfInBounds_toArray, List.set_cons_zero, List.set_cons_succ]
  refine tkYes (i := 2) (v := ?_) rfl rfl (by kernel_rfl) (by kernel_rfl) (by kernel_rfl) (fun _ _ _ h => h) (by rfl) ?_ (by assumption) ?_
  rotate_left
  · (intro w' hSw; (try dsimp only at hSw); go_simp; try with_reducible rfl)
  try simp only [Act.put, List.setIfInBounds_toArray, List.set_cons_zero, List.set_cons_succ]
  refine wpAnyH_ready (rs := [1]) (by kernel_rfl) (by simp) ?_
  refine AllReadyH.cons rfl (fun K hK => ?_) AllReadyH.nil
  go_simp
  refine (smost_any p R1 4096 5 _ HD.out.rd).mono ?_
  intro x w2 hx
  rcases hr : R1.rd 4 0 4096 5 with ⟨e, a⟩ | ⟨m, R2⟩
  · rw [hr] at hx
    obtain ⟨rfl, hk⟩ := hx
    have K := Lib.hid (HD.out.call0 hk)
    have E2 := Lib.hid hr
    clear hk hr
    go_wp2_with fail
    refine ⟨rfl, ?_⟩
    rw [HPOST.out]
    simp only [Rd.matE, E1.out, E2.out, Except.bind]
    exact ⟨rfl, K.out⟩
  rw [hr] at hx
  obtain ⟨rfl, hrd, hk⟩ := hx
  replace HD := Lib.hid (HD.out.call hrd hk)
  have E2 := Lib.hid hr
  have HMI := Lib.hid (rd_in hr)
  clear hk hr hrd
  go_wp2_with fail
  refine hK.out _ _ ?_ (fun hHeld => ?_)
  · exact HD.out.src.cell 0
  clear hK K
  try simp only [Act.put, List.setIfInBounds_toArray, List.set_cons_zero, List.set_cons_succ]
  refine wpAnyH_ready (rs := [3]) (by kernel_rfl) (by simp) ?_
  refine AllReadyH.cons rfl (fun K hK => ?_) AllReadyH.nil
  go_simp
  refine (smost_any p R2 4096 5 _ HD.out.rd).mono ?_
  intro x w3 hx
  rcases hr : R2.rd 4 0 4096 5 with ⟨e, a⟩ | ⟨c, R3⟩
  · rw [hr] at hx
    obtain ⟨rfl, hk⟩ := hx
    have K := Lib.hid (HD.out.call0 hk)
    have E3 := Lib.hid hr
    clear hk hr
    go_wp2_with fail
    refine ⟨rfl, ?_⟩
    rw [HPOST.out]
    simp only [Rd.matE, E1.out, E2.out, E3.out, Except.bind]
    exact ⟨rfl, K.out⟩
  rw [hr] at hx
  obtain ⟨rfl, hrd, hk⟩ := hx
  replace HD := Lib.hid (HD.out.call hrd hk)
  have E3 := Lib.hid hr
  have HCI := Lib.hid (rd_in hr)
  clear hk hr hrd
  go_wp2_with fail
  refine hK.out _ _ ?_ (fun hHeld => ?_)
  · exact HD.out.src.cell 0
  clear hK K
  try simp only [Act.put, List.setIfInBounds_toArray, List.set_cons_zero, List.set_cons_succ]
  have s0 := HD.out.fm.cell 0
  have sf := HD.out.fm.frozen 0
  have sl := HD.out.fm.lt
  simp only [List.getElem?_cons_zero] at s0
  refine wpAnyH_ready (rs := [4]) (by kernel_rfl) (by simp) ?_
  refine AllReadyH.cons rfl (fun K hK => ?_) AllReadyH.nil
  go_simp
  go_wp2_with fail
  replace HD := Lib.hid (HD.out.setM m)
  clear s0 sf sl
  refine hK.out _ _ ?_ (fun hHeld => ?_)
  · exact HD.out.src.cell 0
  clear hK K
  try simp only [Act.put, List.setIfInBounds_toArray, List.set_cons_zero, List.set_cons_succ]
  generalize World.setCell _ ⟨mb, 0, none⟩ (.int .i64 m) = w4 at *
  have s0 := HD.out.fc.cell 0
  have sf := HD.out.fc.frozen 0
  have sl := HD.out.fc.lt
  simp only [List.getElem?_cons_zero] at s0
  refine wpAnyH_ready (rs := [5]) (by kernel_rfl) (by simp) ?_
  refine AllReadyH.cons rfl (fun K hK => ?_) AllReadyH.nil
  go_simp
  go_wp2_with fail
  replace HD := Lib.hid (HD.out.setC c)
  clear s0 sf sl
  refine hK.out _ _ ?_ (fun hHeld => ?_)
  · exact HD.out.src.cell 0
  clear hK K
  try simp only [Act.put, List.setIfInBounds_toArray, List.set_cons_zero, List.set_cons_succ]
  refine wpAnyH_done (by kernel_rfl) ?_ _
  generalize hwz : World.setCell _ _ _ = wz at *
  clear hwz
  have y0 := HD.out.src.cell 0
  have l0 := HD.out.src.lt
  simp only [List.getElem?_cons_zero] at y0
  go_wp2_with fail
  refine (smost_any p R3 65536 5 _ HD.out.rd).mono ?_
  intro x w8 hx
  rcases hr : R3.rd 4 0 65536 5 with ⟨e, a⟩ | ⟨n, R4⟩
  · rw [hr] at hx
    obtain ⟨rfl, hk⟩ := hx
    have K := Lib.hid (HD.out.call0 hk)
    have E4 := Lib.hid hr
    clear hk hr y0 l0
    go_wp2_with fail
    refine ⟨rfl, ?_⟩
    rw [HPOST.out]
    simp only [Rd.matE, E1.out, E2.out, E3.out, E4.out, Except.bind]
    exact ⟨rfl, K.out⟩
  rw [hr] at hx
  obtain ⟨rfl, hrd, hk⟩ := hx
  replace HD := Lib.hid (HD.out.call hrd hk)
  have E4 := Lib.hid hr
  obtain ⟨hm0, hm1⟩ := rd_in hr
  obtain ⟨many, rfl⟩ : ∃ many : Nat, n = many := ⟨n.toNat, by omega⟩
  have HM := Lib.hid (show many ≤ 65536 by omega)
  clear hk hr hrd y0 l0 hm0 hm1
  have HL := Lib.hid (Blk.new w8 30 [.int .i64 (-1), .int .i64 0, .int .i64 0])
  have HLG := Lib.hid (show w.heap.size ≤ w8.heap.size from HD.out.kept.size)
  replace HD := Lib.hid (HD.out.kept0 ((Kept.refl [] w8).alloc (.cells #[.int .i64 (-1), .int .i64 0, .int .i64 0] 30)))
  go_upto_region 4 with (fail)
  have hw9 : w8.heap.size < (w8.alloc (.cells #[.int .i64 (-1), .int .i64 0, .int .i64 0] 30)).heap.size := HL.out.lt
  generalize w8.alloc (.cells #[.int .i64 (-1), .int .i64 0, .int .i64 0] 30) = w9 at *
  generalize w8.heap.size = lb at *
  have HLT := Lib.hid hw9
  clear hw9
  go_wp2_with fail
  refine (rowsT_any p q mb cb lb R4 m c (-1, 0, 0) many _ HD.out.rd HD.out.src HD.out.fm HD.out.fc HL.out HLT.out HMI.out HCI.out HM.out).mono ?_
  intro x w10 hx
  have ETN : (many : Int).toNat = many := Int.toNat_natCast _
  have nb : ∀ z ∈ [p, lb], z ∈ [p] ∨ z = lb := fun z hz => by simpa using hz
  have n1 : mb ∉ [p, lb] := by have h1 := rd_ne HD.out.rd HD.out.fm (by decide); have h2 := HD.out.fm.ne HL.out (by decide); simp at h1 ⊢; exact ⟨h1, h2⟩
  have n2 : cb ∉ [p, lb] := by have h1 := rd_ne HD.out.rd HD.out.fc (by decide); have h2 := HD.out.fc.ne HL.out (by decide); simp at h1 ⊢; exact ⟨h1, h2⟩
  have n3 : tb ∉ [p, lb] := by have h1 := rd_ne HD.out.rd HD.out.ft (by decide); have h2 := HD.out.ft.ne HL.out (by decide); simp at h1 ⊢; exact ⟨h1, h2⟩
  have n4 : q ∉ [p, lb] := by have h1 := rd_ne HD.out.rd HD.out.src (by decide); have h2 := HD.out.src.ne HL.out (by decide); simp at h1 ⊢; exact ⟨h1, h2⟩
  rcases hr : Rd.trips m c many (-1, 0, 0) R4 [] with ⟨e, a⟩ | ⟨l, R5⟩
  · rw [hr] at hx
    obtain ⟨rfl, hk⟩ := hx
    have K := Lib.hid (HD.out.kept.then hk (fun z hz => (nb z hz).elim (fun h => .inl (by simp at h; simp [h])) (fun h => .inr (by rw [h]; exact HLG.out))))
    have E5 := Lib.hid hr
    have B := Lib.hid (And.intro (HD.out.fm.kept hk n1) (And.intro (HD.out.fc.kept hk n2) (HD.out.ft.kept hk n3)))
    clear hk hr n1 n2 n3 n4 nb
    go_wp2_with fail
    refine ⟨rfl, ?_⟩
    rw [HPOST.out]
    simp only [Rd.matE, E1.out, E2.out, E3.out, E4.out, Except.bind, ETN, E5.out]
    exact ⟨rfl, ⟨_, _, _, B.out⟩, K.out⟩
  rw [hr] at hx
  obtain ⟨⟨u, rfl, ho⟩, hrd, hk⟩ := hx
  have HO := Lib.hid (own_le (base' := w.heap.size) ho HD.out.kept.size)
  replace HD := Lib.hid (show MgAt w w10 p q mb cb tb R5 m c v0 from ⟨hrd, HD.out.src.kept hk n4, HD.out.fm.kept hk n1, HD.out.fc.kept hk n2, HD.out.ft.kept hk n3, HD.out.kept.then hk (fun z hz => (nb z hz).elim (fun h => .inl (by simp at h; simp [h])) (fun h => .inr (by rw [h]; exact HLG.out))), HD.out.ne⟩)
  obtain ⟨A5, c5, rfl⟩ := own_n ho
  have E5 := Lib.hid hr
  clear hk hr hrd ho n1 n2 n3 n4 nb
  have t0 := HD.out.ft.cell 0
  have f0 := HD.out.ft.frozen 0
  have tl := HD.out.ft.lt
  simp only [List.getElem?_cons_zero] at t0
  go_upto_region 5 with (fail)
  replace HO := Lib.hid (own_kept (L := [tb]) HO.out ((Kept.refl [tb] w10).setCell (p := ⟨tb, 0, none⟩) (.inl (by simp)) (.slice A5 l.length c5)) (fun z hz => by have := own_ne_blk HO.out HD.out.ft (by decide); rw [hz] at this; simpa using this))
  replace HD := Lib.hid (HD.out.setT (.slice A5 l.length c5))
  generalize w10.setCell ⟨tb, 0, none⟩ (.slice A5 l.length c5) = w11 at *
  clear t0 f0 tl
  have y0 := HD.out.src.cell 0
  have l0 := HD.out.src.lt
  simp only [List.getElem?_cons_zero] at y0
  go_wp2_with fail
  refine (send_any p R5 _ HD.out.rd).mono ?_
  rintro x w12 ⟨hx, hk⟩
  by_cases he : R5.atEnd = true
  case neg =>
    rw [if_neg he] at hx
    subst hx
    have HE := Lib.hid he
    replace HD := Lib.hid (HD.out.kept0 hk)
    clear he hk y0 l0
    go_wp2_with fail
    refine ⟨rfl, ?_⟩
    rw [HPOST.out]
    simp only [Rd.matE, E1.out, E2.out, E3.out, E4.out, Except.bind, ETN, E5.out]
    rw [if_neg HE.out]
    exact ⟨rfl, ⟨_, _, _, HD.out.fm, HD.out.fc, HD.out.ft⟩, HD.out.kept⟩
  rw [if_pos he] at hx
  subst hx
  have HE := Lib.hid he
  replace HO := Lib.hid (own_kept0 HO.out hk)
  replace HD := Lib.hid (HD.out.kept0 hk)
  clear he hk y0 l0
  go_wp2_with fail
  go_end0
  rw [HPOST.out]
  simp only [Rd.matE, E1.out, E2.out, E3.out, E4.out, Except.bind, ETN, E5.out]
  rw [if_pos HE.out]
  exact ⟨rfl, ⟨_, HD.out.fm, HD.out.fc, HD.out.ft, HO.out⟩, HD.out.kept⟩
end Go.Proofs.Ytibjpjpbmkdddaa
