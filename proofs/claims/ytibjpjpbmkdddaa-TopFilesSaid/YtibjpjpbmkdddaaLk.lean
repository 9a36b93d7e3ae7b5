/- Loader: the closure that reads a graph. -/
import Derived.Test.YtibjpjpbmkdddaaLi
namespace Go.Proofs.Ytibjpjpbmkdddaa
set_option linter.unusedSimpArgs false
set_option linter.unusedVariables false
open Go.ChangeShapes Go.WideShapes Go.ChangeAt Go.RowKit
open Go.RowKit (wrap32 wrap64)
set_option maxHeartbeats 8000000

abbrev frt1 : List UInt8 := [70, 82, 84, 49]
abbrev frm1 : List UInt8 := [70, 82, 77, 49]
theorem rd_in {R R' : Rd} {k low most e n : Int} (h : R.rd k low most e = .ok (n, R')) : low ≤ n ∧ n ≤ most := by
  unfold Rd.rd at h
  split at h
  · cases h
  · split at h
    · rename_i hr
      injection h with h
      injection h with h1 h2
      subst h1
      exact hr
    · cases h
/-- What bytes are as a graph, before it is made canonical: the kind, how many vertices, the edges; or what is wrong first, and where. -/
def Rd.graphE (R : Rd) : Except (Int × Int) ((Int × Int × List Ed) × Rd) :=
  (R.mark frt1).bind fun R1 => (R1.rd 1 0 1 8).bind fun k => (k.2.rd 4 0 4096 5).bind fun n => (n.2.rd 4 0 65536 5).bind fun m => (Rd.edges n.1 k.1 m.1.toNat m.2 []).bind fun e =>
    if e.2.atEnd = true then .ok ((k.1, n.1, e.1), e.2) else .error (4, e.2.pos)
structure DgAt (w0 w : World) (p q g : Nat) (R : Rd) (cs : List Value) : Prop where
  rd : RdAt 138 w p R
  src : Blk w q 77 [.pointer (some ⟨p, 0, none⟩)]
  gr : Blk w g 24 cs
  kept : Kept [p, g] w0 w
section
variable {w0 w w' : World} {p q g : Nat} {R R' : Rd} {cs : List Value}
theorem DgAt.call (h : DgAt w0 w p q g R cs) (hr : RdAt 138 w' p R') (hk : Kept [p] w w') : DgAt w0 w' p q g R' cs :=
  ⟨hr, h.src.kept hk (rd_ne h.rd h.src (by decide)), h.gr.kept hk (rd_ne h.rd h.gr (by decide)), h.kept.then hk (fun m hm => .inl (by simp at hm; simp [hm]))⟩
theorem DgAt.kept0 (h : DgAt w0 w p q g R cs) (hk : Kept [] w w') : DgAt w0 w' p q g R cs :=
  ⟨h.rd.kept0 hk, h.src.kept hk (by simp), h.gr.kept hk (by simp), h.kept.then hk (by simp)⟩
theorem DgAt.set (h : DgAt w0 w p q g R cs) (j : Nat) (u : Value) : DgAt w0 (w.setCell ⟨g, j, none⟩ u) p q g R (cs.set j u) :=
  have hk : Kept [g] w (w.setCell ⟨g, j, none⟩ u) := (Kept.refl [g] w).setCell (p := ⟨g, j, none⟩) (.inl (by simp)) u
  ⟨h.rd.kept1 h.gr (by decide) (by decide) hk, h.src.kept hk (by have := h.src.ne h.gr (by decide); simpa using this), h.gr.set j u, h.kept.setCell (p := ⟨g, j, none⟩) (.inl (by simp)) u⟩
end
def GPost (p g : Nat) (w : World) (r : Except (Int × Int) ((Int × Int × List Ed) × Rd)) (x : Ending) (w' : World) : Prop :=
  match r with
  | .ok ((_, N, l), _) => x = .returned (.tuple #[]) ∧ (∃ u, Blk w' g 24 [.int .i64 N, u] ∧ w'.ownsRow w.heap.size 28 3 u l.length (l.flatMap edV)) ∧ Kept [p, g] w w'
  | .error (e, a) => x = .panicked [stp e a] ∧ Kept [p, g] w w'
set_option maxRecDepth 100000 in
theorem graph_any (p q g : Nat) (R : Rd) (v0 v1 : Value) (w : World) (h : RdAt 138 w p R) (hq : Blk w q 77 [.pointer (some ⟨p, 0, none⟩)]) (hg : Blk w g 24 [v0, v1]) :
    Calls Try.prog 71 #[.pointer (some ⟨q, 0, none⟩), .pointer (some ⟨g, 0, none⟩)] w (GPost p g w R.graphE) := by
  have HD := Lib.hid (show DgAt w w p q g R [v0, v1] from ⟨h, hq, hg, Kept.refl _ _⟩)
  clear h hq hg
  obtain ⟨post, hpost⟩ : ∃ post : Ending → World → Prop, post = GPost p g w R.graphE := ⟨_, rfl⟩
  rw [← hpost]
  have HPOST := Lib.hid hpost
  clear hpost
  have y0 := HD.out.src.cell 0
  have l0 := HD.out.src.lt
  simp only [List.getElem?_cons_zero] at y0
  go_enter Try.func71, Try.ntmps71
  go_wp2_with fail
  refine (smark_any p R frt1 _ rfl HD.out.rd).mono ?_
  intro x w1 hx
  rcases hr : R.mark frt1 with ⟨e, a⟩ | R1
  · rw [hr] at hx
    obtain ⟨rfl, hk⟩ := hx
    have K := Lib.hid (HD.out.kept.then hk (fun m hm => .inl (by simp at hm; simp [hm])))
    have E1 := Lib.hid hr
    clear hk hr y0 l0
    go_wp2_with fail
    refine ⟨rfl, ?_⟩
    rw [HPOST.out]
    simp only [Rd.graphE, E1.out, Except.bind]
    exact ⟨rfl, K.out⟩
  rw [hr] at hx
  obtain ⟨rfl, hrd, hk⟩ := hx
  replace HD := Lib.hid (HD.out.call hrd hk)
  have E1 := Lib.hid hr
  clear hk hr hrd y0 l0
  have y0 := HD.out.src.cell 0
  have l0 := HD.out.src.lt
  simp only [List.getElem?_cons_zero] at y0
  go_wp2_with fail
  refine (at_rd p R1 _ HD.out.rd).mono ?_
  rintro x w2 ⟨rfl, rfl⟩
  go_wp2_with fail
  refine (u8_any p R1 _ HD.out.rd).mono ?_
  rintro x w2 ⟨rfl, hrd, hk⟩
  rw [num_got1]
  replace HD := Lib.hid (HD.out.call hrd hk)
  have hlt := num_got1_lt R1
  obtain ⟨k, hkk⟩ : ∃ k : Int, k = (num (R1.got 1) : Int) := ⟨_, rfl⟩
  rw [← hkk] at hlt ⊢
  have hk0 : 0 ≤ k := by omega
  have EK := Lib.hid hkk
  clear hkk hk hrd y0 l0
  have HK := Lib.hid (Blk.new w2 5 [.int .u8 k])
  replace HD := Lib.hid (HD.out.kept0 ((Kept.refl [] w2).alloc (.cells #[.int .u8 k] 5)))
  go_upto_region 3 with (fail)
  generalize w2.alloc (.cells #[.int .u8 k] 5) = w3 at *
  generalize w2.heap.size = kb at HK ⊢
  have y0 := HD.out.src.cell 0
  have l0 := HD.out.src.lt
  simp only [List.getElem?_cons_zero] at y0
  go_wp2_with fail
  refine (sok_any p (R1.after 1) _ HD.out.rd).mono ?_
  rintro x w4 ⟨hx, hk⟩
  have HKN := Lib.hid (HK.out.kept hk (by simp))
  replace HD := Lib.hid (HD.out.kept0 hk)
  replace HK := HKN
  clear hk HKN y0 l0
  by_cases he : (R1.after 1).e = 0
  case neg =>
    rw [if_neg he] at hx
    subst hx
    have E2 := Lib.hid (show R1.rd 1 0 1 8 = .error ((R1.after 1).e, (R1.after 1).fat) from by unfold Rd.rd; rw [if_pos he])
    clear he hlt
    go_wp2_with fail
    refine ⟨rfl, ?_⟩
    rw [HPOST.out]
    simp only [Rd.graphE, E1.out, E2.out, Except.bind]
    exact ⟨rfl, HD.out.kept⟩
  rw [if_pos he] at hx
  subst hx
  have HE := Lib.hid he
  clear he
  have z0 := HK.out.cell 0
  have zl := HK.out.lt
  simp only [List.getElem?_cons_zero] at z0
  by_cases hk1 : k ≤ 1
  case neg =>
    have E2 := Lib.hid (show R1.rd 1 0 1 8 = .error (8, R1.pos) from by unfold Rd.rd; rw [if_neg (by simpa using HE.out), if_neg (by rw [← EK.out]; omega)])
    go_wp2_with fail
    refine (unless_no _ _ _ _ (by first | rfl | (simp; omega))).mono ?_
    rintro x w5 ⟨rfl, rfl⟩
    go_wp2_with fail
    refine ⟨rfl, ?_⟩
    rw [HPOST.out]
    simp only [Rd.graphE, E1.out, E2.out, Except.bind]
    exact ⟨rfl, HD.out.kept⟩
  have E2 := Lib.hid (show R1.rd 1 0 1 8 = .ok (k, R1.after 1) from by unfold Rd.rd; rw [if_neg (by simpa using HE.out), ← EK.out, if_pos ⟨hk0, hk1⟩])
  go_wp2_with fail
  refine (unless_yes _ _ _ _ (by first | rfl | (simp; omega))).mono ?_
  rintro x w5 ⟨rfl, rfl⟩
  have hk01 : k = 0 ∨ k = 1 := by omega
  clear hk0 hk1 hlt z0 zl EK HE
  generalize R1.after 1 = R2 at *
  have HKK := Lib.hid hk01
  clear hk01
  have y0 := HD.out.src.cell 0
  have l0 := HD.out.src.lt
  simp only [List.getElem?_cons_zero] at y0
  go_wp2_with fail
  refine (smost_any p R2 4096 5 _ HD.out.rd).mono ?_
  intro x w6 hx
  rcases hr : R2.rd 4 0 4096 5 with ⟨e, a⟩ | ⟨N, R3⟩
  · rw [hr] at hx
    obtain ⟨rfl, hk⟩ := hx
    have K := Lib.hid (HD.out.kept.then hk (fun m hm => .inl (by simp at hm; simp [hm])))
    have E3 := Lib.hid hr
    clear hk hr y0 l0
    go_wp2_with fail
    refine ⟨rfl, ?_⟩
    rw [HPOST.out]
    simp only [Rd.graphE, E1.out, E2.out, E3.out, Except.bind]
    exact ⟨rfl, K.out⟩
  rw [hr] at hx
  obtain ⟨rfl, hrd, hk⟩ := hx
  replace HK := Lib.hid (HK.out.kept hk (rd_ne HD.out.rd HK.out (by decide)))
  replace HD := Lib.hid (HD.out.call hrd hk)
  have E3 := Lib.hid hr
  have HN := Lib.hid (rd_in hr)
  clear hk hr hrd y0 l0
  have c0 := HD.out.gr.cell 0
  have f0 := HD.out.gr.frozen 0
  have cl := HD.out.gr.lt
  simp only [List.getElem?_cons_zero] at c0
  go_upto_region 6 with (fail)
  replace HK := Lib.hid (HK.out.far (p := ⟨g, 0, none⟩) (HK.out.ne HD.out.gr (by decide)) (.int .i64 N))
  replace HD := Lib.hid (HD.out.set 0 (.int .i64 N))
  simp only [List.set_cons_zero] at HD
  generalize w6.setCell ⟨g, 0, none⟩ (.int .i64 N) = w7 at *
  clear c0 f0 cl
  have y0 := HD.out.src.cell 0
  have l0 := HD.out.src.lt
  simp only [List.getElem?_cons_zero] at y0
  go_wp2_with fail
  refine (smost_any p R3 65536 5 _ HD.out.rd).mono ?_
  intro x w8 hx
  rcases hr : R3.rd 4 0 65536 5 with ⟨e, a⟩ | ⟨m, R4⟩
  · rw [hr] at hx
    obtain ⟨rfl, hk⟩ := hx
    have K := Lib.hid (HD.out.kept.then hk (fun m hm => .inl (by simp at hm; simp [hm])))
    have E4 := Lib.hid hr
    clear hk hr y0 l0
    go_wp2_with fail
    refine ⟨rfl, ?_⟩
    rw [HPOST.out]
    simp only [Rd.graphE, E1.out, E2.out, E3.out, E4.out, Except.bind]
    exact ⟨rfl, K.out⟩
  rw [hr] at hx
  obtain ⟨rfl, hrd, hk⟩ := hx
  replace HK := Lib.hid (HK.out.kept hk (rd_ne HD.out.rd HK.out (by decide)))
  replace HD := Lib.hid (HD.out.call hrd hk)
  have E4 := Lib.hid hr
  obtain ⟨hm0, hm1⟩ := rd_in hr
  obtain ⟨many, rfl⟩ : ∃ many : Nat, m = many := ⟨m.toNat, by omega⟩
  have HM := Lib.hid (show many ≤ 65536 by omega)
  clear hk hr hrd y0 l0 hm0 hm1
  have y0 := HD.out.src.cell 0
  have l0 := HD.out.src.lt
  simp only [List.getElem?_cons_zero] at y0
  go_wp2_with fail
  refine (rowsE_any p q g kb R4 N k v1 many _ HD.out.rd HD.out.src HD.out.gr HK.out HN.out HKK.out HM.out).mono ?_
  intro x w9 hx
  have ETN : (many : Int).toNat = many := Int.toNat_natCast _
  rcases hr : Rd.edges N k many R4 [] with ⟨e, a⟩ | ⟨l, R5⟩
  · rw [hr] at hx
    obtain ⟨rfl, hk⟩ := hx
    have K := Lib.hid (HD.out.kept.then hk (fun m hm => .inl (by simp at hm; simp [hm])))
    have E5 := Lib.hid hr
    clear hk hr y0 l0
    go_wp2_with fail
    refine ⟨rfl, ?_⟩
    rw [HPOST.out]
    simp only [Rd.graphE, E1.out, E2.out, E3.out, E4.out, Except.bind, ETN, E5.out]
    exact ⟨rfl, K.out⟩
  rw [hr] at hx
  obtain ⟨⟨u, rfl, ho⟩, hrd, hk⟩ := hx
  have HO := Lib.hid (own_le (base' := w.heap.size) ho HD.out.kept.size)
  replace HD := Lib.hid (HD.out.call hrd hk)
  obtain ⟨A5, c5, rfl⟩ := own_n ho
  have E5 := Lib.hid hr
  clear hk hr hrd ho y0 l0
  have c0 := HD.out.gr.cell 1
  have f0 := HD.out.gr.frozen 1
  have cl := HD.out.gr.lt
  simp only [List.getElem?_cons_zero, List.getElem?_cons_succ] at c0
  go_upto_region 8 with (fail)
  replace HO := Lib.hid (own_kept (L := [g]) HO.out ((Kept.refl [g] w9).setCell (p := ⟨g, 1, none⟩) (.inl (by simp)) (.slice A5 l.length c5)) (fun z hz => by have := own_ne_blk HO.out HD.out.gr (by decide); rw [hz] at this; simpa using this))
  replace HD := Lib.hid (HD.out.set 1 (.slice A5 l.length c5))
  simp only [List.set_cons_zero, List.set_cons_succ] at HD
  generalize w9.setCell ⟨g, 1, none⟩ (.slice A5 l.length c5) = w10 at *
  clear c0 f0 cl
  have y0 := HD.out.src.cell 0
  have l0 := HD.out.src.lt
  simp only [List.getElem?_cons_zero] at y0
  go_wp2_with fail
  refine (send_any p R5 _ HD.out.rd).mono ?_
  rintro x w11 ⟨hx, hk⟩
  by_cases he : R5.atEnd = true
  case neg =>
    rw [if_neg he] at hx
    subst hx
    have HE := Lib.hid he
    replace HD := Lib.hid (HD.out.kept0 hk)
    clear he hk y0 l0
    go_wp2_with fail
    refine ⟨rfl, ?_⟩
    rw [HPOST.out]
    simp only [Rd.graphE, E1.out, E2.out, E3.out, E4.out, Except.bind, ETN, E5.out]
    rw [if_neg HE.out]
    exact ⟨rfl, HD.out.kept⟩
  rw [if_pos he] at hx
  subst hx
  have HE := Lib.hid he
  replace HO := Lib.hid (own_kept0 HO.out hk)
  replace HD := Lib.hid (HD.out.kept0 hk)
  clear he hk y0 l0
  go_wp2_with fail
  go_end0
  rw [HPOST.out]
  simp only [Rd.graphE, E1.out, E2.out, E3.out, E4.out, Except.bind, ETN, E5.out]
  rw [if_pos HE.out]
  exact ⟨rfl, ⟨_, HD.out.gr, HO.out⟩, HD.out.kept⟩
end Go.Proofs.Ytibjpjpbmkdddaa
