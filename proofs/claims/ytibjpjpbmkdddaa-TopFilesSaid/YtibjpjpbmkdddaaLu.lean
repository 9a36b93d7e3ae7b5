/- Loader: the walk of EncodeMatrix. -/
import Derived.Test.YtibjpjpbmkdddaaLt
import Derived.Test.YtibjpjpbmkdddaaLh
import Derived.Test.YtibjpjpbmkdddaaTake
import Derived.Test.YtibjpjpbmkdddaaE19
namespace Go.Proofs.Ytibjpjpbmkdddaa
set_option linter.unusedSimpArgs false
set_option linter.unusedVariables false
open Go.ChangeShapes Go.WideShapes Go.ChangeAt Go.RowKit
open Go.RowKit (wrap32 wrap64)
set_option maxHeartbeats 8000000

section
variable {P : Program} {ops : Array Oper} {Q : Exit → Act → World → Prop} {rest : List Oper} {o : Oper} {a : Act} {w : World}
theorem wpList_appG (hgd : o.guard = none) (s x : Operand) (t : TypeId) (ho : o.op = .call { callee := .builtin .append, args := #[s, x], argTypes := #[t, t] })
    (e : TypeId) (z : Value) (size bytes : Nat) (ht : P.underlying t = some (.slice e)) (hinfo : Info P e z size bytes) (hzs : z.cells.size = size) (hsz : 0 < size)
    (base b off sLen sCap : Nat) (xs : List Value) (hs : a.eval s = .slice (some ⟨b, off, none⟩) sLen sCap) (hxs : xs.length = sLen * size) (hro : Reads w (some ⟨b, off, none⟩) xs)
    (A : Option Addr) (m c : Nat) (news : List Value) (hx : a.eval x = .slice A m c) (hl : news.length = m * size) (hr : Reads w A news) (hne : news ≠ []) (hg : sCap < sLen + m)
    (hbytes : (sLen + m) * bytes ≤ 140737488355328) (h63 : sLen + m ≤ maxLen) (hbase : base ≤ w.heap.size)
    (h : ∀ v' w', w'.ownsRow base e size v' (sLen + m) (xs ++ news) → Kept [] w w' → wpList P ops Q rest (a.put o.dst v') w') :
    wpList P ops Q (o :: rest) a w := by
  refine wpList_plain hgd fun K hK => ?_
  obtain ⟨i, hi, hz, hsize, hby⟩ := info_parts hinfo
  subst hsize
  subst hby
  have hsmall : sLen + m ≤ 9223372036854775807 := by simp only [maxLen] at h63; omega
  have hlen : (xs ++ news).length = (sLen + m) * i.size := by rw [List.length_append, hxs, hl, Nat.add_mul]
  obtain ⟨b2, off2, rfl, hb, hc⟩ := hr hne
  have ho2 : ∀ j u, xs[j]? = some u → w.cell? ((⟨b, off, none⟩ : Addr).add j) = some u := fun j u hu => by
    have hxn : xs ≠ [] := by rintro rfl; simp at hu
    obtain ⟨b', off', e', _, hc'⟩ := hro hxn
    obtain ⟨rfl, rfl⟩ : b = b' ∧ off = off' := by simpa using e'
    rw [Addr.add_lit]
    exact hc' j u hu
  have hrun := run_append_grow (P := P) w t o.type e i z ht hi hz ⟨b, off, none⟩ sLen sCap xs hxs ho2 ⟨b2, off2, none⟩ m c news hl (fun j u hu => by rw [Addr.add_lit]; exact hc j u hu) hg (by omega) (growslice_fits (by omega) hbytes)
  have hge := grownCap_ge w (sLen + m) sCap e
  have hcm : grownCap w (sLen + m) sCap e ≤ maxLen := grownCap_le_maxLen w (sLen + m) sCap e h63
  unfold Oper.wp execOp
  simp only [ho, resolve, invoke, builtin, Sem.run_bind, Sem.run_pure, Result.andThen_ok, List.map_toArray, List.map_cons, List.map_nil, hs, hx, hrun]
  refine hK _ _ (h _ _ ⟨hlen, .inr ⟨w.heap.size, _, _, rfl, hbase, heap_alloc_new w.drew _, hge, hcm, ?_, ?_⟩⟩ (((Kept.refl [] w).drew).alloc _))
  · simp only [Array.size_append, List.size_toArray, size_zeroCells, hzs, hxs, hl, ← Nat.add_mul]
    congr 1
    omega
  · simp only [Array.toList_append, List.append_assoc]
    rw [← List.append_assoc, ← hlen]
    exact List.take_left
end
/-- What is wrong with a matrix that is written. -/
noncomputable def encMW (m c : Int) (l : List Ed) : Int := if m < 0 ∨ c < 0 then 3 else if 4096 < m ∨ 4096 < c ∨ 65536 < l.length then 5 else if l.any (badT m c) = true then 3 else if risesE l = false then 6 else 0
def hdrM (m c : Int) (n : Nat) : List UInt8 := frm1 ++ fours [m, c, (n : Int)]
theorem matB_hdr (m c : Int) (l : List Ed) : matB (m, c, l) = hdrM m c l.length ++ l.flatMap tripB := by simp [matB, hdrM, fours3]
theorem hdrM_length (m c : Int) (n : Nat) : (hdrM m c n).length = 16 := by simp [hdrM, fours_length]
theorem catM_len (m c : Int) (n : Nat) (l : List Ed) (j : Nat) (hj : j ≤ l.length) (hl : l.length ≤ 65536) : (hdrM m c n ++ (l.take j).flatMap tripB).length ≤ 1100000 := by
  rw [List.length_append, hdrM_length, flatB_length tripB 16 tripB_length, List.length_take]
  omega
/-- The walk up to the loop, where the numbers are right: what EncodeMatrix comes to. -/
def EncMPost (w : World) (m c : Int) (l : List Ed) (x : Ending) (w' : World) : Prop :=
  (if encMW m c l = 0 then ∃ v, x = .returned (.tuple #[v, .int .i64 0]) ∧ OwnB w' w.heap.size v (matB (m, c, l)) else x = .returned (.tuple #[.slice none 0 0, .int .i64 (encMW m c l)])) ∧ Kept [] w w'
set_option maxRecDepth 100000 in
theorem encodeM_any (m c : Int) (l : List Ed) (A : Option Addr) (cc : Nat) (w : World) (hA : Reads w A (l.flatMap edV)) (hl : l.length ≤ maxLen) :
    Calls Try.prog 8 #[.int .i64 m, .int .i64 c, .slice A l.length cc] w (EncMPost w m c l) := by
  have K0 := Lib.hid (((Kept.refl [] w).alloc (.cells #[.int .i64 m] 3)).alloc (.cells #[.int .i64 c] 3))
  have HM := Lib.hid ((Blk.new w 3 [.int .i64 m]).alloc (.cells #[.int .i64 c] 3))
  have HC := Lib.hid (Blk.new1F w (.cells #[.int .i64 m] 3) 3 [.int .i64 c])
  have HA := Lib.hid hA
  have hl2 := hl
  unfold maxLen at hl2
  clear hA
  obtain ⟨post, hpost⟩ : ∃ post : Ending → World → Prop, post = EncMPost w m c l := ⟨_, rfl⟩
  rw [← hpost]
  have HPOST := Lib.hid hpost
  clear hpost
  by_cases h1 : m < 0
  · have E0 := Lib.hid (show encMW m c l = 3 by unfold encMW; rw [if_pos (.inl h1)])
    clear hl2
    go_enter Try.func8, Try.ntmps8
    go_wp2_with fail
    rw [HPOST.out]
    exact ⟨by rw [E0.out, if_neg (by decide)] <;> rfl, K0.out⟩
  by_cases h2 : c < 0
  · have E0 := Lib.hid (show encMW m c l = 3 by unfold encMW; rw [if_pos (.inr h2)])
    clear hl2
    go_enter Try.func8, Try.ntmps8
    go_wp2_with fail
    rw [HPOST.out]
    exact ⟨by rw [E0.out, if_neg (by decide)] <;> rfl, K0.out⟩
  have hn12 : ¬ (m < 0 ∨ c < 0) := by omega
  by_cases h3 : 4096 < max m c
  · have E0 := Lib.hid (show encMW m c l = 5 by unfold encMW; rw [if_neg hn12, if_pos (by omega)])
    clear hl2
    go_enter Try.func8, Try.ntmps8
    go_wp2_with fail
    rw [HPOST.out]
    exact ⟨by rw [E0.out, if_neg (by decide)] <;> rfl, K0.out⟩
  by_cases h4 : 65536 < l.length
  · have h4' : (65536 : Int) < (l.length : Int) := by omega
    have E0 := Lib.hid (show encMW m c l = 5 by unfold encMW; rw [if_neg hn12, if_pos (by omega)])
    clear hl2
    go_enter Try.func8, Try.ntmps8
    go_wp2_with fail
    rw [HPOST.out]
    exact ⟨by rw [E0.out, if_neg (by decide)] <;> rfl, K0.out⟩
  have h4' : ¬ (65536 : Int) < (l.length : Int) := by omega
  have hn34 : ¬ (4096 < m ∨ 4096 < c ∨ 65536 < l.length) := by omega
  have HL := Lib.hid (show l.length ≤ 65536 by omega)
  cases hb : l.any (badT m c)
  case true =>
    have E0 := Lib.hid (show encMW m c l = 3 by unfold encMW; rw [if_neg hn12, if_neg hn34, if_pos hb])
    have HB := Lib.hid hb
    clear hb hn12 hn34
    go_enter Try.func8, Try.ntmps8
    go_wp2_with fail
    refine (containsTB _ _ m c l A cc _ hl (HA.out.kept0 K0.out) ⟨HM.out, HC.out⟩).mono ?_
    rintro x w3 ⟨rfl, hk⟩
    rw [HB.out]
    replace K0 := Lib.hid (K0.out.trans hk)
    clear hk
    go_wp2_with fail
    rw [HPOST.out]
    exact ⟨by rw [E0.out, if_neg (by decide)] <;> rfl, K0.out⟩
  have E0 := Lib.hid (show encMW m c l = if risesE l = false then 6 else 0 by unfold encMW; rw [if_neg hn12, if_neg hn34, if_neg (by rw [hb]; decide)])
  have HB := Lib.hid hb
  clear hb hn12 hn34
  go_enter Try.func8, Try.ntmps8
  go_wp2_with fail
  refine (containsTB _ _ m c l A cc _ hl (HA.out.kept0 K0.out) ⟨HM.out, HC.out⟩).mono ?_
  rintro x w3 ⟨rfl, hk⟩
  rw [HB.out]
  replace K0 := Lib.hid (K0.out.trans hk)
  replace HM := Lib.hid (HM.out.kept hk (by simp))
  replace HC := Lib.hid (HC.out.kept hk (by simp))
  clear hk
  go_upto_region 8 with (fail)
  clear h1 h2 h3 h4 h4' hl2
  generalize w.heap.size + 1 = g4 at HC ⊢
  obtain ⟨g3, hg3⟩ : ∃ g3, g3 = w.heap.size := ⟨_, rfl⟩
  rw [← hg3] at HM ⊢
  clear hg3
  have CV : (convert 31 31 (.slice (some ⟨w3.heap.size, 0, none⟩) 4 4)).run Try.prog (w3.alloc (.cells #[.int .u8 70, .int .u8 82, .int .u8 77, .int .u8 49] 5)) = .ok (.slice (some ⟨w3.heap.size, 0, none⟩) 4 4) (w3.alloc (.cells #[.int .u8 70, .int .u8 82, .int .u8 77, .int .u8 49] 5 (4, 5))) := Lib.run_convert_bytes_const w3 31 5 #[.int .u8 70, .int .u8 82, .int .u8 77, .int .u8 49] 4 4 Try.underlying31 Try.underlying5
  have kA : Kept [] w3 ((w3.alloc (.cells #[.int .u8 70, .int .u8 82, .int .u8 77, .int .u8 49] 5 (4, 5))).alloc (.cells #[.int .i64 m, .int .i64 c, .int .i64 l.length] 3)) := ((Kept.refl [] w3).alloc _).alloc _
  have m0 := (HM.out.kept ((Kept.refl [] w3).alloc (.cells #[.int .u8 70, .int .u8 82, .int .u8 77, .int .u8 49] 5 (4, 5))) (by simp)).cell 0
  have n0 := (HC.out.kept ((Kept.refl [] w3).alloc (.cells #[.int .u8 70, .int .u8 82, .int .u8 77, .int .u8 49] 5 (4, 5))) (by simp)).cell 0
  have ml := (HM.out.kept ((Kept.refl [] w3).alloc (.cells #[.int .u8 70, .int .u8 82, .int .u8 77, .int .u8 49] 5 (4, 5))) (by simp)).lt
  have nl := (HC.out.kept ((Kept.refl [] w3).alloc (.cells #[.int .u8 70, .int .u8 82, .int .u8 77, .int .u8 49] 5 (4, 5))) (by simp)).lt
  simp only [List.getElem?_cons_zero] at m0 n0
  have HB4 := Lib.hid ((reads_marked w3 [.int .u8 70, .int .u8 82, .int .u8 77, .int .u8 49] 5 4 5).kept0 ((Kept.refl [] _).alloc (.cells #[.int .i64 m, .int .i64 c, .int .i64 l.length] 3)))
  have HB2 := Lib.hid (show Blk ((w3.alloc (.cells #[.int .u8 70, .int .u8 82, .int .u8 77, .int .u8 49] 5 (4, 5))).alloc (.cells #[.int .i64 m, .int .i64 c, .int .i64 l.length] 3)) (w3.heap.size + 1) 3 [.int .i64 m, .int .i64 c, .int .i64 l.length] from Blk.new1F w3 _ 3 [.int .i64 m, .int .i64 c, .int .i64 l.length])
  replace K0 := Lib.hid (K0.out.trans kA)
  clear kA
  go_wp2_with fail
  refine (lfour_any [m, c, (l.length : Int)] (some ⟨_, 0, none⟩) 3 3 _ rfl (by decide) (Reads.of_blk HB2.out (fun _ _ h => h))).mono ?_
  rintro x w6 ⟨v, rfl, ho, hk⟩
  obtain ⟨A6, c6, rfl⟩ := own_n ho
  have H0 := Lib.hid (show Reads w6 (some ⟨w3.heap.size, 0, none⟩) (frm1.map byteV) by rw [frm1_V]; exact HB4.out.kept0 hk)
  have H2 := Lib.hid (Reads.of_own ho)
  replace K0 := Lib.hid (K0.out.trans hk)
  clear hk ho HB4 HB2 m0 n0 ml nl CV HM HC
  generalize w3.heap.size = q4 at H0 ⊢
  have HL12 := Lib.hid (show (fours [m, c, (l.length : Int)]).length = 12 by rw [fours_length]; rfl)
  have HNN := Lib.hid (show (fours [m, c, (l.length : Int)]).map byteV ≠ [] by intro h0; have := congrArg List.length h0; rw [List.length_map, HL12.out] at this; simp at this)
  have B1 := Lib.hid (show (4 + (fours [m, c, (l.length : Int)]).length) * 1 ≤ 140737488355328 by rw [HL12.out]; omega)
  have B2 := Lib.hid (show 4 + (fours [m, c, (l.length : Int)]).length ≤ maxLen by rw [HL12.out]; unfold maxLen; omega)
  have B3 := Lib.hid (show 4 < 4 + (fours [m, c, (l.length : Int)]).length by rw [HL12.out]; omega)
  go_wp2_with (first | (at_builtin; refine wpList_appG rfl (.tmp 31) (.tmp 37) _ rfl 5 (.int .u8 0) 1 1 Try.underlying31 infoU8 rfl (by decide) w.heap.size q4 0 4 4 (frm1.map byteV) rfl rfl H0.out A6 (fours [m, c, (l.length : Int)]).length c6 ((fours [m, c, (l.length : Int)]).map byteV) rfl (by simp) H2.out HNN.out B3.out B1.out B2.out K0.out.size ?_; intro vp wp howna hka; have HO := Lib.hid (OwnB.app (l := frm1) (m := fours [m, c, (l.length : Int)]) howna rfl); have Kp := Lib.hid (K0.out.trans hka); obtain ⟨A8, N8, c8, rfl⟩ := own_slice HO.out; clear howna hka))
  replace HO := Lib.hid (show OwnB wp w.heap.size (.slice A8 N8 c8) (hdrM m c l.length) from HO.out)
  replace K0 := Kp
  clear Kp B1 B2 B3 HNN HL12 H0 H2
  go_loopw [8, 41] (fun v i wr => ∃ k : Nat, k ≤ l.length ∧ i = .int .i64 k ∧ Hid (OwnB wr w.heap.size v (hdrM m c l.length ++ (l.take k).flatMap tripB)) ∧ Hid (∀ j (h : j + 1 < l.length), j + 1 < k → keyLt (keyOf l[j]) (keyOf l[j + 1]) = true) ∧ Hid (Kept [] w wr)) (fun _ i _ => l.length - (intOf i).toNat)
  case atStart => exact ⟨0, Nat.zero_le _, rfl, Lib.hid (by simpa using HO.out), Lib.hid (fun j _ h => absurd h (Nat.not_lt_zero _)), K0⟩
  case round =>
    clear HO K0
    obtain ⟨k, hk, rfl, HO, HN, K0⟩ := hrel
    obtain ⟨v, hv⟩ : ∃ v, v = u8 := ⟨_, rfl⟩
    subst hv
    have hL65 := HL.out
    by_cases hlt : k < l.length
    · obtain ⟨b, off, rfl, hbl, e0, e1, e2⟩ := edge_at (HA.out.kept0 K0.out) hlt
      obtain ⟨A3, N3, c3, rfl⟩ := own_slice HO.out
      have HCL := Lib.hid (catM_len m c l.length l k hk HL.out)
      have HST := Lib.hid (flatB_take tripB hlt)
      generalize hcur : hdrM m c l.length ++ (l.take k).flatMap tripB = cur at HO HCL
      have HCU := Lib.hid hcur
      clear hcur
      obtain ⟨E, hE⟩ : ∃ E, E = l[k] := ⟨_, rfl⟩
      rw [← hE] at e0 e1 e2 HST
      have EE := Lib.hid hE
      clear hE
      go_upto_region 12 with (fail)
      clear e0 e1 e2
      have kC : Kept [] wr (wr.alloc (.cells #[.int .i64 E.1, .int .i64 E.2.1, .int .i64 E.2.2] 30)) := (Kept.refl [] wr).alloc _
      have HE := Lib.hid (Blk.new wr 30 [.int .i64 E.1, .int .i64 E.2.1, .int .i64 E.2.2])
      replace HO := Lib.hid (HO.out.kept0 kC)
      replace K0 := Lib.hid (K0.out.trans kC)
      clear kC
      generalize wr.alloc (.cells #[.int .i64 E.1, .int .i64 E.2.1, .int .i64 E.2.2] 30) = wt at *
      generalize wr.heap.size = ge at HE ⊢
      rcases Nat.eq_zero_or_pos k with rfl | hkp
      · refine wp_region_held_drew (S := (fun w' => w'.cell? ⟨ge, 0, none⟩ = some (.int .i64 E.1))) (by kernel_rfl) ?_ (fun hHeld => ?_)
        · exact HE.out.cell 0
        replace HE := Lib.hid HE.out.drew
        replace HO := Lib.hid (HO.out.kept0 ((Kept.refl [] _).drew))
        replace K0 := Lib.hid K0.out.drew
        generalize World.drew wt = wt at *
        refine tkYes (i := 0) (v := ?_) rfl rfl (by kernel_rfl) (by kernel_rfl) (by kernel_rfl) (fun _ _ _ h => h) (by rfl) ?_ (by assumption) ?_
        rotate_left
        · (intro w' hSw; (try dsimp only at hSw); go_simp; try with_reducible rfl)
        try simp only [Act.put, List.setIfInBounds_toArray, List.set_cons_zero, List.set_cons_succ]
        refine tkYes (i := 1) (v := .bool false) rfl rfl (by kernel_rfl) (by kernel_rfl) (by kernel_rfl) (fun _ _ _ h => h) (by rfl) ?_ (by assumption) ?_
        skip
        · (intro w' hSw; (try dsimp only at hSw); go_simp; try (simp; done))
        try simp only [Act.put, List.setIfInBounds_toArray, List.set_cons_zero, List.set_cons_succ]
        refine tkYes (i := 2) (v := ?_) rfl rfl (by kernel_rfl) (by kernel_rfl) (by kernel_rfl) (fun _ _ _ h => h) (by rfl) ?_ (by assumption) ?_
        rotate_left
        · (intro w' hSw; (try dsimp only at hSw); go_simp; try with_reducible rfl)
        try simp only [Act.put, List.setIfInBounds_toArray, List.set_cons_zero, List.set_cons_succ]
        refine tkNo (i := 3) rfl rfl (by kernel_rfl) (by kernel_rfl) (by kernel_rfl) (fun _ _ _ h => h) (by rfl) (by assumption) ?_
        try simp only [Act.put, List.setIfInBounds_toArray, List.set_cons_zero, List.set_cons_succ]
        refine tkNo (i := 4) rfl rfl (by kernel_rfl) (by kernel_rfl) (by kernel_rfl) (fun _ _ _ h => h) (by rfl) (by assumption) ?_
        try simp only [Act.put, List.setIfInBounds_toArray, List.set_cons_zero, List.set_cons_succ]
        refine tkNo (i := 5) rfl rfl (by kernel_rfl) (by kernel_rfl) (by kernel_rfl) (fun _ _ _ h => h) (by rfl) (by assumption) ?_
        try simp only [Act.put, List.setIfInBounds_toArray, List.set_cons_zero, List.set_cons_succ]
        refine tkNo (i := 6) rfl rfl (by kernel_rfl) (by kernel_rfl) (by kernel_rfl) (fun _ _ _ h => h) (by rfl) (by assumption) ?_
        try simp only [Act.put, List.setIfInBounds_toArray, List.set_cons_zero, List.set_cons_succ]
        refine tkNo (i := 7) rfl rfl (by kernel_rfl) (by kernel_rfl) (by kernel_rfl) (fun _ _ _ h => h) (by rfl) (by assumption) ?_
        try simp only [Act.put, List.setIfInBounds_toArray, List.set_cons_zero, List.set_cons_succ]
        refine tkNo (i := 8) rfl rfl (by kernel_rfl) (by kernel_rfl) (by kernel_rfl) (fun _ _ _ h => h) (by rfl) (by assumption) ?_
        try simp only [Act.put, List.setIfInBounds_toArray, List.set_cons_zero, List.set_cons_succ]
        refine tkNo (i := 9) rfl rfl (by kernel_rfl) (by kernel_rfl) (by kernel_rfl) (fun _ _ _ h => h) (by rfl) (by assumption) ?_
        try simp only [Act.put, List.setIfInBounds_toArray, List.set_cons_zero, List.set_cons_succ]
        refine tkNo (i := 10) rfl rfl (by kernel_rfl) (by kernel_rfl) (by kernel_rfl) (fun _ _ _ h => h) (by rfl) (by assumption) ?_
        try simp only [Act.put, List.setIfInBounds_toArray, List.set_cons_zero, List.set_cons_succ]
        refine tkYes (i := 11) (v := .bool false) rfl rfl (by kernel_rfl) (by kernel_rfl) (by kernel_rfl) (fun _ _ _ h => h) (by rfl) ?_ (by assumption) ?_
        skip
        · (intro w' hSw; (try dsimp only at hSw); go_simp; try (simp; done))
        try simp only [Act.put, List.setIfInBounds_toArray, List.set_cons_zero, List.set_cons_succ]
        refine wpAnyH_done (by kernel_rfl) ?_ _
        have e0 := HE.out.cell 0
        have e1 := HE.out.cell 1
        have e2 := HE.out.cell 2
        have el := HE.out.lt
        simp only [List.getElem?_cons_zero, List.getElem?_cons_succ] at e0 e1 e2
        have kD : Kept [] wt (wt.alloc (.cells #[.int .i64 E.1, .int .i64 E.2.1] 3)) := (Kept.refl [] wt).alloc _
        have HB := Lib.hid (Blk.new wt 3 [.int .i64 E.1, .int .i64 E.2.1])
        replace HE := Lib.hid (HE.out.kept kD (by simp))
        replace HO := Lib.hid (HO.out.kept0 kD)
        replace K0 := Lib.hid (K0.out.trans kD)
        clear kD
        go_wp2_with fail
        refine (lfour_any [E.1, E.2.1] (some ⟨_, 0, none⟩) 2 2 _ rfl (by decide) (Reads.of_blk HB.out (fun _ _ h => h))).mono ?_
        rintro x wa ⟨va, rfl, ho, hk⟩
        obtain ⟨A7, c7, rfl⟩ := own_n ho
        have HR := Lib.hid (Reads.of_own ho)
        replace HE := Lib.hid (HE.out.kept hk (by simp))
        replace HO := Lib.hid (HO.out.kept0 hk)
        replace K0 := Lib.hid (K0.out.trans hk)
        have HF := Lib.hid (show (fours [E.1, E.2.1]).length = 8 by rw [fours_length]; rfl)
        have B1 := Lib.hid (show (cur.length + (fours [E.1, E.2.1]).length) * 1 ≤ 140737488355328 by have := HCL.out; rw [HF.out]; omega)
        have B2 := Lib.hid (show cur.length + (fours [E.1, E.2.1]).length ≤ maxLen by have := HCL.out; rw [HF.out]; unfold maxLen; omega)
        clear hk ho e0 e1 e2 el HB
        have e0 := HE.out.cell 0
        have e1 := HE.out.cell 1
        have e2 := HE.out.cell 2
        have el := HE.out.lt
        simp only [List.getElem?_cons_zero, List.getElem?_cons_succ] at e0 e1 e2
        go_upto_region 15 with (first | (at_builtin; refine wpList_app _ rfl (.tmp 58) (.tmp 64) _ rfl 5 (.int .u8 0) 1 1 Try.underlying31 infoU8 rfl (by decide) w.heap.size (.slice A3 N3 c3) _ _ rfl HO.out A7 (fours [E.1, E.2.1]).length c7 ((fours [E.1, E.2.1]).map byteV) rfl (by simp) HR.out (bytes_ones _) B1.out B2.out K0.out.size ?_; intro vp wp howna hka hba; have HOp := Lib.hid (OwnB.app howna rfl); have Kp := Lib.hid (K0.out.app hka HO.out); have HEp := Lib.hid (HE.out.kept hka (by have := own_ne_blk HO.out HE.out (by decide); cases hvv : (Value.slice A3 N3 c3).ownBlock with | none => simp | some q => (rw [hvv] at this; simpa [eq_comm] using this))); clear howna hka hba e0 e1 e2 el; have e0 := HEp.out.cell 0; have e1 := HEp.out.cell 1; have e2 := HEp.out.cell 2; have el := HEp.out.lt; simp only [List.getElem?_cons_zero, List.getElem?_cons_succ] at e0 e1 e2))
        obtain ⟨A8, N8, c8, rfl⟩ := own_slice HOp.out
        replace HO := HOp
        replace K0 := Kp
        replace HE := HEp
        clear HOp Kp HEp HR B1 B2
        go_wp2_with fail
        refine (put64_any E.2.2 _).mono ?_
        rintro x wb ⟨rfl, hblk, hk⟩
        have HNB := Lib.hid hblk
        replace HE := Lib.hid (HE.out.kept hk (by simp))
        replace HO := Lib.hid (HO.out.kept0 hk)
        replace K0 := Lib.hid (K0.out.trans hk)
        have B1 := Lib.hid (show ((cur ++ fours [E.1, E.2.1]).length + 8) * 1 ≤ 140737488355328 by have := HCL.out; rw [List.length_append, HF.out]; omega)
        have B2 := Lib.hid (show (cur ++ fours [E.1, E.2.1]).length + 8 ≤ maxLen by have := HCL.out; rw [List.length_append, HF.out]; unfold maxLen; omega)
        clear hk hblk e0 e1 e2 el
        have e0 := HE.out.cell 0
        have e1 := HE.out.cell 1
        have e2 := HE.out.cell 2
        have el := HE.out.lt
        simp only [List.getElem?_cons_zero, List.getElem?_cons_succ] at e0 e1 e2
        go_wp2_with (first | (at_builtin; refine wpList_app _ rfl (.tmp 66) (.tmp 69) _ rfl 5 (.int .u8 0) 1 1 Try.underlying31 infoU8 rfl (by decide) w.heap.size (.slice A8 N8 c8) _ _ rfl HO.out (some ⟨_, 0, none⟩) 8 8 ((le (u64of E.2.2) 8).map byteV) rfl (by simp [le_length]) (Reads.of_blk HNB.out (fun _ _ h => h)) (bytes_ones _) B1.out B2.out K0.out.size ?_; intro vq wq howna hka hba; have HOq := Lib.hid (OwnB.app howna (by rw [le_length])); have Kq := Lib.hid (K0.out.app hka HO.out); have HEq := Lib.hid (HE.out.kept hka (by have := own_ne_blk HO.out HE.out (by decide); cases hvv : (Value.slice A8 N8 c8).ownBlock with | none => simp | some q => (rw [hvv] at this; simpa [eq_comm] using this))); clear howna hka hba e0 e1 e2 el; have e0 := HEq.out.cell 0; have e1 := HEq.out.cell 1; have e2 := HEq.out.cell 2; have el := HEq.out.lt; simp only [List.getElem?_cons_zero, List.getElem?_cons_succ] at e0 e1 e2))
        go_roundw
        case rel => exact ⟨0 + 1, by omega, by go_num, Lib.hid (by have h := HOq.out; rw [← HCU.out] at h; rw [HST.out, tripB, eights1]; simpa [List.append_assoc] using h), Lib.hid (fun j _ h => by omega), Kq⟩
        case measure => simp [intOf]; omega
      · obtain ⟨q, hq⟩ : ∃ q, q + 1 = k := ⟨k - 1, by omega⟩
        obtain ⟨b2, o2, eb, hX⟩ := edge_range (HA.out.kept0 K0.out) (show q < l.length by omega)
        obtain ⟨rfl, rfl⟩ : b = b2 ∧ off = o2 := by simpa using eb
        clear eb
        obtain ⟨X, hXX⟩ : ∃ X, X = l[q]'(by omega) := ⟨_, rfl⟩
        rw [← hXX] at hX
        have EX := Lib.hid hXX
        have HX := Lib.hid hX
        clear hXX hX
        have EL := Lib.hid (neg_lt X E)
        have nq1 : q < l.length := by omega
        have nq2 : ¬ l.length ≤ q := by omega
        have nq3 : ¬ (l.length : Int) ≤ (q : Int) := by omega
        have nq4 : (0 : Int) < (k : Int) := by omega
        have nq5 : (q : Int) < (l.length : Int) := by omega
        by_cases hr : keyLt (keyOf X) (keyOf E) = true
        · have hneg : ¬ 0 ≤ endsI X E := by
            have h0 := EL.out
            rw [show keyLt (X.1, X.2.1) (E.1, E.2.1) = true from hr] at h0
            have := of_decide_eq_true h0
            omega
          have HRR := Lib.hid hr
          clear hr
          refine wp_region_held_drew (S := (fun w' => w'.rangeAt b (off + q * 3) (edV X) ∧ w'.rangeAt ge 0 (edV E))) (by kernel_rfl) ?_ (fun hHeld => ?_)
          · exact ⟨HX.out, HE.out.cell2⟩
          replace HX := Lib.hid (show World.rangeAt (World.drew wt) b (off + q * 3) (edV X) from HX.out)
          replace HE := Lib.hid HE.out.drew
          replace HO := Lib.hid (HO.out.kept0 ((Kept.refl [] _).drew))
          replace K0 := Lib.hid K0.out.drew
          generalize World.drew wt = wt at *
          refine tkYes (i := 0) (v := ?_) rfl rfl (by kernel_rfl) (by kernel_rfl) (by kernel_rfl) (fun _ _ _ h => h) (by rfl) ?_ (by assumption) ?_
          rotate_left
          · (intro w' hSw; (try dsimp only at hSw); go_simp; try with_reducible rfl)
          try simp only [Act.put, List.setIfInBounds_toArray, List.set_cons_zero, List.set_cons_succ]
          refine tkYes (i := 1) (v := .bool true) rfl rfl (by kernel_rfl) (by kernel_rfl) (by kernel_rfl) (fun _ _ _ h => h) (by rfl) ?_ (by assumption) ?_
          skip
          · (intro w' hSw; (try dsimp only at hSw); go_simp; try (simp; done))
          try simp only [Act.put, List.setIfInBounds_toArray, List.set_cons_zero, List.set_cons_succ]
          refine tkYes (i := 2) (v := ?_) rfl rfl (by kernel_rfl) (by kernel_rfl) (by kernel_rfl) (fun _ _ _ h => h) (by rfl) ?_ (by assumption) ?_
          rotate_left
          · (intro w' hSw; (try dsimp only at hSw); go_simp; try with_reducible rfl)
          try simp only [Act.put, List.setIfInBounds_toArray, List.set_cons_zero, List.set_cons_succ]
          refine tkYes (i := 3) (v := ?_) rfl rfl (by kernel_rfl) (by kernel_rfl) (by kernel_rfl) (fun _ _ _ h => h) (by rfl) ?_ (by assumption) ?_
          rotate_left
          · (intro w' hSw; (try dsimp only at hSw); go_simp; try with_reducible rfl)
          try simp only [Act.put, List.setIfInBounds_toArray, List.set_cons_zero, List.set_cons_succ]
          refine tkYes (i := 4) (v := ?_) rfl rfl (by kernel_rfl) (by kernel_rfl) (by kernel_rfl) (fun _ _ _ h => h) (by rfl) ?_ (by assumption) ?_
          rotate_left
          · (intro w' hSw; (try dsimp only at hSw); go_simp; try with_reducible rfl)
          try simp only [Act.put, List.setIfInBounds_toArray, List.set_cons_zero, List.set_cons_succ]
          refine tkYes (i := 5) (v := .int .i64 (q : Int)) rfl rfl (by kernel_rfl) (by kernel_rfl) (by kernel_rfl) (fun _ _ _ h => h) (by rfl) ?_ (by assumption) ?_
          skip
          · (intro w' hSw; (try dsimp only at hSw); go_simp; first | (simp; done) | (rw [i64_wrap]; omega) | (exact congrArg (Value.int IntKind.i64) (by rw [i64_wrap]; omega)) | (simp; rw [i64_wrap]; omega))
          try simp only [Act.put, List.setIfInBounds_toArray, List.set_cons_zero, List.set_cons_succ]
          refine tkYes (i := 6) (v := .pointer (some ⟨b, off + q * 3, none⟩)) rfl rfl (by kernel_rfl) (by kernel_rfl) (by kernel_rfl) (fun _ _ _ h => h) (by rfl) ?_ (by assumption) ?_
          skip
          · (intro w' hSw; (try dsimp only at hSw); go_simp; try (simp; done))
          try simp only [Act.put, List.setIfInBounds_toArray, List.set_cons_zero, List.set_cons_succ]
          refine tkLoad (i := 7) 30 (.tmp 52) b (off + q * 3) (edV X) _ rfl rfl (by kernel_rfl) (by kernel_rfl) (by kernel_rfl) (fun _ _ _ h => h) (by rfl) rfl rfl (fun w hw => hw.1) Try.underlying30 rfl infoTriple (by assumption) ?_
          try simp only [Act.put, List.setIfInBounds_toArray, List.set_cons_zero, List.set_cons_succ]
          refine tkLoad (i := 8) 30 (.tmp 10) ge (0) (edV E) _ rfl rfl (by kernel_rfl) (by kernel_rfl) (by kernel_rfl) (fun _ _ _ h => h) (by rfl) rfl rfl (fun w hw => hw.2) Try.underlying30 rfl infoTriple (by assumption) ?_
          try simp only [Act.put, List.setIfInBounds_toArray, List.set_cons_zero, List.set_cons_succ]
          refine wpAnyH_ready (rs := [9]) (by kernel_rfl) (by simp) ?_
          refine AllReadyH.cons rfl (fun K hK => ?_) AllReadyH.nil
          go_simp
          refine (torder_any X E _).mono ?_
          rintro x wt ⟨rfl, hgr⟩
          have hk := hgr.kept
          replace HX := Lib.hid (show wt.rangeAt b (off + q * 3) (edV X) from fun j u hu => Kept.cell_lt hk (HX.out j u hu))
          replace HE := Lib.hid (HE.out.kept hk (by simp))
          replace HO := Lib.hid (HO.out.kept0 hk)
          replace K0 := Lib.hid (K0.out.trans hk)
          clear hk hgr
          go_wp2_with fail
          refine hK.out _ _ ?_ (fun hHeld => ?_)
          · exact ⟨HX.out, HE.out.cell2⟩
          clear hK K
          try simp only [Act.put, List.setIfInBounds_toArray, List.set_cons_zero, List.set_cons_succ]
          refine tkYes (i := 10) (v := .bool false) rfl rfl (by kernel_rfl) (by kernel_rfl) (by kernel_rfl) (fun _ _ _ h => h) (by rfl) ?_ (by assumption) ?_
          skip
          · (intro w' hSw; (try dsimp only at hSw); go_simp; try (simp [hneg]; done); try (simp; omega))
          try simp only [Act.put, List.setIfInBounds_toArray, List.set_cons_zero, List.set_cons_succ]
          refine tkYes (i := 11) (v := .bool false) rfl rfl (by kernel_rfl) (by kernel_rfl) (by kernel_rfl) (fun _ _ _ h => h) (by rfl) ?_ (by assumption) ?_
          skip
          · (intro w' hSw; (try dsimp only at hSw); go_simp; try (simp; done))
          try simp only [Act.put, List.setIfInBounds_toArray, List.set_cons_zero, List.set_cons_succ]
          refine wpAnyH_done (by kernel_rfl) ?_ _
          clear hneg
          have e0 := HE.out.cell 0
          have e1 := HE.out.cell 1
          have e2 := HE.out.cell 2
          have el := HE.out.lt
          simp only [List.getElem?_cons_zero, List.getElem?_cons_succ] at e0 e1 e2
          have kD : Kept [] wt (wt.alloc (.cells #[.int .i64 E.1, .int .i64 E.2.1] 3)) := (Kept.refl [] wt).alloc _
          have HB := Lib.hid (Blk.new wt 3 [.int .i64 E.1, .int .i64 E.2.1])
          replace HE := Lib.hid (HE.out.kept kD (by simp))
          replace HO := Lib.hid (HO.out.kept0 kD)
          replace K0 := Lib.hid (K0.out.trans kD)
          clear kD
          go_wp2_with fail
          refine (lfour_any [E.1, E.2.1] (some ⟨_, 0, none⟩) 2 2 _ rfl (by decide) (Reads.of_blk HB.out (fun _ _ h => h))).mono ?_
          rintro x wa ⟨va, rfl, ho, hk⟩
          obtain ⟨A7, c7, rfl⟩ := own_n ho
          have HR := Lib.hid (Reads.of_own ho)
          replace HE := Lib.hid (HE.out.kept hk (by simp))
          replace HO := Lib.hid (HO.out.kept0 hk)
          replace K0 := Lib.hid (K0.out.trans hk)
          have HF := Lib.hid (show (fours [E.1, E.2.1]).length = 8 by rw [fours_length]; rfl)
          have B1 := Lib.hid (show (cur.length + (fours [E.1, E.2.1]).length) * 1 ≤ 140737488355328 by have := HCL.out; rw [HF.out]; omega)
          have B2 := Lib.hid (show cur.length + (fours [E.1, E.2.1]).length ≤ maxLen by have := HCL.out; rw [HF.out]; unfold maxLen; omega)
          clear hk ho e0 e1 e2 el HB
          have e0 := HE.out.cell 0
          have e1 := HE.out.cell 1
          have e2 := HE.out.cell 2
          have el := HE.out.lt
          simp only [List.getElem?_cons_zero, List.getElem?_cons_succ] at e0 e1 e2
          go_upto_region 15 with (first | (at_builtin; refine wpList_app _ rfl (.tmp 58) (.tmp 64) _ rfl 5 (.int .u8 0) 1 1 Try.underlying31 infoU8 rfl (by decide) w.heap.size (.slice A3 N3 c3) _ _ rfl HO.out A7 (fours [E.1, E.2.1]).length c7 ((fours [E.1, E.2.1]).map byteV) rfl (by simp) HR.out (bytes_ones _) B1.out B2.out K0.out.size ?_; intro vp wp howna hka hba; have HOp := Lib.hid (OwnB.app howna rfl); have Kp := Lib.hid (K0.out.app hka HO.out); have HEp := Lib.hid (HE.out.kept hka (by have := own_ne_blk HO.out HE.out (by decide); cases hvv : (Value.slice A3 N3 c3).ownBlock with | none => simp | some q => (rw [hvv] at this; simpa [eq_comm] using this))); clear howna hka hba e0 e1 e2 el; have e0 := HEp.out.cell 0; have e1 := HEp.out.cell 1; have e2 := HEp.out.cell 2; have el := HEp.out.lt; simp only [List.getElem?_cons_zero, List.getElem?_cons_succ] at e0 e1 e2))
          obtain ⟨A8, N8, c8, rfl⟩ := own_slice HOp.out
          replace HO := HOp
          replace K0 := Kp
          replace HE := HEp
          clear HOp Kp HEp HR B1 B2
          go_wp2_with fail
          refine (put64_any E.2.2 _).mono ?_
          rintro x wb ⟨rfl, hblk, hk⟩
          have HNB := Lib.hid hblk
          replace HE := Lib.hid (HE.out.kept hk (by simp))
          replace HO := Lib.hid (HO.out.kept0 hk)
          replace K0 := Lib.hid (K0.out.trans hk)
          have B1 := Lib.hid (show ((cur ++ fours [E.1, E.2.1]).length + 8) * 1 ≤ 140737488355328 by have := HCL.out; rw [List.length_append, HF.out]; omega)
          have B2 := Lib.hid (show (cur ++ fours [E.1, E.2.1]).length + 8 ≤ maxLen by have := HCL.out; rw [List.length_append, HF.out]; unfold maxLen; omega)
          clear hk hblk e0 e1 e2 el
          have e0 := HE.out.cell 0
          have e1 := HE.out.cell 1
          have e2 := HE.out.cell 2
          have el := HE.out.lt
          simp only [List.getElem?_cons_zero, List.getElem?_cons_succ] at e0 e1 e2
          go_wp2_with (first | (at_builtin; refine wpList_app _ rfl (.tmp 66) (.tmp 69) _ rfl 5 (.int .u8 0) 1 1 Try.underlying31 infoU8 rfl (by decide) w.heap.size (.slice A8 N8 c8) _ _ rfl HO.out (some ⟨_, 0, none⟩) 8 8 ((le (u64of E.2.2) 8).map byteV) rfl (by simp [le_length]) (Reads.of_blk HNB.out (fun _ _ h => h)) (bytes_ones _) B1.out B2.out K0.out.size ?_; intro vq wq howna hka hba; have HOq := Lib.hid (OwnB.app howna (by rw [le_length])); have Kq := Lib.hid (K0.out.app hka HO.out); have HEq := Lib.hid (HE.out.kept hka (by have := own_ne_blk HO.out HE.out (by decide); cases hvv : (Value.slice A8 N8 c8).ownBlock with | none => simp | some q => (rw [hvv] at this; simpa [eq_comm] using this))); clear howna hka hba e0 e1 e2 el; have e0 := HEq.out.cell 0; have e1 := HEq.out.cell 1; have e2 := HEq.out.cell 2; have el := HEq.out.lt; simp only [List.getElem?_cons_zero, List.getElem?_cons_succ] at e0 e1 e2))
          go_roundw
          case rel => exact ⟨k + 1, by omega, by go_num, Lib.hid (by have h := HOq.out; rw [← HCU.out] at h; rw [HST.out, tripB, eights1]; simpa [List.append_assoc] using h), Lib.hid (fun j h hj => (Nat.lt_or_eq_of_le (Nat.le_of_lt_succ hj)).elim (fun h1 => HN.out j h h1) (fun h1 => by have h2 := HRR.out; rw [EX.out, EE.out] at h2; have h3 : j = q := by { omega }; subst h3; subst hq; exact h2)), Kq⟩
          case measure => simp [intOf]; omega
        · have hneg : 0 ≤ endsI X E := by
            have h0 := EL.out
            rw [show keyLt (X.1, X.2.1) (E.1, E.2.1) = false from by simpa using hr] at h0
            have := of_decide_eq_false h0
            omega
          have HRR := Lib.hid hr
          clear hr
          refine wp_region_held_drew (S := (fun w' => w'.rangeAt b (off + q * 3) (edV X) ∧ w'.rangeAt ge 0 (edV E))) (by kernel_rfl) ?_ (fun hHeld => ?_)
          · exact ⟨HX.out, HE.out.cell2⟩
          replace HX := Lib.hid (show World.rangeAt (World.drew wt) b (off + q * 3) (edV X) from HX.out)
          replace HE := Lib.hid HE.out.drew
          replace HO := Lib.hid (HO.out.kept0 ((Kept.refl [] _).drew))
          replace K0 := Lib.hid K0.out.drew
          generalize World.drew wt = wt at *
          refine tkYes (i := 0) (v := ?_) rfl rfl (by kernel_rfl) (by kernel_rfl) (by kernel_rfl) (fun _ _ _ h => h) (by rfl) ?_ (by assumption) ?_
          rotate_left
          · (intro w' hSw; (try dsimp only at hSw); go_simp; try with_reducible rfl)
          try simp only [Act.put, List.setIfInBounds_toArray, List.set_cons_zero, List.set_cons_succ]
          refine tkYes (i := 1) (v := .bool true) rfl rfl (by kernel_rfl) (by kernel_rfl) (by kernel_rfl) (fun _ _ _ h => h) (by rfl) ?_ (by assumption) ?_
          skip
          · (intro w' hSw; (try dsimp only at hSw); go_simp; try (simp; done))
          try simp only [Act.put, List.setIfInBounds_toArray, List.set_cons_zero, List.set_cons_succ]
          refine tkYes (i := 2) (v := ?_) rfl rfl (by kernel_rfl) (by kernel_rfl) (by kernel_rfl) (fun _ _ _ h => h) (by rfl) ?_ (by assumption) ?_
          rotate_left
          · (intro w' hSw; (try dsimp only at hSw); go_simp; try with_reducible rfl)
          try simp only [Act.put, List.setIfInBounds_toArray, List.set_cons_zero, List.set_cons_succ]
          refine tkYes (i := 3) (v := ?_) rfl rfl (by kernel_rfl) (by kernel_rfl) (by kernel_rfl) (fun _ _ _ h => h) (by rfl) ?_ (by assumption) ?_
          rotate_left
          · (intro w' hSw; (try dsimp only at hSw); go_simp; try with_reducible rfl)
          try simp only [Act.put, List.setIfInBounds_toArray, List.set_cons_zero, List.set_cons_succ]
          refine tkYes (i := 4) (v := ?_) rfl rfl (by kernel_rfl) (by kernel_rfl) (by kernel_rfl) (fun _ _ _ h => h) (by rfl) ?_ (by assumption) ?_
          rotate_left
          · (intro w' hSw; (try dsimp only at hSw); go_simp; try with_reducible rfl)
          try simp only [Act.put, List.setIfInBounds_toArray, List.set_cons_zero, List.set_cons_succ]
          refine tkYes (i := 5) (v := .int .i64 (q : Int)) rfl rfl (by kernel_rfl) (by kernel_rfl) (by kernel_rfl) (fun _ _ _ h => h) (by rfl) ?_ (by assumption) ?_
          skip
          · (intro w' hSw; (try dsimp only at hSw); go_simp; first | (simp; done) | (rw [i64_wrap]; omega) | (exact congrArg (Value.int IntKind.i64) (by rw [i64_wrap]; omega)) | (simp; rw [i64_wrap]; omega))
          try simp only [Act.put, List.setIfInBounds_toArray, List.set_cons_zero, List.set_cons_succ]
          refine tkYes (i := 6) (v := .pointer (some ⟨b, off + q * 3, none⟩)) rfl rfl (by kernel_rfl) (by kernel_rfl) (by kernel_rfl) (fun _ _ _ h => h) (by rfl) ?_ (by assumption) ?_
          skip
          · (intro w' hSw; (try dsimp only at hSw); go_simp; try (simp; done))
          try simp only [Act.put, List.setIfInBounds_toArray, List.set_cons_zero, List.set_cons_succ]
          refine tkLoad (i := 7) 30 (.tmp 52) b (off + q * 3) (edV X) _ rfl rfl (by kernel_rfl) (by kernel_rfl) (by kernel_rfl) (fun _ _ _ h => h) (by rfl) rfl rfl (fun w hw => hw.1) Try.underlying30 rfl infoTriple (by assumption) ?_
          try simp only [Act.put, List.setIfInBounds_toArray, List.set_cons_zero, List.set_cons_succ]
          refine tkLoad (i := 8) 30 (.tmp 10) ge (0) (edV E) _ rfl rfl (by kernel_rfl) (by kernel_rfl) (by kernel_rfl) (fun _ _ _ h => h) (by rfl) rfl rfl (fun w hw => hw.2) Try.underlying30 rfl infoTriple (by assumption) ?_
          try simp only [Act.put, List.setIfInBounds_toArray, List.set_cons_zero, List.set_cons_succ]
          refine wpAnyH_ready (rs := [9]) (by kernel_rfl) (by simp) ?_
          refine AllReadyH.cons rfl (fun K hK => ?_) AllReadyH.nil
          go_simp
          refine (torder_any X E _).mono ?_
          rintro x wt ⟨rfl, hgr⟩
          have hk := hgr.kept
          replace HX := Lib.hid (show wt.rangeAt b (off + q * 3) (edV X) from fun j u hu => Kept.cell_lt hk (HX.out j u hu))
          replace HE := Lib.hid (HE.out.kept hk (by simp))
          replace HO := Lib.hid (HO.out.kept0 hk)
          replace K0 := Lib.hid (K0.out.trans hk)
          clear hk hgr
          go_wp2_with fail
          refine hK.out _ _ ?_ (fun hHeld => ?_)
          · exact ⟨HX.out, HE.out.cell2⟩
          clear hK K
          try simp only [Act.put, List.setIfInBounds_toArray, List.set_cons_zero, List.set_cons_succ]
          refine tkYes (i := 10) (v := .bool true) rfl rfl (by kernel_rfl) (by kernel_rfl) (by kernel_rfl) (fun _ _ _ h => h) (by rfl) ?_ (by assumption) ?_
          skip
          · (intro w' hSw; (try dsimp only at hSw); go_simp; try (simp [hneg]; done); try (simp; omega))
          try simp only [Act.put, List.setIfInBounds_toArray, List.set_cons_zero, List.set_cons_succ]
          refine tkYes (i := 11) (v := .bool true) rfl rfl (by kernel_rfl) (by kernel_rfl) (by kernel_rfl) (fun _ _ _ h => h) (by rfl) ?_ (by assumption) ?_
          skip
          · (intro w' hSw; (try dsimp only at hSw); go_simp; try (simp; done))
          try simp only [Act.put, List.setIfInBounds_toArray, List.set_cons_zero, List.set_cons_succ]
          refine wpAnyH_done (by kernel_rfl) ?_ _
          go_wp2_with fail
          have hris : risesE l = false := risesE_false (fun hall => HRR.out (by have := hall q (by omega); rw [EX.out, EE.out]; subst hq; exact this))
          rw [HPOST.out]
          have hz : encMW m c l = 6 := by rw [E0.out, if_pos hris]
          exact ⟨by rw [hz, if_neg (by decide)] <;> rfl, K0.out⟩
    · go_wp2_with fail
      have : k = l.length := by omega
      subst this
      rw [List.take_length] at HO
      have hris : risesE l = true := risesE_true (fun i h => HN.out i h h)
      rw [HPOST.out]
      refine ⟨?_, K0.out⟩
      have hz : encMW m c l = 0 := by rw [E0.out, hris]; rfl
      rw [if_pos hz]
      exact ⟨_, rfl, by rw [matB_hdr]; exact HO.out⟩
end Go.Proofs.Ytibjpjpbmkdddaa
