/- The document's reading of layer 6, and 'LoaderReads': it returns true for all bytes. Conditions: none. -/
import Derived.Test.YtfnhfmffkjljnaaGreatLw
import Derived.Test.YtfnhfmffkjljnaaGreatLz
import Derived.Test.YtfnhfmffkjljnaaGreatZb
namespace Go.Proofs.YtfnhfmffkjljnaaGreat
set_option linter.unusedSimpArgs false
set_option linter.unusedVariables false
open Go.ChangeShapes Go.WideShapes Go.ChangeAt Go.RowKit
open Go.RowKit (wrap32 wrap64)
set_option maxHeartbeats 8000000


/-- A number that is read, or 0 and a reader with a fault. -/
def Rd.numR (R : Rd) (k low most e : Int) : Int × Rd :=
  if (R.after k).e ≠ 0 then (0, R.after k) else if low ≤ (num (R.got k) : Int) ∧ (num (R.got k) : Int) ≤ most then ((num (R.got k) : Int), R.after k) else (0, (R.after k).fail e R.pos)

theorem fieldErrno (a b : Int) (w : World) : (Instr.field 33 (.agg #[.int .i64 a, .int .i64 b]) 0).run Tryz.prog w = .ok (.int .i64 a) w := by kernel_rfl
def St {α : Type} (d : Except (Int × Int) α) (R : Rd) (c : Except (Int × Int) α) : Prop := if R.e ≠ 0 then d = .error (R.e, R.fat) else d = c
theorem St.dead {α : Type} {d c c' : Except (Int × Int) α} {R : Rd} (h : St d R c) (he : R.e ≠ 0) : St d R c' := by
  unfold St at h ⊢; rw [if_pos he] at h ⊢; exact h
theorem St.live {α : Type} {d c : Except (Int × Int) α} {R : Rd} (h : St d R c) (he : R.e = 0) : d = c := by
  unfold St at h; rw [if_neg (by simpa using he)] at h; exact h
theorem St.mk {α : Type} {d c : Except (Int × Int) α} {R : Rd} (h : R.e = 0 → d = c) (h2 : R.e ≠ 0 → d = .error (R.e, R.fat)) : St d R c := by
  unfold St; split
  · rename_i h'; exact h2 h'
  · rename_i h'; exact h (by simpa using h')
theorem after_dead {R : Rd} {k : Int} (h : R.e ≠ 0) : R.after k = R := by unfold Rd.after; rw [if_pos h]
theorem fail_dead {R : Rd} {e a : Int} (h : R.e ≠ 0) : R.fail e a = R := by unfold Rd.fail; rw [if_pos (.inl h)]
theorem fail_live {R : Rd} {e a : Int} (h : R.e = 0) (he : e ≠ 0) : (R.fail e a).e = e ∧ (R.fail e a).fat = a := by
  unfold Rd.fail; rw [if_neg (by simp [h, he])]; exact ⟨rfl, rfl⟩
theorem numR_dead {R : Rd} {k low most e : Int} (h : R.e ≠ 0) : R.numR k low most e = (0, R) := by
  unfold Rd.numR; rw [after_dead h, if_pos h]
theorem numR_ok {R R' : Rd} {k low most e n : Int} (h : R.rd k low most e = .ok (n, R')) : R.numR k low most e = (n, R') ∧ R'.e = 0 := by
  unfold Rd.rd at h
  split at h
  · cases h
  · rename_i h1
    split at h
    · rename_i h2
      injection h with h
      injection h with ha hb
      subst ha hb
      unfold Rd.numR
      rw [if_neg h1, if_pos h2]
      exact ⟨rfl, by simpa using h1⟩
    · cases h
theorem numR_err {R : Rd} {k low most e x a : Int} (h : R.rd k low most e = .error (x, a)) (he : e ≠ 0) : (R.numR k low most e).1 = 0 ∧ (R.numR k low most e).2.e = x ∧ (R.numR k low most e).2.fat = a ∧ x ≠ 0 := by
  unfold Rd.rd at h
  split at h
  · rename_i h1
    injection h with h
    injection h with ha hb
    subst ha hb
    unfold Rd.numR
    rw [if_pos h1]
    exact ⟨rfl, rfl, rfl, h1⟩
  · rename_i h1
    split at h
    · cases h
    · rename_i h2
      injection h with h
      injection h with ha hb
      subst ha hb
      unfold Rd.numR
      rw [if_neg h1, if_neg h2]
      obtain ⟨p1, p2⟩ := fail_live (R := R.after k) (e := e) (a := R.pos) (by simpa using h1) he
      exact ⟨rfl, p1, p2, he⟩
/-- A number is read on both sides. -/
theorem St.numb {α : Type} {d : Except (Int × Int) α} {R : Rd} {k low most e : Int} {f : Int × Rd → Except (Int × Int) α} (h : St d R ((R.rd k low most e).bind f)) (he : e ≠ 0) : St d (R.numR k low most e).2 (f (R.numR k low most e)) := by
  by_cases h0 : R.e = 0
  · have hd := h.live h0
    rcases hr : R.rd k low most e with ⟨x, a⟩ | ⟨n, R'⟩
    · obtain ⟨_, h2, h3, h4⟩ := numR_err hr he
      rw [hr] at hd
      refine St.mk (fun h => absurd (h2.symm.trans h) h4) (fun _ => ?_)
      rw [h2, h3]; exact hd
    · obtain ⟨h1, h2⟩ := numR_ok hr
      rw [hr] at hd
      rw [h1]
      exact St.mk (fun _ => hd) (fun h => absurd h2 h)
  · rw [numR_dead h0]
    exact h.dead h0
theorem numR_range {R : Rd} {k most e : Int} (hm : 0 ≤ most) : 0 ≤ (R.numR k 0 most e).1 ∧ (R.numR k 0 most e).1 ≤ most := by
  unfold Rd.numR
  split
  · exact ⟨Int.le_refl _, hm⟩
  · split
    · rename_i h; exact h
    · exact ⟨Int.le_refl _, hm⟩
/-- A number of eight bytes is read on both sides. -/
theorem St.word {α : Type} {d : Except (Int × Int) α} {R : Rd} {f : Int × Rd → Except (Int × Int) α} (h : St d R (R.word.bind f)) : St d (R.after 8) (f (wrap64 ((num (R.got 8) : Nat) : Int), R.after 8)) := by
  by_cases h0 : R.e = 0
  · have hd := h.live h0
    unfold Rd.word at hd
    split at hd
    · rename_i h1
      exact St.mk (fun h => absurd h h1) (fun _ => hd)
    · rename_i h1
      exact St.mk (fun _ => hd) (fun h => absurd h h1)
  · rw [after_dead h0]
    exact h.dead h0

/-- A mark that is read, or a reader with a fault. -/
def Rd.magicR (R : Rd) (m : List UInt8) : Rd := if (R.after 4).e ≠ 0 then R.after 4 else if R.got 4 = m then R.after 4 else (R.after 4).fail 1 0
theorem St.mark {α : Type} {d : Except (Int × Int) α} {R : Rd} {m : List UInt8} {f : Rd → Except (Int × Int) α} (h : St d R ((R.mark m).bind f)) : St d (R.magicR m) (f (R.magicR m)) := by
  by_cases h0 : R.e = 0
  · have hd := h.live h0
    unfold Rd.mark at hd
    unfold Rd.magicR
    split
    · rename_i h1
      rw [if_pos h1] at hd
      exact St.mk (fun h => absurd h h1) (fun _ => hd)
    · rename_i h1
      rw [if_neg h1] at hd
      split
      · rename_i h2
        rw [if_pos h2] at hd
        exact St.mk (fun _ => hd) (fun h => absurd h h1)
      · rename_i h2
        rw [if_neg h2] at hd
        obtain ⟨p1, p2⟩ := fail_live (R := R.after 4) (e := 1) (a := 0) (by simpa using h1) (by decide)
        exact St.mk (fun h => absurd (p1.symm.trans h) (by decide)) (fun _ => by rw [p1, p2]; exact hd)
  · have hm : R.magicR m = R := by unfold Rd.magicR; rw [after_dead h0, if_pos h0]
    rw [hm]
    exact h.dead h0
theorem got4_ok {R : Rd} (h : (R.after 4).e = 0) : (R.got 4).length = 4 := by
  by_cases h0 : R.e = 0
  · by_cases h1 : (R.b.length : Int) - R.pos < 4
    · exfalso
      unfold Rd.after at h
      rw [if_neg (by simp [h0]), if_neg (by decide), if_pos h1] at h
      simp at h
    · exact Rd.got_length ⟨h0, by decide, by omega⟩
  · exfalso
    rw [after_dead h0] at h
    exact h0 h
theorem got4_bad {R : Rd} (h : (R.after 4).e ≠ 0) : R.got 4 = [] := by
  unfold Rd.got
  rw [if_neg]
  intro hc
  rw [Rd.after_can hc] at h
  exact h hc.1
section
set_option maxRecDepth 400000
theorem magic_any (p : Nat) (R : Rd) (m : List UInt8) (w : World) (hm : m.length = 4) (h : RdAt 110 w p R) :
    Calls Tryz.prog 46 #[.pointer (some ⟨p, 0, none⟩), .string ⟨m.toArray⟩] w fun x w' => x = .returned (.tuple #[]) ∧ RdAt 110 w' p (R.magicR m) ∧ Kept [p] w w' := by
  have H := Lib.hid h
  have hs : (⟨m.toArray⟩ : ByteArray).size = 4 := by show m.toArray.size = 4; simpa using hm
  clear h
  go_enter Tryz.func46, Tryz.ntmps46
  go_wp2_with fail
  refine (rtake_any p R 4 _ H.out).mono ?_
  rintro x w1 ⟨v, rfl, ho, hr, hk⟩
  obtain ⟨B, cb, rfl⟩ := own_n ho
  have HO := Lib.hid (Reads.of_own ho)
  have HR := Lib.hid hr
  have K1 := Lib.hid hk
  have hcv := run_str (R.got 4) B cb w1 HO.out
  clear hr hk ho
  by_cases he : (R.after 4).e = 0
  case neg =>
    have HE := Lib.hid he
    have hg : (R.got 4).length = 0 := by rw [got4_bad he]; rfl
    rw [hg]
    clear he hg hcv
    go_wp2_with fail
    go_end0
    unfold Rd.magicR
    rw [if_pos HE.out]
    exact ⟨rfl, HR.out, K1.out⟩
  have HE := Lib.hid he
  have hb : ((((R.got 4).length : Nat) : Int) == 4) = true := by rw [got4_ok he]; rfl
  clear he
  have hse : ((⟨(R.got 4).toArray⟩ : ByteArray) == ⟨m.toArray⟩) = decide (R.got 4 = m) := str_eq
  have hsn : ((⟨(R.got 4).toArray⟩ : ByteArray) != ⟨m.toArray⟩) = !decide (R.got 4 = m) := by show (!((⟨(R.got 4).toArray⟩ : ByteArray) == ⟨m.toArray⟩)) = _; rw [str_eq]
  by_cases g2 : R.got 4 = m
  · have G := Lib.hid g2
    rw [decide_eq_true g2] at hse hsn
    have hgm : (R.got 4 == m) = true := beq_iff_eq.2 g2
    clear g2
    go_wp2_with fail
    go_end0
    unfold Rd.magicR
    rw [if_neg (by simpa using HE.out), if_pos G.out]
    exact ⟨rfl, HR.out, K1.out⟩
  · have G := Lib.hid g2
    rw [decide_eq_false g2] at hse hsn
    have hgm : (R.got 4 == m) = false := beq_eq_false_iff_ne.2 g2
    clear g2
    go_wp2_with fail
    refine (rfail_any p (R.after 4) 1 0 _ HR.out).mono ?_
    rintro x w2 ⟨rfl, hr, hk⟩
    have HR2 := Lib.hid hr
    have K2 := Lib.hid (K1.out.trans hk)
    clear hr hk
    go_wp2_with fail
    go_end0
    unfold Rd.magicR
    rw [if_neg (by simpa using HE.out), if_neg G.out]
    exact ⟨rfl, HR2.out, K2.out⟩
theorem bounded_any (p : Nat) (R : Rd) (most e : Int) (w : World) (he0 : e ≠ 0) (h : RdAt 110 w p R) :
    Calls Tryz.prog 50 #[.pointer (some ⟨p, 0, none⟩), .int .i64 most, .int .i64 e] w fun x w' => x = .returned (.int .i64 (R.numR 4 0 most e).1) ∧ RdAt 110 w' p (R.numR 4 0 most e).2 ∧ Kept [p] w w' := by
  have H := Lib.hid h
  have hlt := num_got4_lt R
  have hn0 : 0 ≤ (num (R.got 4) : Int) := by omega
  clear h
  have hfe := fun (a b : Int) (wx : World) => fieldErrno a b wx
  go_enter Tryz.func50, Tryz.ntmps50
  go_wp2_with fail
  refine (rat_rd p R _ H.out).mono ?_
  rintro x w1 ⟨rfl, rfl⟩
  go_wp2_with fail
  refine (ru32_any p R _ H.out).mono ?_
  rintro x w1 ⟨rfl, hr, hk⟩
  rw [num_got4]
  have HR := Lib.hid hr
  have K1 := Lib.hid hk
  clear hr hk
  go_wp2_with fail
  refine (rfault_rd p (R.after 4) _ HR.out).mono ?_
  rintro x w2 ⟨rfl, hk⟩
  have K2 := Lib.hid (K1.out.then hk (by simp))
  have HR2 := Lib.hid (HR.out.kept0 hk)
  clear hk
  by_cases he : (R.after 4).e = 0
  case neg =>
    have HE := Lib.hid he
    have hb : ((R.after 4).e != 0) = true := by rw [bne_iff_ne]; exact he
    have hb2 : ((R.after 4).e == 0) = false := by rw [beq_eq_false_iff_ne]; exact he
    clear he
    go_wp2_with fail
    refine (rfault_rd p (R.after 4) _ HR2.out).mono ?_
    rintro x w3 ⟨rfl, hk⟩
    have K3 := Lib.hid (K2.out.then hk (by simp))
    have HR3 := Lib.hid (HR2.out.kept0 hk)
    clear hk hlt
    go_wp2_with fail
    go_ret
    unfold Rd.numR
    rw [if_pos HE.out]
    exact ⟨rfl, HR3.out, K3.out⟩
  have HE := Lib.hid he
  have hb : ((R.after 4).e != 0) = false := by rw [he]; rfl
  have hb2 : ((R.after 4).e == 0) = true := by rw [he]; rfl
  by_cases g2 : (num (R.got 4) : Int) ≤ most
  case neg =>
    have g3 : most < (num (R.got 4) : Int) := by omega
    have HF := Lib.hid (fail_live (a := R.pos) he he0)
    clear he
    go_wp2_with fail
    refine (rfail_any p (R.after 4) e R.pos _ HR2.out).mono ?_
    rintro x w3 ⟨rfl, hr, hk⟩
    have HR3 := Lib.hid hr
    have K3 := Lib.hid (K2.out.trans hk)
    clear hr hk
    go_wp2_with fail
    refine (rfault_rd p ((R.after 4).fail e R.pos) _ HR3.out).mono ?_
    rintro x w4 ⟨rfl, hk⟩
    rw [HF.out.1]
    have hc : (e != 0) = true := by rw [bne_iff_ne]; exact he0
    have K4 := Lib.hid (K3.out.then hk (by simp))
    have HR4 := Lib.hid (HR3.out.kept0 hk)
    clear hk
    go_wp2_with fail
    go_ret
    unfold Rd.numR
    rw [if_neg (by simpa using HE.out), if_neg (by omega)]
    exact ⟨rfl, HR4.out, K4.out⟩
  have g3 : decide (most < (num (R.got 4) : Int)) = false := decide_eq_false (by omega)
  have G2 := Lib.hid g2
  clear he g2
  go_wp2_with fail
  refine (rfault_rd p (R.after 4) _ HR2.out).mono ?_
  rintro x w3 ⟨rfl, hk⟩
  have K3 := Lib.hid (K2.out.then hk (by simp))
  have HR3 := Lib.hid (HR2.out.kept0 hk)
  clear hk
  go_wp2_with fail
  go_ret
  unfold Rd.numR
  rw [if_neg (by simpa using HE.out), if_pos ⟨hn0, G2.out⟩]
  exact ⟨rfl, HR3.out, K3.out⟩
end

def gEnd (n : Int) (l : List Ed) (R : Rd) : Except (Int × Int) (Int × List Ed) := if R.atEnd = true then .ok (n, canonP l) else .error (4, R.pos)
def gE (k n : Int) (i : Nat) (R : Rd) (acc : List Ed) : Except (Int × Int) (Int × List Ed) := (Rd.edges n k i R acc).bind fun e => gEnd n e.1 e.2
def gM (k n : Int) (R : Rd) : Except (Int × Int) (Int × List Ed) := (R.rd 4 0 65536 5).bind fun m => gE k n m.1.toNat m.2 []
def gN (k : Int) (R : Rd) : Except (Int × Int) (Int × List Ed) := (R.rd 4 0 4096 5).bind fun n => gM k n.1 n.2
def gK (R : Rd) : Except (Int × Int) (Int × List Ed) := (R.rd 1 0 1 8).bind fun k => gN k.1 k.2
def gB (k n : Int) (i : Nat) (acc : List Ed) (a b : Int) (R : Rd) : Except (Int × Int) (Int × List Ed) :=
  if k = 1 then (R.rd 4 0 2147483647 7).bind fun c => gE k n i c.2 (acc ++ [(a, b, c.1)]) else gE k n i R (acc ++ [(a, b, 1)])
def gA (k n : Int) (i : Nat) (acc : List Ed) (a : Int) (R : Rd) : Except (Int × Int) (Int × List Ed) := (R.rd 4 0 (n - 1) 3).bind fun b => gB k n i acc a b.1 b.2
theorem decG_g (b : List UInt8) : decG b = ((Rd.mk b 0 0 0).mark frt1).bind gK := by
  unfold decG Rd.graphE
  rw [ebind]; congr 1; funext R1
  unfold gK; rw [ebind]; congr 1; funext k
  unfold gN; rw [ebind]; congr 1; funext n
  unfold gM; rw [ebind]; congr 1; funext m
  unfold gE; rw [ebind]; congr 1; funext e
  unfold gEnd; split <;> rfl
theorem gE_zero (k n : Int) (R : Rd) (acc : List Ed) : gE k n 0 R acc = gEnd n acc R := rfl
theorem gE_succ (k n : Int) (i : Nat) (R : Rd) (acc : List Ed) : gE k n (i + 1) R acc = (R.rd 4 0 (n - 1) 3).bind fun a => gA k n i acc a.1 a.2 := by
  unfold gE
  simp only [Rd.edges, Rd.edge]
  rw [ebind, ebind]; congr 1; funext a
  unfold gA; rw [ebind]; congr 1; funext b
  unfold gB
  by_cases hk : k = 1
  · rw [if_pos hk, if_pos hk, ebind]; congr 1
  · rw [if_neg hk, if_neg hk]; rfl
/-- The reader behind the kind. -/
def Rd.kindR (R : Rd) : Rd := if 1 < num (R.got 1) then (R.after 1).fail 8 R.pos else R.after 1
theorem St.kind {d : Except (Int × Int) (Int × List Ed)} {R : Rd} (h : St d R (gK R)) : St d R.kindR (gN ((num (R.got 1) : Nat) : Int) R.kindR) := by
  by_cases h0 : R.e = 0
  · have hd := h.live h0
    unfold gK Rd.rd at hd
    by_cases h1 : (R.after 1).e = 0
    · rw [if_neg (by simpa using h1)] at hd
      unfold Rd.kindR
      by_cases h2 : 1 < num (R.got 1)
      · rw [if_pos h2]
        rw [if_neg (by omega)] at hd
        obtain ⟨p1, p2⟩ := fail_live (R := R.after 1) (e := 8) (a := R.pos) h1 (by decide)
        exact St.mk (fun h => absurd (p1.symm.trans h) (by decide)) (fun _ => by rw [p1, p2]; exact hd)
      · rw [if_neg h2]
        rw [if_pos (by omega)] at hd
        exact St.mk (fun _ => hd) (fun h => absurd h1 h)
    · rw [if_pos h1] at hd
      have hk : R.kindR = R.after 1 := by unfold Rd.kindR; rw [fail_dead h1]; split <;> rfl
      rw [hk]
      exact St.mk (fun h => absurd h h1) (fun _ => hd)
  · have hk : R.kindR = R := by unfold Rd.kindR; rw [after_dead h0, fail_dead h0]; split <;> rfl
    rw [hk]
    exact h.dead h0
abbrev gsT : List TypeId := [110, 24, 52]
/-- What lies in memory while the document reads a graph: the reader at p, the graph at g. -/
structure GsAt (w0 w : World) (base p g : Nat) (R : Rd) (n : Int) (v : Value) (l : List Ed) : Prop where
  rd : RdAt 110 w p R
  gr : Blk w g 24 [.int .i64 n, v]
  own : w.ownsRow base 52 3 v l.length (l.flatMap edV)
  kept : KeptB base gsT w0 w
  hp : base ≤ p
  hg : base ≤ g
  hb : base ≤ w0.heap.size
theorem KeptB.mono {base : Nat} {T T' : List TypeId} {a b : World} (h : KeptB base T a b) (hT : ∀ t ∈ T, t ∈ T') : KeptB base T' a b :=
  ⟨h.os, h.tape, h.output, h.size, fun k hk ht => h.block k hk (ht.imp id fun f cs t fr hc hm => f cs t fr hc (hT t hm))⟩
theorem KeptB.rcall {base : Nat} {T : List TypeId} {a b c : World} {p : Nat} {R : Rd} (h : KeptB base T a b) (hr : RdAt 110 b p R) (hk : Kept [p] b c) (hp : base ≤ p) (hT : 110 ∈ T) : KeptB base T a c := by
  obtain ⟨⟨A, cap, hb, ho⟩, _⟩ := hr
  exact h.step hk (fun m hm => by simp at hm; subst hm; exact ⟨hp, _, _, _, hb, hT⟩)
/-- The same, and an edge at T. -/
structure GxAt (w0 w : World) (base p g : Nat) (R : Rd) (n : Int) (v : Value) (l : List Ed) (T : Nat) (cs : List Value) : Prop where
  rs : GsAt w0 w base p g R n v l
  blk : Blk w T 52 cs
  n1 : v.ownBlock ≠ some T
  le : base ≤ T
section
variable {w0 w w1 w2 w' : World} {base p g T : Nat} {R R' : Rd} {n : Int} {v : Value} {l : List Ed} {cs : List Value}
theorem GsAt.call (h : GsAt w0 w base p g R n v l) (hr : RdAt 110 w' p R') (hk : Kept [p] w w') : GsAt w0 w' base p g R' n v l := by
  have hB : KeptB base [110] w w' := (KeptB.refl _ _ _).rcall h.rd hk h.hp (by decide)
  exact ⟨hr, h.gr.keptB hB (by decide), own_keptB h.own hB (by decide), h.kept.trans (hB.mono (by decide)), h.hp, h.hg, h.hb⟩
theorem GsAt.kept0 (h : GsAt w0 w base p g R n v l) (hk : Kept [] w w') : GsAt w0 w' base p g R n v l := by
  have hB : KeptB base [] w w' := .of_kept0 hk
  exact ⟨h.rd.kept0 hk, h.gr.keptB hB (by decide), own_keptB h.own hB (by decide), h.kept.trans (hB.mono (by decide)), h.hp, h.hg, h.hb⟩
theorem GsAt.new (h : GsAt w0 w base p g R n v l) (cs : List Value) : GxAt w0 (w.alloc (.cells cs.toArray 52)) base p g R n v l w.heap.size cs :=
  ⟨h.kept0 ((Kept.refl [] _).alloc _), Blk.new _ _ _, fun hv => Nat.lt_irrefl _ (h.own.lt _ hv).2, Nat.le_trans h.hb h.kept.size⟩
theorem GxAt.call (h : GxAt w0 w base p g R n v l T cs) (hr : RdAt 110 w' p R') (hk : Kept [p] w w') : GxAt w0 w' base p g R' n v l T cs := by
  have hB : KeptB base [110] w w' := (KeptB.refl _ _ _).rcall h.rs.rd hk h.rs.hp (by decide)
  exact ⟨h.rs.call hr hk, h.blk.keptB hB (by decide), h.n1, h.le⟩
theorem GxAt.kept0 (h : GxAt w0 w base p g R n v l T cs) (hk : Kept [] w w') : GxAt w0 w' base p g R n v l T cs := ⟨h.rs.kept0 hk, h.blk.kept hk (by simp), h.n1, h.le⟩
theorem GxAt.set (h : GxAt w0 w base p g R n v l T cs) (j : Nat) (u : Value) : GxAt w0 (w.setCell ⟨T, j, none⟩ u) base p g R n v l T (cs.set j u) := by
  have hB : KeptB base [52] w (w.setCell ⟨T, j, none⟩ u) := (KeptB.refl _ _ _).set h.blk h.le (by simp) j _
  have hK : Kept [T] w (w.setCell ⟨T, j, none⟩ u) := (Kept.refl [T] w).setCell (p := ⟨T, j, none⟩) (.inl (List.mem_singleton.2 rfl)) u
  have rs := h.rs
  exact ⟨⟨rs.rd.keptB hB (by decide) (by decide), rs.gr.keptB hB (by decide), own_kept rs.own hK (fun g' hg hm => by simp at hm; subst hm; exact h.n1 hg), rs.kept.trans (hB.mono (by decide)), rs.hp, rs.hg, rs.hb⟩, h.blk.set j u, h.n1, h.le⟩
theorem GsAt.app (h : GsAt w0 w base p g R n v l) (hk1 : Kept [] w w1) (hk2 : Kept v.ownBlock.toList w1 w2) {x : Ed} {u : Value} (ho : w2.ownsRow base 52 3 u (l.length + 1) (l.flatMap edV ++ edV x)) :
    GsAt w0 (w2.setCell ⟨g, 1, none⟩ u) base p g R n u (l ++ [x]) := by
  have h := h.kept0 hk1
  have hA : KeptB base [52] w1 w2 := (KeptB.refl _ _ _).app hk2 h.own (by decide)
  have hf2 := h.gr.keptB hA (by decide)
  have hS : KeptB base [24] w2 (w2.setCell ⟨g, 1, none⟩ u) := (KeptB.refl _ _ _).set hf2 h.hg (by decide) 1 _
  refine ⟨(h.rd.keptB hA (by decide) (by decide)).keptB hS (by decide) (by decide), by have := hf2.set 1 u; simpa using this, ?_, h.kept.trans ((hA.mono (by decide)).trans (hS.mono (by decide))), h.hp, h.hg, h.hb⟩
  have := own_keptB ho hS (by decide)
  simpa [List.flatMap_append] using this
end
theorem numR_in (R : Rd) (k most e : Int) (hm : 0 ≤ most) (h : most ≤ 2147483647) : In64 (R.numR k 0 most e).1 := by
  have := numR_range (R := R) (k := k) (e := e) hm
  unfold In64
  omega

set_option maxRecDepth 400000 in
theorem rdecode6_any (b : List UInt8) (A : Option Addr) (c : Nat) (w : World) (hr : Reads w A (b.map byteV)) (hl : b.length ≤ 1073741824) :
    Calls Tryz.prog 13 #[.slice A b.length c] w (DecPost w (decG b)) := by
  have HR := Lib.hid (hr.kept0 (((Kept.refl [] w).alloc (.cells #[.int .i64 0, .slice none 0 0] 24)).alloc (.cells #[.int .i64 0, .int .i64 0] 33)))
  have K0 := Lib.hid (((Kept.refl [] w).alloc (.cells #[.int .i64 0, .slice none 0 0] 24)).alloc (.cells #[.int .i64 0, .int .i64 0] 33))
  have HG := Lib.hid ((Blk.new w 24 [.int .i64 0, .slice none 0 0]).alloc (.cells #[.int .i64 0, .int .i64 0] 33))
  have HH := Lib.hid (Blk.new1F w (.cells #[.int .i64 0, .slice none 0 0] 24) 33 [.int .i64 0, .int .i64 0])
  have hfe := fun (a b : Int) (wx : World) => fieldErrno a b wx
  generalize hd : decG b = d
  have HD := Lib.hid (hd.symm.trans (decG_g b))
  have hnil : ∀ (wx : World) (e : TypeId) (s bs : Nat), wx.ownsRow bs e s (.slice none 0 0) 0 [] := fun wx e s bs => World.ownsRow_nil wx bs e s
  have HN := Lib.hid hnil
  clear hr hd hnil
  go_enter Tryz.func13, Tryz.ntmps13
  go_wp2_with fail
  refine (ropen_any b A c _ HR.out hl).mono ?_
  rintro e w1 ⟨p, rfl, hp, hrd, hk⟩
  have K1 := Lib.hid (K0.out.trans hk)
  replace HG := Lib.hid (HG.out.kept hk (by simp))
  replace HH := Lib.hid (HH.out.kept hk (by simp))
  have HRD := Lib.hid hrd
  have HP := Lib.hid (show w.heap.size + 2 ≤ p by simpa using hp)
  have S1 := Lib.hid (show w.heap.size + 2 ≤ w1.heap.size by have := hk.size; simpa using this)
  have ST := Lib.hid (show St d ⟨b, 0, 0, 0⟩ (((Rd.mk b 0 0 0).mark frt1).bind gK) from St.mk (fun _ => HD.out) (fun h => absurd rfl h))
  clear hp hrd hk K0 HR HD
  obtain ⟨B, hB⟩ : ∃ B, B = w.heap.size + 2 := ⟨_, rfl⟩
  have HB := Lib.hid hB
  have HPB := Lib.hid (show B ≤ p by rw [hB]; exact HP.out)
  have HSB := Lib.hid (show B ≤ w1.heap.size by rw [hB]; exact S1.out)
  clear hB HP S1
  obtain ⟨R0, hR0⟩ : ∃ R0, R0 = Rd.mk b 0 0 0 := ⟨_, rfl⟩
  rw [← hR0] at HRD ST
  clear hR0
  go_wp2_with fail
  refine (magic_any p R0 frt1 _ (by rfl) HRD.out).mono ?_
  rintro x w2 ⟨rfl, hrd, hk⟩
  have KB := Lib.hid ((KeptB.refl B gsT w1).rcall HRD.out hk HPB.out (by decide))
  replace HRD := Lib.hid hrd
  replace ST := Lib.hid ST.out.mark
  clear hrd hk
  generalize R0.magicR frt1 = R1 at HRD ST
  go_wp2_with fail
  refine (rat_rd p R1 _ HRD.out).mono ?_
  rintro x wq ⟨rfl, rfl⟩
  go_wp2_with fail
  refine (ru8_any p R1 _ HRD.out).mono ?_
  rintro x w3 ⟨rfl, hrd, hk⟩
  rw [num_got1]
  have hk256 := num_got1_lt R1
  replace KB := Lib.hid (KB.out.rcall HRD.out hk HPB.out (by decide))
  replace HRD := Lib.hid hrd
  replace ST := Lib.hid ST.out.kind
  clear hrd hk
  have STEP : ∃ q : Nat, q = num (R1.got 1) := ⟨_, rfl⟩
  obtain ⟨q, hq⟩ := STEP
  rw [← hq] at ST hk256 ⊢
  have HQ := Lib.hid hq
  clear hq
  go_upto_region 5 with (fail)
  have RG : Hid (RdAt 110 w3 p (R1.after 1)) ∧ Hid (KeptB B gsT w1 w3) := ⟨HRD, KB⟩
  go_cut [6, 20] (fun u t wx => u = .int .u8 q ∧ t = .bool (decide ((1 : Int) < (q : Int))) ∧ wx = w3)
  case first =>
    go_wp2_with fail
    go_meet
    exact ⟨rfl, rfl, rfl⟩
  case rest =>
  obtain ⟨hc1, hc2, hc3⟩ := hcut
  subst hc1 hc2 hc3
  refine ‹∀ (a : Act) (w : World), Code.wp Tryz.prog (Code.cond (.tmp 20) _ _) _ a w → _› _ _ ?_
  go_cut [6] (fun u wx => u = .int .u8 q ∧ Hid (RdAt 110 wx p R1.kindR) ∧ Hid (KeptB B gsT w1 wx))
  case first =>
    by_cases hq1 : 1 < q
    · have hq2 : (1 : Int) < (q : Int) := by omega
      go_wp2_with fail
      refine (rfail_any p (R1.after 1) 8 R1.pos _ HRD.out).mono ?_
      rintro x w4 ⟨rfl, hrd, hk⟩
      replace KB := Lib.hid (KB.out.rcall HRD.out hk HPB.out (by decide))
      clear hk
      go_wp2_with fail
      go_meet
      exact ⟨rfl, Lib.hid (by unfold Rd.kindR; rw [← HQ.out, if_pos hq1]; exact hrd), KB⟩
    · have hq2 : ¬ (1 : Int) < (q : Int) := by omega
      go_wp2_with fail
      go_meet
      exact ⟨rfl, Lib.hid (by unfold Rd.kindR; rw [← HQ.out, if_neg hq1]; exact HRD.out), KB⟩
  case rest =>
  clear RG HRD KB
  obtain ⟨hc1, HRD, KB⟩ := hcut
  subst hc1
  clear HQ
  generalize R1.kindR = R2 at HRD ST
  go_wp2_with fail
  refine (bounded_any p R2 4096 5 _ (by decide) HRD.out).mono ?_
  rintro x wn ⟨rfl, hrd, hk⟩
  replace KB := Lib.hid (KB.out.rcall HRD.out hk HPB.out (by decide))
  replace HRD := Lib.hid hrd
  replace ST := Lib.hid (show St d (R2.numR 4 0 4096 5).2 ((fun x : Int × Rd => gM (q : Int) x.1 x.2) (R2.numR 4 0 4096 5)) from St.numb (f := fun x => gM (q : Int) x.1 x.2) ST.out (by decide))
  have hn := numR_range (R := R2) (k := 4) (e := 5) (most := 4096) (by decide)
  clear hrd hk
  generalize R2.numR 4 0 4096 5 = z at HRD ST hn ⊢
  obtain ⟨n, R3⟩ := z
  simp only [] at HRD ST hn ⊢
  obtain ⟨hn0, hn1⟩ := hn
  go_upto_region 8 with (fail)
  have RS := Lib.hid (show GsAt w1 (wn.alloc (.cells #[.int .i64 n, .slice none 0 0] 24)) B p wn.heap.size R3 n (.slice none 0 0) [] from ⟨HRD.out.kept0 ((Kept.refl [] _).alloc _), Blk.new _ _ _, HN.out _ _ _ _, KB.out.alloc _, HPB.out, Nat.le_trans HSB.out KB.out.size, HSB.out⟩)
  obtain ⟨g, hg⟩ : ∃ g, g = wn.heap.size := ⟨_, rfl⟩
  rw [← hg] at RS ⊢
  generalize wn.alloc (.cells #[.int .i64 n, .slice none 0 0] 24) = wh at RS ⊢
  clear hg HRD KB HN
  go_wp2_with fail
  refine (bounded_any p R3 65536 5 _ (by decide) RS.out.rd).mono ?_
  rintro x wn2 ⟨rfl, hrd, hk⟩
  replace RS := Lib.hid (RS.out.call hrd hk)
  replace ST := Lib.hid (show St d (R3.numR 4 0 65536 5).2 ((fun m : Int × Rd => gE (q : Int) n m.1.toNat m.2 []) (R3.numR 4 0 65536 5)) from St.numb (f := fun m => gE (q : Int) n m.1.toNat m.2 []) ST.out (by decide))
  have hm := numR_range (R := R3) (k := 4) (e := 5) (most := 65536) (by decide)
  clear hrd hk
  generalize R3.numR 4 0 65536 5 = z at RS ST hm ⊢
  obtain ⟨m, R4⟩ := z
  simp only [] at RS ST hm ⊢
  obtain ⟨M, rfl⟩ : ∃ M : Nat, m = M := ⟨m.toNat, by omega⟩
  have hM : M ≤ 65536 := by omega
  clear hm
  rw [Int.toNat_natCast] at ST
  go_upto_block 0 with (fail)
  go_cut [9] (fun i wx => ∃ (R : Rd) (v : Value) (acc : List Ed), i = i ∧ acc.length ≤ M ∧ Hid (GsAt w1 wx B p g R n v acc) ∧ Hid (∀ t ∈ acc, In64 t.2.2) ∧ Hid (St d R (gEnd n acc R)))
  case first =>
    go_wp2_with fail
    go_loopw [9] (fun i wr => ∃ (k : Nat) (R : Rd) (v : Value) (acc : List Ed), k ≤ M ∧ i = .int .i64 k ∧ Hid (GsAt w1 wr B p g R n v acc) ∧ Hid (acc.length = k) ∧ Hid (∀ t ∈ acc, In64 t.2.2) ∧ Hid (St d R (gE (q : Int) n (M - k) R acc))) (fun i _ => M - (intOf i).toNat)
    case atStart => exact ⟨0, R4, _, [], Nat.zero_le _, rfl, RS, Lib.hid rfl, Lib.hid (fun _ h => by cases h), ST⟩
    case round =>
      clear RS ST
      obtain ⟨k, R, v, acc, hk, rfl, RS, HLN, HIN, ST⟩ := hrel
      by_cases hlt : k < M
      · go_wp2_with fail
        refine (rfault_rd p R _ RS.out.rd).mono ?_
        rintro x wq ⟨rfl, hkq⟩
        replace RS := Lib.hid (RS.out.kept0 hkq)
        clear hkq
        by_cases he : R.e = 0
        · have hb : (R.e == 0) = true := by rw [he]; rfl
          clear he
          replace ST := Lib.hid (show St d R ((R.rd 4 0 (n - 1) 3).bind fun a => gA (q : Int) n (M - (k + 1)) acc a.1 a.2) by
            have h := ST.out
            rw [show M - k = (M - (k + 1)) + 1 by omega, gE_succ] at h
            exact h)
          go_upto_region 13 with (fail)
          have RX := Lib.hid (RS.out.new [.int .i64 0, .int .i64 0, .int .i64 1])
          clear RS
          obtain ⟨T, hT⟩ : ∃ T, T = wq.heap.size := ⟨_, rfl⟩
          rw [← hT] at RX ⊢
          generalize wq.alloc (.cells [Value.int .i64 0, .int .i64 0, .int .i64 1].toArray 52) = wh at RX ⊢
          clear hT hb
          have y0 := RX.out.rs.gr.cell 0
          have yl := RX.out.rs.gr.lt
          simp only [List.getElem?_cons_zero, List.getElem?_cons_succ] at y0
          go_wp2_with fail
          refine (bounded_any p R (n - 1) 3 _ (by decide) RX.out.rs.rd).mono ?_
          rintro x wn ⟨rfl, hrd, hk⟩
          replace RX := Lib.hid (RX.out.call hrd hk)
          replace ST := Lib.hid (show St d (R.numR 4 0 (n - 1) 3).2 ((fun a : Int × Rd => gA (q : Int) n (M - (k + 1)) acc a.1 a.2) (R.numR 4 0 (n - 1) 3)) from St.numb (f := fun a : Int × Rd => gA (q : Int) n (M - (k + 1)) acc a.1 a.2) ST.out (by decide))
          clear hrd hk y0 yl
          generalize R.numR 4 0 (n - 1) 3 = z at RX ST ⊢
          obtain ⟨a, Ra⟩ := z
          simp only [] at RX ST ⊢
          have t0 := RX.out.blk.cell 0
          have tf0 := RX.out.blk.frozen 0
          have tl := RX.out.blk.lt
          simp only [List.getElem?_cons_zero, List.getElem?_cons_succ] at t0
          go_upto_region 14 with (fail)
          replace RX := Lib.hid (RX.out.set 0 (.int .i64 a))
          simp only [List.set_cons_zero, List.set_cons_succ] at RX
          generalize wn.setCell ⟨T, 0, none⟩ (.int .i64 a) = wh at RX ⊢
          clear t0 tf0 tl
          have y0 := RX.out.rs.gr.cell 0
          have yl := RX.out.rs.gr.lt
          simp only [List.getElem?_cons_zero, List.getElem?_cons_succ] at y0
          go_wp2_with fail
          refine (bounded_any p Ra (n - 1) 3 _ (by decide) RX.out.rs.rd).mono ?_
          rintro x wn ⟨rfl, hrd, hk⟩
          replace RX := Lib.hid (RX.out.call hrd hk)
          replace ST := Lib.hid (show St d (Ra.numR 4 0 (n - 1) 3).2 ((fun b : Int × Rd => gB (q : Int) n (M - (k + 1)) acc a b.1 b.2) (Ra.numR 4 0 (n - 1) 3)) from St.numb (f := fun b : Int × Rd => gB (q : Int) n (M - (k + 1)) acc a b.1 b.2) ST.out (by decide))
          clear hrd hk y0 yl
          generalize Ra.numR 4 0 (n - 1) 3 = z at RX ST ⊢
          obtain ⟨b, Rb⟩ := z
          simp only [] at RX ST ⊢
          have t0 := RX.out.blk.cell 1
          have tf0 := RX.out.blk.frozen 1
          have tl := RX.out.blk.lt
          simp only [List.getElem?_cons_zero, List.getElem?_cons_succ] at t0
          go_upto_region 15 with (fail)
          replace RX := Lib.hid (RX.out.set 1 (.int .i64 b))
          simp only [List.set_cons_zero, List.set_cons_succ] at RX
          generalize wn.setCell ⟨T, 1, none⟩ (.int .i64 b) = wh at RX ⊢
          clear t0 tf0 tl
          by_cases hq1 : (q : Int) = 1
          · replace ST := Lib.hid (show St d Rb ((Rb.rd 4 0 2147483647 7).bind fun c => gE (q : Int) n (M - (k + 1)) c.2 (acc ++ [(a, b, c.1)])) by
              have h := ST.out
              unfold gB at h
              rw [if_pos hq1] at h
              exact h)
            have hqb : ((q : Int) == 1) = true := by rw [hq1]; rfl
            clear hq1
            have y0 := RX.out.rs.gr.cell 0
            have yl := RX.out.rs.gr.lt
            simp only [List.getElem?_cons_zero, List.getElem?_cons_succ] at y0
            go_wp2_with fail
            refine (bounded_any p Rb 2147483647 7 _ (by decide) RX.out.rs.rd).mono ?_
            rintro x wn ⟨rfl, hrd, hk⟩
            replace RX := Lib.hid (RX.out.call hrd hk)
            replace ST := Lib.hid (show St d (Rb.numR 4 0 2147483647 7).2 ((fun c : Int × Rd => gE (q : Int) n (M - (k + 1)) c.2 (acc ++ [(a, b, c.1)])) (Rb.numR 4 0 2147483647 7)) from St.numb (f := fun c : Int × Rd => gE (q : Int) n (M - (k + 1)) c.2 (acc ++ [(a, b, c.1)])) ST.out (by decide))
            have NW := numR_in Rb 4 2147483647 7 (by decide) (by decide)
            clear hrd hk y0 yl
            generalize Rb.numR 4 0 2147483647 7 = z at RX ST NW ⊢
            obtain ⟨c, Rc⟩ := z
            simp only [] at RX ST NW ⊢
            have t0 := RX.out.blk.cell 2
            have tf0 := RX.out.blk.frozen 2
            have tl := RX.out.blk.lt
            simp only [List.getElem?_cons_zero, List.getElem?_cons_succ] at t0
            go_upto_region 17 with (fail)
            replace RX := Lib.hid (RX.out.set 2 (.int .i64 c))
            simp only [List.set_cons_zero, List.set_cons_succ] at RX
            generalize wn.setCell ⟨T, 2, none⟩ (.int .i64 c) = wh at RX ⊢
            clear t0 tf0 tl
            have HNW := Lib.hid NW
            clear NW
            have B1 := Lib.hid (show (acc.length + 1) * 24 ≤ 140737488355328 by rw [HLN.out]; omega)
            have B2 := Lib.hid (show acc.length + 1 ≤ maxLen by rw [HLN.out]; unfold maxLen; omega)
            have t0 := RX.out.blk.cell 0
            have t1 := RX.out.blk.cell 1
            have t2 := RX.out.blk.cell 2
            have d7 := RX.out.rs.gr.cell 1
            have tl := RX.out.blk.lt
            have yg := RX.out.rs.gr.lt
            simp only [List.getElem?_cons_zero, List.getElem?_cons_succ] at t0 t1 t2 d7
            go_upto_region 11 with (first | (at_builtin; refine wpList_app _ rfl (.tmp 59) (.tmp 61) _ rfl 52 (.agg #[.int .i64 0, .int .i64 0, .int .i64 0]) 3 24 Tryz.underlying22 infoEd rfl (by decide) B v _ _ rfl (RX.out.rs.own.alloc _) (some ⟨_, 0, none⟩) 1 1 (edV (a, b, c)) rfl rfl (Reads.of_blk (Blk.new _ _ _) (fun _ _ h => h)) (by simp [edV, Value.oneCell']) B1.out B2.out (Nat.le_trans RX.out.rs.hb (Nat.le_trans RX.out.rs.kept.size (by simp))) ?_; intro u w2 ho2 hk2 _; obtain ⟨A2, N2', c2, rfl⟩ := own_slice ho2; have hA := (KeptB.refl B [52] _).app hk2 (RX.out.rs.own.alloc _) (by decide); have q6 := ((RX.out.rs.gr.alloc _).keptB hA (by decide)).cell 1; have q7 := ((RX.out.rs.gr.alloc _).keptB hA (by decide)).frozen 1; simp only [List.getElem?_cons_zero, List.getElem?_cons_succ] at q6; have K2 := Lib.hid hk2; have O2 := Lib.hid ho2; clear hk2 ho2 hA))
            clear t0 t1 t2 d7 tl yg q6 q7
            go_wp2_with fail
            go_roundw
            case rel =>
              refine ⟨k + 1, Rc, _, acc ++ [(a, b, c)], by omega, by go_num, Lib.hid (RX.out.rs.app ((Kept.refl [] _).alloc _) K2.out O2.out), Lib.hid (by rw [List.length_append, HLN.out]; rfl), Lib.hid (fun t ht => ?_), ST⟩
              rcases List.mem_append.1 ht with h | h
              · exact HIN.out t h
              · simp at h; subst h; exact HNW.out
            case measure => simp [intOf]; omega
          · replace ST := Lib.hid (show St d Rb (gE (q : Int) n (M - (k + 1)) Rb (acc ++ [(a, b, 1)])) by
              have h := ST.out
              unfold gB at h
              rw [if_neg hq1] at h
              exact h)
            go_upto_region 17 with (fail)
            have B1 := Lib.hid (show (acc.length + 1) * 24 ≤ 140737488355328 by rw [HLN.out]; omega)
            have B2 := Lib.hid (show acc.length + 1 ≤ maxLen by rw [HLN.out]; unfold maxLen; omega)
            have t0 := RX.out.blk.cell 0
            have t1 := RX.out.blk.cell 1
            have t2 := RX.out.blk.cell 2
            have d7 := RX.out.rs.gr.cell 1
            have tl := RX.out.blk.lt
            have yg := RX.out.rs.gr.lt
            simp only [List.getElem?_cons_zero, List.getElem?_cons_succ] at t0 t1 t2 d7
            go_upto_region 11 with (first | (at_builtin; refine wpList_app _ rfl (.tmp 59) (.tmp 61) _ rfl 52 (.agg #[.int .i64 0, .int .i64 0, .int .i64 0]) 3 24 Tryz.underlying22 infoEd rfl (by decide) B v _ _ rfl (RX.out.rs.own.alloc _) (some ⟨_, 0, none⟩) 1 1 (edV (a, b, 1)) rfl rfl (Reads.of_blk (Blk.new _ _ _) (fun _ _ h => h)) (by simp [edV, Value.oneCell']) B1.out B2.out (Nat.le_trans RX.out.rs.hb (Nat.le_trans RX.out.rs.kept.size (by simp))) ?_; intro u w2 ho2 hk2 _; obtain ⟨A2, N2', c2, rfl⟩ := own_slice ho2; have hA := (KeptB.refl B [52] _).app hk2 (RX.out.rs.own.alloc _) (by decide); have q6 := ((RX.out.rs.gr.alloc _).keptB hA (by decide)).cell 1; have q7 := ((RX.out.rs.gr.alloc _).keptB hA (by decide)).frozen 1; simp only [List.getElem?_cons_zero, List.getElem?_cons_succ] at q6; have K2 := Lib.hid hk2; have O2 := Lib.hid ho2; clear hk2 ho2 hA))
            clear t0 t1 t2 d7 tl yg q6 q7
            go_wp2_with fail
            go_roundw
            case rel =>
              refine ⟨k + 1, Rb, _, acc ++ [(a, b, 1)], by omega, by go_num, Lib.hid (RX.out.rs.app ((Kept.refl [] _).alloc _) K2.out O2.out), Lib.hid (by rw [List.length_append, HLN.out]; rfl), Lib.hid (fun t ht => ?_), ST⟩
              rcases List.mem_append.1 ht with h | h
              · exact HIN.out t h
              · simp at h; subst h; show In64 1; exact ⟨by decide, by decide⟩
            case measure => simp [intOf]; omega
        · have hb : (R.e == 0) = false := by rw [beq_eq_false_iff_ne]; exact he
          have HE := Lib.hid he
          clear he
          go_wp2_with fail
          go_meet
          exact ⟨R, v, acc, trivial, by rw [HLN.out]; exact hk, RS, HIN, Lib.hid (ST.out.dead HE.out)⟩
      · have hlt2 : ¬ (k : Int) < (M : Int) := by omega
        go_wp2_with fail
        go_meet
        refine ⟨R, v, acc, trivial, by rw [HLN.out]; exact hk, RS, HIN, Lib.hid ?_⟩
        have h := ST.out
        rw [show M - k = 0 by omega, gE_zero] at h
        exact h
  case rest =>
  clear RS ST
  obtain ⟨Rz, v, acc, _, hal, RS, HIN, ST⟩ := hcut
  have HAL := Lib.hid (Nat.le_trans hal hM)
  clear hal hM hn0 hn1 hk256
  go_wp2_with fail
  refine (rfault_rd p Rz _ RS.out.rd).mono ?_
  rintro x wq ⟨rfl, hk⟩
  replace RS := Lib.hid (RS.out.kept0 hk)
  clear hk
  by_cases he : Rz.e = 0
  case neg =>
    have HE := Lib.hid he
    have hb : (Rz.e == 0) = false := by rw [beq_eq_false_iff_ne]; exact he
    clear he
    replace HG := Lib.hid (HG.out.keptBlt RS.out.kept (by rw [HB.out]; exact Nat.lt_succ_of_lt (Nat.lt_succ_self _)))
    replace HH := Lib.hid (HH.out.keptBlt RS.out.kept (by rw [HB.out]; exact Nat.lt_succ_self _))
    go_wp2_with fail
    refine (rfault_rd p Rz _ RS.out.rd).mono ?_
    rintro x wn1 ⟨rfl, hk⟩
    replace RS := Lib.hid (RS.out.kept0 hk)
    replace HG := Lib.hid (HG.out.kept hk (by simp))
    replace HH := Lib.hid (HH.out.kept hk (by simp))
    clear hk
    have hb2 : ((Rz).e != 0) = true := by rw [bne_iff_ne]; exact HE.out
    go_wp2_with fail
    refine (rfault_rd p Rz _ RS.out.rd).mono ?_
    rintro x wn1 ⟨rfl, hk⟩
    replace RS := Lib.hid (RS.out.kept0 hk)
    replace HG := Lib.hid (HG.out.kept hk (by simp))
    replace HH := Lib.hid (HH.out.kept hk (by simp))
    clear hk hb2
    go_wp2_with (first | (refine wpList_storeBlk rfl 24 (.tmp 2) (.tmp 81) rfl w.heap.size _ [.int .i64 0, .slice none 0 0] HG.out rfl rfl rfl infoGraph (by simp [Value.oneCell']) ?_; intro w6 hb6 hk6; have HH6 := Lib.hid (HH.out.kept hk6 (by simp))) | (refine wpList_storeBlk rfl 33 (.tmp 3) (.tmp 83) rfl (w.heap.size + 1) _ [.int .i64 (Rz).e, .int .i64 (Rz).fat] HH6.out rfl rfl rfl infoFault (by simp [Value.oneCell']) ?_; intro w7 hb7 hk7))
    have hb6 := hb6.kept hk7 (by simp)
    have g0 := hb6.cell 0
    have g1 := hb6.cell 1
    have z0 := hb7.cell 0
    have z1 := hb7.cell 1
    simp only [List.getElem?_cons_zero, List.getElem?_cons_succ] at g0 g1 z0 z1
    refine bodyPost_ret (v := .tuple #[.agg #[.int .i64 0, .slice none 0 0], .agg #[.int .i64 (Rz).e, .int .i64 (Rz).fat]]) (by simp [results, Tryz.results13, go_sem, g0, g1, z0, z1]) rfl ?_
    rw [show d = .error ((Rz).e, (Rz).fat) from (by have h := ST.out; unfold St at h; rw [if_pos HE.out] at h; exact h)]
    have hk0 := K1.out.thenB RS.out.kept (by rw [HB.out]; omega)
    exact ⟨rfl, (hk0.then hk6 (by simp)).then hk7 (by simp)⟩
  have HE := Lib.hid he
  have hb : (Rz.e == 0) = true := by rw [he]; rfl
  have DD := Lib.hid (show d = gEnd n acc Rz from ST.out.live he)
  clear he ST
  go_wp2_with fail
  refine (rend_rd p Rz _ RS.out.rd).mono ?_
  rintro x wn0 ⟨rfl, kk, rfl⟩
  replace RS := Lib.hid (RS.out.kept0 ((Kept.refl [] _).drewN kk))
  cases hat : Rz.atEnd
  case false =>
    have ST := Lib.hid (show St d (Rz.fail 4 Rz.pos) (.error (0, 0)) from (by
      obtain ⟨p1, p2⟩ := fail_live (R := Rz) (e := 4) (a := Rz.pos) HE.out (by decide)
      refine St.mk (fun h => absurd (p1.symm.trans h) (by decide)) (fun _ => ?_)
      rw [p1, p2, DD.out]
      unfold gEnd
      rw [hat]
      rfl))
    replace HE := Lib.hid (show (Rz.fail 4 Rz.pos).e ≠ 0 by rw [(fail_live (R := Rz) (e := 4) (a := Rz.pos) HE.out (by decide)).1]; decide)
    clear hat
    go_wp2_with fail
    refine (rat_rd p Rz _ RS.out.rd).mono ?_
    rintro x wn1 ⟨rfl, rfl⟩
    go_wp2_with fail
    refine (rfail_any p Rz 4 Rz.pos _ RS.out.rd).mono ?_
    rintro x wn1 ⟨rfl, hrd, hk⟩
    replace RS := Lib.hid (RS.out.call hrd hk)
    clear hrd hk hb
    replace HG := Lib.hid (HG.out.keptBlt RS.out.kept (by rw [HB.out]; exact Nat.lt_succ_of_lt (Nat.lt_succ_self _)))
    replace HH := Lib.hid (HH.out.keptBlt RS.out.kept (by rw [HB.out]; exact Nat.lt_succ_self _))
    go_wp2_with fail
    refine (rfault_rd p (Rz.fail 4 Rz.pos) _ RS.out.rd).mono ?_
    rintro x wn1 ⟨rfl, hk⟩
    replace RS := Lib.hid (RS.out.kept0 hk)
    replace HG := Lib.hid (HG.out.kept hk (by simp))
    replace HH := Lib.hid (HH.out.kept hk (by simp))
    clear hk
    have hb2 : (((Rz.fail 4 Rz.pos)).e != 0) = true := by rw [bne_iff_ne]; exact HE.out
    go_wp2_with fail
    refine (rfault_rd p (Rz.fail 4 Rz.pos) _ RS.out.rd).mono ?_
    rintro x wn1 ⟨rfl, hk⟩
    replace RS := Lib.hid (RS.out.kept0 hk)
    replace HG := Lib.hid (HG.out.kept hk (by simp))
    replace HH := Lib.hid (HH.out.kept hk (by simp))
    clear hk hb2
    go_wp2_with (first | (refine wpList_storeBlk rfl 24 (.tmp 2) (.tmp 81) rfl w.heap.size _ [.int .i64 0, .slice none 0 0] HG.out rfl rfl rfl infoGraph (by simp [Value.oneCell']) ?_; intro w6 hb6 hk6; have HH6 := Lib.hid (HH.out.kept hk6 (by simp))) | (refine wpList_storeBlk rfl 33 (.tmp 3) (.tmp 83) rfl (w.heap.size + 1) _ [.int .i64 ((Rz.fail 4 Rz.pos)).e, .int .i64 ((Rz.fail 4 Rz.pos)).fat] HH6.out rfl rfl rfl infoFault (by simp [Value.oneCell']) ?_; intro w7 hb7 hk7))
    have hb6 := hb6.kept hk7 (by simp)
    have g0 := hb6.cell 0
    have g1 := hb6.cell 1
    have z0 := hb7.cell 0
    have z1 := hb7.cell 1
    simp only [List.getElem?_cons_zero, List.getElem?_cons_succ] at g0 g1 z0 z1
    refine bodyPost_ret (v := .tuple #[.agg #[.int .i64 0, .slice none 0 0], .agg #[.int .i64 ((Rz.fail 4 Rz.pos)).e, .int .i64 ((Rz.fail 4 Rz.pos)).fat]]) (by simp [results, Tryz.results13, go_sem, g0, g1, z0, z1]) rfl ?_
    rw [show d = .error (((Rz.fail 4 Rz.pos)).e, ((Rz.fail 4 Rz.pos)).fat) from (by have h := ST.out; unfold St at h; rw [if_pos HE.out] at h; exact h)]
    have hk0 := K1.out.thenB RS.out.kept (by rw [HB.out]; omega)
    exact ⟨rfl, (hk0.then hk6 (by simp)).then hk7 (by simp)⟩
  replace DD := Lib.hid (show d = .ok (n, canonP acc) from DD.out.trans (by unfold gEnd; rw [hat]; rfl))
  clear hat
  go_wp2_with fail
  refine (rfault_rd p Rz _ RS.out.rd).mono ?_
  rintro x wn1 ⟨rfl, hk⟩
  replace RS := Lib.hid (RS.out.kept0 hk)
  clear hk hb
  have hb2 : (Rz.e != 0) = false := by rw [HE.out]; rfl
  replace HG := Lib.hid (HG.out.keptBlt RS.out.kept (by rw [HB.out]; exact Nat.lt_succ_of_lt (Nat.lt_succ_self _)))
  replace HH := Lib.hid (HH.out.keptBlt RS.out.kept (by rw [HB.out]; exact Nat.lt_succ_self _))
  obtain ⟨A1, c1, rfl⟩ := own_n RS.out.own
  have HF := Lib.hid RS.out.gr
  have HRA := Lib.hid (Reads.of_own RS.out.own)
  go_wp2_with (first | (refine wpList_loadBlk rfl 24 (.tmp 7) rfl g [.int .i64 n, .slice A1 acc.length c1] _ HF.out rfl Tryz.underlying24 rfl infoGraph ?_))
  refine (refCanon_any n acc A1 c1 _ (by have := HAL.out; omega) HRA.out HIN.out).mono ?_
  rintro z w5 ⟨v5, rfl, ho, hk5⟩
  obtain ⟨A5, c5, rfl⟩ := own_n ho
  replace HG := Lib.hid (HG.out.kept hk5 (by simp))
  replace HH := Lib.hid (HH.out.kept hk5 (by simp))
  have HO := Lib.hid ho
  have K5 := Lib.hid ((K1.out.thenB RS.out.kept (by rw [HB.out]; omega)).trans hk5)
  have S5 := Lib.hid (show w.heap.size ≤ wn1.heap.size from (K1.out.thenB RS.out.kept (by rw [HB.out]; omega)).size)
  clear hk5 ho
  go_wp2_with (first | (refine wpList_storeBlk rfl 24 (.tmp 2) (.tmp 85) rfl w.heap.size _ [.int .i64 n, .slice A5 (canonP acc).length c5] HG.out rfl rfl rfl infoGraph (by simp [Value.oneCell']) ?_; intro w6 hb6 hk6; have HH6 := Lib.hid (HH.out.kept hk6 (by simp))) | (refine wpList_storeBlk rfl 33 (.tmp 3) (.tmp 86) rfl (w.heap.size + 1) _ [.int .i64 0, .int .i64 0] HH6.out rfl rfl rfl infoFault (by simp [Value.oneCell']) ?_; intro w7 hb7 hk7))
  have hb6 := hb6.kept hk7 (by simp)
  have g0 := hb6.cell 0
  have g1 := hb6.cell 1
  have z0 := hb7.cell 0
  have z1 := hb7.cell 1
  simp only [List.getElem?_cons_zero, List.getElem?_cons_succ] at g0 g1 z0 z1
  refine bodyPost_ret (v := .tuple #[.agg #[.int .i64 n, .slice A5 (canonP acc).length c5], .agg #[.int .i64 0, .int .i64 0]]) (by simp [results, Tryz.results13, go_sem, g0, g1, z0, z1]) rfl ?_
  rw [DD.out]
  have f6 : KeptB w.heap.size [24, 33] w5 w7 := by
    refine ((KeptB.refl _ _ w5).step (L := [w.heap.size]) hk6 (fun m hm => ?_)).step (L := [w.heap.size + 1]) hk7 (fun m hm => ?_)
    · simp at hm; subst hm; exact ⟨Nat.le_refl _, _, _, _, HG.out, by simp⟩
    · simp at hm; subst hm; exact ⟨Nat.le_succ _, _, _, _, HH6.out, by simp⟩
  exact ⟨⟨_, rfl, own_base (own_keptB HO.out f6 (by decide)) S5.out⟩, K5.out.thenB f6 (Nat.le_refl _)⟩

set_option maxRecDepth 100000 in
theorem rcanon6_any (b : List UInt8) (A : Option Addr) (c : Nat) (w : World) (hr : Reads w A (b.map byteV)) (hl : b.length ≤ 1073741824) :
    Calls Tryz.prog 16 #[.slice A b.length c] w fun x w' => x = .returned (.bool (canonB b)) ∧ Kept [] w w' := by
  have HR := Lib.hid hr
  have hl2 : b.length ≤ maxLen := by unfold maxLen; omega
  clear hr
  rcases hd : decG b with ⟨e, a⟩ | ⟨n, l⟩
  · have he := (decG_bad hd).1
    have E1 := Lib.hid hd
    have E2 := Lib.hid (show canonB b = false by unfold canonB; rw [hd])
    clear hd
    go_enter Tryz.func16, Tryz.ntmps16
    go_wp2_with fail
    refine (rdecode6_any b A c _ HR.out hl).mono ?_
    intro x w1 hx
    rw [E1.out] at hx
    obtain ⟨rfl, hk⟩ := hx
    have K0 := Lib.hid ((hk.alloc (.cells #[.int .i64 0, .slice none 0 0] 24)).alloc (.cells #[.int .i64 e, .int .i64 a] 33))
    clear hk
    go_wp2_with fail
    go_ret
    exact ⟨ret_bool E2.out.symm, K0.out⟩
  · obtain ⟨g1, g2, g3⟩ := decG_good hd
    have hll : l.length ≤ maxLen := by have := (right_zero g1).2.1; unfold maxLen; omega
    have E1 := Lib.hid hd
    have E2 := Lib.hid (show canonB b = (decide (encW n l = 0) && decide (b = encB n l)) by unfold canonB; rw [hd])
    clear hd g1 g2 g3
    go_enter Tryz.func16, Tryz.ntmps16
    go_wp2_with fail
    refine (rdecode6_any b A c _ HR.out hl).mono ?_
    intro x w1 hx
    rw [E1.out] at hx
    obtain ⟨⟨v, rfl, ho⟩, hk⟩ := hx
    obtain ⟨A1, c1, rfl⟩ := own_n ho
    have kd : Kept [] w1 ((w1.alloc (.cells #[.int .i64 n, .slice A1 l.length c1] 24)).alloc (.cells #[.int .i64 0, .int .i64 0] 33)) := ((Kept.refl [] w1).alloc _).alloc _
    have HG := Lib.hid ((Blk.new w1 24 [.int .i64 n, .slice A1 l.length c1]).alloc (.cells #[.int .i64 0, .int .i64 0] 33))
    have HO := Lib.hid ((Reads.of_own ho).kept0 kd)
    have K0 := Lib.hid (hk.trans kd)
    clear kd hk ho
    go_wp2_with fail
    refine (rencode_any n l A1 c1 _ HO.out hll).mono ?_
    rintro x w2 ⟨⟨v, rfl, hb⟩, hk⟩
    replace K0 := Lib.hid (K0.out.trans hk)
    by_cases hz : encW n l = 0
    · rw [if_pos hz] at hb
      obtain ⟨A2, c2, rfl⟩ := own_n hb
      have HB := Lib.hid (Reads.of_own hb)
      have HLB := Lib.hid (encB_len hz)
      have HZ := Lib.hid hz
      rw [hz]
      clear hk hb hz
      go_wp2_with fail
      refine (sameBytes_any b (encB n l) A A2 c c2 _ (HR.out.kept0 K0.out) HB.out hl2 HLB.out).mono ?_
      rintro x w3 ⟨rfl, nq, hnq⟩
      have hk : Kept [] w2 w3 := hnq ▸ (Kept.refl [] _).drewN nq
      replace K0 := Lib.hid (K0.out.trans hk)
      have hq : canonB b = decide (b = encB n l) := by rw [E2.out, decide_eq_true HZ.out, Bool.true_and]
      rw [← hq]
      have EQ := Lib.hid hq
      clear hk hq hnq
      go_wp2_with fail
      go_ret
      exact ⟨by first | rfl | simp, K0.out⟩
    · rw [if_neg hz] at hb
      obtain ⟨A2, c2, rfl⟩ := own_n hb
      have hq : canonB b = false := by rw [E2.out, decide_eq_false hz, Bool.false_and]
      have EQ := Lib.hid hq
      obtain ⟨ez, hez⟩ : ∃ ez, ez = encW n l := ⟨_, rfl⟩
      rw [← hez] at hz ⊢
      clear hk hb hq hez
      go_wp2_with fail
      go_ret
      exact ⟨ret_bool EQ.out.symm, K0.out⟩
theorem rises_of_L {l : List Ed} (h : RisesL l) : risesE l = true := by
  refine risesE_true (fun i hi => ?_)
  exact List.pairwise_iff_getElem.1 h i (i + 1) (by omega) hi (by omega)
theorem nilR (w : World) : Reads w none (([] : List Ed).flatMap edV) := Reads.of_own (World.ownsRow_nil w w.heap.size 52 3)

set_option maxRecDepth 100000 in
theorem loaderReads_walk (b : List UInt8) (B : Option Addr) (cb : Nat) (w : World) (hB : Reads w B (b.map byteV)) (hb : b.length ≤ maxLen) :
    Calls Tryz.prog 4 #[.slice B b.length cb] w fun e w' => e = .returned (.bool true) ∧ Kept [] w w' := by
  have HB := Lib.hid hB
  have K0 := Lib.hid (Kept.refl [] w)
  clear hB
  unfold maxLen at hb
  by_cases h2 : 4000 < b.length
  · have h2' : (4000 : Int) < (b.length : Int) := by omega
    go_enter Tryz.func4, Tryz.ntmps4
    go_wp2_with fail
    refine (live6_any _).mono ?_
    rintro z wl ⟨rfl, hk⟩
    replace K0 := Lib.hid (K0.out.trans hk)
    clear hk
    go_wp2_with fail
    go_ret
    exact ⟨rfl, K0.out⟩
  have h2' : ¬ (4000 : Int) < (b.length : Int) := by omega
  have HBL := Lib.hid (show b.length ≤ 1073741824 by omega)
  have QF := guardFault
  rcases hd : decG b with ⟨e, a⟩ | ⟨n, l⟩
  · have HD := Lib.hid hd
    obtain ⟨he, ha0, ha1⟩ := decG_bad hd
    have heb : (e != 0) = true := by rw [bne_iff_ne]; exact he
    clear hd he
    have Q0 : ∀ w, (binOp .neq 33 (.agg #[.int .i64 e, .int .i64 a]) (.agg #[.int .i64 e, .int .i64 a])).run Tryz.prog w = .ok (.bool false) w := fun w => by
      simpa using neqFault (e, a) (e, a) w
    go_enter Tryz.func4, Tryz.ntmps4
    go_wp2_with fail
    refine (decode_any b B cb _ HB.out HBL.out).mono ?_
    intro z w1 hz
    rw [HD.out] at hz
    obtain ⟨rfl, hk⟩ := hz
    have kd : Kept [] w1 ((w1.alloc (.cells #[.int .i64 0, .slice none 0 0] 24)).alloc (.cells #[.int .i64 e, .int .i64 a] 33)) := ((Kept.refl [] w1).alloc _).alloc _
    have Hg3 := Lib.hid ((Blk.new w1 24 [.int .i64 0, .slice none 0 0]).alloc (.cells #[.int .i64 e, .int .i64 a] 33))
    have Hg4 := Lib.hid (Blk.new1F w1 (.cells #[.int .i64 0, .slice none 0 0] 24) 33 [.int .i64 e, .int .i64 a])
    replace K0 := Lib.hid ((K0.out.trans hk).trans kd)
    clear kd hk
    go_upto_region 4 with (fail)
    generalize ((w1.alloc (.cells #[.int .i64 0, .slice none 0 0] 24)).alloc (.cells #[.int .i64 e, .int .i64 a] 33)) = w1n at *
    generalize w1.heap.size + 1 = g4 at Hg4 ⊢
    generalize w1.heap.size = g3 at Hg3 ⊢
    go_wp2_with fail
    refine (rdecode6_any b B cb _ (HB.out.kept0 K0.out) HBL.out).mono ?_
    intro z w2 hz
    rw [HD.out] at hz
    obtain ⟨rfl, hk⟩ := hz
    have kd : Kept [] w2 ((w2.alloc (.cells #[.int .i64 0, .slice none 0 0] 24)).alloc (.cells #[.int .i64 e, .int .i64 a] 33)) := ((Kept.refl [] w2).alloc _).alloc _
    have Hg5 := Lib.hid ((Blk.new w2 24 [.int .i64 0, .slice none 0 0]).alloc (.cells #[.int .i64 e, .int .i64 a] 33))
    have Hg6 := Lib.hid (Blk.new1F w2 (.cells #[.int .i64 0, .slice none 0 0] 24) 33 [.int .i64 e, .int .i64 a])
    replace Hg3 := Lib.hid ((Hg3.out.kept hk (by simp)).kept kd (by simp))
    replace Hg4 := Lib.hid ((Hg4.out.kept hk (by simp)).kept kd (by simp))
    replace K0 := Lib.hid ((K0.out.trans hk).trans kd)
    clear kd hk
    go_upto_region 5 with (fail)
    generalize ((w2.alloc (.cells #[.int .i64 0, .slice none 0 0] 24)).alloc (.cells #[.int .i64 e, .int .i64 a] 33)) = w2n at *
    generalize w2.heap.size + 1 = g6 at Hg6 ⊢
    generalize w2.heap.size = g5 at Hg5 ⊢
    have a0 := Hg3.out.cell 0
    have a1 := Hg3.out.cell 1
    have al := Hg3.out.lt
    simp only [List.getElem?_cons_zero, List.getElem?_cons_succ] at a0 a1
    have b0 := Hg4.out.cell 0
    have b1 := Hg4.out.cell 1
    have bl := Hg4.out.lt
    simp only [List.getElem?_cons_zero, List.getElem?_cons_succ] at b0 b1
    have c0 := Hg5.out.cell 0
    have c1 := Hg5.out.cell 1
    have cl := Hg5.out.lt
    simp only [List.getElem?_cons_zero, List.getElem?_cons_succ] at c0 c1
    have e0 := Hg6.out.cell 0
    have e1 := Hg6.out.cell 1
    have el := Hg6.out.lt
    simp only [List.getElem?_cons_zero, List.getElem?_cons_succ] at e0 e1
    go_wp2_with fail
    refine (live6_any _).mono ?_
    rintro z wl ⟨rfl, hk⟩
    replace Hg3 := Lib.hid (Hg3.out.kept hk (by simp))
    replace Hg4 := Lib.hid (Hg4.out.kept hk (by simp))
    replace Hg5 := Lib.hid (Hg5.out.kept hk (by simp))
    replace Hg6 := Lib.hid (Hg6.out.kept hk (by simp))
    replace K0 := Lib.hid (K0.out.trans hk)
    clear hk a0 a1 al b0 b1 bl c0 c1 cl e0 e1 el
    have a0 := Hg3.out.cell 0
    have a1 := Hg3.out.cell 1
    have al := Hg3.out.lt
    simp only [List.getElem?_cons_zero, List.getElem?_cons_succ] at a0 a1
    have b0 := Hg4.out.cell 0
    have b1 := Hg4.out.cell 1
    have bl := Hg4.out.lt
    simp only [List.getElem?_cons_zero, List.getElem?_cons_succ] at b0 b1
    have c0 := Hg5.out.cell 0
    have c1 := Hg5.out.cell 1
    have cl := Hg5.out.lt
    simp only [List.getElem?_cons_zero, List.getElem?_cons_succ] at c0 c1
    have e0 := Hg6.out.cell 0
    have e1 := Hg6.out.cell 1
    have el := Hg6.out.lt
    simp only [List.getElem?_cons_zero, List.getElem?_cons_succ] at e0 e1
    go_wp2_with fail
    refine (refSame_any 0 0 [] [] none none 0 0 _ (by simp) (by simp) (nilR _) (nilR _)).mono ?_
    rintro z ws ⟨rfl, hk⟩
    rw [show (decide ((0 : Int) = 0) && decide (([] : List Ed) = [])) = true from by simp]
    replace Hg3 := Lib.hid (Hg3.out.kept hk (by simp))
    replace Hg4 := Lib.hid (Hg4.out.kept hk (by simp))
    replace Hg5 := Lib.hid (Hg5.out.kept hk (by simp))
    replace Hg6 := Lib.hid (Hg6.out.kept hk (by simp))
    replace K0 := Lib.hid (K0.out.trans hk)
    clear hk a0 a1 al b0 b1 bl c0 c1 cl e0 e1 el
    have a0 := Hg3.out.cell 0
    have a1 := Hg3.out.cell 1
    have al := Hg3.out.lt
    simp only [List.getElem?_cons_zero, List.getElem?_cons_succ] at a0 a1
    have b0 := Hg4.out.cell 0
    have b1 := Hg4.out.cell 1
    have bl := Hg4.out.lt
    simp only [List.getElem?_cons_zero, List.getElem?_cons_succ] at b0 b1
    have c0 := Hg5.out.cell 0
    have c1 := Hg5.out.cell 1
    have cl := Hg5.out.lt
    simp only [List.getElem?_cons_zero, List.getElem?_cons_succ] at c0 c1
    have e0 := Hg6.out.cell 0
    have e1 := Hg6.out.cell 1
    have el := Hg6.out.lt
    simp only [List.getElem?_cons_zero, List.getElem?_cons_succ] at e0 e1
    go_wp2_with fail
    refine (canon6_any b B cb _ (HB.out.kept0 K0.out) HBL.out).mono ?_
    rintro z wc ⟨rfl, hk⟩
    replace Hg3 := Lib.hid (Hg3.out.kept hk (by simp))
    replace Hg4 := Lib.hid (Hg4.out.kept hk (by simp))
    replace Hg5 := Lib.hid (Hg5.out.kept hk (by simp))
    replace Hg6 := Lib.hid (Hg6.out.kept hk (by simp))
    replace K0 := Lib.hid (K0.out.trans hk)
    clear hk a0 a1 al b0 b1 bl c0 c1 cl e0 e1 el
    generalize hcv : canonB b = cv
    have HCV := Lib.hid hcv
    clear hcv
    have hcc : (cv != cv) = false := by cases cv <;> rfl
    have a0 := Hg3.out.cell 0
    have a1 := Hg3.out.cell 1
    have al := Hg3.out.lt
    simp only [List.getElem?_cons_zero, List.getElem?_cons_succ] at a0 a1
    have b0 := Hg4.out.cell 0
    have b1 := Hg4.out.cell 1
    have bl := Hg4.out.lt
    simp only [List.getElem?_cons_zero, List.getElem?_cons_succ] at b0 b1
    have c0 := Hg5.out.cell 0
    have c1 := Hg5.out.cell 1
    have cl := Hg5.out.lt
    simp only [List.getElem?_cons_zero, List.getElem?_cons_succ] at c0 c1
    have e0 := Hg6.out.cell 0
    have e1 := Hg6.out.cell 1
    have el := Hg6.out.lt
    simp only [List.getElem?_cons_zero, List.getElem?_cons_succ] at e0 e1
    go_wp2_with fail
    refine (rcanon6_any b B cb _ (HB.out.kept0 K0.out) HBL.out).mono ?_
    rintro z wd ⟨rfl, hk⟩
    rw [HCV.out]
    replace Hg3 := Lib.hid (Hg3.out.kept hk (by simp))
    replace Hg4 := Lib.hid (Hg4.out.kept hk (by simp))
    replace Hg5 := Lib.hid (Hg5.out.kept hk (by simp))
    replace Hg6 := Lib.hid (Hg6.out.kept hk (by simp))
    replace K0 := Lib.hid (K0.out.trans hk)
    clear hk a0 a1 al b0 b1 bl c0 c1 cl e0 e1 el
    have a0 := Hg3.out.cell 0
    have a1 := Hg3.out.cell 1
    have al := Hg3.out.lt
    simp only [List.getElem?_cons_zero, List.getElem?_cons_succ] at a0 a1
    have b0 := Hg4.out.cell 0
    have b1 := Hg4.out.cell 1
    have bl := Hg4.out.lt
    simp only [List.getElem?_cons_zero, List.getElem?_cons_succ] at b0 b1
    have c0 := Hg5.out.cell 0
    have c1 := Hg5.out.cell 1
    have cl := Hg5.out.lt
    simp only [List.getElem?_cons_zero, List.getElem?_cons_succ] at c0 c1
    have e0 := Hg6.out.cell 0
    have e1 := Hg6.out.cell 1
    have el := Hg6.out.lt
    simp only [List.getElem?_cons_zero, List.getElem?_cons_succ] at e0 e1
    go_wp2_with fail
    go_ret
    exact ⟨ret_bool (by simp [ha0, ha1]), K0.out⟩
  · have HD := Lib.hid hd
    obtain ⟨g1, g2, g3'⟩ := decG_good hd
    have HLL := Lib.hid (show l.length ≤ maxLen by have := (right_zero g1).2.1; unfold maxLen; omega)
    have G1 := Lib.hid g1
    have G2 := Lib.hid (rises_of_L g2)
    clear hd g1 g2 g3'
    have Q0 : ∀ w, (binOp .neq 33 (.agg #[.int .i64 0, .int .i64 0]) (.agg #[.int .i64 0, .int .i64 0])).run Tryz.prog w = .ok (.bool false) w := fun w => by
      simpa using neqFault (0, 0) (0, 0) w
    go_enter Tryz.func4, Tryz.ntmps4
    go_wp2_with fail
    refine (decode_any b B cb _ HB.out HBL.out).mono ?_
    intro z w1 hz
    rw [HD.out] at hz
    obtain ⟨⟨v, rfl, ho⟩, hk⟩ := hz
    obtain ⟨A3, c3, rfl⟩ := own_n ho
    have kd : Kept [] w1 ((w1.alloc (.cells #[.int .i64 n, .slice A3 l.length c3] 24)).alloc (.cells #[.int .i64 0, .int .i64 0] 33)) := ((Kept.refl [] w1).alloc _).alloc _
    have Hg3 := Lib.hid ((Blk.new w1 24 [.int .i64 n, .slice A3 l.length c3]).alloc (.cells #[.int .i64 0, .int .i64 0] 33))
    have Hg4 := Lib.hid (Blk.new1F w1 (.cells #[.int .i64 n, .slice A3 l.length c3] 24) 33 [.int .i64 0, .int .i64 0])
    replace K0 := Lib.hid ((K0.out.trans hk).trans kd)
    have HR3 := Lib.hid ((Reads.of_own ho).kept0 kd)
    clear ho
    clear kd hk
    go_upto_region 4 with (fail)
    generalize ((w1.alloc (.cells #[.int .i64 n, .slice A3 l.length c3] 24)).alloc (.cells #[.int .i64 0, .int .i64 0] 33)) = w1n at *
    generalize w1.heap.size + 1 = g4 at Hg4 ⊢
    generalize w1.heap.size = g3 at Hg3 ⊢
    go_wp2_with fail
    refine (rdecode6_any b B cb _ (HB.out.kept0 K0.out) HBL.out).mono ?_
    intro z w2 hz
    rw [HD.out] at hz
    obtain ⟨⟨v, rfl, ho⟩, hk⟩ := hz
    obtain ⟨A5, c5, rfl⟩ := own_n ho
    have kd : Kept [] w2 ((w2.alloc (.cells #[.int .i64 n, .slice A5 l.length c5] 24)).alloc (.cells #[.int .i64 0, .int .i64 0] 33)) := ((Kept.refl [] w2).alloc _).alloc _
    have Hg5 := Lib.hid ((Blk.new w2 24 [.int .i64 n, .slice A5 l.length c5]).alloc (.cells #[.int .i64 0, .int .i64 0] 33))
    have Hg6 := Lib.hid (Blk.new1F w2 (.cells #[.int .i64 n, .slice A5 l.length c5] 24) 33 [.int .i64 0, .int .i64 0])
    replace Hg3 := Lib.hid ((Hg3.out.kept hk (by simp)).kept kd (by simp))
    replace Hg4 := Lib.hid ((Hg4.out.kept hk (by simp)).kept kd (by simp))
    replace K0 := Lib.hid ((K0.out.trans hk).trans kd)
    have HR5 := Lib.hid ((Reads.of_own ho).kept0 kd)
    replace HR3 := Lib.hid ((HR3.out.kept0 hk).kept0 kd)
    clear ho
    clear kd hk
    go_upto_region 5 with (fail)
    generalize ((w2.alloc (.cells #[.int .i64 n, .slice A5 l.length c5] 24)).alloc (.cells #[.int .i64 0, .int .i64 0] 33)) = w2n at *
    generalize w2.heap.size + 1 = g6 at Hg6 ⊢
    generalize w2.heap.size = g5 at Hg5 ⊢
    have a0 := Hg3.out.cell 0
    have a1 := Hg3.out.cell 1
    have al := Hg3.out.lt
    simp only [List.getElem?_cons_zero, List.getElem?_cons_succ] at a0 a1
    have b0 := Hg4.out.cell 0
    have b1 := Hg4.out.cell 1
    have bl := Hg4.out.lt
    simp only [List.getElem?_cons_zero, List.getElem?_cons_succ] at b0 b1
    have c0 := Hg5.out.cell 0
    have c1 := Hg5.out.cell 1
    have cl := Hg5.out.lt
    simp only [List.getElem?_cons_zero, List.getElem?_cons_succ] at c0 c1
    have e0 := Hg6.out.cell 0
    have e1 := Hg6.out.cell 1
    have el := Hg6.out.lt
    simp only [List.getElem?_cons_zero, List.getElem?_cons_succ] at e0 e1
    go_wp2_with fail
    refine (live6_any _).mono ?_
    rintro z wl ⟨rfl, hk⟩
    replace Hg3 := Lib.hid (Hg3.out.kept hk (by simp))
    replace Hg4 := Lib.hid (Hg4.out.kept hk (by simp))
    replace Hg5 := Lib.hid (Hg5.out.kept hk (by simp))
    replace Hg6 := Lib.hid (Hg6.out.kept hk (by simp))
    replace HR3 := Lib.hid (HR3.out.kept0 hk)
    replace HR5 := Lib.hid (HR5.out.kept0 hk)
    replace K0 := Lib.hid (K0.out.trans hk)
    clear hk a0 a1 al b0 b1 bl c0 c1 cl e0 e1 el
    have a0 := Hg3.out.cell 0
    have a1 := Hg3.out.cell 1
    have al := Hg3.out.lt
    simp only [List.getElem?_cons_zero, List.getElem?_cons_succ] at a0 a1
    have b0 := Hg4.out.cell 0
    have b1 := Hg4.out.cell 1
    have bl := Hg4.out.lt
    simp only [List.getElem?_cons_zero, List.getElem?_cons_succ] at b0 b1
    have c0 := Hg5.out.cell 0
    have c1 := Hg5.out.cell 1
    have cl := Hg5.out.lt
    simp only [List.getElem?_cons_zero, List.getElem?_cons_succ] at c0 c1
    have e0 := Hg6.out.cell 0
    have e1 := Hg6.out.cell 1
    have el := Hg6.out.lt
    simp only [List.getElem?_cons_zero, List.getElem?_cons_succ] at e0 e1
    go_wp2_with fail
    refine (refSame_any n n l l A3 A5 c3 c5 _ HLL.out HLL.out HR3.out HR5.out).mono ?_
    rintro z ws ⟨rfl, hk⟩
    rw [show (decide (n = n) && decide (l = l)) = true from by simp]
    replace Hg3 := Lib.hid (Hg3.out.kept hk (by simp))
    replace Hg4 := Lib.hid (Hg4.out.kept hk (by simp))
    replace Hg5 := Lib.hid (Hg5.out.kept hk (by simp))
    replace Hg6 := Lib.hid (Hg6.out.kept hk (by simp))
    replace HR3 := Lib.hid (HR3.out.kept0 hk)
    replace HR5 := Lib.hid (HR5.out.kept0 hk)
    replace K0 := Lib.hid (K0.out.trans hk)
    clear hk a0 a1 al b0 b1 bl c0 c1 cl e0 e1 el
    have a0 := Hg3.out.cell 0
    have a1 := Hg3.out.cell 1
    have al := Hg3.out.lt
    simp only [List.getElem?_cons_zero, List.getElem?_cons_succ] at a0 a1
    have b0 := Hg4.out.cell 0
    have b1 := Hg4.out.cell 1
    have bl := Hg4.out.lt
    simp only [List.getElem?_cons_zero, List.getElem?_cons_succ] at b0 b1
    have c0 := Hg5.out.cell 0
    have c1 := Hg5.out.cell 1
    have cl := Hg5.out.lt
    simp only [List.getElem?_cons_zero, List.getElem?_cons_succ] at c0 c1
    have e0 := Hg6.out.cell 0
    have e1 := Hg6.out.cell 1
    have el := Hg6.out.lt
    simp only [List.getElem?_cons_zero, List.getElem?_cons_succ] at e0 e1
    go_wp2_with fail
    refine (canon6_any b B cb _ (HB.out.kept0 K0.out) HBL.out).mono ?_
    rintro z wc ⟨rfl, hk⟩
    replace Hg3 := Lib.hid (Hg3.out.kept hk (by simp))
    replace Hg4 := Lib.hid (Hg4.out.kept hk (by simp))
    replace Hg5 := Lib.hid (Hg5.out.kept hk (by simp))
    replace Hg6 := Lib.hid (Hg6.out.kept hk (by simp))
    replace HR3 := Lib.hid (HR3.out.kept0 hk)
    replace HR5 := Lib.hid (HR5.out.kept0 hk)
    replace K0 := Lib.hid (K0.out.trans hk)
    clear hk a0 a1 al b0 b1 bl c0 c1 cl e0 e1 el
    generalize hcv : canonB b = cv
    have HCV := Lib.hid hcv
    clear hcv
    have hcc : (cv != cv) = false := by cases cv <;> rfl
    have a0 := Hg3.out.cell 0
    have a1 := Hg3.out.cell 1
    have al := Hg3.out.lt
    simp only [List.getElem?_cons_zero, List.getElem?_cons_succ] at a0 a1
    have b0 := Hg4.out.cell 0
    have b1 := Hg4.out.cell 1
    have bl := Hg4.out.lt
    simp only [List.getElem?_cons_zero, List.getElem?_cons_succ] at b0 b1
    have c0 := Hg5.out.cell 0
    have c1 := Hg5.out.cell 1
    have cl := Hg5.out.lt
    simp only [List.getElem?_cons_zero, List.getElem?_cons_succ] at c0 c1
    have e0 := Hg6.out.cell 0
    have e1 := Hg6.out.cell 1
    have el := Hg6.out.lt
    simp only [List.getElem?_cons_zero, List.getElem?_cons_succ] at e0 e1
    go_wp2_with fail
    refine (rcanon6_any b B cb _ (HB.out.kept0 K0.out) HBL.out).mono ?_
    rintro z wd ⟨rfl, hk⟩
    rw [HCV.out]
    replace Hg3 := Lib.hid (Hg3.out.kept hk (by simp))
    replace Hg4 := Lib.hid (Hg4.out.kept hk (by simp))
    replace Hg5 := Lib.hid (Hg5.out.kept hk (by simp))
    replace Hg6 := Lib.hid (Hg6.out.kept hk (by simp))
    replace HR3 := Lib.hid (HR3.out.kept0 hk)
    replace HR5 := Lib.hid (HR5.out.kept0 hk)
    replace K0 := Lib.hid (K0.out.trans hk)
    clear hk a0 a1 al b0 b1 bl c0 c1 cl e0 e1 el
    have a0 := Hg3.out.cell 0
    have a1 := Hg3.out.cell 1
    have al := Hg3.out.lt
    simp only [List.getElem?_cons_zero, List.getElem?_cons_succ] at a0 a1
    have b0 := Hg4.out.cell 0
    have b1 := Hg4.out.cell 1
    have bl := Hg4.out.lt
    simp only [List.getElem?_cons_zero, List.getElem?_cons_succ] at b0 b1
    have c0 := Hg5.out.cell 0
    have c1 := Hg5.out.cell 1
    have cl := Hg5.out.lt
    simp only [List.getElem?_cons_zero, List.getElem?_cons_succ] at c0 c1
    have e0 := Hg6.out.cell 0
    have e1 := Hg6.out.cell 1
    have el := Hg6.out.lt
    simp only [List.getElem?_cons_zero, List.getElem?_cons_succ] at e0 e1
    go_wp2_with fail
    refine (refRight_any n l A3 c3 _ HLL.out HR3.out).mono ?_
    rintro z we ⟨rfl, hk⟩
    rw [G1.out]
    replace Hg3 := Lib.hid (Hg3.out.kept hk (by simp))
    replace HR3 := Lib.hid (HR3.out.kept0 hk)
    replace K0 := Lib.hid (K0.out.trans hk)
    clear hk a0 a1 al b0 b1 bl c0 c1 cl e0 e1 el
    have a0 := Hg3.out.cell 0
    have a1 := Hg3.out.cell 1
    have al := Hg3.out.lt
    simp only [List.getElem?_cons_zero, List.getElem?_cons_succ] at a0 a1
    go_wp2_with fail
    refine (refRises_any l A3 c3 _ HLL.out HR3.out).mono ?_
    rintro z wf ⟨rfl, hk⟩
    rw [G2.out]
    replace K0 := Lib.hid (K0.out.trans hk)
    clear hk
    go_wp2_with fail
    go_ret
    exact ⟨rfl, K0.out⟩

set_option maxRecDepth 100000 in
theorem loaderReads_lifted (os : Os) (started : os.Started) (H : Type) (enc : TypeId × Value → H) :
    ReturnsInHanded {} Tryz.checked os 4 .any (Rows.loaderReadsSpec.pre6 enc Tryz.prog Tryz.f4 Rows.loaderReadsRow.domain false) (Rows.loaderReadsSpec.post enc Tryz.prog Tryz.f4 false true false false) := by
  refine returnsInHanded_of_change (C := Tryz.checked) own started (by kernel_rfl) Tryz.func4
    (ChangeSpec.witness6 (enc := enc) (C := Tryz.checked) false ⟨#[], #[.slice none 0 0], []⟩ 8 (by kernel_rfl) (by kernel_rfl) (by kernel_rfl) (by kernel_rfl)) ?_
  intro W base args ds gs before hval0 hW hcnd _
  have hval : ∀ (j : Nat) t v, Tryz.f4.params[j]? = some t → args[j]? = some v → Value.okWide Tryz.prog W .any base t v := hval0
  have hW' := hW
  obtain ⟨p, q, hA0, hV, rfl, hfz, hnd⟩ := hW
  have hA : DataW.TrodAll enc Tryz.prog W 0 (fun _ => true) true Tryz.f4.params.toList args.toList ds p := hA0
  rw [Tryz.params4] at hA hval
  obtain ⟨v0, vs0, d0, ds0, p0, q0, hargs, rfl, rfl, h0, r0⟩ := trodAll_cons hA
  obtain ⟨rfl, rfl, rfl⟩ := trodAll_nil r0
  obtain rfl : args = #[v0] := by cases args; simp_all
  obtain ⟨rfl, rfl⟩ := trodVars_none hV
  obtain ⟨B, cb, b, rfl, l3, l4, hBr, _⟩ := open_bytes Tryz.underlying26 Tryz.underlying5 (by kernel_rfl) (hval 0 26 v0 rfl rfl) h0
  refine (loaderReads_walk b B cb W hBr (Nat.le_trans l3 l4)).mono fun e W' ⟨he, hk⟩ => ?_
  exact ⟨_, he, post_true rfl Tryz.underlying4 rfl rfl rfl rfl laidOut (by decide +kernel) hW' hk⟩

theorem loaderReads_holds : Rows.LoaderReadsSaid :=
  OpenClaim.holds_of_wide 4 Tryz.f4 rfl rfl rfl rfl rfl rfl rfl ⟨rfl, rfl, rfl, rfl, rfl⟩ rfl rfl rfl rfl rfl (by kernel_rfl) Tryz.func4 (by kernel_rfl)
    (of_decide_eq_true (by kernel_rfl)) (by unfold Func.isWrapper; first | (rw [if_pos (by decide +kernel)]; kernel_rfl) | (rw [if_neg (by decide +kernel)]; exact ⟨rfl, rfl⟩))
    (fun os started H enc _ => loaderReads_lifted os started H enc)
end Go.Proofs.YtfnhfmffkjljnaaGreat
