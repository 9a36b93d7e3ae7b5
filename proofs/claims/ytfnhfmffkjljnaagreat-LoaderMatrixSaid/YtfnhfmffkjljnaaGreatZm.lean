/- 'LoaderMatrix' returns true for all numbers, triples and bytes. Conditions: none. -/
import Derived.Test.YtfnhfmffkjljnaaGreatLw
import Derived.Test.YtfnhfmffkjljnaaGreatLz
import Derived.Test.YtfnhfmffkjljnaaGreatZb
namespace Go.Proofs.YtfnhfmffkjljnaaGreat
set_option linter.unusedSimpArgs false
set_option linter.unusedVariables false
open Go.ChangeShapes Go.WideShapes Go.ChangeAt Go.RowKit
open Go.RowKit (wrap32 wrap64)
set_option maxHeartbeats 8000000

/-- A number that is read, or 0 and a reader with a fault. -/
def Rd.numR (R : Rd) (k low most e : Int) : Int × Rd :=
  if (R.after k).e ≠ 0 then (0, R.after k) else if low ≤ (num (R.got k) : Int) ∧ (num (R.got k) : Int) ≤ most then ((num (R.got k) : Int), R.after k) else (0, (R.after k).fail e R.pos)

theorem fieldErrno (a b : Int) (w : World) : (Instr.field 33 (.agg #[.int .i64 a, .int .i64 b]) 0).run Tryz.prog w = .ok (.int .i64 a) w := by kernel_rfl
def St {α : Type} (d : Except (Int × Int) α) (R : Rd) (c : Except (Int × Int) α) : Prop := if R.e ≠ 0 then d = .error (R.e, R.fat) else d = c
theorem St.dead {α : Type} {d c c' : Except (Int × Int) α} {R : Rd} (h : St d R c) (he : R.e ≠ 0) : St d R c' := by
  unfold St at h ⊢; rw [if_pos he] at h ⊢; exact h
theorem St.live {α : Type} {d c : Except (Int × Int) α} {R : Rd} (h : St d R c) (he : R.e = 0) : d = c := by
  unfold St at h; rw [if_neg (by simpa using he)] at h; exact h
theorem St.mk {α : Type} {d c : Except (Int × Int) α} {R : Rd} (h : R.e = 0 → d = c) (h2 : R.e ≠ 0 → d = .error (R.e, R.fat)) : St d R c := by
  unfold St; split
  · rename_i h'; exact h2 h'
  · rename_i h'; exact h (by simpa using h')
theorem after_dead {R : Rd} {k : Int} (h : R.e ≠ 0) : R.after k = R := by unfold Rd.after; rw [if_pos h]
theorem fail_dead {R : Rd} {e a : Int} (h : R.e ≠ 0) : R.fail e a = R := by unfold Rd.fail; rw [if_pos (.inl h)]
theorem fail_live {R : Rd} {e a : Int} (h : R.e = 0) (he : e ≠ 0) : (R.fail e a).e = e ∧ (R.fail e a).fat = a := by
  unfold Rd.fail; rw [if_neg (by simp [h, he])]; exact ⟨rfl, rfl⟩
theorem numR_dead {R : Rd} {k low most e : Int} (h : R.e ≠ 0) : R.numR k low most e = (0, R) := by
  unfold Rd.numR; rw [after_dead h, if_pos h]
theorem numR_ok {R R' : Rd} {k low most e n : Int} (h : R.rd k low most e = .ok (n, R')) : R.numR k low most e = (n, R') ∧ R'.e = 0 := by
  unfold Rd.rd at h
  split at h
  · cases h
  · rename_i h1
    split at h
    · rename_i h2
      injection h with h
      injection h with ha hb
      subst ha hb
      unfold Rd.numR
      rw [if_neg h1, if_pos h2]
      exact ⟨rfl, by simpa using h1⟩
    · cases h
theorem numR_err {R : Rd} {k low most e x a : Int} (h : R.rd k low most e = .error (x, a)) (he : e ≠ 0) : (R.numR k low most e).1 = 0 ∧ (R.numR k low most e).2.e = x ∧ (R.numR k low most e).2.fat = a ∧ x ≠ 0 := by
  unfold Rd.rd at h
  split at h
  · rename_i h1
    injection h with h
    injection h with ha hb
    subst ha hb
    unfold Rd.numR
    rw [if_pos h1]
    exact ⟨rfl, rfl, rfl, h1⟩
  · rename_i h1
    split at h
    · cases h
    · rename_i h2
      injection h with h
      injection h with ha hb
      subst ha hb
      unfold Rd.numR
      rw [if_neg h1, if_neg h2]
      obtain ⟨p1, p2⟩ := fail_live (R := R.after k) (e := e) (a := R.pos) (by simpa using h1) he
      exact ⟨rfl, p1, p2, he⟩
/-- A number is read on both sides. -/
theorem St.numb {α : Type} {d : Except (Int × Int) α} {R : Rd} {k low most e : Int} {f : Int × Rd → Except (Int × Int) α} (h : St d R ((R.rd k low most e).bind f)) (he : e ≠ 0) : St d (R.numR k low most e).2 (f (R.numR k low most e)) := by
  by_cases h0 : R.e = 0
  · have hd := h.live h0
    rcases hr : R.rd k low most e with ⟨x, a⟩ | ⟨n, R'⟩
    · obtain ⟨_, h2, h3, h4⟩ := numR_err hr he
      rw [hr] at hd
      refine St.mk (fun h => absurd (h2.symm.trans h) h4) (fun _ => ?_)
      rw [h2, h3]; exact hd
    · obtain ⟨h1, h2⟩ := numR_ok hr
      rw [hr] at hd
      rw [h1]
      exact St.mk (fun _ => hd) (fun h => absurd h2 h)
  · rw [numR_dead h0]
    exact h.dead h0
theorem numR_range {R : Rd} {k most e : Int} (hm : 0 ≤ most) : 0 ≤ (R.numR k 0 most e).1 ∧ (R.numR k 0 most e).1 ≤ most := by
  unfold Rd.numR
  split
  · exact ⟨Int.le_refl _, hm⟩
  · split
    · rename_i h; exact h
    · exact ⟨Int.le_refl _, hm⟩
/-- A number of eight bytes is read on both sides. -/
theorem St.word {α : Type} {d : Except (Int × Int) α} {R : Rd} {f : Int × Rd → Except (Int × Int) α} (h : St d R (R.word.bind f)) : St d (R.after 8) (f (wrap64 ((num (R.got 8) : Nat) : Int), R.after 8)) := by
  by_cases h0 : R.e = 0
  · have hd := h.live h0
    unfold Rd.word at hd
    split at hd
    · rename_i h1
      exact St.mk (fun h => absurd h h1) (fun _ => hd)
    · rename_i h1
      exact St.mk (fun _ => hd) (fun h => absurd h h1)
  · rw [after_dead h0]
    exact h.dead h0

/-- A mark that is read, or a reader with a fault. -/
def Rd.magicR (R : Rd) (m : List UInt8) : Rd := if (R.after 4).e ≠ 0 then R.after 4 else if R.got 4 = m then R.after 4 else (R.after 4).fail 1 0
theorem St.mark {α : Type} {d : Except (Int × Int) α} {R : Rd} {m : List UInt8} {f : Rd → Except (Int × Int) α} (h : St d R ((R.mark m).bind f)) : St d (R.magicR m) (f (R.magicR m)) := by
  by_cases h0 : R.e = 0
  · have hd := h.live h0
    unfold Rd.mark at hd
    unfold Rd.magicR
    split
    · rename_i h1
      rw [if_pos h1] at hd
      exact St.mk (fun h => absurd h h1) (fun _ => hd)
    · rename_i h1
      rw [if_neg h1] at hd
      split
      · rename_i h2
        rw [if_pos h2] at hd
        exact St.mk (fun _ => hd) (fun h => absurd h h1)
      · rename_i h2
        rw [if_neg h2] at hd
        obtain ⟨p1, p2⟩ := fail_live (R := R.after 4) (e := 1) (a := 0) (by simpa using h1) (by decide)
        exact St.mk (fun h => absurd (p1.symm.trans h) (by decide)) (fun _ => by rw [p1, p2]; exact hd)
  · have hm : R.magicR m = R := by unfold Rd.magicR; rw [after_dead h0, if_pos h0]
    rw [hm]
    exact h.dead h0
theorem got4_ok {R : Rd} (h : (R.after 4).e = 0) : (R.got 4).length = 4 := by
  by_cases h0 : R.e = 0
  · by_cases h1 : (R.b.length : Int) - R.pos < 4
    · exfalso
      unfold Rd.after at h
      rw [if_neg (by simp [h0]), if_neg (by decide), if_pos h1] at h
      simp at h
    · exact Rd.got_length ⟨h0, by decide, by omega⟩
  · exfalso
    rw [after_dead h0] at h
    exact h0 h
theorem got4_bad {R : Rd} (h : (R.after 4).e ≠ 0) : R.got 4 = [] := by
  unfold Rd.got
  rw [if_neg]
  intro hc
  rw [Rd.after_can hc] at h
  exact h hc.1
section
set_option maxRecDepth 400000
theorem magic_any (p : Nat) (R : Rd) (m : List UInt8) (w : World) (hm : m.length = 4) (h : RdAt 110 w p R) :
    Calls Tryz.prog 46 #[.pointer (some ⟨p, 0, none⟩), .string ⟨m.toArray⟩] w fun x w' => x = .returned (.tuple #[]) ∧ RdAt 110 w' p (R.magicR m) ∧ Kept [p] w w' := by
  have H := Lib.hid h
  have hs : (⟨m.toArray⟩ : ByteArray).size = 4 := by show m.toArray.size = 4; simpa using hm
  clear h
  go_enter Tryz.func46, Tryz.ntmps46
  go_wp2_with fail
  refine (rtake_any p R 4 _ H.out).mono ?_
  rintro x w1 ⟨v, rfl, ho, hr, hk⟩
  obtain ⟨B, cb, rfl⟩ := own_n ho
  have HO := Lib.hid (Reads.of_own ho)
  have HR := Lib.hid hr
  have K1 := Lib.hid hk
  have hcv := run_str (R.got 4) B cb w1 HO.out
  clear hr hk ho
  by_cases he : (R.after 4).e = 0
  case neg =>
    have HE := Lib.hid he
    have hg : (R.got 4).length = 0 := by rw [got4_bad he]; rfl
    rw [hg]
    clear he hg hcv
    go_wp2_with fail
    go_end0
    unfold Rd.magicR
    rw [if_pos HE.out]
    exact ⟨rfl, HR.out, K1.out⟩
  have HE := Lib.hid he
  have hb : ((((R.got 4).length : Nat) : Int) == 4) = true := by rw [got4_ok he]; rfl
  clear he
  have hse : ((⟨(R.got 4).toArray⟩ : ByteArray) == ⟨m.toArray⟩) = decide (R.got 4 = m) := str_eq
  have hsn : ((⟨(R.got 4).toArray⟩ : ByteArray) != ⟨m.toArray⟩) = !decide (R.got 4 = m) := by show (!((⟨(R.got 4).toArray⟩ : ByteArray) == ⟨m.toArray⟩)) = _; rw [str_eq]
  by_cases g2 : R.got 4 = m
  · have G := Lib.hid g2
    rw [decide_eq_true g2] at hse hsn
    have hgm : (R.got 4 == m) = true := beq_iff_eq.2 g2
    clear g2
    go_wp2_with fail
    go_end0
    unfold Rd.magicR
    rw [if_neg (by simpa using HE.out), if_pos G.out]
    exact ⟨rfl, HR.out, K1.out⟩
  · have G := Lib.hid g2
    rw [decide_eq_false g2] at hse hsn
    have hgm : (R.got 4 == m) = false := beq_eq_false_iff_ne.2 g2
    clear g2
    go_wp2_with fail
    refine (rfail_any p (R.after 4) 1 0 _ HR.out).mono ?_
    rintro x w2 ⟨rfl, hr, hk⟩
    have HR2 := Lib.hid hr
    have K2 := Lib.hid (K1.out.trans hk)
    clear hr hk
    go_wp2_with fail
    go_end0
    unfold Rd.magicR
    rw [if_neg (by simpa using HE.out), if_neg G.out]
    exact ⟨rfl, HR2.out, K2.out⟩
theorem bounded_any (p : Nat) (R : Rd) (most e : Int) (w : World) (he0 : e ≠ 0) (h : RdAt 110 w p R) :
    Calls Tryz.prog 50 #[.pointer (some ⟨p, 0, none⟩), .int .i64 most, .int .i64 e] w fun x w' => x = .returned (.int .i64 (R.numR 4 0 most e).1) ∧ RdAt 110 w' p (R.numR 4 0 most e).2 ∧ Kept [p] w w' := by
  have H := Lib.hid h
  have hlt := num_got4_lt R
  have hn0 : 0 ≤ (num (R.got 4) : Int) := by omega
  clear h
  have hfe := fun (a b : Int) (wx : World) => fieldErrno a b wx
  go_enter Tryz.func50, Tryz.ntmps50
  go_wp2_with fail
  refine (rat_rd p R _ H.out).mono ?_
  rintro x w1 ⟨rfl, rfl⟩
  go_wp2_with fail
  refine (ru32_any p R _ H.out).mono ?_
  rintro x w1 ⟨rfl, hr, hk⟩
  rw [num_got4]
  have HR := Lib.hid hr
  have K1 := Lib.hid hk
  clear hr hk
  go_wp2_with fail
  refine (rfault_rd p (R.after 4) _ HR.out).mono ?_
  rintro x w2 ⟨rfl, hk⟩
  have K2 := Lib.hid (K1.out.then hk (by simp))
  have HR2 := Lib.hid (HR.out.kept0 hk)
  clear hk
  by_cases he : (R.after 4).e = 0
  case neg =>
    have HE := Lib.hid he
    have hb : ((R.after 4).e != 0) = true := by rw [bne_iff_ne]; exact he
    have hb2 : ((R.after 4).e == 0) = false := by rw [beq_eq_false_iff_ne]; exact he
    clear he
    go_wp2_with fail
    refine (rfault_rd p (R.after 4) _ HR2.out).mono ?_
    rintro x w3 ⟨rfl, hk⟩
    have K3 := Lib.hid (K2.out.then hk (by simp))
    have HR3 := Lib.hid (HR2.out.kept0 hk)
    clear hk hlt
    go_wp2_with fail
    go_ret
    unfold Rd.numR
    rw [if_pos HE.out]
    exact ⟨rfl, HR3.out, K3.out⟩
  have HE := Lib.hid he
  have hb : ((R.after 4).e != 0) = false := by rw [he]; rfl
  have hb2 : ((R.after 4).e == 0) = true := by rw [he]; rfl
  by_cases g2 : (num (R.got 4) : Int) ≤ most
  case neg =>
    have g3 : most < (num (R.got 4) : Int) := by omega
    have HF := Lib.hid (fail_live (a := R.pos) he he0)
    clear he
    go_wp2_with fail
    refine (rfail_any p (R.after 4) e R.pos _ HR2.out).mono ?_
    rintro x w3 ⟨rfl, hr, hk⟩
    have HR3 := Lib.hid hr
    have K3 := Lib.hid (K2.out.trans hk)
    clear hr hk
    go_wp2_with fail
    refine (rfault_rd p ((R.after 4).fail e R.pos) _ HR3.out).mono ?_
    rintro x w4 ⟨rfl, hk⟩
    rw [HF.out.1]
    have hc : (e != 0) = true := by rw [bne_iff_ne]; exact he0
    have K4 := Lib.hid (K3.out.then hk (by simp))
    have HR4 := Lib.hid (HR3.out.kept0 hk)
    clear hk
    go_wp2_with fail
    go_ret
    unfold Rd.numR
    rw [if_neg (by simpa using HE.out), if_neg (by omega)]
    exact ⟨rfl, HR4.out, K4.out⟩
  have g3 : decide (most < (num (R.got 4) : Int)) = false := decide_eq_false (by omega)
  have G2 := Lib.hid g2
  clear he g2
  go_wp2_with fail
  refine (rfault_rd p (R.after 4) _ HR2.out).mono ?_
  rintro x w3 ⟨rfl, hk⟩
  have K3 := Lib.hid (K2.out.then hk (by simp))
  have HR3 := Lib.hid (HR2.out.kept0 hk)
  clear hk
  go_wp2_with fail
  go_ret
  unfold Rd.numR
  rw [if_neg (by simpa using HE.out), if_pos ⟨hn0, G2.out⟩]
  exact ⟨rfl, HR3.out, K3.out⟩
end

def gEnd (n : Int) (l : List Ed) (R : Rd) : Except (Int × Int) (Int × List Ed) := if R.atEnd = true then .ok (n, canonP l) else .error (4, R.pos)
def gE (k n : Int) (i : Nat) (R : Rd) (acc : List Ed) : Except (Int × Int) (Int × List Ed) := (Rd.edges n k i R acc).bind fun e => gEnd n e.1 e.2
def gM (k n : Int) (R : Rd) : Except (Int × Int) (Int × List Ed) := (R.rd 4 0 65536 5).bind fun m => gE k n m.1.toNat m.2 []
def gN (k : Int) (R : Rd) : Except (Int × Int) (Int × List Ed) := (R.rd 4 0 4096 5).bind fun n => gM k n.1 n.2
def gK (R : Rd) : Except (Int × Int) (Int × List Ed) := (R.rd 1 0 1 8).bind fun k => gN k.1 k.2
def gB (k n : Int) (i : Nat) (acc : List Ed) (a b : Int) (R : Rd) : Except (Int × Int) (Int × List Ed) :=
  if k = 1 then (R.rd 4 0 2147483647 7).bind fun c => gE k n i c.2 (acc ++ [(a, b, c.1)]) else gE k n i R (acc ++ [(a, b, 1)])
def gA (k n : Int) (i : Nat) (acc : List Ed) (a : Int) (R : Rd) : Except (Int × Int) (Int × List Ed) := (R.rd 4 0 (n - 1) 3).bind fun b => gB k n i acc a b.1 b.2
theorem decG_g (b : List UInt8) : decG b = ((Rd.mk b 0 0 0).mark frt1).bind gK := by
  unfold decG Rd.graphE
  rw [ebind]; congr 1; funext R1
  unfold gK; rw [ebind]; congr 1; funext k
  unfold gN; rw [ebind]; congr 1; funext n
  unfold gM; rw [ebind]; congr 1; funext m
  unfold gE; rw [ebind]; congr 1; funext e
  unfold gEnd; split <;> rfl
theorem gE_zero (k n : Int) (R : Rd) (acc : List Ed) : gE k n 0 R acc = gEnd n acc R := rfl
theorem gE_succ (k n : Int) (i : Nat) (R : Rd) (acc : List Ed) : gE k n (i + 1) R acc = (R.rd 4 0 (n - 1) 3).bind fun a => gA k n i acc a.1 a.2 := by
  unfold gE
  simp only [Rd.edges, Rd.edge]
  rw [ebind, ebind]; congr 1; funext a
  unfold gA; rw [ebind]; congr 1; funext b
  unfold gB
  by_cases hk : k = 1
  · rw [if_pos hk, if_pos hk, ebind]; congr 1
  · rw [if_neg hk, if_neg hk]; rfl
/-- The reader behind the kind. -/
def Rd.kindR (R : Rd) : Rd := if 1 < num (R.got 1) then (R.after 1).fail 8 R.pos else R.after 1
theorem St.kind {d : Except (Int × Int) (Int × List Ed)} {R : Rd} (h : St d R (gK R)) : St d R.kindR (gN ((num (R.got 1) : Nat) : Int) R.kindR) := by
  by_cases h0 : R.e = 0
  · have hd := h.live h0
    unfold gK Rd.rd at hd
    by_cases h1 : (R.after 1).e = 0
    · rw [if_neg (by simpa using h1)] at hd
      unfold Rd.kindR
      by_cases h2 : 1 < num (R.got 1)
      · rw [if_pos h2]
        rw [if_neg (by omega)] at hd
        obtain ⟨p1, p2⟩ := fail_live (R := R.after 1) (e := 8) (a := R.pos) h1 (by decide)
        exact St.mk (fun h => absurd (p1.symm.trans h) (by decide)) (fun _ => by rw [p1, p2]; exact hd)
      · rw [if_neg h2]
        rw [if_pos (by omega)] at hd
        exact St.mk (fun _ => hd) (fun h => absurd h1 h)
    · rw [if_pos h1] at hd
      have hk : R.kindR = R.after 1 := by unfold Rd.kindR; rw [fail_dead h1]; split <;> rfl
      rw [hk]
      exact St.mk (fun h => absurd h h1) (fun _ => hd)
  · have hk : R.kindR = R := by unfold Rd.kindR; rw [after_dead h0, fail_dead h0]; split <;> rfl
    rw [hk]
    exact h.dead h0
abbrev gsT : List TypeId := [110, 24, 52]
/-- What lies in memory while the document reads a graph: the reader at p, the graph at g. -/
structure GsAt (w0 w : World) (base p g : Nat) (R : Rd) (n : Int) (v : Value) (l : List Ed) : Prop where
  rd : RdAt 110 w p R
  gr : Blk w g 24 [.int .i64 n, v]
  own : w.ownsRow base 52 3 v l.length (l.flatMap edV)
  kept : KeptB base gsT w0 w
  hp : base ≤ p
  hg : base ≤ g
  hb : base ≤ w0.heap.size
theorem KeptB.mono {base : Nat} {T T' : List TypeId} {a b : World} (h : KeptB base T a b) (hT : ∀ t ∈ T, t ∈ T') : KeptB base T' a b :=
  ⟨h.os, h.tape, h.output, h.size, fun k hk ht => h.block k hk (ht.imp id fun f cs t fr hc hm => f cs t fr hc (hT t hm))⟩
theorem KeptB.rcall {base : Nat} {T : List TypeId} {a b c : World} {p : Nat} {R : Rd} (h : KeptB base T a b) (hr : RdAt 110 b p R) (hk : Kept [p] b c) (hp : base ≤ p) (hT : 110 ∈ T) : KeptB base T a c := by
  obtain ⟨⟨A, cap, hb, ho⟩, _⟩ := hr
  exact h.step hk (fun m hm => by simp at hm; subst hm; exact ⟨hp, _, _, _, hb, hT⟩)
/-- The same, and an edge at T. -/
structure GxAt (w0 w : World) (base p g : Nat) (R : Rd) (n : Int) (v : Value) (l : List Ed) (T : Nat) (cs : List Value) : Prop where
  rs : GsAt w0 w base p g R n v l
  blk : Blk w T 52 cs
  n1 : v.ownBlock ≠ some T
  le : base ≤ T
section
variable {w0 w w1 w2 w' : World} {base p g T : Nat} {R R' : Rd} {n : Int} {v : Value} {l : List Ed} {cs : List Value}
theorem GsAt.call (h : GsAt w0 w base p g R n v l) (hr : RdAt 110 w' p R') (hk : Kept [p] w w') : GsAt w0 w' base p g R' n v l := by
  have hB : KeptB base [110] w w' := (KeptB.refl _ _ _).rcall h.rd hk h.hp (by decide)
  exact ⟨hr, h.gr.keptB hB (by decide), own_keptB h.own hB (by decide), h.kept.trans (hB.mono (by decide)), h.hp, h.hg, h.hb⟩
theorem GsAt.kept0 (h : GsAt w0 w base p g R n v l) (hk : Kept [] w w') : GsAt w0 w' base p g R n v l := by
  have hB : KeptB base [] w w' := .of_kept0 hk
  exact ⟨h.rd.kept0 hk, h.gr.keptB hB (by decide), own_keptB h.own hB (by decide), h.kept.trans (hB.mono (by decide)), h.hp, h.hg, h.hb⟩
theorem GsAt.new (h : GsAt w0 w base p g R n v l) (cs : List Value) : GxAt w0 (w.alloc (.cells cs.toArray 52)) base p g R n v l w.heap.size cs :=
  ⟨h.kept0 ((Kept.refl [] _).alloc _), Blk.new _ _ _, fun hv => Nat.lt_irrefl _ (h.own.lt _ hv).2, Nat.le_trans h.hb h.kept.size⟩
theorem GxAt.call (h : GxAt w0 w base p g R n v l T cs) (hr : RdAt 110 w' p R') (hk : Kept [p] w w') : GxAt w0 w' base p g R' n v l T cs := by
  have hB : KeptB base [110] w w' := (KeptB.refl _ _ _).rcall h.rs.rd hk h.rs.hp (by decide)
  exact ⟨h.rs.call hr hk, h.blk.keptB hB (by decide), h.n1, h.le⟩
theorem GxAt.kept0 (h : GxAt w0 w base p g R n v l T cs) (hk : Kept [] w w') : GxAt w0 w' base p g R n v l T cs := ⟨h.rs.kept0 hk, h.blk.kept hk (by simp), h.n1, h.le⟩
theorem GxAt.set (h : GxAt w0 w base p g R n v l T cs) (j : Nat) (u : Value) : GxAt w0 (w.setCell ⟨T, j, none⟩ u) base p g R n v l T (cs.set j u) := by
  have hB : KeptB base [52] w (w.setCell ⟨T, j, none⟩ u) := (KeptB.refl _ _ _).set h.blk h.le (by simp) j _
  have hK : Kept [T] w (w.setCell ⟨T, j, none⟩ u) := (Kept.refl [T] w).setCell (p := ⟨T, j, none⟩) (.inl (List.mem_singleton.2 rfl)) u
  have rs := h.rs
  exact ⟨⟨rs.rd.keptB hB (by decide) (by decide), rs.gr.keptB hB (by decide), own_kept rs.own hK (fun g' hg hm => by simp at hm; subst hm; exact h.n1 hg), rs.kept.trans (hB.mono (by decide)), rs.hp, rs.hg, rs.hb⟩, h.blk.set j u, h.n1, h.le⟩
theorem GsAt.app (h : GsAt w0 w base p g R n v l) (hk1 : Kept [] w w1) (hk2 : Kept v.ownBlock.toList w1 w2) {x : Ed} {u : Value} (ho : w2.ownsRow base 52 3 u (l.length + 1) (l.flatMap edV ++ edV x)) :
    GsAt w0 (w2.setCell ⟨g, 1, none⟩ u) base p g R n u (l ++ [x]) := by
  have h := h.kept0 hk1
  have hA : KeptB base [52] w1 w2 := (KeptB.refl _ _ _).app hk2 h.own (by decide)
  have hf2 := h.gr.keptB hA (by decide)
  have hS : KeptB base [24] w2 (w2.setCell ⟨g, 1, none⟩ u) := (KeptB.refl _ _ _).set hf2 h.hg (by decide) 1 _
  refine ⟨(h.rd.keptB hA (by decide) (by decide)).keptB hS (by decide) (by decide), by have := hf2.set 1 u; simpa using this, ?_, h.kept.trans ((hA.mono (by decide)).trans (hS.mono (by decide))), h.hp, h.hg, h.hb⟩
  have := own_keptB ho hS (by decide)
  simpa [List.flatMap_append] using this
end
theorem numR_in (R : Rd) (k most e : Int) (hm : 0 ≤ most) (h : most ≤ 2147483647) : In64 (R.numR k 0 most e).1 := by
  have := numR_range (R := R) (k := k) (e := e) hm
  unfold In64
  omega

set_option maxRecDepth 400000 in
theorem rdecode6_any (b : List UInt8) (A : Option Addr) (c : Nat) (w : World) (hr : Reads w A (b.map byteV)) (hl : b.length ≤ 1073741824) :
    Calls Tryz.prog 13 #[.slice A b.length c] w (DecPost w (decG b)) := by
  have HR := Lib.hid (hr.kept0 (((Kept.refl [] w).alloc (.cells #[.int .i64 0, .slice none 0 0] 24)).alloc (.cells #[.int .i64 0, .int .i64 0] 33)))
  have K0 := Lib.hid (((Kept.refl [] w).alloc (.cells #[.int .i64 0, .slice none 0 0] 24)).alloc (.cells #[.int .i64 0, .int .i64 0] 33))
  have HG := Lib.hid ((Blk.new w 24 [.int .i64 0, .slice none 0 0]).alloc (.cells #[.int .i64 0, .int .i64 0] 33))
  have HH := Lib.hid (Blk.new1F w (.cells #[.int .i64 0, .slice none 0 0] 24) 33 [.int .i64 0, .int .i64 0])
  have hfe := fun (a b : Int) (wx : World) => fieldErrno a b wx
  generalize hd : decG b = d
  have HD := Lib.hid (hd.symm.trans (decG_g b))
  have hnil : ∀ (wx : World) (e : TypeId) (s bs : Nat), wx.ownsRow bs e s (.slice none 0 0) 0 [] := fun wx e s bs => World.ownsRow_nil wx bs e s
  have HN := Lib.hid hnil
  clear hr hd hnil
  go_enter Tryz.func13, Tryz.ntmps13
  go_wp2_with fail
  refine (ropen_any b A c _ HR.out hl).mono ?_
  rintro e w1 ⟨p, rfl, hp, hrd, hk⟩
  have K1 := Lib.hid (K0.out.trans hk)
  replace HG := Lib.hid (HG.out.kept hk (by simp))
  replace HH := Lib.hid (HH.out.kept hk (by simp))
  have HRD := Lib.hid hrd
  have HP := Lib.hid (show w.heap.size + 2 ≤ p by simpa using hp)
  have S1 := Lib.hid (show w.heap.size + 2 ≤ w1.heap.size by have := hk.size; simpa using this)
  have ST := Lib.hid (show St d ⟨b, 0, 0, 0⟩ (((Rd.mk b 0 0 0).mark frt1).bind gK) from St.mk (fun _ => HD.out) (fun h => absurd rfl h))
  clear hp hrd hk K0 HR HD
  obtain ⟨B, hB⟩ : ∃ B, B = w.heap.size + 2 := ⟨_, rfl⟩
  have HB := Lib.hid hB
  have HPB := Lib.hid (show B ≤ p by rw [hB]; exact HP.out)
  have HSB := Lib.hid (show B ≤ w1.heap.size by rw [hB]; exact S1.out)
  clear hB HP S1
  obtain ⟨R0, hR0⟩ : ∃ R0, R0 = Rd.mk b 0 0 0 := ⟨_, rfl⟩
  rw [← hR0] at HRD ST
  clear hR0
  go_wp2_with fail
  refine (magic_any p R0 frt1 _ (by rfl) HRD.out).mono ?_
  rintro x w2 ⟨rfl, hrd, hk⟩
  have KB := Lib.hid ((KeptB.refl B gsT w1).rcall HRD.out hk HPB.out (by decide))
  replace HRD := Lib.hid hrd
  replace ST := Lib.hid ST.out.mark
  clear hrd hk
  generalize R0.magicR frt1 = R1 at HRD ST
  go_wp2_with fail
  refine (rat_rd p R1 _ HRD.out).mono ?_
  rintro x wq ⟨rfl, rfl⟩
  go_wp2_with fail
  refine (ru8_any p R1 _ HRD.out).mono ?_
  rintro x w3 ⟨rfl, hrd, hk⟩
  rw [num_got1]
  have hk256 := num_got1_lt R1
  replace KB := Lib.hid (KB.out.rcall HRD.out hk HPB.out (by decide))
  replace HRD := Lib.hid hrd
  replace ST := Lib.hid ST.out.kind
  clear hrd hk
  have STEP : ∃ q : Nat, q = num (R1.got 1) := ⟨_, rfl⟩
  obtain ⟨q, hq⟩ := STEP
  rw [← hq] at ST hk256 ⊢
  have HQ := Lib.hid hq
  clear hq
  go_upto_region 5 with (fail)
  have RG : Hid (RdAt 110 w3 p (R1.after 1)) ∧ Hid (KeptB B gsT w1 w3) := ⟨HRD, KB⟩
  go_cut [6, 20] (fun u t wx => u = .int .u8 q ∧ t = .bool (decide ((1 : Int) < (q : Int))) ∧ wx = w3)
  case first =>
    go_wp2_with fail
    go_meet
    exact ⟨rfl, rfl, rfl⟩
  case rest =>
  obtain ⟨hc1, hc2, hc3⟩ := hcut
  subst hc1 hc2 hc3
  refine ‹∀ (a : Act) (w : World), Code.wp Tryz.prog (Code.cond (.tmp 20) _ _) _ a w → _› _ _ ?_
  go_cut [6] (fun u wx => u = .int .u8 q ∧ Hid (RdAt 110 wx p R1.kindR) ∧ Hid (KeptB B gsT w1 wx))
  case first =>
    by_cases hq1 : 1 < q
    · have hq2 : (1 : Int) < (q : Int) := by omega
      go_wp2_with fail
      refine (rfail_any p (R1.after 1) 8 R1.pos _ HRD.out).mono ?_
      rintro x w4 ⟨rfl, hrd, hk⟩
      replace KB := Lib.hid (KB.out.rcall HRD.out hk HPB.out (by decide))
      clear hk
      go_wp2_with fail
      go_meet
      exact ⟨rfl, Lib.hid (by unfold Rd.kindR; rw [← HQ.out, if_pos hq1]; exact hrd), KB⟩
    · have hq2 : ¬ (1 : Int) < (q : Int) := by omega
      go_wp2_with fail
      go_meet
      exact ⟨rfl, Lib.hid (by unfold Rd.kindR; rw [← HQ.out, if_neg hq1]; exact HRD.out), KB⟩
  case rest =>
  clear RG HRD KB
  obtain ⟨hc1, HRD, KB⟩ := hcut
  subst hc1
  clear HQ
  generalize R1.kindR = R2 at HRD ST
  go_wp2_with fail
  refine (bounded_any p R2 4096 5 _ (by decide) HRD.out).mono ?_
  rintro x wn ⟨rfl, hrd, hk⟩
  replace KB := Lib.hid (KB.out.rcall HRD.out hk HPB.out (by decide))
  replace HRD := Lib.hid hrd
  replace ST := Lib.hid (show St d (R2.numR 4 0 4096 5).2 ((fun x : Int × Rd => gM (q : Int) x.1 x.2) (R2.numR 4 0 4096 5)) from St.numb (f := fun x => gM (q : Int) x.1 x.2) ST.out (by decide))
  have hn := numR_range (R := R2) (k := 4) (e := 5) (most := 4096) (by decide)
  clear hrd hk
  generalize R2.numR 4 0 4096 5 = z at HRD ST hn ⊢
  obtain ⟨n, R3⟩ := z
  simp only [] at HRD ST hn ⊢
  obtain ⟨hn0, hn1⟩ := hn
  go_upto_region 8 with (fail)
  have RS := Lib.hid (show GsAt w1 (wn.alloc (.cells #[.int .i64 n, .slice none 0 0] 24)) B p wn.heap.size R3 n (.slice none 0 0) [] from ⟨HRD.out.kept0 ((Kept.refl [] _).alloc _), Blk.new _ _ _, HN.out _ _ _ _, KB.out.alloc _, HPB.out, Nat.le_trans HSB.out KB.out.size, HSB.out⟩)
  obtain ⟨g, hg⟩ : ∃ g, g = wn.heap.size := ⟨_, rfl⟩
  rw [← hg] at RS ⊢
  generalize wn.alloc (.cells #[.int .i64 n, .slice none 0 0] 24) = wh at RS ⊢
  clear hg HRD KB HN
  go_wp2_with fail
  refine (bounded_any p R3 65536 5 _ (by decide) RS.out.rd).mono ?_
  rintro x wn2 ⟨rfl, hrd, hk⟩
  replace RS := Lib.hid (RS.out.call hrd hk)
  replace ST := Lib.hid (show St d (R3.numR 4 0 65536 5).2 ((fun m : Int × Rd => gE (q : Int) n m.1.toNat m.2 []) (R3.numR 4 0 65536 5)) from St.numb (f := fun m => gE (q : Int) n m.1.toNat m.2 []) ST.out (by decide))
  have hm := numR_range (R := R3) (k := 4) (e := 5) (most := 65536) (by decide)
  clear hrd hk
  generalize R3.numR 4 0 65536 5 = z at RS ST hm ⊢
  obtain ⟨m, R4⟩ := z
  simp only [] at RS ST hm ⊢
  obtain ⟨M, rfl⟩ : ∃ M : Nat, m = M := ⟨m.toNat, by omega⟩
  have hM : M ≤ 65536 := by omega
  clear hm
  rw [Int.toNat_natCast] at ST
  go_upto_block 0 with (fail)
  go_cut [9] (fun i wx => ∃ (R : Rd) (v : Value) (acc : List Ed), i = i ∧ acc.length ≤ M ∧ Hid (GsAt w1 wx B p g R n v acc) ∧ Hid (∀ t ∈ acc, In64 t.2.2) ∧ Hid (St d R (gEnd n acc R)))
  case first =>
    go_wp2_with fail
    go_loopw [9] (fun i wr => ∃ (k : Nat) (R : Rd) (v : Value) (acc : List Ed), k ≤ M ∧ i = .int .i64 k ∧ Hid (GsAt w1 wr B p g R n v acc) ∧ Hid (acc.length = k) ∧ Hid (∀ t ∈ acc, In64 t.2.2) ∧ Hid (St d R (gE (q : Int) n (M - k) R acc))) (fun i _ => M - (intOf i).toNat)
    case atStart => exact ⟨0, R4, _, [], Nat.zero_le _, rfl, RS, Lib.hid rfl, Lib.hid (fun _ h => by cases h), ST⟩
    case round =>
      clear RS ST
      obtain ⟨k, R, v, acc, hk, rfl, RS, HLN, HIN, ST⟩ := hrel
      by_cases hlt : k < M
      · go_wp2_with fail
        refine (rfault_rd p R _ RS.out.rd).mono ?_
        rintro x wq ⟨rfl, hkq⟩
        replace RS := Lib.hid (RS.out.kept0 hkq)
        clear hkq
        by_cases he : R.e = 0
        · have hb : (R.e == 0) = true := by rw [he]; rfl
          clear he
          replace ST := Lib.hid (show St d R ((R.rd 4 0 (n - 1) 3).bind fun a => gA (q : Int) n (M - (k + 1)) acc a.1 a.2) by
            have h := ST.out
            rw [show M - k = (M - (k + 1)) + 1 by omega, gE_succ] at h
            exact h)
          go_upto_region 13 with (fail)
          have RX := Lib.hid (RS.out.new [.int .i64 0, .int .i64 0, .int .i64 1])
          clear RS
          obtain ⟨T, hT⟩ : ∃ T, T = wq.heap.size := ⟨_, rfl⟩
          rw [← hT] at RX ⊢
          generalize wq.alloc (.cells [Value.int .i64 0, .int .i64 0, .int .i64 1].toArray 52) = wh at RX ⊢
          clear hT hb
          have y0 := RX.out.rs.gr.cell 0
          have yl := RX.out.rs.gr.lt
          simp only [List.getElem?_cons_zero, List.getElem?_cons_succ] at y0
          go_wp2_with fail
          refine (bounded_any p R (n - 1) 3 _ (by decide) RX.out.rs.rd).mono ?_
          rintro x wn ⟨rfl, hrd, hk⟩
          replace RX := Lib.hid (RX.out.call hrd hk)
          replace ST := Lib.hid (show St d (R.numR 4 0 (n - 1) 3).2 ((fun a : Int × Rd => gA (q : Int) n (M - (k + 1)) acc a.1 a.2) (R.numR 4 0 (n - 1) 3)) from St.numb (f := fun a : Int × Rd => gA (q : Int) n (M - (k + 1)) acc a.1 a.2) ST.out (by decide))
          clear hrd hk y0 yl
          generalize R.numR 4 0 (n - 1) 3 = z at RX ST ⊢
          obtain ⟨a, Ra⟩ := z
          simp only [] at RX ST ⊢
          have t0 := RX.out.blk.cell 0
          have tf0 := RX.out.blk.frozen 0
          have tl := RX.out.blk.lt
          simp only [List.getElem?_cons_zero, List.getElem?_cons_succ] at t0
          go_upto_region 14 with (fail)
          replace RX := Lib.hid (RX.out.set 0 (.int .i64 a))
          simp only [List.set_cons_zero, List.set_cons_succ] at RX
          generalize wn.setCell ⟨T, 0, none⟩ (.int .i64 a) = wh at RX ⊢
          clear t0 tf0 tl
          have y0 := RX.out.rs.gr.cell 0
          have yl := RX.out.rs.gr.lt
          simp only [List.getElem?_cons_zero, List.getElem?_cons_succ] at y0
          go_wp2_with fail
          refine (bounded_any p Ra (n - 1) 3 _ (by decide) RX.out.rs.rd).mono ?_
          rintro x wn ⟨rfl, hrd, hk⟩
          replace RX := Lib.hid (RX.out.call hrd hk)
          replace ST := Lib.hid (show St d (Ra.numR 4 0 (n - 1) 3).2 ((fun b : Int × Rd => gB (q : Int) n (M - (k + 1)) acc a b.1 b.2) (Ra.numR 4 0 (n - 1) 3)) from St.numb (f := fun b : Int × Rd => gB (q : Int) n (M - (k + 1)) acc a b.1 b.2) ST.out (by decide))
          clear hrd hk y0 yl
          generalize Ra.numR 4 0 (n - 1) 3 = z at RX ST ⊢
          obtain ⟨b, Rb⟩ := z
          simp only [] at RX ST ⊢
          have t0 := RX.out.blk.cell 1
          have tf0 := RX.out.blk.frozen 1
          have tl := RX.out.blk.lt
          simp only [List.getElem?_cons_zero, List.getElem?_cons_succ] at t0
          go_upto_region 15 with (fail)
          replace RX := Lib.hid (RX.out.set 1 (.int .i64 b))
          simp only [List.set_cons_zero, List.set_cons_succ] at RX
          generalize wn.setCell ⟨T, 1, none⟩ (.int .i64 b) = wh at RX ⊢
          clear t0 tf0 tl
          by_cases hq1 : (q : Int) = 1
          · replace ST := Lib.hid (show St d Rb ((Rb.rd 4 0 2147483647 7).bind fun c => gE (q : Int) n (M - (k + 1)) c.2 (acc ++ [(a, b, c.1)])) by
              have h := ST.out
              unfold gB at h
              rw [if_pos hq1] at h
              exact h)
            have hqb : ((q : Int) == 1) = true := by rw [hq1]; rfl
            clear hq1
            have y0 := RX.out.rs.gr.cell 0
            have yl := RX.out.rs.gr.lt
            simp only [List.getElem?_cons_zero, List.getElem?_cons_succ] at y0
            go_wp2_with fail
            refine (bounded_any p Rb 2147483647 7 _ (by decide) RX.out.rs.rd).mono ?_
            rintro x wn ⟨rfl, hrd, hk⟩
            replace RX := Lib.hid (RX.out.call hrd hk)
            replace ST := Lib.hid (show St d (Rb.numR 4 0 2147483647 7).2 ((fun c : Int × Rd => gE (q : Int) n (M - (k + 1)) c.2 (acc ++ [(a, b, c.1)])) (Rb.numR 4 0 2147483647 7)) from St.numb (f := fun c : Int × Rd => gE (q : Int) n (M - (k + 1)) c.2 (acc ++ [(a, b, c.1)])) ST.out (by decide))
            have NW := numR_in Rb 4 2147483647 7 (by decide) (by decide)
            clear hrd hk y0 yl
            generalize Rb.numR 4 0 2147483647 7 = z at RX ST NW ⊢
            obtain ⟨c, Rc⟩ := z
            simp only [] at RX ST NW ⊢
            have t0 := RX.out.blk.cell 2
            have tf0 := RX.out.blk.frozen 2
            have tl := RX.out.blk.lt
            simp only [List.getElem?_cons_zero, List.getElem?_cons_succ] at t0
            go_upto_region 17 with (fail)
            replace RX := Lib.hid (RX.out.set 2 (.int .i64 c))
            simp only [List.set_cons_zero, List.set_cons_succ] at RX
            generalize wn.setCell ⟨T, 2, none⟩ (.int .i64 c) = wh at RX ⊢
            clear t0 tf0 tl
            have HNW := Lib.hid NW
            clear NW
            have B1 := Lib.hid (show (acc.length + 1) * 24 ≤ 140737488355328 by rw [HLN.out]; omega)
            have B2 := Lib.hid (show acc.length + 1 ≤ maxLen by rw [HLN.out]; unfold maxLen; omega)
            have t0 := RX.out.blk.cell 0
            have t1 := RX.out.blk.cell 1
            have t2 := RX.out.blk.cell 2
            have d7 := RX.out.rs.gr.cell 1
            have tl := RX.out.blk.lt
            have yg := RX.out.rs.gr.lt
            simp only [List.getElem?_cons_zero, List.getElem?_cons_succ] at t0 t1 t2 d7
            go_upto_region 11 with (first | (at_builtin; refine wpList_app _ rfl (.tmp 59) (.tmp 61) _ rfl 52 (.agg #[.int .i64 0, .int .i64 0, .int .i64 0]) 3 24 Tryz.underlying22 infoEd rfl (by decide) B v _ _ rfl (RX.out.rs.own.alloc _) (some ⟨_, 0, none⟩) 1 1 (edV (a, b, c)) rfl rfl (Reads.of_blk (Blk.new _ _ _) (fun _ _ h => h)) (by simp [edV, Value.oneCell']) B1.out B2.out (Nat.le_trans RX.out.rs.hb (Nat.le_trans RX.out.rs.kept.size (by simp))) ?_; intro u w2 ho2 hk2 _; obtain ⟨A2, N2', c2, rfl⟩ := own_slice ho2; have hA := (KeptB.refl B [52] _).app hk2 (RX.out.rs.own.alloc _) (by decide); have q6 := ((RX.out.rs.gr.alloc _).keptB hA (by decide)).cell 1; have q7 := ((RX.out.rs.gr.alloc _).keptB hA (by decide)).frozen 1; simp only [List.getElem?_cons_zero, List.getElem?_cons_succ] at q6; have K2 := Lib.hid hk2; have O2 := Lib.hid ho2; clear hk2 ho2 hA))
            clear t0 t1 t2 d7 tl yg q6 q7
            go_wp2_with fail
            go_roundw
            case rel =>
              refine ⟨k + 1, Rc, _, acc ++ [(a, b, c)], by omega, by go_num, Lib.hid (RX.out.rs.app ((Kept.refl [] _).alloc _) K2.out O2.out), Lib.hid (by rw [List.length_append, HLN.out]; rfl), Lib.hid (fun t ht => ?_), ST⟩
              rcases List.mem_append.1 ht with h | h
              · exact HIN.out t h
              · simp at h; subst h; exact HNW.out
            case measure => simp [intOf]; omega
          · replace ST := Lib.hid (show St d Rb (gE (q : Int) n (M - (k + 1)) Rb (acc ++ [(a, b, 1)])) by
              have h := ST.out
              unfold gB at h
              rw [if_neg hq1] at h
              exact h)
            go_upto_region 17 with (fail)
            have B1 := Lib.hid (show (acc.length + 1) * 24 ≤ 140737488355328 by rw [HLN.out]; omega)
            have B2 := Lib.hid (show acc.length + 1 ≤ maxLen by rw [HLN.out]; unfold maxLen; omega)
            have t0 := RX.out.blk.cell 0
            have t1 := RX.out.blk.cell 1
            have t2 := RX.out.blk.cell 2
            have d7 := RX.out.rs.gr.cell 1
            have tl := RX.out.blk.lt
            have yg := RX.out.rs.gr.lt
            simp only [List.getElem?_cons_zero, List.getElem?_cons_succ] at t0 t1 t2 d7
            go_upto_region 11 with (first | (at_builtin; refine wpList_app _ rfl (.tmp 59) (.tmp 61) _ rfl 52 (.agg #[.int .i64 0, .int .i64 0, .int .i64 0]) 3 24 Tryz.underlying22 infoEd rfl (by decide) B v _ _ rfl (RX.out.rs.own.alloc _) (some ⟨_, 0, none⟩) 1 1 (edV (a, b, 1)) rfl rfl (Reads.of_blk (Blk.new _ _ _) (fun _ _ h => h)) (by simp [edV, Value.oneCell']) B1.out B2.out (Nat.le_trans RX.out.rs.hb (Nat.le_trans RX.out.rs.kept.size (by simp))) ?_; intro u w2 ho2 hk2 _; obtain ⟨A2, N2', c2, rfl⟩ := own_slice ho2; have hA := (KeptB.refl B [52] _).app hk2 (RX.out.rs.own.alloc _) (by decide); have q6 := ((RX.out.rs.gr.alloc _).keptB hA (by decide)).cell 1; have q7 := ((RX.out.rs.gr.alloc _).keptB hA (by decide)).frozen 1; simp only [List.getElem?_cons_zero, List.getElem?_cons_succ] at q6; have K2 := Lib.hid hk2; have O2 := Lib.hid ho2; clear hk2 ho2 hA))
            clear t0 t1 t2 d7 tl yg q6 q7
            go_wp2_with fail
            go_roundw
            case rel =>
              refine ⟨k + 1, Rb, _, acc ++ [(a, b, 1)], by omega, by go_num, Lib.hid (RX.out.rs.app ((Kept.refl [] _).alloc _) K2.out O2.out), Lib.hid (by rw [List.length_append, HLN.out]; rfl), Lib.hid (fun t ht => ?_), ST⟩
              rcases List.mem_append.1 ht with h | h
              · exact HIN.out t h
              · simp at h; subst h; show In64 1; exact ⟨by decide, by decide⟩
            case measure => simp [intOf]; omega
        · have hb : (R.e == 0) = false := by rw [beq_eq_false_iff_ne]; exact he
          have HE := Lib.hid he
          clear he
          go_wp2_with fail
          go_meet
          exact ⟨R, v, acc, trivial, by rw [HLN.out]; exact hk, RS, HIN, Lib.hid (ST.out.dead HE.out)⟩
      · have hlt2 : ¬ (k : Int) < (M : Int) := by omega
        go_wp2_with fail
        go_meet
        refine ⟨R, v, acc, trivial, by rw [HLN.out]; exact hk, RS, HIN, Lib.hid ?_⟩
        have h := ST.out
        rw [show M - k = 0 by omega, gE_zero] at h
        exact h
  case rest =>
  clear RS ST
  obtain ⟨Rz, v, acc, _, hal, RS, HIN, ST⟩ := hcut
  have HAL := Lib.hid (Nat.le_trans hal hM)
  clear hal hM hn0 hn1 hk256
  go_wp2_with fail
  refine (rfault_rd p Rz _ RS.out.rd).mono ?_
  rintro x wq ⟨rfl, hk⟩
  replace RS := Lib.hid (RS.out.kept0 hk)
  clear hk
  by_cases he : Rz.e = 0
  case neg =>
    have HE := Lib.hid he
    have hb : (Rz.e == 0) = false := by rw [beq_eq_false_iff_ne]; exact he
    clear he
    replace HG := Lib.hid (HG.out.keptBlt RS.out.kept (by rw [HB.out]; exact Nat.lt_succ_of_lt (Nat.lt_succ_self _)))
    replace HH := Lib.hid (HH.out.keptBlt RS.out.kept (by rw [HB.out]; exact Nat.lt_succ_self _))
    go_wp2_with fail
    refine (rfault_rd p Rz _ RS.out.rd).mono ?_
    rintro x wn1 ⟨rfl, hk⟩
    replace RS := Lib.hid (RS.out.kept0 hk)
    replace HG := Lib.hid (HG.out.kept hk (by simp))
    replace HH := Lib.hid (HH.out.kept hk (by simp))
    clear hk
    have hb2 : ((Rz).e != 0) = true := by rw [bne_iff_ne]; exact HE.out
    go_wp2_with fail
    refine (rfault_rd p Rz _ RS.out.rd).mono ?_
    rintro x wn1 ⟨rfl, hk⟩
    replace RS := Lib.hid (RS.out.kept0 hk)
    replace HG := Lib.hid (HG.out.kept hk (by simp))
    replace HH := Lib.hid (HH.out.kept hk (by simp))
    clear hk hb2
    go_wp2_with (first | (refine wpList_storeBlk rfl 24 (.tmp 2) (.tmp 81) rfl w.heap.size _ [.int .i64 0, .slice none 0 0] HG.out rfl rfl rfl infoGraph (by simp [Value.oneCell']) ?_; intro w6 hb6 hk6; have HH6 := Lib.hid (HH.out.kept hk6 (by simp))) | (refine wpList_storeBlk rfl 33 (.tmp 3) (.tmp 83) rfl (w.heap.size + 1) _ [.int .i64 (Rz).e, .int .i64 (Rz).fat] HH6.out rfl rfl rfl infoFault (by simp [Value.oneCell']) ?_; intro w7 hb7 hk7))
    have hb6 := hb6.kept hk7 (by simp)
    have g0 := hb6.cell 0
    have g1 := hb6.cell 1
    have z0 := hb7.cell 0
    have z1 := hb7.cell 1
    simp only [List.getElem?_cons_zero, List.getElem?_cons_succ] at g0 g1 z0 z1
    refine bodyPost_ret (v := .tuple #[.agg #[.int .i64 0, .slice none 0 0], .agg #[.int .i64 (Rz).e, .int .i64 (Rz).fat]]) (by simp [results, Tryz.results13, go_sem, g0, g1, z0, z1]) rfl ?_
    rw [show d = .error ((Rz).e, (Rz).fat) from (by have h := ST.out; unfold St at h; rw [if_pos HE.out] at h; exact h)]
    have hk0 := K1.out.thenB RS.out.kept (by rw [HB.out]; omega)
    exact ⟨rfl, (hk0.then hk6 (by simp)).then hk7 (by simp)⟩
  have HE := Lib.hid he
  have hb : (Rz.e == 0) = true := by rw [he]; rfl
  have DD := Lib.hid (show d = gEnd n acc Rz from ST.out.live he)
  clear he ST
  go_wp2_with fail
  refine (rend_rd p Rz _ RS.out.rd).mono ?_
  rintro x wn0 ⟨rfl, kk, rfl⟩
  replace RS := Lib.hid (RS.out.kept0 ((Kept.refl [] _).drewN kk))
  cases hat : Rz.atEnd
  case false =>
    have ST := Lib.hid (show St d (Rz.fail 4 Rz.pos) (.error (0, 0)) from (by
      obtain ⟨p1, p2⟩ := fail_live (R := Rz) (e := 4) (a := Rz.pos) HE.out (by decide)
      refine St.mk (fun h => absurd (p1.symm.trans h) (by decide)) (fun _ => ?_)
      rw [p1, p2, DD.out]
      unfold gEnd
      rw [hat]
      rfl))
    replace HE := Lib.hid (show (Rz.fail 4 Rz.pos).e ≠ 0 by rw [(fail_live (R := Rz) (e := 4) (a := Rz.pos) HE.out (by decide)).1]; decide)
    clear hat
    go_wp2_with fail
    refine (rat_rd p Rz _ RS.out.rd).mono ?_
    rintro x wn1 ⟨rfl, rfl⟩
    go_wp2_with fail
    refine (rfail_any p Rz 4 Rz.pos _ RS.out.rd).mono ?_
    rintro x wn1 ⟨rfl, hrd, hk⟩
    replace RS := Lib.hid (RS.out.call hrd hk)
    clear hrd hk hb
    replace HG := Lib.hid (HG.out.keptBlt RS.out.kept (by rw [HB.out]; exact Nat.lt_succ_of_lt (Nat.lt_succ_self _)))
    replace HH := Lib.hid (HH.out.keptBlt RS.out.kept (by rw [HB.out]; exact Nat.lt_succ_self _))
    go_wp2_with fail
    refine (rfault_rd p (Rz.fail 4 Rz.pos) _ RS.out.rd).mono ?_
    rintro x wn1 ⟨rfl, hk⟩
    replace RS := Lib.hid (RS.out.kept0 hk)
    replace HG := Lib.hid (HG.out.kept hk (by simp))
    replace HH := Lib.hid (HH.out.kept hk (by simp))
    clear hk
    have hb2 : (((Rz.fail 4 Rz.pos)).e != 0) = true := by rw [bne_iff_ne]; exact HE.out
    go_wp2_with fail
    refine (rfault_rd p (Rz.fail 4 Rz.pos) _ RS.out.rd).mono ?_
    rintro x wn1 ⟨rfl, hk⟩
    replace RS := Lib.hid (RS.out.kept0 hk)
    replace HG := Lib.hid (HG.out.kept hk (by simp))
    replace HH := Lib.hid (HH.out.kept hk (by simp))
    clear hk hb2
    go_wp2_with (first | (refine wpList_storeBlk rfl 24 (.tmp 2) (.tmp 81) rfl w.heap.size _ [.int .i64 0, .slice none 0 0] HG.out rfl rfl rfl infoGraph (by simp [Value.oneCell']) ?_; intro w6 hb6 hk6; have HH6 := Lib.hid (HH.out.kept hk6 (by simp))) | (refine wpList_storeBlk rfl 33 (.tmp 3) (.tmp 83) rfl (w.heap.size + 1) _ [.int .i64 ((Rz.fail 4 Rz.pos)).e, .int .i64 ((Rz.fail 4 Rz.pos)).fat] HH6.out rfl rfl rfl infoFault (by simp [Value.oneCell']) ?_; intro w7 hb7 hk7))
    have hb6 := hb6.kept hk7 (by simp)
    have g0 := hb6.cell 0
    have g1 := hb6.cell 1
    have z0 := hb7.cell 0
    have z1 := hb7.cell 1
    simp only [List.getElem?_cons_zero, List.getElem?_cons_succ] at g0 g1 z0 z1
    refine bodyPost_ret (v := .tuple #[.agg #[.int .i64 0, .slice none 0 0], .agg #[.int .i64 ((Rz.fail 4 Rz.pos)).e, .int .i64 ((Rz.fail 4 Rz.pos)).fat]]) (by simp [results, Tryz.results13, go_sem, g0, g1, z0, z1]) rfl ?_
    rw [show d = .error (((Rz.fail 4 Rz.pos)).e, ((Rz.fail 4 Rz.pos)).fat) from (by have h := ST.out; unfold St at h; rw [if_pos HE.out] at h; exact h)]
    have hk0 := K1.out.thenB RS.out.kept (by rw [HB.out]; omega)
    exact ⟨rfl, (hk0.then hk6 (by simp)).then hk7 (by simp)⟩
  replace DD := Lib.hid (show d = .ok (n, canonP acc) from DD.out.trans (by unfold gEnd; rw [hat]; rfl))
  clear hat
  go_wp2_with fail
  refine (rfault_rd p Rz _ RS.out.rd).mono ?_
  rintro x wn1 ⟨rfl, hk⟩
  replace RS := Lib.hid (RS.out.kept0 hk)
  clear hk hb
  have hb2 : (Rz.e != 0) = false := by rw [HE.out]; rfl
  replace HG := Lib.hid (HG.out.keptBlt RS.out.kept (by rw [HB.out]; exact Nat.lt_succ_of_lt (Nat.lt_succ_self _)))
  replace HH := Lib.hid (HH.out.keptBlt RS.out.kept (by rw [HB.out]; exact Nat.lt_succ_self _))
  obtain ⟨A1, c1, rfl⟩ := own_n RS.out.own
  have HF := Lib.hid RS.out.gr
  have HRA := Lib.hid (Reads.of_own RS.out.own)
  go_wp2_with (first | (refine wpList_loadBlk rfl 24 (.tmp 7) rfl g [.int .i64 n, .slice A1 acc.length c1] _ HF.out rfl Tryz.underlying24 rfl infoGraph ?_))
  refine (refCanon_any n acc A1 c1 _ (by have := HAL.out; omega) HRA.out HIN.out).mono ?_
  rintro z w5 ⟨v5, rfl, ho, hk5⟩
  obtain ⟨A5, c5, rfl⟩ := own_n ho
  replace HG := Lib.hid (HG.out.kept hk5 (by simp))
  replace HH := Lib.hid (HH.out.kept hk5 (by simp))
  have HO := Lib.hid ho
  have K5 := Lib.hid ((K1.out.thenB RS.out.kept (by rw [HB.out]; omega)).trans hk5)
  have S5 := Lib.hid (show w.heap.size ≤ wn1.heap.size from (K1.out.thenB RS.out.kept (by rw [HB.out]; omega)).size)
  clear hk5 ho
  go_wp2_with (first | (refine wpList_storeBlk rfl 24 (.tmp 2) (.tmp 85) rfl w.heap.size _ [.int .i64 n, .slice A5 (canonP acc).length c5] HG.out rfl rfl rfl infoGraph (by simp [Value.oneCell']) ?_; intro w6 hb6 hk6; have HH6 := Lib.hid (HH.out.kept hk6 (by simp))) | (refine wpList_storeBlk rfl 33 (.tmp 3) (.tmp 86) rfl (w.heap.size + 1) _ [.int .i64 0, .int .i64 0] HH6.out rfl rfl rfl infoFault (by simp [Value.oneCell']) ?_; intro w7 hb7 hk7))
  have hb6 := hb6.kept hk7 (by simp)
  have g0 := hb6.cell 0
  have g1 := hb6.cell 1
  have z0 := hb7.cell 0
  have z1 := hb7.cell 1
  simp only [List.getElem?_cons_zero, List.getElem?_cons_succ] at g0 g1 z0 z1
  refine bodyPost_ret (v := .tuple #[.agg #[.int .i64 n, .slice A5 (canonP acc).length c5], .agg #[.int .i64 0, .int .i64 0]]) (by simp [results, Tryz.results13, go_sem, g0, g1, z0, z1]) rfl ?_
  rw [DD.out]
  have f6 : KeptB w.heap.size [24, 33] w5 w7 := by
    refine ((KeptB.refl _ _ w5).step (L := [w.heap.size]) hk6 (fun m hm => ?_)).step (L := [w.heap.size + 1]) hk7 (fun m hm => ?_)
    · simp at hm; subst hm; exact ⟨Nat.le_refl _, _, _, _, HG.out, by simp⟩
    · simp at hm; subst hm; exact ⟨Nat.le_succ _, _, _, _, HH6.out, by simp⟩
  exact ⟨⟨_, rfl, own_base (own_keptB HO.out f6 (by decide)) S5.out⟩, K5.out.thenB f6 (Nat.le_refl _)⟩

def qEnd (m c : Int) (l : List Ed) (R : Rd) : Except (Int × Int) Raw := if R.atEnd = true then .ok (m, c, l) else .error (4, R.pos)
def qE (m c : Int) (i : Nat) (last : Ed) (R : Rd) (acc : List Ed) : Except (Int × Int) Raw := (Rd.trips m c i last R acc).bind fun e => qEnd m c e.1 e.2
def qN (m c : Int) (R : Rd) : Except (Int × Int) Raw := (R.rd 4 0 65536 5).bind fun n => qE m c n.1.toNat (-1, 0, 0) n.2 []
def qC (m : Int) (R : Rd) : Except (Int × Int) Raw := (R.rd 4 0 4096 5).bind fun c => qN m c.1 c.2
def qM (R : Rd) : Except (Int × Int) Raw := (R.rd 4 0 4096 5).bind fun m => qC m.1 m.2
def qB (m c : Int) (i : Nat) (last : Ed) (acc : List Ed) (pos : Int) (a b : Int) (R : Rd) : Except (Int × Int) Raw :=
  if (R.after 8).e ≠ 0 then .error ((R.after 8).e, (R.after 8).fat)
  else if keyLt (last.1, last.2.1) (a, b) = true then qE m c i (a, b, wrap64 ((num (R.got 8) : Nat) : Int)) (R.after 8) (acc ++ [(a, b, wrap64 ((num (R.got 8) : Nat) : Int))]) else .error (6, pos)
def qA (m c : Int) (i : Nat) (last : Ed) (acc : List Ed) (pos : Int) (a : Int) (R : Rd) : Except (Int × Int) Raw := (R.rd 4 0 (c - 1) 3).bind fun b => qB m c i last acc pos a b.1 b.2
theorem decM_q (b : List UInt8) : decM b = ((Rd.mk b 0 0 0).mark frm1).bind qM := by
  unfold decM Rd.matE
  rw [ebind]; congr 1; funext R1
  unfold qM; rw [ebind]; congr 1; funext m
  unfold qC; rw [ebind]; congr 1; funext c
  unfold qN; rw [ebind]; congr 1; funext n
  unfold qE; rw [ebind]; congr 1; funext e
  unfold qEnd; split <;> rfl
theorem qE_zero (m c : Int) (last : Ed) (R : Rd) (acc : List Ed) : qE m c 0 last R acc = qEnd m c acc R := rfl
theorem qE_succ (m c : Int) (i : Nat) (last : Ed) (R : Rd) (acc : List Ed) : qE m c (i + 1) last R acc = (R.rd 4 0 (m - 1) 3).bind fun a => qA m c i last acc R.pos a.1 a.2 := by
  unfold qE
  simp only [Rd.trips, Rd.trip]
  rw [ebind, ebind]; congr 1; funext a
  unfold qA; rw [ebind]; congr 1; funext b
  unfold qB
  split
  · rfl
  · split <;> rfl
theorem St.trip {d : Except (Int × Int) Raw} {R : Rd} {m c : Int} {i : Nat} {last : Ed} {acc : List Ed} {pos a b : Int} (h : St d R (qB m c i last acc pos a b R)) :
    (keyLt (last.1, last.2.1) (a, b) = true → St d (R.after 8) (qE m c i (a, b, wrap64 ((num (R.got 8) : Nat) : Int)) (R.after 8) (acc ++ [(a, b, wrap64 ((num (R.got 8) : Nat) : Int))]))) ∧
    (keyLt (last.1, last.2.1) (a, b) = false → ∀ X, St d ((R.after 8).fail 6 pos) X) := by
  by_cases h0 : R.e = 0
  · have hd := h.live h0
    unfold qB at hd
    by_cases h1 : (R.after 8).e = 0
    · rw [if_neg (by simpa using h1)] at hd
      refine ⟨fun hk => ?_, fun hk X => ?_⟩
      · rw [if_pos hk] at hd
        exact St.mk (fun _ => hd) (fun h => absurd h1 h)
      · rw [hk, if_neg (by decide)] at hd
        obtain ⟨p1, p2⟩ := fail_live (R := R.after 8) (e := 6) (a := pos) h1 (by decide)
        exact St.mk (fun h => absurd (p1.symm.trans h) (by decide)) (fun _ => by rw [p1, p2]; exact hd)
    · rw [if_pos h1] at hd
      refine ⟨fun _ => St.mk (fun h => absurd h h1) (fun _ => hd), fun _ X => ?_⟩
      rw [fail_dead h1]
      exact St.mk (fun h => absurd h h1) (fun _ => hd)
  · rw [after_dead h0]
    refine ⟨fun _ => h.dead h0, fun _ X => ?_⟩
    rw [fail_dead h0]
    exact h.dead h0
set_option maxRecDepth 100000 in
theorem ahead_any (x y : Ed) (w : World) :
    Calls Tryz.prog 60 #[.agg #[.int .i64 x.1, .int .i64 x.2.1, .int .i64 x.2.2], .agg #[.int .i64 y.1, .int .i64 y.2.1, .int .i64 y.2.2]] w fun e w' => e = .returned (.bool (keyLt (x.1, x.2.1) (y.1, y.2.1))) ∧ Kept [] w w' := by
  obtain ⟨a, b, c⟩ := x
  obtain ⟨a', b', c'⟩ := y
  have K0 := Lib.hid (((Kept.refl [] w).alloc (.cells #[.int .i64 a, .int .i64 b, .int .i64 c] 54)).alloc (.cells #[.int .i64 a', .int .i64 b', .int .i64 c'] 54))
  obtain ⟨z, hz⟩ : ∃ z, z = keyLt (a, b) (a', b') := ⟨_, rfl⟩
  show Calls _ _ _ _ fun e w' => e = .returned (.bool (keyLt (a, b) (a', b'))) ∧ Kept [] w w'
  rw [← hz]
  have HZ := Lib.hid hz
  clear hz
  by_cases h1 : a < a'
  · go_enter Tryz.func60, Tryz.ntmps60
    go_wp2_with fail
    go_ret
    exact ⟨ret_bool (by rw [HZ.out]; simp [keyLt, h1]), K0.out⟩
  · by_cases h2 : a = a'
    · subst h2
      by_cases h3 : b < b'
      · go_enter Tryz.func60, Tryz.ntmps60
        go_wp2_with fail
        go_ret
        exact ⟨ret_bool (by rw [HZ.out]; simp [keyLt, h3]), K0.out⟩
      · go_enter Tryz.func60, Tryz.ntmps60
        go_wp2_with fail
        go_ret
        exact ⟨ret_bool (by rw [HZ.out]; simp [keyLt, h3]), K0.out⟩
    · go_enter Tryz.func60, Tryz.ntmps60
      go_wp2_with fail
      go_ret
      exact ⟨ret_bool (by rw [HZ.out]; simp [keyLt, h1, h2]), K0.out⟩

abbrev tsT : List TypeId := [110, 54]
structure TsAt (w0 w : World) (base p : Nat) (R : Rd) (v : Value) (l : List Ed) : Prop where
  rd : RdAt 110 w p R
  own : w.ownsRow base 54 3 v l.length (l.flatMap edV)
  kept : KeptB base tsT w0 w
  hp : base ≤ p
  hb : base ≤ w0.heap.size
structure TtAt (w0 w : World) (base p : Nat) (R : Rd) (v : Value) (l : List Ed) (t : Nat) (cs : List Value) : Prop where
  rs : TsAt w0 w base p R v l
  blk : Blk w t 54 cs
  n1 : v.ownBlock ≠ some t
  le : base ≤ t
section
variable {w0 w w1 w2 w' : World} {base p t : Nat} {R R' : Rd} {v : Value} {l : List Ed} {cs : List Value}
theorem TsAt.call (h : TsAt w0 w base p R v l) (hr : RdAt 110 w' p R') (hk : Kept [p] w w') : TsAt w0 w' base p R' v l := by
  have hB : KeptB base [110] w w' := (KeptB.refl _ _ _).rcall h.rd hk h.hp (by decide)
  exact ⟨hr, own_keptB h.own hB (by decide), h.kept.trans (hB.mono (by decide)), h.hp, h.hb⟩
theorem TsAt.kept0 (h : TsAt w0 w base p R v l) (hk : Kept [] w w') : TsAt w0 w' base p R v l := by
  have hB : KeptB base [] w w' := .of_kept0 hk
  exact ⟨h.rd.kept0 hk, own_keptB h.own hB (by decide), h.kept.trans (hB.mono (by decide)), h.hp, h.hb⟩
theorem TsAt.new (h : TsAt w0 w base p R v l) (cs : List Value) : TtAt w0 (w.alloc (.cells cs.toArray 54)) base p R v l w.heap.size cs :=
  ⟨h.kept0 ((Kept.refl [] _).alloc _), Blk.new _ _ _, fun hv => Nat.lt_irrefl _ (h.own.lt _ hv).2, Nat.le_trans h.hb h.kept.size⟩
theorem TtAt.call (h : TtAt w0 w base p R v l t cs) (hr : RdAt 110 w' p R') (hk : Kept [p] w w') : TtAt w0 w' base p R' v l t cs := by
  have hB : KeptB base [110] w w' := (KeptB.refl _ _ _).rcall h.rs.rd hk h.rs.hp (by decide)
  exact ⟨h.rs.call hr hk, h.blk.keptB hB (by decide), h.n1, h.le⟩
theorem TtAt.kept0 (h : TtAt w0 w base p R v l t cs) (hk : Kept [] w w') : TtAt w0 w' base p R v l t cs := ⟨h.rs.kept0 hk, h.blk.kept hk (by simp), h.n1, h.le⟩
theorem TtAt.set (h : TtAt w0 w base p R v l t cs) (j : Nat) (u : Value) : TtAt w0 (w.setCell ⟨t, j, none⟩ u) base p R v l t (cs.set j u) := by
  have hB : KeptB base [54] w (w.setCell ⟨t, j, none⟩ u) := (KeptB.refl _ _ _).set h.blk h.le (by simp) j _
  have hK : Kept [t] w (w.setCell ⟨t, j, none⟩ u) := (Kept.refl [t] w).setCell (p := ⟨t, j, none⟩) (.inl (List.mem_singleton.2 rfl)) u
  have rs := h.rs
  exact ⟨⟨rs.rd.keptB hB (by decide) (by decide), own_kept rs.own hK (fun g' hg hm => by simp at hm; subst hm; exact h.n1 hg), rs.kept.trans (hB.mono (by decide)), rs.hp, rs.hb⟩, h.blk.set j u, h.n1, h.le⟩
theorem TsAt.app (h : TsAt w0 w base p R v l) (hk1 : Kept [] w w1) (hk2 : Kept v.ownBlock.toList w1 w2) {x : Ed} {u : Value} (ho : w2.ownsRow base 54 3 u (l.length + 1) (l.flatMap edV ++ edV x)) :
    TsAt w0 w2 base p R u (l ++ [x]) := by
  have h := h.kept0 hk1
  have hA : KeptB base [54] w1 w2 := (KeptB.refl _ _ _).app hk2 h.own (by decide)
  refine ⟨h.rd.keptB hA (by decide) (by decide), ?_, h.kept.trans (hA.mono (by decide)), h.hp, h.hb⟩
  simpa [List.flatMap_append] using ho
end
theorem infoTri : Info Tryz.prog 54 (.agg #[.int .i64 0, .int .i64 0, .int .i64 0]) 3 24 := by unfold Info; kernel_rfl
theorem numR_nonneg (R : Rd) (k most e : Int) : 0 ≤ (R.numR k 0 most e).1 := by
  unfold Rd.numR
  split
  · exact Int.le_refl _
  · split
    · rename_i h; exact h.1
    · exact Int.le_refl _

set_option maxRecDepth 400000 in
theorem rdecodeM_any (b : List UInt8) (A : Option Addr) (c0 : Nat) (w : World) (hr : Reads w A (b.map byteV)) (hl : b.length ≤ 1073741824) :
    Calls Tryz.prog 22 #[.slice A b.length c0] w (DecMPost w (decM b)) := by
  have HR := Lib.hid (hr.kept0 ((Kept.refl [] w).alloc (.cells #[.int .i64 0, .int .i64 0] 33)))
  have K0 := Lib.hid ((Kept.refl [] w).alloc (.cells #[.int .i64 0, .int .i64 0] 33))
  have HH := Lib.hid (Blk.new w 33 [.int .i64 0, .int .i64 0])
  have hfe := fun (a b : Int) (wx : World) => fieldErrno a b wx
  generalize hd : decM b = d
  have HD := Lib.hid (hd.symm.trans (decM_q b))
  clear hr hd
  go_enter Tryz.func22, Tryz.ntmps22
  go_wp2_with fail
  refine (ropen_any b A c0 _ HR.out hl).mono ?_
  rintro e w1 ⟨p, rfl, hp, hrd, hk⟩
  have K1 := Lib.hid (K0.out.trans hk)
  replace HH := Lib.hid (HH.out.kept hk (by simp))
  have ST := Lib.hid (show St d ⟨b, 0, 0, 0⟩ (((Rd.mk b 0 0 0).mark frm1).bind qM) from St.mk (fun _ => HD.out) (fun h => absurd rfl h))
  obtain ⟨B, hB⟩ : ∃ B, B = w.heap.size + 1 := ⟨_, rfl⟩
  have HB := Lib.hid hB
  have RS := Lib.hid (show TsAt w1 w1 B p ⟨b, 0, 0, 0⟩ (.slice none 0 0) [] from ⟨hrd, World.ownsRow_nil _ _ _ _, KeptB.refl _ _ _, by rw [hB]; simpa using hp, by rw [hB]; have := hk.size; simpa using this⟩)
  clear hp hrd hk K0 HR HD hB
  obtain ⟨R0, hR0⟩ : ∃ R0, R0 = Rd.mk b 0 0 0 := ⟨_, rfl⟩
  rw [← hR0] at RS ST
  clear hR0
  go_wp2_with fail
  refine (magic_any p R0 frm1 _ (by rfl) RS.out.rd).mono ?_
  rintro x w2 ⟨rfl, hrd, hk⟩
  replace RS := Lib.hid (RS.out.call hrd hk)
  replace ST := Lib.hid ST.out.mark
  clear hrd hk
  generalize R0.magicR frm1 = R1 at RS ST
  go_wp2_with fail
  refine (bounded_any p R1 4096 5 _ (by decide) RS.out.rd).mono ?_
  rintro x wn ⟨rfl, hrd, hk⟩
  replace RS := Lib.hid (RS.out.call hrd hk)
  replace ST := Lib.hid (show St d (R1.numR 4 0 4096 5).2 ((fun m : Int × Rd => qC m.1 m.2) (R1.numR 4 0 4096 5)) from St.numb (f := fun m : Int × Rd => qC m.1 m.2) ST.out (by decide))
  have hm := numR_range (R := R1) (k := 4) (e := 5) (most := 4096) (by decide)
  clear hrd hk
  generalize R1.numR 4 0 4096 5 = z at RS ST hm ⊢
  obtain ⟨m, R2⟩ := z
  simp only [] at RS ST hm ⊢
  go_wp2_with fail
  refine (bounded_any p R2 4096 5 _ (by decide) RS.out.rd).mono ?_
  rintro x wn ⟨rfl, hrd, hk⟩
  replace RS := Lib.hid (RS.out.call hrd hk)
  replace ST := Lib.hid (show St d (R2.numR 4 0 4096 5).2 ((fun c : Int × Rd => qN m c.1 c.2) (R2.numR 4 0 4096 5)) from St.numb (f := fun c : Int × Rd => qN m c.1 c.2) ST.out (by decide))
  have hc := numR_range (R := R2) (k := 4) (e := 5) (most := 4096) (by decide)
  clear hrd hk
  generalize R2.numR 4 0 4096 5 = z at RS ST hc ⊢
  obtain ⟨c, R3⟩ := z
  simp only [] at RS ST hc ⊢
  go_wp2_with fail
  refine (bounded_any p R3 65536 5 _ (by decide) RS.out.rd).mono ?_
  rintro x wn ⟨rfl, hrd, hk⟩
  replace RS := Lib.hid (RS.out.call hrd hk)
  replace ST := Lib.hid (show St d (R3.numR 4 0 65536 5).2 ((fun n : Int × Rd => qE m c n.1.toNat (-1, 0, 0) n.2 []) (R3.numR 4 0 65536 5)) from St.numb (f := fun n : Int × Rd => qE m c n.1.toNat (-1, 0, 0) n.2 []) ST.out (by decide))
  have hn := numR_range (R := R3) (k := 4) (e := 5) (most := 65536) (by decide)
  clear hrd hk
  generalize R3.numR 4 0 65536 5 = z at RS ST hn ⊢
  obtain ⟨n, R4⟩ := z
  simp only [] at RS ST hn ⊢
  obtain ⟨M, rfl⟩ : ∃ M : Nat, n = M := ⟨n.toNat, by omega⟩
  have hM : M ≤ 65536 := by omega
  clear hn
  obtain ⟨hm0, hm1⟩ := hm
  obtain ⟨hc0, hc1⟩ := hc
  rw [Int.toNat_natCast] at ST
  go_upto_block 0 with (fail)
  go_cut [10, 11] (fun v i wx => ∃ (R : Rd) (acc : List Ed), i = i ∧ Hid (TsAt w1 wx B p R v acc) ∧ Hid (St d R (qEnd m c acc R)))
  case first =>
    go_wp2_with fail
    go_loopw [10, 11] (fun v i wr => ∃ (k : Nat) (R : Rd) (acc : List Ed) (last : Ed), k ≤ M ∧ i = .int .i64 k ∧ Hid (TsAt w1 wr B p R v acc) ∧ Hid (acc.length = k) ∧ Hid ((k = 0 → last = (-1, 0, 0)) ∧ ∀ (j : Nat) (hj : j < acc.length), k = j + 1 → last = acc[j]) ∧ Hid (St d R (qE m c (M - k) last R acc))) (fun _ i _ => M - (intOf i).toNat)
    case atStart => exact ⟨0, R4, [], (-1, 0, 0), Nat.zero_le _, rfl, RS, Lib.hid rfl, Lib.hid ⟨fun _ => rfl, fun j hj => absurd hj (by simp)⟩, ST⟩
    case round =>
      clear RS ST
      obtain ⟨k, R, acc, last, hk, rfl, RS, HLN, HLA, ST⟩ := hrel
      obtain ⟨v, hv⟩ : ∃ v, v = u10 := ⟨_, rfl⟩
      subst hv
      by_cases hlt : k < M
      · go_wp2_with fail
        refine (rfault_rd p R _ RS.out.rd).mono ?_
        rintro x wq ⟨rfl, hkq⟩
        replace RS := Lib.hid (RS.out.kept0 hkq)
        clear hkq
        by_cases he : R.e = 0
        · have hb : (R.e == 0) = true := by rw [he]; rfl
          clear he
          obtain ⟨A10, c10, rfl⟩ := own_n RS.out.own
          replace ST := Lib.hid (show St d R ((R.rd 4 0 (m - 1) 3).bind fun a => qA m c (M - (k + 1)) last acc R.pos a.1 a.2) by
            have h := ST.out
            rw [show M - k = (M - (k + 1)) + 1 by omega, qE_succ] at h
            exact h)
          go_wp2_with fail
          refine (rat_rd p R _ RS.out.rd).mono ?_
          rintro x wq2 ⟨rfl, rfl⟩
          go_wp2_with fail
          refine (bounded_any p R (m - 1) 3 _ (by decide) RS.out.rd).mono ?_
          rintro x wn ⟨rfl, hrd, hk⟩
          replace RS := Lib.hid (RS.out.call hrd hk)
          replace ST := Lib.hid (show St d (R.numR 4 0 (m - 1) 3).2 ((fun a : Int × Rd => qA m c (M - (k + 1)) last acc R.pos a.1 a.2) (R.numR 4 0 (m - 1) 3)) from St.numb (f := fun a : Int × Rd => qA m c (M - (k + 1)) last acc R.pos a.1 a.2) ST.out (by decide))
          have NX := Lib.hid (numR_nonneg R 4 (m - 1) 3)
          clear hrd hk
          generalize R.numR 4 0 (m - 1) 3 = z at RS ST NX ⊢
          obtain ⟨a, Ra⟩ := z
          simp only [] at RS ST NX ⊢
          have NA := NX
          go_upto_region 12 with (fail)
          have RX := Lib.hid (RS.out.new [.int .i64 a, .int .i64 0, .int .i64 0])
          clear RS hb
          obtain ⟨t, hT⟩ : ∃ t, t = wn.heap.size := ⟨_, rfl⟩
          rw [← hT] at RX ⊢
          generalize wn.alloc (.cells [Value.int .i64 a, .int .i64 0, .int .i64 0].toArray 54) = wh at RX ⊢
          clear hT
          go_wp2_with fail
          refine (bounded_any p Ra (c - 1) 3 _ (by decide) RX.out.rs.rd).mono ?_
          rintro x wn ⟨rfl, hrd, hk⟩
          replace RX := Lib.hid (RX.out.call hrd hk)
          replace ST := Lib.hid (show St d (Ra.numR 4 0 (c - 1) 3).2 ((fun b : Int × Rd => qB m c (M - (k + 1)) last acc R.pos a b.1 b.2) (Ra.numR 4 0 (c - 1) 3)) from St.numb (f := fun b : Int × Rd => qB m c (M - (k + 1)) last acc R.pos a b.1 b.2) ST.out (by decide))
          have NX := Lib.hid (numR_nonneg Ra 4 (c - 1) 3)
          clear hrd hk
          generalize Ra.numR 4 0 (c - 1) 3 = z at RX ST NX ⊢
          obtain ⟨b, Rb⟩ := z
          simp only [] at RX ST NX ⊢
          have t0 := RX.out.blk.cell 1
          have tf0 := RX.out.blk.frozen 1
          have tl := RX.out.blk.lt
          simp only [List.getElem?_cons_zero, List.getElem?_cons_succ] at t0
          go_upto_region 13 with (fail)
          replace RX := Lib.hid (RX.out.set 1 (.int .i64 b))
          simp only [List.set_cons_zero, List.set_cons_succ] at RX
          generalize wn.setCell ⟨t, 1, none⟩ (.int .i64 b) = wh at RX ⊢
          clear t0 tf0 tl
          go_wp2_with fail
          refine (ri64_any p Rb _ RX.out.rs.rd).mono ?_
          rintro x wn ⟨rfl, hrd, hk_⟩
          replace RX := Lib.hid (RX.out.call hrd hk_)
          have TRIP := Lib.hid (St.trip ST.out)
          clear hrd hk_ ST
          generalize wrap64 ((num (Rb.got 8) : Nat) : Int) = h at TRIP ⊢
          generalize Rb.after 8 = Rc at RX TRIP
          have t0 := RX.out.blk.cell 2
          have tf0 := RX.out.blk.frozen 2
          have tl := RX.out.blk.lt
          simp only [List.getElem?_cons_zero, List.getElem?_cons_succ] at t0
          go_upto_region 14 with (fail)
          replace RX := Lib.hid (RX.out.set 2 (.int .i64 h))
          simp only [List.set_cons_zero, List.set_cons_succ] at RX
          generalize wn.setCell ⟨t, 2, none⟩ (.int .i64 h) = wh at RX ⊢
          clear t0 tf0 tl
          by_cases hz : k = 0
          · subst hz
            have HL0 := HLA.out.1 rfl
            have ST := Lib.hid (TRIP.out.1 (by rw [HL0]; unfold keyLt; exact decide_eq_true (.inl (by have := NA.out; show (-1 : Int) < a; omega))))
            clear HL0
            go_quiet (fail)
            replace RX := Lib.hid (RX.out.kept0 ((Kept.refl [] _).drewN nq))
            have B1 := Lib.hid (show (acc.length + 1) * 24 ≤ 140737488355328 by rw [HLN.out]; omega)
            have B2 := Lib.hid (show acc.length + 1 ≤ maxLen by rw [HLN.out]; unfold maxLen; omega)
            have t0 := RX.out.blk.cell 0
            have t1 := RX.out.blk.cell 1
            have t2 := RX.out.blk.cell 2
            have tl := RX.out.blk.lt
            simp only [List.getElem?_cons_zero, List.getElem?_cons_succ] at t0 t1 t2
            go_upto_region 9 with (first | (at_builtin; refine wpList_app _ rfl (.tmp 65) (.tmp 67) _ rfl 54 (.agg #[.int .i64 0, .int .i64 0, .int .i64 0]) 3 24 Tryz.underlying41 infoTri rfl (by decide) B (.slice A10 acc.length c10) _ _ rfl (RX.out.rs.own.alloc _) (some ⟨_, 0, none⟩) 1 1 (edV (a, b, h)) rfl rfl (Reads.of_blk (Blk.new _ _ _) (fun _ _ h => h)) (by simp [edV, Value.oneCell']) B1.out B2.out (Nat.le_trans RX.out.rs.hb (Nat.le_trans RX.out.rs.kept.size (by simp))) ?_; intro u w2 ho2 hk2 _; have K2 := Lib.hid hk2; have O2 := Lib.hid ho2; clear hk2 ho2))
            clear t0 t1 t2 tl
            go_wp2_with fail
            go_roundw
            case rel =>
              refine ⟨0 + 1, Rc, acc ++ [(a, b, h)], (a, b, h), by omega, by go_num, Lib.hid (RX.out.rs.app ((Kept.refl [] _).alloc _) K2.out O2.out), Lib.hid (by rw [List.length_append, HLN.out]; rfl), Lib.hid ⟨fun h => absurd h (by omega), fun j hj he => ?_⟩, ST⟩
              have hjl : j = acc.length := by rw [HLN.out]; omega
              subst hjl
              simp
            case measure => simp [intOf]; omega
          · obtain ⟨j, rfl⟩ : ∃ j, k = j + 1 := ⟨k - 1, by omega⟩
            have hja : j < acc.length := by rw [HLN.out]; omega
            obtain ⟨X, hX⟩ : ∃ X, X = acc[j] := ⟨_, rfl⟩
            have HXL := Lib.hid ((HLA.out.2 j hja rfl).trans hX.symm)
            obtain ⟨g10, cap10, eA, _⟩ := own_ptr RX.out.rs.own (by omega)
            cases eA
            have HX := Lib.hid (own_range (f := edV) (k := 3) (fun _ => rfl) (by decide) RX.out.rs.own hja)
            rw [← hX] at HX
            have HT := Lib.hid (show World.rangeAt _ t 0 (edV (a, b, h)) from fun i u hu => by rw [Nat.zero_add]; exact (RX.out.blk.cell i).trans hu)
            clear hX hz
            rw [HXL.out] at TRIP
            have hkj : ((j + 1 : Nat) : Int) = (j : Int) + 1 := by omega
            rw [hkj]
            by_cases hq : keyLt (X.1, X.2.1) (a, b) = true
            · have HQ := Lib.hid hq
              have ST := Lib.hid (TRIP.out.1 hq)
              clear hq
              have n1 : ¬ acc.length ≤ j := by rw [HLN.out]; omega
              have n2 : ¬ ((j : Int) < 0) := by omega
              have n3 : (j : Int) < (acc.length : Int) := by rw [HLN.out]; omega
              have n5 : j < acc.length := by rw [HLN.out]; omega
              refine wp_region_held_drew (S := (fun w' => w'.rangeAt g10 (j * 3) (edV X) ∧ w'.rangeAt t 0 (edV (a, b, h)))) (by kernel_rfl) ?_ (fun hHeld => ?_)
              · exact ⟨HX.out, HT.out⟩
              replace RX := Lib.hid (RX.out.kept0 ((Kept.refl [] _).drew))
              refine tkYes (i := 0) (v := ?_) rfl rfl (by kernel_rfl) (by kernel_rfl) (by kernel_rfl) (fun _ _ _ h => h) (by rfl) ?_ (by assumption) ?_
              rotate_left
              · (intro w' hSw; (try dsimp only at hSw); go_simp; try with_reducible rfl)
              try simp only [Act.put, List.setIfInBounds_toArray, List.set_cons_zero, List.set_cons_succ]
              refine tkYes (i := 1) (v := .bool true) rfl rfl (by kernel_rfl) (by kernel_rfl) (by kernel_rfl) (fun _ _ _ h => h) (by rfl) ?_ (by assumption) ?_
              skip
              · (intro w' hSw; (try dsimp only at hSw); go_simp; try (simp; omega))
              try simp only [Act.put, List.setIfInBounds_toArray, List.set_cons_zero, List.set_cons_succ]
              refine tkYes (i := 2) (v := ?_) rfl rfl (by kernel_rfl) (by kernel_rfl) (by kernel_rfl) (fun _ _ _ h => h) (by rfl) ?_ (by assumption) ?_
              rotate_left
              · (intro w' hSw; (try dsimp only at hSw); go_simp; try with_reducible rfl)
              try simp only [Act.put, List.setIfInBounds_toArray, List.set_cons_zero, List.set_cons_succ]
              refine tkYes (i := 3) (v := ?_) rfl rfl (by kernel_rfl) (by kernel_rfl) (by kernel_rfl) (fun _ _ _ h => h) (by rfl) ?_ (by assumption) ?_
              rotate_left
              · (intro w' hSw; (try dsimp only at hSw); go_simp; try with_reducible rfl)
              try simp only [Act.put, List.setIfInBounds_toArray, List.set_cons_zero, List.set_cons_succ]
              refine tkYes (i := 4) (v := ?_) rfl rfl (by kernel_rfl) (by kernel_rfl) (by kernel_rfl) (fun _ _ _ h => h) (by rfl) ?_ (by assumption) ?_
              rotate_left
              · (intro w' hSw; (try dsimp only at hSw); go_simp; try with_reducible rfl)
              try simp only [Act.put, List.setIfInBounds_toArray, List.set_cons_zero, List.set_cons_succ]
              refine tkYes (i := 5) (v := .int .i64 (j : Int)) rfl rfl (by kernel_rfl) (by kernel_rfl) (by kernel_rfl) (fun _ _ _ h => h) (by rfl) ?_ (by assumption) ?_
              skip
              · (intro w' hSw; (try dsimp only at hSw); go_simp; try rw [IntWalk.i64_in _ (by omega)])
              try simp only [Act.put, List.setIfInBounds_toArray, List.set_cons_zero, List.set_cons_succ]
              refine tkYes (i := 6) (v := .pointer (some ⟨g10, j * 3, none⟩)) rfl rfl (by kernel_rfl) (by kernel_rfl) (by kernel_rfl) (fun _ _ _ h => h) (by rfl) ?_ (by assumption) ?_
              skip
              · (intro w' hSw; (try dsimp only at hSw); go_simp; try (simp; done))
              try simp only [Act.put, List.setIfInBounds_toArray, List.set_cons_zero, List.set_cons_succ]
              refine tkLoad (i := 7) 54 (.tmp 56) g10 (j * 3) (edV X) _ rfl rfl (by kernel_rfl) (by kernel_rfl) (by kernel_rfl) (fun _ _ _ h => h) (by rfl) rfl rfl (fun w hw => hw.1) Tryz.underlying54 rfl infoTriple (by assumption) ?_
              try simp only [Act.put, List.setIfInBounds_toArray, List.set_cons_zero, List.set_cons_succ]
              refine tkLoad (i := 8) 54 (.tmp 13) t 0 (edV (a, b, h)) _ rfl rfl (by kernel_rfl) (by kernel_rfl) (by kernel_rfl) (fun _ _ _ h => h) (by rfl) rfl rfl (fun w hw => hw.2) Tryz.underlying54 rfl infoTriple (by assumption) ?_
              try simp only [Act.put, List.setIfInBounds_toArray, List.set_cons_zero, List.set_cons_succ]
              refine wpAnyH_ready (rs := [9]) (by kernel_rfl) (by simp) ?_
              refine AllReadyH.cons rfl (fun K hK => ?_) AllReadyH.nil
              go_simp
              refine (ahead_any X (a, b, h) _).mono ?_
              rintro _ w5 ⟨rfl, hk5⟩
              rw [show keyLt (X.1, X.2.1) (a, b) = true from HQ.out]
              replace RX := Lib.hid (RX.out.kept0 hk5)
              refine hK.out _ _ ⟨fun i u hu => Kept.cell_lt hk5 (HX.out i u hu), fun i u hu => Kept.cell_lt hk5 (HT.out i u hu)⟩ (fun hHeld2 => ?_)
              clear hK hk5
              try simp only [Act.put, List.setIfInBounds_toArray, List.set_cons_zero, List.set_cons_succ]
              refine tkYes (i := 10) (v := ?_) rfl rfl (by kernel_rfl) (by kernel_rfl) (by kernel_rfl) (fun _ _ _ h => h) (by rfl) ?_ (by assumption) ?_
              rotate_left
              · (intro w' hSw; (try dsimp only at hSw); go_simp; try with_reducible rfl)
              try simp only [Act.put, List.setIfInBounds_toArray, List.set_cons_zero, List.set_cons_succ]
              refine tkYes (i := 11) (v := ?_) rfl rfl (by kernel_rfl) (by kernel_rfl) (by kernel_rfl) (fun _ _ _ h => h) (by rfl) ?_ (by assumption) ?_
              rotate_left
              · (intro w' hSw; (try dsimp only at hSw); go_simp; try with_reducible rfl)
              try simp only [Act.put, List.setIfInBounds_toArray, List.set_cons_zero, List.set_cons_succ]
              refine wpAnyH_done (by kernel_rfl) ?_ _
              have B1 := Lib.hid (show (acc.length + 1) * 24 ≤ 140737488355328 by rw [HLN.out]; omega)
              have B2 := Lib.hid (show acc.length + 1 ≤ maxLen by rw [HLN.out]; unfold maxLen; omega)
              have t0 := RX.out.blk.cell 0
              have t1 := RX.out.blk.cell 1
              have t2 := RX.out.blk.cell 2
              have tl := RX.out.blk.lt
              simp only [List.getElem?_cons_zero, List.getElem?_cons_succ] at t0 t1 t2
              go_upto_region 9 with (first | (at_builtin; refine wpList_app _ rfl (.tmp 65) (.tmp 67) _ rfl 54 (.agg #[.int .i64 0, .int .i64 0, .int .i64 0]) 3 24 Tryz.underlying41 infoTri rfl (by decide) B (.slice (some ⟨g10, 0, none⟩) acc.length c10) _ _ rfl (RX.out.rs.own.alloc _) (some ⟨_, 0, none⟩) 1 1 (edV (a, b, h)) rfl rfl (Reads.of_blk (Blk.new _ _ _) (fun _ _ h => h)) (by simp [edV, Value.oneCell']) B1.out B2.out (Nat.le_trans RX.out.rs.hb (Nat.le_trans RX.out.rs.kept.size (by simp))) ?_; intro u w2 ho2 hk2 _; have K2 := Lib.hid hk2; have O2 := Lib.hid ho2; clear hk2 ho2))
              clear t0 t1 t2 tl
              go_wp2_with fail
              go_roundw
              case rel =>
                refine ⟨(j + 1) + 1, Rc, acc ++ [(a, b, h)], (a, b, h), by omega, by go_num, Lib.hid (RX.out.rs.app ((Kept.refl [] _).alloc _) K2.out O2.out), Lib.hid (by rw [List.length_append, HLN.out]; rfl), Lib.hid ⟨fun h => absurd h (by omega), fun j hj he => ?_⟩, ST⟩
                have hjl : j = acc.length := by rw [HLN.out]; omega
                subst hjl
                simp
              case measure => simp [intOf]; omega
            · replace hq : keyLt (X.1, X.2.1) (a, b) = false := by simpa using hq
              have HQ := Lib.hid hq
              have ST := Lib.hid (TRIP.out.2 hq)
              clear hq
              have n1 : ¬ acc.length ≤ j := by rw [HLN.out]; omega
              have n2 : ¬ ((j : Int) < 0) := by omega
              have n3 : (j : Int) < (acc.length : Int) := by rw [HLN.out]; omega
              have n5 : j < acc.length := by rw [HLN.out]; omega
              refine wp_region_held_drew (S := (fun w' => w'.rangeAt g10 (j * 3) (edV X) ∧ w'.rangeAt t 0 (edV (a, b, h)))) (by kernel_rfl) ?_ (fun hHeld => ?_)
              · exact ⟨HX.out, HT.out⟩
              replace RX := Lib.hid (RX.out.kept0 ((Kept.refl [] _).drew))
              refine tkYes (i := 0) (v := ?_) rfl rfl (by kernel_rfl) (by kernel_rfl) (by kernel_rfl) (fun _ _ _ h => h) (by rfl) ?_ (by assumption) ?_
              rotate_left
              · (intro w' hSw; (try dsimp only at hSw); go_simp; try with_reducible rfl)
              try simp only [Act.put, List.setIfInBounds_toArray, List.set_cons_zero, List.set_cons_succ]
              refine tkYes (i := 1) (v := .bool true) rfl rfl (by kernel_rfl) (by kernel_rfl) (by kernel_rfl) (fun _ _ _ h => h) (by rfl) ?_ (by assumption) ?_
              skip
              · (intro w' hSw; (try dsimp only at hSw); go_simp; try (simp; omega))
              try simp only [Act.put, List.setIfInBounds_toArray, List.set_cons_zero, List.set_cons_succ]
              refine tkYes (i := 2) (v := ?_) rfl rfl (by kernel_rfl) (by kernel_rfl) (by kernel_rfl) (fun _ _ _ h => h) (by rfl) ?_ (by assumption) ?_
              rotate_left
              · (intro w' hSw; (try dsimp only at hSw); go_simp; try with_reducible rfl)
              try simp only [Act.put, List.setIfInBounds_toArray, List.set_cons_zero, List.set_cons_succ]
              refine tkYes (i := 3) (v := ?_) rfl rfl (by kernel_rfl) (by kernel_rfl) (by kernel_rfl) (fun _ _ _ h => h) (by rfl) ?_ (by assumption) ?_
              rotate_left
              · (intro w' hSw; (try dsimp only at hSw); go_simp; try with_reducible rfl)
              try simp only [Act.put, List.setIfInBounds_toArray, List.set_cons_zero, List.set_cons_succ]
              refine tkYes (i := 4) (v := ?_) rfl rfl (by kernel_rfl) (by kernel_rfl) (by kernel_rfl) (fun _ _ _ h => h) (by rfl) ?_ (by assumption) ?_
              rotate_left
              · (intro w' hSw; (try dsimp only at hSw); go_simp; try with_reducible rfl)
              try simp only [Act.put, List.setIfInBounds_toArray, List.set_cons_zero, List.set_cons_succ]
              refine tkYes (i := 5) (v := .int .i64 (j : Int)) rfl rfl (by kernel_rfl) (by kernel_rfl) (by kernel_rfl) (fun _ _ _ h => h) (by rfl) ?_ (by assumption) ?_
              skip
              · (intro w' hSw; (try dsimp only at hSw); go_simp; try rw [IntWalk.i64_in _ (by omega)])
              try simp only [Act.put, List.setIfInBounds_toArray, List.set_cons_zero, List.set_cons_succ]
              refine tkYes (i := 6) (v := .pointer (some ⟨g10, j * 3, none⟩)) rfl rfl (by kernel_rfl) (by kernel_rfl) (by kernel_rfl) (fun _ _ _ h => h) (by rfl) ?_ (by assumption) ?_
              skip
              · (intro w' hSw; (try dsimp only at hSw); go_simp; try (simp; done))
              try simp only [Act.put, List.setIfInBounds_toArray, List.set_cons_zero, List.set_cons_succ]
              refine tkLoad (i := 7) 54 (.tmp 56) g10 (j * 3) (edV X) _ rfl rfl (by kernel_rfl) (by kernel_rfl) (by kernel_rfl) (fun _ _ _ h => h) (by rfl) rfl rfl (fun w hw => hw.1) Tryz.underlying54 rfl infoTriple (by assumption) ?_
              try simp only [Act.put, List.setIfInBounds_toArray, List.set_cons_zero, List.set_cons_succ]
              refine tkLoad (i := 8) 54 (.tmp 13) t 0 (edV (a, b, h)) _ rfl rfl (by kernel_rfl) (by kernel_rfl) (by kernel_rfl) (fun _ _ _ h => h) (by rfl) rfl rfl (fun w hw => hw.2) Tryz.underlying54 rfl infoTriple (by assumption) ?_
              try simp only [Act.put, List.setIfInBounds_toArray, List.set_cons_zero, List.set_cons_succ]
              refine wpAnyH_ready (rs := [9]) (by kernel_rfl) (by simp) ?_
              refine AllReadyH.cons rfl (fun K hK => ?_) AllReadyH.nil
              go_simp
              refine (ahead_any X (a, b, h) _).mono ?_
              rintro _ w5 ⟨rfl, hk5⟩
              rw [show keyLt (X.1, X.2.1) (a, b) = false from HQ.out]
              replace RX := Lib.hid (RX.out.kept0 hk5)
              refine hK.out _ _ ⟨fun i u hu => Kept.cell_lt hk5 (HX.out i u hu), fun i u hu => Kept.cell_lt hk5 (HT.out i u hu)⟩ (fun hHeld2 => ?_)
              clear hK hk5
              try simp only [Act.put, List.setIfInBounds_toArray, List.set_cons_zero, List.set_cons_succ]
              refine tkYes (i := 10) (v := ?_) rfl rfl (by kernel_rfl) (by kernel_rfl) (by kernel_rfl) (fun _ _ _ h => h) (by rfl) ?_ (by assumption) ?_
              rotate_left
              · (intro w' hSw; (try dsimp only at hSw); go_simp; try with_reducible rfl)
              try simp only [Act.put, List.setIfInBounds_toArray, List.set_cons_zero, List.set_cons_succ]
              refine tkYes (i := 11) (v := ?_) rfl rfl (by kernel_rfl) (by kernel_rfl) (by kernel_rfl) (fun _ _ _ h => h) (by rfl) ?_ (by assumption) ?_
              rotate_left
              · (intro w' hSw; (try dsimp only at hSw); go_simp; try with_reducible rfl)
              try simp only [Act.put, List.setIfInBounds_toArray, List.set_cons_zero, List.set_cons_succ]
              refine wpAnyH_done (by kernel_rfl) ?_ _
              go_wp2_with fail
              refine (rfail_any p Rc 6 R.pos _ RX.out.rs.rd).mono ?_
              rintro x wf ⟨rfl, hrd, hkf⟩
              replace RX := Lib.hid (RX.out.call hrd hkf)
              clear hrd hkf
              have B1 := Lib.hid (show (acc.length + 1) * 24 ≤ 140737488355328 by rw [HLN.out]; omega)
              have B2 := Lib.hid (show acc.length + 1 ≤ maxLen by rw [HLN.out]; unfold maxLen; omega)
              have t0 := RX.out.blk.cell 0
              have t1 := RX.out.blk.cell 1
              have t2 := RX.out.blk.cell 2
              have tl := RX.out.blk.lt
              simp only [List.getElem?_cons_zero, List.getElem?_cons_succ] at t0 t1 t2
              go_upto_region 9 with (first | (at_builtin; refine wpList_app _ rfl (.tmp 65) (.tmp 67) _ rfl 54 (.agg #[.int .i64 0, .int .i64 0, .int .i64 0]) 3 24 Tryz.underlying41 infoTri rfl (by decide) B (.slice (some ⟨g10, 0, none⟩) acc.length c10) _ _ rfl (RX.out.rs.own.alloc _) (some ⟨_, 0, none⟩) 1 1 (edV (a, b, h)) rfl rfl (Reads.of_blk (Blk.new _ _ _) (fun _ _ h => h)) (by simp [edV, Value.oneCell']) B1.out B2.out (Nat.le_trans RX.out.rs.hb (Nat.le_trans RX.out.rs.kept.size (by simp))) ?_; intro u w2 ho2 hk2 _; have K2 := Lib.hid hk2; have O2 := Lib.hid ho2; clear hk2 ho2))
              clear t0 t1 t2 tl
              go_wp2_with fail
              go_roundw
              case rel =>
                refine ⟨(j + 1) + 1, (Rc.fail 6 R.pos), acc ++ [(a, b, h)], (a, b, h), by omega, by go_num, Lib.hid (RX.out.rs.app ((Kept.refl [] _).alloc _) K2.out O2.out), Lib.hid (by rw [List.length_append, HLN.out]; rfl), Lib.hid ⟨fun h => absurd h (by omega), fun j hj he => ?_⟩, Lib.hid (ST.out _)⟩
                have hjl : j = acc.length := by rw [HLN.out]; omega
                subst hjl
                simp
              case measure => simp [intOf]; omega
        · have hb : (R.e == 0) = false := by rw [beq_eq_false_iff_ne]; exact he
          have HE := Lib.hid he
          clear he
          go_wp2_with fail
          go_meet
          exact ⟨R, acc, trivial, RS, Lib.hid (ST.out.dead HE.out)⟩
      · have hlt2 : ¬ (k : Int) < (M : Int) := by omega
        go_wp2_with fail
        go_meet
        refine ⟨R, acc, trivial, RS, Lib.hid ?_⟩
        have h := ST.out
        rw [show M - k = 0 by omega, qE_zero] at h
        exact h
  case rest =>
  clear RS ST
  obtain ⟨Rz, acc, _, RS, ST⟩ := hcut
  obtain ⟨v, hv⟩ : ∃ v, v = u10 := ⟨_, rfl⟩
  subst hv
  clear hM hm0 hm1 hc0 hc1
  go_wp2_with fail
  refine (rfault_rd p Rz _ RS.out.rd).mono ?_
  rintro x wq ⟨rfl, hk⟩
  replace RS := Lib.hid (RS.out.kept0 hk)
  clear hk
  by_cases he : Rz.e = 0
  case neg =>
    have HE := Lib.hid he
    have hb : (Rz.e == 0) = false := by rw [beq_eq_false_iff_ne]; exact he
    clear he
    replace HH := Lib.hid (HH.out.keptBlt RS.out.kept (by rw [HB.out]; exact Nat.lt_succ_self _))
    go_wp2_with fail
    refine (rfault_rd p Rz _ RS.out.rd).mono ?_
    rintro x wn1 ⟨rfl, hk⟩
    replace RS := Lib.hid (RS.out.kept0 hk)
    replace HH := Lib.hid (HH.out.kept hk (by simp))
    clear hk
    have hb2 : ((Rz).e != 0) = true := by rw [bne_iff_ne]; exact HE.out
    go_wp2_with fail
    refine (rfault_rd p Rz _ RS.out.rd).mono ?_
    rintro x wn1 ⟨rfl, hk⟩
    replace RS := Lib.hid (RS.out.kept0 hk)
    replace HH := Lib.hid (HH.out.kept hk (by simp))
    clear hk hb2
    go_wp2_with (first | (refine wpList_storeBlk rfl 33 (.tmp 5) (.tmp 87) rfl w.heap.size _ [.int .i64 (Rz).e, .int .i64 (Rz).fat] HH.out rfl rfl rfl infoFault (by simp [Value.oneCell']) ?_; intro w7 hb7 hk7))
    have z0 := hb7.cell 0
    have z1 := hb7.cell 1
    simp only [List.getElem?_cons_zero, List.getElem?_cons_succ] at z0 z1
    refine bodyPost_ret (v := .tuple #[.int .i64 0, .int .i64 0, .slice none 0 0, .agg #[.int .i64 (Rz).e, .int .i64 (Rz).fat]]) (by simp [results, Tryz.results22, go_sem, z0, z1]) rfl ?_
    rw [show d = .error ((Rz).e, (Rz).fat) from (by have h := ST.out; unfold St at h; rw [if_pos HE.out] at h; exact h)]
    have hk0 := K1.out.thenB RS.out.kept (by rw [HB.out]; omega)
    exact ⟨rfl, hk0.then hk7 (by simp)⟩
  have HE := Lib.hid he
  have hb : (Rz.e == 0) = true := by rw [he]; rfl
  have DD := Lib.hid (show d = qEnd m c acc Rz from ST.out.live he)
  clear he ST
  go_wp2_with fail
  refine (rend_rd p Rz _ RS.out.rd).mono ?_
  rintro x wn0 ⟨rfl, kk, rfl⟩
  replace RS := Lib.hid (RS.out.kept0 ((Kept.refl [] _).drewN kk))
  cases hat : Rz.atEnd
  case false =>
    have ST := Lib.hid (show St d (Rz.fail 4 Rz.pos) (.error (0, 0)) from (by
      obtain ⟨p1, p2⟩ := fail_live (R := Rz) (e := 4) (a := Rz.pos) HE.out (by decide)
      refine St.mk (fun h => absurd (p1.symm.trans h) (by decide)) (fun _ => ?_)
      rw [p1, p2, DD.out]
      unfold qEnd
      rw [hat]
      rfl))
    replace HE := Lib.hid (show (Rz.fail 4 Rz.pos).e ≠ 0 by rw [(fail_live (R := Rz) (e := 4) (a := Rz.pos) HE.out (by decide)).1]; decide)
    clear hat
    go_wp2_with fail
    refine (rat_rd p Rz _ RS.out.rd).mono ?_
    rintro x wn1 ⟨rfl, rfl⟩
    go_wp2_with fail
    refine (rfail_any p Rz 4 Rz.pos _ RS.out.rd).mono ?_
    rintro x wn1 ⟨rfl, hrd, hk⟩
    replace RS := Lib.hid (RS.out.call hrd hk)
    clear hrd hk hb
    replace HH := Lib.hid (HH.out.keptBlt RS.out.kept (by rw [HB.out]; exact Nat.lt_succ_self _))
    go_wp2_with fail
    refine (rfault_rd p (Rz.fail 4 Rz.pos) _ RS.out.rd).mono ?_
    rintro x wn1 ⟨rfl, hk⟩
    replace RS := Lib.hid (RS.out.kept0 hk)
    replace HH := Lib.hid (HH.out.kept hk (by simp))
    clear hk
    have hb2 : (((Rz.fail 4 Rz.pos)).e != 0) = true := by rw [bne_iff_ne]; exact HE.out
    go_wp2_with fail
    refine (rfault_rd p (Rz.fail 4 Rz.pos) _ RS.out.rd).mono ?_
    rintro x wn1 ⟨rfl, hk⟩
    replace RS := Lib.hid (RS.out.kept0 hk)
    replace HH := Lib.hid (HH.out.kept hk (by simp))
    clear hk hb2
    go_wp2_with (first | (refine wpList_storeBlk rfl 33 (.tmp 5) (.tmp 87) rfl w.heap.size _ [.int .i64 ((Rz.fail 4 Rz.pos)).e, .int .i64 ((Rz.fail 4 Rz.pos)).fat] HH.out rfl rfl rfl infoFault (by simp [Value.oneCell']) ?_; intro w7 hb7 hk7))
    have z0 := hb7.cell 0
    have z1 := hb7.cell 1
    simp only [List.getElem?_cons_zero, List.getElem?_cons_succ] at z0 z1
    refine bodyPost_ret (v := .tuple #[.int .i64 0, .int .i64 0, .slice none 0 0, .agg #[.int .i64 ((Rz.fail 4 Rz.pos)).e, .int .i64 ((Rz.fail 4 Rz.pos)).fat]]) (by simp [results, Tryz.results22, go_sem, z0, z1]) rfl ?_
    rw [show d = .error (((Rz.fail 4 Rz.pos)).e, ((Rz.fail 4 Rz.pos)).fat) from (by have h := ST.out; unfold St at h; rw [if_pos HE.out] at h; exact h)]
    have hk0 := K1.out.thenB RS.out.kept (by rw [HB.out]; omega)
    exact ⟨rfl, hk0.then hk7 (by simp)⟩
  replace DD := Lib.hid (show d = .ok (m, c, acc) from DD.out.trans (by unfold qEnd; rw [hat]; rfl))
  clear hat
  go_wp2_with fail
  refine (rfault_rd p Rz _ RS.out.rd).mono ?_
  rintro x wn1 ⟨rfl, hk⟩
  replace RS := Lib.hid (RS.out.kept0 hk)
  clear hk hb
  have hb2 : (Rz.e != 0) = false := by rw [HE.out]; rfl
  replace HH := Lib.hid (HH.out.keptBlt RS.out.kept (by rw [HB.out]; exact Nat.lt_succ_self _))
  obtain ⟨A1, c1, rfl⟩ := own_n RS.out.own
  go_wp2_with (first | (refine wpList_storeBlk rfl 33 (.tmp 5) (.tmp 91) rfl w.heap.size _ [.int .i64 0, .int .i64 0] HH.out rfl rfl rfl infoFault (by simp [Value.oneCell']) ?_; intro w7 hb7 hk7))
  have z0 := hb7.cell 0
  have z1 := hb7.cell 1
  simp only [List.getElem?_cons_zero, List.getElem?_cons_succ] at z0 z1
  refine bodyPost_ret (v := .tuple #[.int .i64 m, .int .i64 c, .slice A1 acc.length c1, .agg #[.int .i64 0, .int .i64 0]]) (by simp [results, Tryz.results22, go_sem, z0, z1]) rfl ?_
  rw [DD.out]
  have f6 : KeptB w.heap.size [33] wn1 w7 := by
    refine (KeptB.refl _ _ wn1).step (L := [w.heap.size]) hk7 (fun m hm => ?_)
    simp at hm; subst hm; exact ⟨Nat.le_refl _, _, _, _, HH.out, by simp⟩
  have hbw : w.heap.size ≤ B := by rw [HB.out]; omega
  have hk0 := K1.out.thenB RS.out.kept (by rw [HB.out]; omega)
  exact ⟨⟨_, rfl, own_base (own_keptB RS.out.own f6 (by decide)) hbw⟩, hk0.thenB f6 (Nat.le_refl _)⟩

set_option maxRecDepth 400000 in
theorem rencodeM_any (m c : Int) (l : List Ed) (A : Option Addr) (cc : Nat) (w : World) (hA : Reads w A (l.flatMap edV)) (hl : l.length ≤ maxLen) :
    Calls Tryz.prog 20 #[.int .i64 m, .int .i64 c, .slice A l.length cc] w (EncMPost w m c l) := by
  have HA := Lib.hid hA
  have hl2 := hl
  unfold maxLen at hl2
  clear hA
  obtain ⟨post, hpost⟩ : ∃ post : Ending → World → Prop, post = EncMPost w m c l := ⟨_, rfl⟩
  rw [← hpost]
  have HPOST := Lib.hid hpost
  clear hpost
  by_cases h1 : m < 0
  · have E0 := Lib.hid (show encMW m c l = 3 by unfold encMW; rw [if_pos (.inl h1)])
    clear hl2
    go_enter Tryz.func20, Tryz.ntmps20
    go_wp2_with fail
    rw [HPOST.out]
    exact ⟨by rw [E0.out, if_neg (by decide)] <;> rfl, Kept.refl [] _⟩
  by_cases h2 : c < 0
  · have E0 := Lib.hid (show encMW m c l = 3 by unfold encMW; rw [if_pos (.inr h2)])
    clear hl2
    go_enter Tryz.func20, Tryz.ntmps20
    go_wp2_with fail
    rw [HPOST.out]
    exact ⟨by rw [E0.out, if_neg (by decide)] <;> rfl, Kept.refl [] _⟩
  have hn12 : ¬ (m < 0 ∨ c < 0) := by omega
  by_cases h3 : 4096 < m
  · have E0 := Lib.hid (show encMW m c l = 5 by unfold encMW; rw [if_neg hn12, if_pos (by omega)])
    clear hl2
    go_enter Tryz.func20, Tryz.ntmps20
    go_wp2_with fail
    rw [HPOST.out]
    exact ⟨by rw [E0.out, if_neg (by decide)] <;> rfl, Kept.refl [] _⟩
  by_cases h3b : 4096 < c
  · have E0 := Lib.hid (show encMW m c l = 5 by unfold encMW; rw [if_neg hn12, if_pos (by omega)])
    clear hl2
    go_enter Tryz.func20, Tryz.ntmps20
    go_wp2_with fail
    rw [HPOST.out]
    exact ⟨by rw [E0.out, if_neg (by decide)] <;> rfl, Kept.refl [] _⟩
  by_cases h4 : 65536 < l.length
  · have E0 := Lib.hid (show encMW m c l = 5 by unfold encMW; rw [if_neg hn12, if_pos (by omega)])
    have h4' : (65536 : Int) < (l.length : Int) := by omega
    clear hl2
    go_enter Tryz.func20, Tryz.ntmps20
    go_wp2_with fail
    rw [HPOST.out]
    exact ⟨by rw [E0.out, if_neg (by decide)] <;> rfl, Kept.refl [] _⟩
  have h4' : ¬ (65536 : Int) < (l.length : Int) := by omega
  have hn34 : ¬ (4096 < m ∨ 4096 < c ∨ 65536 < l.length) := by omega
  have HL := Lib.hid (show l.length ≤ 65536 by omega)
  have HN12 := Lib.hid hn12
  have HN34 := Lib.hid hn34
  clear hn12 hn34
  go_enter Tryz.func20, Tryz.ntmps20
  go_upto_block 0 with (fail)
  go_cut [8] (fun i wx => i = i ∧ wx = w ∧ Hid (l.any (badT m c) = false))
  case first =>
    go_wp2_with fail
    go_loopw [8] (fun i wr => ∃ k : Nat, k ≤ l.length ∧ i = .int .i64 k ∧ wr = w ∧ Hid ((l.take k).any (badT m c) = false)) (fun i _ => l.length - (intOf i).toNat)
    case atStart => exact ⟨0, Nat.zero_le _, rfl, rfl, Lib.hid rfl⟩
    case round =>
      obtain ⟨k, hk, rfl, hww, HT⟩ := hrel
      subst hww
      by_cases hlt : k < l.length
      · obtain ⟨b, off, rfl, hbl, e0, e1, e2⟩ := edge_at HA.out hlt
        have HTK := Lib.hid (any_take (badT m c) hlt)
        by_cases q1 : l[k].1 < 0
        · have E0 := Lib.hid (show encMW m c l = 3 by unfold encMW; rw [if_neg HN12.out, if_neg HN34.out, if_pos (List.any_eq_true.2 ⟨l[k], List.getElem_mem hlt, by simp [badT, q1]⟩)])
          go_wp2_with fail
          rw [HPOST.out]
          exact ⟨by rw [E0.out, if_neg (by decide)] <;> rfl, Kept.refl [] _⟩
        by_cases q2 : m ≤ l[k].1
        · have E0 := Lib.hid (show encMW m c l = 3 by unfold encMW; rw [if_neg HN12.out, if_neg HN34.out, if_pos (List.any_eq_true.2 ⟨l[k], List.getElem_mem hlt, by simp [badT, q2]⟩)])
          go_wp2_with fail
          rw [HPOST.out]
          exact ⟨by rw [E0.out, if_neg (by decide)] <;> rfl, Kept.refl [] _⟩
        by_cases q3 : l[k].2.1 < 0
        · have E0 := Lib.hid (show encMW m c l = 3 by unfold encMW; rw [if_neg HN12.out, if_neg HN34.out, if_pos (List.any_eq_true.2 ⟨l[k], List.getElem_mem hlt, by simp [badT, q3]⟩)])
          go_wp2_with fail
          rw [HPOST.out]
          exact ⟨by rw [E0.out, if_neg (by decide)] <;> rfl, Kept.refl [] _⟩
        by_cases q4 : c ≤ l[k].2.1
        · have E0 := Lib.hid (show encMW m c l = 3 by unfold encMW; rw [if_neg HN12.out, if_neg HN34.out, if_pos (List.any_eq_true.2 ⟨l[k], List.getElem_mem hlt, by simp [badT, q4]⟩)])
          go_wp2_with fail
          rw [HPOST.out]
          exact ⟨by rw [E0.out, if_neg (by decide)] <;> rfl, Kept.refl [] _⟩
        have HBF := Lib.hid (show badT m c l[k] = false by simp [badT]; omega)
        go_wp2_with fail
        go_roundw
        case rel => exact ⟨k + 1, by omega, by go_num, by trivial, Lib.hid (by rw [HTK.out, HT.out, HBF.out]; rfl)⟩
        case measure => simp [intOf]; omega
      · have hkl : k = l.length := by omega
        subst hkl
        have hlt2 : ¬ (l.length : Int) < (l.length : Int) := by omega
        go_wp2_with fail
        go_meet
        exact ⟨trivial, rfl, Lib.hid (by have := HT.out; rwa [List.take_length] at this)⟩
  case rest =>
  obtain ⟨_, hwc, HNB⟩ := hcut
  subst hwc
  have E0 := Lib.hid (show encMW m c l = if risesE l = false then 6 else 0 by unfold encMW; rw [if_neg HN12.out, if_neg HN34.out, if_neg (by rw [HNB.out]; decide)])
  clear h1 h2 h3 h3b h4 h4' hl2
  have CV : (convert 26 26 (.slice (some ⟨wc.heap.size, 0, none⟩) 4 4)).run Tryz.prog (wc.alloc (.cells #[.int .u8 70, .int .u8 82, .int .u8 77, .int .u8 49] 5)) = .ok (.slice (some ⟨wc.heap.size, 0, none⟩) 4 4) (wc.alloc (.cells #[.int .u8 70, .int .u8 82, .int .u8 77, .int .u8 49] 5 (4, 5))) := Lib.run_convert_bytes_const wc 26 5 #[.int .u8 70, .int .u8 82, .int .u8 77, .int .u8 49] 4 4 Tryz.underlying26 Tryz.underlying5
  have K0 := Lib.hid ((Kept.refl [] wc).alloc (.cells #[.int .u8 70, .int .u8 82, .int .u8 77, .int .u8 49] 5 (4, 5)))
  have HB4 := Lib.hid (show Reads _ _ (frm1.map byteV) by rw [frm1_V]; exact reads_marked wc [.int .u8 70, .int .u8 82, .int .u8 77, .int .u8 49] 5 4 5)
  go_wp2_with fail
  rw [show m % 4294967296 = ((u32of m : Nat) : Int) by unfold u32of; omega]
  refine (rput32_any (u32of m) _ (u32of_lt _)).mono ?_
  rintro z wqa ⟨v, rfl, ho, hk_⟩
  obtain ⟨Aqs, cqs, rfl⟩ := own_n ho
  have HS := Lib.hid (Reads.of_own ho)
  replace HB4 := Lib.hid (HB4.out.kept0 hk_)
  replace K0 := Lib.hid (K0.out.trans hk_)
  have HNN := Lib.hid (show (le (u32of m) 4).map byteV ≠ [] by intro h; have := congrArg List.length h; simp [le_length] at this)
  clear hk_ ho
  go_upto_region 12 with (first | (at_builtin; refine wpList_appG rfl (.tmp 68) (.tmp 71) _ rfl 5 (.int .u8 0) 1 1 Tryz.underlying26 infoU8 rfl (by decide) wc.heap.size wc.heap.size 0 4 4 (frm1.map byteV) rfl rfl HB4.out Aqs 4 cqs ((le (u32of m) 4).map byteV) rfl (by simp [le_length]) HS.out HNN.out (by omega) (by omega) (by unfold maxLen; omega) K0.out.size ?_; intro va wq howna hka; have HO := Lib.hid (OwnB.app (l := frm1) (m := le (u32of m) 4) howna (by simp [le_length])); have Kp := Lib.hid (K0.out.trans hka); obtain ⟨Aq, Nq, cq, rfl⟩ := own_slice HO.out; clear howna hka))
  replace K0 := Kp
  clear Kp HB4 HNN CV HS
  go_wp2_with fail
  rw [show c % 4294967296 = ((u32of c : Nat) : Int) by unfold u32of; omega]
  refine (rput32_any (u32of c) _ (u32of_lt _)).mono ?_
  rintro z wra ⟨v, rfl, ho, hk_⟩
  obtain ⟨Ars, crs, rfl⟩ := own_n ho
  have HS := Lib.hid (Reads.of_own ho)
  replace HO := Lib.hid (HO.out.kept0 hk_)
  replace K0 := Lib.hid (K0.out.trans hk_)
  have B1 := Lib.hid (show ((frm1 ++ le (u32of m) 4).length + 4) * 1 ≤ 140737488355328 by have := (show (frm1 ++ le (u32of m) 4).length = 8 by rw [List.length_append, le_length]; rfl); omega)
  have B2 := Lib.hid (show (frm1 ++ le (u32of m) 4).length + 4 ≤ maxLen by have := (show (frm1 ++ le (u32of m) 4).length = 8 by rw [List.length_append, le_length]; rfl); unfold maxLen; omega)
  clear hk_ ho
  go_upto_region 13 with (first | (at_builtin; refine wpList_app _ rfl (.tmp 73) (.tmp 76) _ rfl 5 (.int .u8 0) 1 1 Tryz.underlying26 infoU8 rfl (by decide) wc.heap.size (.slice Aq Nq cq) _ _ rfl HO.out Ars 4 crs ((le (u32of c) 4).map byteV) rfl (by simp [le_length]) HS.out (bytes_ones _) B1.out B2.out K0.out.size ?_; intro va wr howna hka hba; have HOn := Lib.hid (OwnB.app howna (by rw [le_length])); have Kn := Lib.hid (K0.out.app hka HO.out); obtain ⟨Ar, Nr, cr, rfl⟩ := own_slice HOn.out; clear howna hka hba))
  replace HO := HOn
  replace K0 := Kn
  clear HOn Kn HS B1 B2
  go_wp2_with fail
  rw [show (l.length : Int) % 4294967296 = ((u32of (l.length : Int) : Nat) : Int) by unfold u32of; omega]
  refine (rput32_any (u32of (l.length : Int)) _ (u32of_lt _)).mono ?_
  rintro z wsa ⟨v, rfl, ho, hk_⟩
  obtain ⟨Ass, css, rfl⟩ := own_n ho
  have HS := Lib.hid (Reads.of_own ho)
  replace HO := Lib.hid (HO.out.kept0 hk_)
  replace K0 := Lib.hid (K0.out.trans hk_)
  have B1 := Lib.hid (show ((frm1 ++ le (u32of m) 4 ++ le (u32of c) 4).length + 4) * 1 ≤ 140737488355328 by have := (show (frm1 ++ le (u32of m) 4 ++ le (u32of c) 4).length = 12 by rw [List.length_append, List.length_append, le_length, le_length]; rfl); omega)
  have B2 := Lib.hid (show (frm1 ++ le (u32of m) 4 ++ le (u32of c) 4).length + 4 ≤ maxLen by have := (show (frm1 ++ le (u32of m) 4 ++ le (u32of c) 4).length = 12 by rw [List.length_append, List.length_append, le_length, le_length]; rfl); unfold maxLen; omega)
  clear hk_ ho
  go_upto_region 14 with (first | (at_builtin; refine wpList_app _ rfl (.tmp 78) (.tmp 82) _ rfl 5 (.int .u8 0) 1 1 Tryz.underlying26 infoU8 rfl (by decide) wc.heap.size (.slice Ar Nr cr) _ _ rfl HO.out Ass 4 css ((le (u32of (l.length : Int)) 4).map byteV) rfl (by simp [le_length]) HS.out (bytes_ones _) B1.out B2.out K0.out.size ?_; intro va ws howna hka hba; have HOn := Lib.hid (OwnB.app howna (by rw [le_length])); have Kn := Lib.hid (K0.out.app hka HO.out); obtain ⟨As, Ns, cs, rfl⟩ := own_slice HOn.out; clear howna hka hba))
  replace HO := HOn
  replace K0 := Kn
  clear HOn Kn HS B1 B2
  replace HO := Lib.hid (show OwnB ws wc.heap.size (.slice As Ns cs) (hdrM m c l.length) from by have h := HO.out; unfold hdrM; rw [fours3]; simpa [fours, List.append_assoc] using h)
  go_wp2_with fail
  go_loopw [9, 10] (fun v i wx => ∃ k : Nat, k ≤ l.length ∧ i = .int .i64 k ∧ Hid (OwnB wx wc.heap.size v (hdrM m c l.length ++ (l.take k).flatMap tripB)) ∧ Hid (∀ j (h : j + 1 < l.length), j + 1 < k → keyLt (keyOf l[j]) (keyOf l[j + 1]) = true) ∧ Hid (Kept [] wc wx)) (fun _ i _ => l.length - (intOf i).toNat)
  case atStart => exact ⟨0, Nat.zero_le _, rfl, Lib.hid (by simpa using HO.out), Lib.hid (fun j h hj => absurd hj (by omega)), K0⟩
  case round =>
    clear HO K0
    obtain ⟨k, hk, rfl, HO, HN, K0⟩ := hrel
    obtain ⟨v, hv⟩ : ∃ v, v = u9 := ⟨_, rfl⟩
    subst hv
    have hL65 := HL.out
    by_cases hlt : k < l.length
    · obtain ⟨A3, N3, c3, rfl⟩ := own_slice HO.out
      have HCL := Lib.hid (catM_len m c l.length l k hk HL.out)
      have HST := Lib.hid (flatB_take tripB hlt)
      generalize hcur : hdrM m c l.length ++ (l.take k).flatMap tripB = cur at HO HCL
      have HCU := Lib.hid hcur
      clear hcur
      by_cases hz : k = 0
      · have HZ := Lib.hid hz
        have G3 : ¬ 0 < k := by omega
        have G4 : decide ((0 : Int) < (k : Int)) = false := by simp; exact hz
        clear hz
        go_upto_region 17 with (fail)
        go_quiet (fail)
        clear G3 G4
        replace K0 := Lib.hid (K0.out.trans ((Kept.refl [] _).drewN nq))
        replace HO := Lib.hid (HO.out.kept0 ((Kept.refl [] _).drewN nq))
        obtain ⟨b, off, hbo, hbl, e0, e1, e2⟩ := edge_at (HA.out.kept0 K0.out) hlt
        first | obtain rfl := hbo | cases hbo
        go_wp2_with fail
        rw [show l[k].1 % 4294967296 = ((u32of l[k].1 : Nat) : Int) by unfold u32of; omega]
        refine (rput32_any (u32of l[k].1) _ (u32of_lt _)).mono ?_
        rintro z wta ⟨v, rfl, ho, hk_⟩
        obtain ⟨Ats, cts, rfl⟩ := own_n ho
        have HS := Lib.hid (Reads.of_own ho)
        replace HO := Lib.hid (HO.out.kept0 hk_)
        replace K0 := Lib.hid (K0.out.trans hk_)
        have B1 := Lib.hid (show (cur.length + 4) * 1 ≤ 140737488355328 by have := HCL.out; omega)
        have B2 := Lib.hid (show cur.length + 4 ≤ maxLen by have := HCL.out; unfold maxLen; omega)
        clear hk_ ho e0 e1 e2 hbl
        go_upto_region 20 with (first | (at_builtin; refine wpList_app _ rfl (.tmp 105) (.tmp 112) _ rfl 5 (.int .u8 0) 1 1 Tryz.underlying26 infoU8 rfl (by decide) wc.heap.size (.slice A3 N3 c3) _ _ rfl HO.out Ats 4 cts ((le (u32of l[k].1) 4).map byteV) rfl (by simp [le_length]) HS.out (bytes_ones _) B1.out B2.out K0.out.size ?_; intro va wt howna hka hba; have HOn := Lib.hid (OwnB.app howna (by rw [le_length])); have Kn := Lib.hid (K0.out.app hka HO.out); obtain ⟨At, Nt, ct, rfl⟩ := own_slice HOn.out; clear howna hka hba))
        replace HO := HOn
        replace K0 := Kn
        clear HOn Kn HS B1 B2
        obtain ⟨b, off, hbo, hbl, e0, e1, e2⟩ := edge_at (HA.out.kept0 K0.out) hlt
        first | obtain rfl := hbo | cases hbo
        go_wp2_with fail
        rw [show l[k].2.1 % 4294967296 = ((u32of l[k].2.1 : Nat) : Int) by unfold u32of; omega]
        refine (rput32_any (u32of l[k].2.1) _ (u32of_lt _)).mono ?_
        rintro z wxa ⟨v, rfl, ho, hk_⟩
        obtain ⟨Axs, cxs, rfl⟩ := own_n ho
        have HS := Lib.hid (Reads.of_own ho)
        replace HO := Lib.hid (HO.out.kept0 hk_)
        replace K0 := Lib.hid (K0.out.trans hk_)
        have B1 := Lib.hid (show ((cur ++ le (u32of l[k].1) 4).length + 4) * 1 ≤ 140737488355328 by have := (show (cur ++ le (u32of l[k].1) 4).length ≤ 1100004 by rw [List.length_append, le_length]; have := HCL.out; omega); omega)
        have B2 := Lib.hid (show (cur ++ le (u32of l[k].1) 4).length + 4 ≤ maxLen by have := (show (cur ++ le (u32of l[k].1) 4).length ≤ 1100004 by rw [List.length_append, le_length]; have := HCL.out; omega); unfold maxLen; omega)
        clear hk_ ho e0 e1 e2 hbl
        go_upto_region 21 with (first | (at_builtin; refine wpList_app _ rfl (.tmp 114) (.tmp 121) _ rfl 5 (.int .u8 0) 1 1 Tryz.underlying26 infoU8 rfl (by decide) wc.heap.size (.slice At Nt ct) _ _ rfl HO.out Axs 4 cxs ((le (u32of l[k].2.1) 4).map byteV) rfl (by simp [le_length]) HS.out (bytes_ones _) B1.out B2.out K0.out.size ?_; intro va wx howna hka hba; have HOn := Lib.hid (OwnB.app howna (by rw [le_length])); have Kn := Lib.hid (K0.out.app hka HO.out); obtain ⟨Ax, Nx, cx, rfl⟩ := own_slice HOn.out; clear howna hka hba))
        replace HO := HOn
        replace K0 := Kn
        clear HOn Kn HS B1 B2
        obtain ⟨b, off, hbo, hbl, e0, e1, e2⟩ := edge_at (HA.out.kept0 K0.out) hlt
        first | obtain rfl := hbo | cases hbo
        go_wp2_with fail
        refine (rput64_any l[k].2.2 _).mono ?_
        rintro z wya ⟨v, rfl, ho, hk_⟩
        obtain ⟨Ays, cys, rfl⟩ := own_n ho
        have HS := Lib.hid (Reads.of_own ho)
        replace HO := Lib.hid (HO.out.kept0 hk_)
        replace K0 := Lib.hid (K0.out.trans hk_)
        have B1 := Lib.hid (show ((cur ++ le (u32of l[k].1) 4 ++ le (u32of l[k].2.1) 4).length + 8) * 1 ≤ 140737488355328 by have := (show (cur ++ le (u32of l[k].1) 4 ++ le (u32of l[k].2.1) 4).length ≤ 1100008 by rw [List.length_append, List.length_append, le_length, le_length]; have := HCL.out; omega); omega)
        have B2 := Lib.hid (show (cur ++ le (u32of l[k].1) 4 ++ le (u32of l[k].2.1) 4).length + 8 ≤ maxLen by have := (show (cur ++ le (u32of l[k].1) 4 ++ le (u32of l[k].2.1) 4).length ≤ 1100008 by rw [List.length_append, List.length_append, le_length, le_length]; have := HCL.out; omega); unfold maxLen; omega)
        clear hk_ ho e0 e1 e2 hbl
        go_upto_region 16 with (first | (at_builtin; refine wpList_app _ rfl (.tmp 123) (.tmp 129) _ rfl 5 (.int .u8 0) 1 1 Tryz.underlying26 infoU8 rfl (by decide) wc.heap.size (.slice Ax Nx cx) _ _ rfl HO.out Ays 8 cys ((le (u64of l[k].2.2) 8).map byteV) rfl (by simp [le_length]) HS.out (bytes_ones _) B1.out B2.out K0.out.size ?_; intro va wy howna hka hba; have HOn := Lib.hid (OwnB.app howna (by rw [le_length])); have Kn := Lib.hid (K0.out.app hka HO.out); obtain ⟨Ay, Ny, cy, rfl⟩ := own_slice HOn.out; clear howna hka hba))
        replace HO := HOn
        replace K0 := Kn
        clear HOn Kn HS B1 B2
        go_wp2_with fail
        go_roundw
        case rel => exact ⟨k + 1, by omega, by go_num, Lib.hid (by have h := HO.out; rw [← HCU.out] at h; rw [HST.out, tripB]; simpa [fours, eights, List.append_assoc] using h), Lib.hid (fun j h hj => absurd hj (by have := HZ.out; omega)), K0⟩
        case measure => simp [intOf]; omega
      · obtain ⟨j, rfl⟩ : ∃ j, k = j + 1 := ⟨k - 1, by omega⟩
        have hkj : ((j + 1 : Nat) : Int) = (j : Int) + 1 := by omega
        have hlt2 : (j : Int) + 1 < (l.length : Int) := by omega
        go_upto_region 17 with (fail)
        rw [hkj]
        obtain ⟨b, off, eb, hx⟩ := edge_range (HA.out.kept0 K0.out) (show j < l.length by omega)
        obtain ⟨b2, o2, eA, hy⟩ := edge_range (HA.out.kept0 K0.out) hlt
        subst eb
        cases eA
        obtain ⟨X, hX⟩ : ∃ X, X = l[j]'(by omega) := ⟨_, rfl⟩
        obtain ⟨Y, hY⟩ : ∃ Y, Y = l[j + 1] := ⟨_, rfl⟩
        rw [← hX] at hx
        rw [← hY] at hy
        have HX := Lib.hid hx
        have HY := Lib.hid hy
        have EX := Lib.hid hX
        have EY := Lib.hid hY
        clear hx hy hX hY hz
        have n1 : ¬ l.length ≤ j := by omega
        have n2 : ¬ ((j : Int) + 1 < 0) := by omega
        have n3 : ¬ (l.length : Int) ≤ (j : Int) + 1 := by omega
        have n5 : j < l.length := by omega
        have n6 : ¬ l.length ≤ j + 1 := by omega
        by_cases hq : keyLt (X.1, X.2.1) (Y.1, Y.2.1) = true
        · have HQ := Lib.hid hq
          clear hq
          refine wp_region_held_drew (S := (fun w' => w'.rangeAt b (off + j * 3) (edV X) ∧ w'.rangeAt b (off + (j + 1) * 3) (edV Y))) (by kernel_rfl) ?_ (fun hHeld => ?_)
          · exact ⟨HX.out, HY.out⟩
          replace K0 := Lib.hid (K0.out.drew)
          replace HO := Lib.hid (HO.out.kept0 ((Kept.refl [] _).drew))
          refine tkYes (i := 0) (v := ?_) rfl rfl (by kernel_rfl) (by kernel_rfl) (by kernel_rfl) (fun _ _ _ h => h) (by rfl) ?_ (by assumption) ?_
          rotate_left
          · (intro w' hSw; (try dsimp only at hSw); go_simp; try with_reducible rfl)
          try simp only [Act.put, List.setIfInBounds_toArray, List.set_cons_zero, List.set_cons_succ]
          refine tkYes (i := 1) (v := .bool true) rfl rfl (by kernel_rfl) (by kernel_rfl) (by kernel_rfl) (fun _ _ _ h => h) (by rfl) ?_ (by assumption) ?_
          skip
          · (intro w' hSw; (try dsimp only at hSw); go_simp; try (simp; omega))
          try simp only [Act.put, List.setIfInBounds_toArray, List.set_cons_zero, List.set_cons_succ]
          refine tkYes (i := 2) (v := ?_) rfl rfl (by kernel_rfl) (by kernel_rfl) (by kernel_rfl) (fun _ _ _ h => h) (by rfl) ?_ (by assumption) ?_
          rotate_left
          · (intro w' hSw; (try dsimp only at hSw); go_simp; try with_reducible rfl)
          try simp only [Act.put, List.setIfInBounds_toArray, List.set_cons_zero, List.set_cons_succ]
          refine tkYes (i := 3) (v := ?_) rfl rfl (by kernel_rfl) (by kernel_rfl) (by kernel_rfl) (fun _ _ _ h => h) (by rfl) ?_ (by assumption) ?_
          rotate_left
          · (intro w' hSw; (try dsimp only at hSw); go_simp; try with_reducible rfl)
          try simp only [Act.put, List.setIfInBounds_toArray, List.set_cons_zero, List.set_cons_succ]
          refine tkYes (i := 4) (v := ?_) rfl rfl (by kernel_rfl) (by kernel_rfl) (by kernel_rfl) (fun _ _ _ h => h) (by rfl) ?_ (by assumption) ?_
          rotate_left
          · (intro w' hSw; (try dsimp only at hSw); go_simp; try with_reducible rfl)
          try simp only [Act.put, List.setIfInBounds_toArray, List.set_cons_zero, List.set_cons_succ]
          refine tkYes (i := 5) (v := .int .i64 (j : Int)) rfl rfl (by kernel_rfl) (by kernel_rfl) (by kernel_rfl) (fun _ _ _ h => h) (by rfl) ?_ (by assumption) ?_
          skip
          · (intro w' hSw; (try dsimp only at hSw); go_simp; try rw [IntWalk.i64_in _ (by omega)])
          try simp only [Act.put, List.setIfInBounds_toArray, List.set_cons_zero, List.set_cons_succ]
          refine tkYes (i := 6) (v := .pointer (some ⟨b, off + j * 3, none⟩)) rfl rfl (by kernel_rfl) (by kernel_rfl) (by kernel_rfl) (fun _ _ _ h => h) (by rfl) ?_ (by assumption) ?_
          skip
          · (intro w' hSw; (try dsimp only at hSw); go_simp; try (simp; done))
          try simp only [Act.put, List.setIfInBounds_toArray, List.set_cons_zero, List.set_cons_succ]
          refine tkLoad (i := 7) 54 (.tmp 96) b (off + j * 3) (edV X) _ rfl rfl (by kernel_rfl) (by kernel_rfl) (by kernel_rfl) (fun _ _ _ h => h) (by rfl) rfl rfl (fun w hw => hw.1) Tryz.underlying54 rfl infoTriple (by assumption) ?_
          try simp only [Act.put, List.setIfInBounds_toArray, List.set_cons_zero, List.set_cons_succ]
          refine tkYes (i := 8) (v := ?_) rfl rfl (by kernel_rfl) (by kernel_rfl) (by kernel_rfl) (fun _ _ _ h => h) (by rfl) ?_ (by assumption) ?_
          rotate_left
          · (intro w' hSw; (try dsimp only at hSw); go_simp; try with_reducible rfl)
          try simp only [Act.put, List.setIfInBounds_toArray, List.set_cons_zero, List.set_cons_succ]
          refine tkYes (i := 9) (v := ?_) rfl rfl (by kernel_rfl) (by kernel_rfl) (by kernel_rfl) (fun _ _ _ h => h) (by rfl) ?_ (by assumption) ?_
          rotate_left
          · (intro w' hSw; (try dsimp only at hSw); go_simp; try with_reducible rfl)
          try simp only [Act.put, List.setIfInBounds_toArray, List.set_cons_zero, List.set_cons_succ]
          refine tkYes (i := 10) (v := .pointer (some ⟨b, off + (j + 1) * 3, none⟩)) rfl rfl (by kernel_rfl) (by kernel_rfl) (by kernel_rfl) (fun _ _ _ h => h) (by rfl) ?_ (by assumption) ?_
          skip
          · (intro w' hSw; (try dsimp only at hSw); go_simp; try (simp; done))
          try simp only [Act.put, List.setIfInBounds_toArray, List.set_cons_zero, List.set_cons_succ]
          refine tkLoad (i := 11) 54 (.tmp 100) b (off + (j + 1) * 3) (edV Y) _ rfl rfl (by kernel_rfl) (by kernel_rfl) (by kernel_rfl) (fun _ _ _ h => h) (by rfl) rfl rfl (fun w hw => hw.2) Tryz.underlying54 rfl infoTriple (by assumption) ?_
          try simp only [Act.put, List.setIfInBounds_toArray, List.set_cons_zero, List.set_cons_succ]
          refine wpAnyH_ready (rs := [12]) (by kernel_rfl) (by simp) ?_
          refine AllReadyH.cons rfl (fun K hK => ?_) AllReadyH.nil
          go_simp
          refine (ahead_any X Y _).mono ?_
          rintro _ w5 ⟨rfl, hk5⟩
          rw [show keyLt (X.1, X.2.1) (Y.1, Y.2.1) = true from HQ.out]
          replace K0 := Lib.hid (K0.out.trans hk5)
          replace HO := Lib.hid (HO.out.kept0 hk5)
          refine hK.out _ _ ⟨fun i u hu => Kept.cell_lt hk5 (HX.out i u hu), fun i u hu => Kept.cell_lt hk5 (HY.out i u hu)⟩ (fun hHeld2 => ?_)
          clear hK hk5
          try simp only [Act.put, List.setIfInBounds_toArray, List.set_cons_zero, List.set_cons_succ]
          refine tkYes (i := 13) (v := ?_) rfl rfl (by kernel_rfl) (by kernel_rfl) (by kernel_rfl) (fun _ _ _ h => h) (by rfl) ?_ (by assumption) ?_
          rotate_left
          · (intro w' hSw; (try dsimp only at hSw); go_simp; try with_reducible rfl)
          try simp only [Act.put, List.setIfInBounds_toArray, List.set_cons_zero, List.set_cons_succ]
          refine tkYes (i := 14) (v := ?_) rfl rfl (by kernel_rfl) (by kernel_rfl) (by kernel_rfl) (fun _ _ _ h => h) (by rfl) ?_ (by assumption) ?_
          rotate_left
          · (intro w' hSw; (try dsimp only at hSw); go_simp; try with_reducible rfl)
          try simp only [Act.put, List.setIfInBounds_toArray, List.set_cons_zero, List.set_cons_succ]
          refine wpAnyH_done (by kernel_rfl) ?_ _
          rw [← hkj]
          clear hHeld hHeld2 n1 n2 n3 n5 n6 hlt2 hkj
          obtain ⟨b, off, hbo, hbl, e0, e1, e2⟩ := edge_at (HA.out.kept0 K0.out) hlt
          first | obtain rfl := hbo | cases hbo
          go_wp2_with fail
          rw [show l[(j + 1)].1 % 4294967296 = ((u32of l[(j + 1)].1 : Nat) : Int) by unfold u32of; omega]
          refine (rput32_any (u32of l[(j + 1)].1) _ (u32of_lt _)).mono ?_
          rintro z wta ⟨v, rfl, ho, hk_⟩
          obtain ⟨Ats, cts, rfl⟩ := own_n ho
          have HS := Lib.hid (Reads.of_own ho)
          replace HO := Lib.hid (HO.out.kept0 hk_)
          replace K0 := Lib.hid (K0.out.trans hk_)
          have B1 := Lib.hid (show (cur.length + 4) * 1 ≤ 140737488355328 by have := HCL.out; omega)
          have B2 := Lib.hid (show cur.length + 4 ≤ maxLen by have := HCL.out; unfold maxLen; omega)
          clear hk_ ho e0 e1 e2 hbl
          go_upto_region 20 with (first | (at_builtin; refine wpList_app _ rfl (.tmp 105) (.tmp 112) _ rfl 5 (.int .u8 0) 1 1 Tryz.underlying26 infoU8 rfl (by decide) wc.heap.size (.slice A3 N3 c3) _ _ rfl HO.out Ats 4 cts ((le (u32of l[(j + 1)].1) 4).map byteV) rfl (by simp [le_length]) HS.out (bytes_ones _) B1.out B2.out K0.out.size ?_; intro va wt howna hka hba; have HOn := Lib.hid (OwnB.app howna (by rw [le_length])); have Kn := Lib.hid (K0.out.app hka HO.out); obtain ⟨At, Nt, ct, rfl⟩ := own_slice HOn.out; clear howna hka hba))
          replace HO := HOn
          replace K0 := Kn
          clear HOn Kn HS B1 B2
          obtain ⟨b, off, hbo, hbl, e0, e1, e2⟩ := edge_at (HA.out.kept0 K0.out) hlt
          first | obtain rfl := hbo | cases hbo
          go_wp2_with fail
          rw [show l[(j + 1)].2.1 % 4294967296 = ((u32of l[(j + 1)].2.1 : Nat) : Int) by unfold u32of; omega]
          refine (rput32_any (u32of l[(j + 1)].2.1) _ (u32of_lt _)).mono ?_
          rintro z wxa ⟨v, rfl, ho, hk_⟩
          obtain ⟨Axs, cxs, rfl⟩ := own_n ho
          have HS := Lib.hid (Reads.of_own ho)
          replace HO := Lib.hid (HO.out.kept0 hk_)
          replace K0 := Lib.hid (K0.out.trans hk_)
          have B1 := Lib.hid (show ((cur ++ le (u32of l[(j + 1)].1) 4).length + 4) * 1 ≤ 140737488355328 by have := (show (cur ++ le (u32of l[(j + 1)].1) 4).length ≤ 1100004 by rw [List.length_append, le_length]; have := HCL.out; omega); omega)
          have B2 := Lib.hid (show (cur ++ le (u32of l[(j + 1)].1) 4).length + 4 ≤ maxLen by have := (show (cur ++ le (u32of l[(j + 1)].1) 4).length ≤ 1100004 by rw [List.length_append, le_length]; have := HCL.out; omega); unfold maxLen; omega)
          clear hk_ ho e0 e1 e2 hbl
          go_upto_region 21 with (first | (at_builtin; refine wpList_app _ rfl (.tmp 114) (.tmp 121) _ rfl 5 (.int .u8 0) 1 1 Tryz.underlying26 infoU8 rfl (by decide) wc.heap.size (.slice At Nt ct) _ _ rfl HO.out Axs 4 cxs ((le (u32of l[(j + 1)].2.1) 4).map byteV) rfl (by simp [le_length]) HS.out (bytes_ones _) B1.out B2.out K0.out.size ?_; intro va wx howna hka hba; have HOn := Lib.hid (OwnB.app howna (by rw [le_length])); have Kn := Lib.hid (K0.out.app hka HO.out); obtain ⟨Ax, Nx, cx, rfl⟩ := own_slice HOn.out; clear howna hka hba))
          replace HO := HOn
          replace K0 := Kn
          clear HOn Kn HS B1 B2
          obtain ⟨b, off, hbo, hbl, e0, e1, e2⟩ := edge_at (HA.out.kept0 K0.out) hlt
          first | obtain rfl := hbo | cases hbo
          go_wp2_with fail
          refine (rput64_any l[(j + 1)].2.2 _).mono ?_
          rintro z wya ⟨v, rfl, ho, hk_⟩
          obtain ⟨Ays, cys, rfl⟩ := own_n ho
          have HS := Lib.hid (Reads.of_own ho)
          replace HO := Lib.hid (HO.out.kept0 hk_)
          replace K0 := Lib.hid (K0.out.trans hk_)
          have B1 := Lib.hid (show ((cur ++ le (u32of l[(j + 1)].1) 4 ++ le (u32of l[(j + 1)].2.1) 4).length + 8) * 1 ≤ 140737488355328 by have := (show (cur ++ le (u32of l[(j + 1)].1) 4 ++ le (u32of l[(j + 1)].2.1) 4).length ≤ 1100008 by rw [List.length_append, List.length_append, le_length, le_length]; have := HCL.out; omega); omega)
          have B2 := Lib.hid (show (cur ++ le (u32of l[(j + 1)].1) 4 ++ le (u32of l[(j + 1)].2.1) 4).length + 8 ≤ maxLen by have := (show (cur ++ le (u32of l[(j + 1)].1) 4 ++ le (u32of l[(j + 1)].2.1) 4).length ≤ 1100008 by rw [List.length_append, List.length_append, le_length, le_length]; have := HCL.out; omega); unfold maxLen; omega)
          clear hk_ ho e0 e1 e2 hbl
          go_upto_region 16 with (first | (at_builtin; refine wpList_app _ rfl (.tmp 123) (.tmp 129) _ rfl 5 (.int .u8 0) 1 1 Tryz.underlying26 infoU8 rfl (by decide) wc.heap.size (.slice Ax Nx cx) _ _ rfl HO.out Ays 8 cys ((le (u64of l[(j + 1)].2.2) 8).map byteV) rfl (by simp [le_length]) HS.out (bytes_ones _) B1.out B2.out K0.out.size ?_; intro va wy howna hka hba; have HOn := Lib.hid (OwnB.app howna (by rw [le_length])); have Kn := Lib.hid (K0.out.app hka HO.out); obtain ⟨Ay, Ny, cy, rfl⟩ := own_slice HOn.out; clear howna hka hba))
          replace HO := HOn
          replace K0 := Kn
          clear HOn Kn HS B1 B2
          go_wp2_with fail
          go_roundw
          case rel => exact ⟨(j + 1) + 1, by omega, by go_num, Lib.hid (by have h := HO.out; rw [← HCU.out] at h; rw [HST.out, tripB]; simpa [fours, eights, List.append_assoc] using h), Lib.hid (fun i h hi => (Nat.lt_succ_iff_lt_or_eq.1 (show i < j + 1 by omega)).elim (fun hh => HN.out i h (by omega)) (fun hh => by subst hh; have := HQ.out; rw [EX.out, EY.out] at this; exact this)), K0⟩
          case measure => simp [intOf]; omega
        · replace hq : keyLt (X.1, X.2.1) (Y.1, Y.2.1) = false := by simpa using hq
          have HQ := Lib.hid hq
          clear hq
          have E6 := Lib.hid (show encMW m c l = 6 by
            rw [E0.out, if_pos]
            refine risesE_false (fun hr => ?_)
            have h1 := hr j hlt
            have h2 := HQ.out
            rw [EX.out, EY.out] at h2
            exact absurd (h1.symm.trans h2) (by decide))
          refine wp_region_held_drew (S := (fun w' => w'.rangeAt b (off + j * 3) (edV X) ∧ w'.rangeAt b (off + (j + 1) * 3) (edV Y))) (by kernel_rfl) ?_ (fun hHeld => ?_)
          · exact ⟨HX.out, HY.out⟩
          replace K0 := Lib.hid (K0.out.drew)
          replace HO := Lib.hid (HO.out.kept0 ((Kept.refl [] _).drew))
          refine tkYes (i := 0) (v := ?_) rfl rfl (by kernel_rfl) (by kernel_rfl) (by kernel_rfl) (fun _ _ _ h => h) (by rfl) ?_ (by assumption) ?_
          rotate_left
          · (intro w' hSw; (try dsimp only at hSw); go_simp; try with_reducible rfl)
          try simp only [Act.put, List.setIfInBounds_toArray, List.set_cons_zero, List.set_cons_succ]
          refine tkYes (i := 1) (v := .bool true) rfl rfl (by kernel_rfl) (by kernel_rfl) (by kernel_rfl) (fun _ _ _ h => h) (by rfl) ?_ (by assumption) ?_
          skip
          · (intro w' hSw; (try dsimp only at hSw); go_simp; try (simp; omega))
          try simp only [Act.put, List.setIfInBounds_toArray, List.set_cons_zero, List.set_cons_succ]
          refine tkYes (i := 2) (v := ?_) rfl rfl (by kernel_rfl) (by kernel_rfl) (by kernel_rfl) (fun _ _ _ h => h) (by rfl) ?_ (by assumption) ?_
          rotate_left
          · (intro w' hSw; (try dsimp only at hSw); go_simp; try with_reducible rfl)
          try simp only [Act.put, List.setIfInBounds_toArray, List.set_cons_zero, List.set_cons_succ]
          refine tkYes (i := 3) (v := ?_) rfl rfl (by kernel_rfl) (by kernel_rfl) (by kernel_rfl) (fun _ _ _ h => h) (by rfl) ?_ (by assumption) ?_
          rotate_left
          · (intro w' hSw; (try dsimp only at hSw); go_simp; try with_reducible rfl)
          try simp only [Act.put, List.setIfInBounds_toArray, List.set_cons_zero, List.set_cons_succ]
          refine tkYes (i := 4) (v := ?_) rfl rfl (by kernel_rfl) (by kernel_rfl) (by kernel_rfl) (fun _ _ _ h => h) (by rfl) ?_ (by assumption) ?_
          rotate_left
          · (intro w' hSw; (try dsimp only at hSw); go_simp; try with_reducible rfl)
          try simp only [Act.put, List.setIfInBounds_toArray, List.set_cons_zero, List.set_cons_succ]
          refine tkYes (i := 5) (v := .int .i64 (j : Int)) rfl rfl (by kernel_rfl) (by kernel_rfl) (by kernel_rfl) (fun _ _ _ h => h) (by rfl) ?_ (by assumption) ?_
          skip
          · (intro w' hSw; (try dsimp only at hSw); go_simp; try rw [IntWalk.i64_in _ (by omega)])
          try simp only [Act.put, List.setIfInBounds_toArray, List.set_cons_zero, List.set_cons_succ]
          refine tkYes (i := 6) (v := .pointer (some ⟨b, off + j * 3, none⟩)) rfl rfl (by kernel_rfl) (by kernel_rfl) (by kernel_rfl) (fun _ _ _ h => h) (by rfl) ?_ (by assumption) ?_
          skip
          · (intro w' hSw; (try dsimp only at hSw); go_simp; try (simp; done))
          try simp only [Act.put, List.setIfInBounds_toArray, List.set_cons_zero, List.set_cons_succ]
          refine tkLoad (i := 7) 54 (.tmp 96) b (off + j * 3) (edV X) _ rfl rfl (by kernel_rfl) (by kernel_rfl) (by kernel_rfl) (fun _ _ _ h => h) (by rfl) rfl rfl (fun w hw => hw.1) Tryz.underlying54 rfl infoTriple (by assumption) ?_
          try simp only [Act.put, List.setIfInBounds_toArray, List.set_cons_zero, List.set_cons_succ]
          refine tkYes (i := 8) (v := ?_) rfl rfl (by kernel_rfl) (by kernel_rfl) (by kernel_rfl) (fun _ _ _ h => h) (by rfl) ?_ (by assumption) ?_
          rotate_left
          · (intro w' hSw; (try dsimp only at hSw); go_simp; try with_reducible rfl)
          try simp only [Act.put, List.setIfInBounds_toArray, List.set_cons_zero, List.set_cons_succ]
          refine tkYes (i := 9) (v := ?_) rfl rfl (by kernel_rfl) (by kernel_rfl) (by kernel_rfl) (fun _ _ _ h => h) (by rfl) ?_ (by assumption) ?_
          rotate_left
          · (intro w' hSw; (try dsimp only at hSw); go_simp; try with_reducible rfl)
          try simp only [Act.put, List.setIfInBounds_toArray, List.set_cons_zero, List.set_cons_succ]
          refine tkYes (i := 10) (v := .pointer (some ⟨b, off + (j + 1) * 3, none⟩)) rfl rfl (by kernel_rfl) (by kernel_rfl) (by kernel_rfl) (fun _ _ _ h => h) (by rfl) ?_ (by assumption) ?_
          skip
          · (intro w' hSw; (try dsimp only at hSw); go_simp; try (simp; done))
          try simp only [Act.put, List.setIfInBounds_toArray, List.set_cons_zero, List.set_cons_succ]
          refine tkLoad (i := 11) 54 (.tmp 100) b (off + (j + 1) * 3) (edV Y) _ rfl rfl (by kernel_rfl) (by kernel_rfl) (by kernel_rfl) (fun _ _ _ h => h) (by rfl) rfl rfl (fun w hw => hw.2) Tryz.underlying54 rfl infoTriple (by assumption) ?_
          try simp only [Act.put, List.setIfInBounds_toArray, List.set_cons_zero, List.set_cons_succ]
          refine wpAnyH_ready (rs := [12]) (by kernel_rfl) (by simp) ?_
          refine AllReadyH.cons rfl (fun K hK => ?_) AllReadyH.nil
          go_simp
          refine (ahead_any X Y _).mono ?_
          rintro _ w5 ⟨rfl, hk5⟩
          rw [show keyLt (X.1, X.2.1) (Y.1, Y.2.1) = false from HQ.out]
          replace K0 := Lib.hid (K0.out.trans hk5)
          replace HO := Lib.hid (HO.out.kept0 hk5)
          refine hK.out _ _ ⟨fun i u hu => Kept.cell_lt hk5 (HX.out i u hu), fun i u hu => Kept.cell_lt hk5 (HY.out i u hu)⟩ (fun hHeld2 => ?_)
          clear hK hk5
          try simp only [Act.put, List.setIfInBounds_toArray, List.set_cons_zero, List.set_cons_succ]
          refine tkYes (i := 13) (v := ?_) rfl rfl (by kernel_rfl) (by kernel_rfl) (by kernel_rfl) (fun _ _ _ h => h) (by rfl) ?_ (by assumption) ?_
          rotate_left
          · (intro w' hSw; (try dsimp only at hSw); go_simp; try with_reducible rfl)
          try simp only [Act.put, List.setIfInBounds_toArray, List.set_cons_zero, List.set_cons_succ]
          refine tkYes (i := 14) (v := ?_) rfl rfl (by kernel_rfl) (by kernel_rfl) (by kernel_rfl) (fun _ _ _ h => h) (by rfl) ?_ (by assumption) ?_
          rotate_left
          · (intro w' hSw; (try dsimp only at hSw); go_simp; try with_reducible rfl)
          try simp only [Act.put, List.setIfInBounds_toArray, List.set_cons_zero, List.set_cons_succ]
          refine wpAnyH_done (by kernel_rfl) ?_ _
          go_wp2_with fail
          rw [HPOST.out]
          exact ⟨by rw [E6.out, if_neg (by decide)] <;> rfl, K0.out⟩
    · have hkl : k = l.length := by omega
      subst hkl
      rw [List.take_length] at HO
      have E6 := Lib.hid (show encMW m c l = 0 by
        rw [E0.out, if_neg]
        rw [risesE_true (fun i hi => HN.out i hi hi)]
        decide)
      have hlt2 : ¬ (l.length : Int) < (l.length : Int) := by omega
      go_wp2_with fail
      rw [HPOST.out]
      exact ⟨by rw [if_pos E6.out]; exact ⟨_, rfl, by rw [matB_hdr]; exact HO.out⟩, K0.out⟩

theorem encM_form {w w' : World} {m c : Int} {l : List Ed} {x : Ending} (h : EncMPost w m c l x w') :
    ∃ v, x = .returned (.tuple #[v, .int .i64 (encMW m c l)]) ∧ OwnB w' w.heap.size v (if encMW m c l = 0 then matB (m, c, l) else []) ∧ Kept [] w w' := by
  unfold EncMPost at h
  obtain ⟨h, hk⟩ := h
  by_cases hz : encMW m c l = 0
  · rw [if_pos hz] at h ⊢
    obtain ⟨v, h1, h2⟩ := h
    exact ⟨v, by rw [hz]; exact h1, h2, hk⟩
  · rw [if_neg hz] at h ⊢
    exact ⟨_, h, OwnB.nil _ _, hk⟩
theorem encM_len (m c : Int) (l : List Ed) : (if encMW m c l = 0 then matB (m, c, l) else []).length ≤ maxLen := by
  by_cases hz : encMW m c l = 0
  · rw [if_pos hz, matB_hdr]
    have h65 : l.length ≤ 65536 := by
      unfold encMW at hz
      by_cases h1 : m < 0 ∨ c < 0
      · rw [if_pos h1] at hz; cases hz
      · rw [if_neg h1] at hz
        by_cases h2 : 4096 < m ∨ 4096 < c ∨ 65536 < l.length
        · rw [if_pos h2] at hz; cases hz
        · omega
    have := catM_len m c l.length l l.length (Nat.le_refl _) h65
    rw [List.take_length] at this
    unfold maxLen
    omega
  · rw [if_neg hz]; simp
theorem nilT (w : World) : Reads w none (([] : List Ed).flatMap edV) := Reads.of_own (World.ownsRow_nil w w.heap.size 54 3)
theorem decM_short {b : List UInt8} {M N : Int} {t : List Ed} (h : decM b = .ok (M, N, t)) : t.length ≤ maxLen := by
  unfold decM at h
  rcases hr : (Rd.mk b 0 0 0).matE with ⟨e', a'⟩ | ⟨⟨k, N', m⟩, R⟩
  · rw [hr] at h; cases h
  · rw [hr] at h
    injection h with h
    obtain ⟨h1, _⟩ := decM_in hr
    injection h with _ h
    injection h with _ h
    subst h
    have := h1.2.2.1.2
    unfold maxLen
    simp only [] at this
    omega
set_option maxRecDepth 100000 in
theorem loaderMatrix_walk (n0 n1 : Int) (l : List Ed) (A : Option Addr) (c : Nat) (b : List UInt8) (B : Option Addr) (cb : Nat) (w : World) (hA : Reads w A (l.flatMap edV)) (hl : l.length ≤ maxLen) (hB : Reads w B (b.map byteV)) (hb : b.length ≤ maxLen) :
    Calls Tryz.prog 5 #[.agg #[.int .i64 n0, .int .i64 n1], .slice A l.length c, .slice B b.length cb] w fun e w' => e = .returned (.bool true) ∧ Kept [] w w' := by
  have HX := Lib.hid (Blk.new w 40 [.int .i64 n0, .int .i64 n1])
  have K0 := Lib.hid ((Kept.refl [] w).alloc (.cells #[.int .i64 n0, .int .i64 n1] 40))
  have HA := Lib.hid hA
  have HB := Lib.hid hB
  have HL := Lib.hid hl
  have QF := guardFault
  unfold maxLen at hl hb
  clear hA hB
  by_cases h1 : 100 < l.length
  · have h1' : (100 : Int) < (l.length : Int) := by omega
    go_enter Tryz.func5, Tryz.ntmps5
    go_wp2_with fail
    refine (live6_any _).mono ?_
    rintro z wl ⟨rfl, hk⟩
    replace K0 := Lib.hid (K0.out.trans hk)
    clear hk
    go_wp2_with fail
    go_ret
    exact ⟨rfl, K0.out⟩
  have h1' : ¬ (100 : Int) < (l.length : Int) := by omega
  by_cases h2 : 3000 < b.length
  · have h2' : (3000 : Int) < (b.length : Int) := by omega
    go_enter Tryz.func5, Tryz.ntmps5
    go_wp2_with fail
    refine (live6_any _).mono ?_
    rintro z wl ⟨rfl, hk⟩
    replace K0 := Lib.hid (K0.out.trans hk)
    clear hk
    go_wp2_with fail
    go_ret
    exact ⟨rfl, K0.out⟩
  have h2' : ¬ (3000 : Int) < (b.length : Int) := by omega
  have HBL := Lib.hid (show b.length ≤ 1073741824 by omega)
  go_enter Tryz.func5, Tryz.ntmps5
  go_upto_region 3 with (fail)
  generalize w.alloc (.cells #[.int .i64 n0, .int .i64 n1] 40) = w5 at *
  generalize w.heap.size = g at HX ⊢
  have x0 := HX.out.cell 0
  have x1 := HX.out.cell 1
  have xl := HX.out.lt
  simp only [List.getElem?_cons_zero, List.getElem?_cons_succ] at x0 x1
  go_wp2_with fail
  refine (encodeM_any n0 n1 l A c _ (HA.out.kept0 K0.out) HL.out).mono ?_
  intro z w6 hz
  obtain ⟨v, rfl, ho, hk⟩ := encM_form hz
  obtain ⟨bs, hbs⟩ : ∃ bs, bs = (if encMW n0 n1 l = 0 then matB (n0, n1, l) else []) := ⟨_, rfl⟩
  obtain ⟨ez, hez⟩ : ∃ ez, ez = encMW n0 n1 l := ⟨_, rfl⟩
  have HBS := Lib.hid hbs
  have HEZ := Lib.hid hez
  have HEN := Lib.hid (encM_len n0 n1 l)
  rw [← hbs] at HEN
  clear hbs hez
  rw [← HBS.out] at ho
  rw [← HEZ.out]
  obtain ⟨A6, c6, rfl⟩ := own_n ho
  have HR6 := Lib.hid (Reads.of_own ho)
  replace HX := Lib.hid (HX.out.kept hk (by simp))
  replace K0 := Lib.hid (K0.out.trans hk)
  clear hk ho hz x0 x1 xl
  have x0 := HX.out.cell 0
  have x1 := HX.out.cell 1
  have xl := HX.out.lt
  simp only [List.getElem?_cons_zero, List.getElem?_cons_succ] at x0 x1
  go_wp2_with fail
  refine (rencodeM_any n0 n1 l A c _ (HA.out.kept0 K0.out) HL.out).mono ?_
  intro z w7 hz
  obtain ⟨v, rfl, ho, hk⟩ := encM_form hz
  rw [← HBS.out] at ho
  rw [← HEZ.out]
  obtain ⟨A7, c7, rfl⟩ := own_n ho
  have HR7 := Lib.hid (Reads.of_own ho)
  replace HX := Lib.hid (HX.out.kept hk (by simp))
  replace HR6 := Lib.hid (HR6.out.kept0 hk)
  replace K0 := Lib.hid (K0.out.trans hk)
  clear hk ho hz x0 x1 xl
  rcases hd : decM b with ⟨e, a⟩ | ⟨M, N, t⟩
  · have HD := Lib.hid hd
    clear hd
    go_wp2_with fail
    refine (decodeM_any b B cb _ (HB.out.kept0 K0.out) HBL.out).mono ?_
    intro z w8 hz
    rw [HD.out] at hz
    obtain ⟨rfl, hk⟩ := hz
    have kd : Kept [] w8 (w8.alloc (.cells #[.int .i64 e, .int .i64 a] 33)) := (Kept.refl [] w8).alloc _
    have Hf1 := Lib.hid (Blk.new w8 33 [.int .i64 e, .int .i64 a])
    replace HR6 := Lib.hid ((HR6.out.kept0 hk).kept0 kd)
    replace HR7 := Lib.hid ((HR7.out.kept0 hk).kept0 kd)
    replace K0 := Lib.hid ((K0.out.trans hk).trans kd)
    clear kd hk
    go_upto_region 6 with (fail)
    generalize (w8.alloc (.cells #[.int .i64 e, .int .i64 a] 33)) = w8n at *
    generalize w8.heap.size = f1 at Hf1 ⊢
    go_wp2_with fail
    refine (rdecodeM_any b B cb _ (HB.out.kept0 K0.out) HBL.out).mono ?_
    intro z w9 hz
    rw [HD.out] at hz
    obtain ⟨rfl, hk⟩ := hz
    have kd : Kept [] w9 (w9.alloc (.cells #[.int .i64 e, .int .i64 a] 33)) := (Kept.refl [] w9).alloc _
    have Hf2 := Lib.hid (Blk.new w9 33 [.int .i64 e, .int .i64 a])
    replace Hf1 := Lib.hid ((Hf1.out.kept hk (by simp)).kept kd (by simp))
    replace HR6 := Lib.hid ((HR6.out.kept0 hk).kept0 kd)
    replace HR7 := Lib.hid ((HR7.out.kept0 hk).kept0 kd)
    replace K0 := Lib.hid ((K0.out.trans hk).trans kd)
    clear kd hk
    go_upto_region 7 with (fail)
    generalize (w9.alloc (.cells #[.int .i64 e, .int .i64 a] 33)) = w9n at *
    generalize w9.heap.size = f2 at Hf2 ⊢
    have Q0 : ∀ w, (binOp .eql 33 (.agg #[.int .i64 e, .int .i64 a]) (.agg #[.int .i64 e, .int .i64 a])).run Tryz.prog w = .ok (.bool true) w := fun w => by
      simpa using eqlFault (e, a) (e, a) w
    go_wp2_with fail
    refine (live6_any _).mono ?_
    rintro z wl ⟨rfl, hk⟩
    replace Hf1 := Lib.hid (Hf1.out.kept hk (by simp))
    replace Hf2 := Lib.hid (Hf2.out.kept hk (by simp))
    replace HR6 := Lib.hid (HR6.out.kept0 hk)
    replace HR7 := Lib.hid (HR7.out.kept0 hk)
    replace K0 := Lib.hid (K0.out.trans hk)
    clear hk
    go_wp2_with fail
    refine (sameBytes_any bs bs A6 A7 c6 c7 _ HR6.out HR7.out HEN.out HEN.out).mono ?_
    rintro z wf ⟨rfl, nq, hnq⟩
    have hk : Kept [] wl wf := hnq ▸ (Kept.refl [] _).drewN nq
    rw [show decide (bs = bs) = true from decide_eq_true rfl]
    replace Hf1 := Lib.hid (Hf1.out.kept hk (by simp))
    replace Hf2 := Lib.hid (Hf2.out.kept hk (by simp))
    replace K0 := Lib.hid (K0.out.trans hk)
    clear hk hnq
    go_wp2_with fail
    refine (sameT_any ([] : List Ed) ([] : List Ed) none none 0 0 _ (by simp) (by simp) (nilT _) (nilT _)).mono ?_
    rintro z wg ⟨rfl, hk⟩
    rw [show decide (([] : List Ed) = ([] : List Ed)) = true from decide_eq_true rfl]
    replace Hf1 := Lib.hid (Hf1.out.kept hk (by simp))
    replace Hf2 := Lib.hid (Hf2.out.kept hk (by simp))
    replace K0 := Lib.hid (K0.out.trans hk)
    clear hk
    have a0 := Hf1.out.cell 0
    have a1 := Hf1.out.cell 1
    have al := Hf1.out.lt
    have b0 := Hf2.out.cell 0
    have b1 := Hf2.out.cell 1
    have bl := Hf2.out.lt
    simp only [List.getElem?_cons_zero, List.getElem?_cons_succ] at a0 a1 b0 b1
    go_wp2_with fail
    go_ret
    exact ⟨ret_bool (by simp), K0.out⟩
  · have HD := Lib.hid hd
    have HT := Lib.hid (decM_short hd)
    clear hd
    go_wp2_with fail
    refine (decodeM_any b B cb _ (HB.out.kept0 K0.out) HBL.out).mono ?_
    intro z w8 hz
    rw [HD.out] at hz
    obtain ⟨⟨v, rfl, ho⟩, hk⟩ := hz
    obtain ⟨A8, c8, rfl⟩ := own_n ho
    have HR8 := Lib.hid (Reads.of_own ho)
    clear ho
    have kd : Kept [] w8 (w8.alloc (.cells #[.int .i64 0, .int .i64 0] 33)) := (Kept.refl [] w8).alloc _
    have Hf1 := Lib.hid (Blk.new w8 33 [.int .i64 0, .int .i64 0])
    replace HR6 := Lib.hid ((HR6.out.kept0 hk).kept0 kd)
    replace HR7 := Lib.hid ((HR7.out.kept0 hk).kept0 kd)
    replace K0 := Lib.hid ((K0.out.trans hk).trans kd)
    replace HR8 := Lib.hid (HR8.out.kept0 kd)
    clear kd hk
    go_upto_region 6 with (fail)
    generalize (w8.alloc (.cells #[.int .i64 0, .int .i64 0] 33)) = w8n at *
    generalize w8.heap.size = f1 at Hf1 ⊢
    go_wp2_with fail
    refine (rdecodeM_any b B cb _ (HB.out.kept0 K0.out) HBL.out).mono ?_
    intro z w9 hz
    rw [HD.out] at hz
    obtain ⟨⟨v, rfl, ho⟩, hk⟩ := hz
    obtain ⟨A9, c9, rfl⟩ := own_n ho
    have HR9 := Lib.hid (Reads.of_own ho)
    clear ho
    have kd : Kept [] w9 (w9.alloc (.cells #[.int .i64 0, .int .i64 0] 33)) := (Kept.refl [] w9).alloc _
    have Hf2 := Lib.hid (Blk.new w9 33 [.int .i64 0, .int .i64 0])
    replace Hf1 := Lib.hid ((Hf1.out.kept hk (by simp)).kept kd (by simp))
    replace HR6 := Lib.hid ((HR6.out.kept0 hk).kept0 kd)
    replace HR7 := Lib.hid ((HR7.out.kept0 hk).kept0 kd)
    replace HR8 := Lib.hid ((HR8.out.kept0 hk).kept0 kd)
    replace K0 := Lib.hid ((K0.out.trans hk).trans kd)
    replace HR9 := Lib.hid (HR9.out.kept0 kd)
    clear kd hk
    go_upto_region 7 with (fail)
    generalize (w9.alloc (.cells #[.int .i64 0, .int .i64 0] 33)) = w9n at *
    generalize w9.heap.size = f2 at Hf2 ⊢
    have Q0 : ∀ w, (binOp .eql 33 (.agg #[.int .i64 0, .int .i64 0]) (.agg #[.int .i64 0, .int .i64 0])).run Tryz.prog w = .ok (.bool true) w := fun w => by
      simpa using eqlFault (0, 0) (0, 0) w
    go_wp2_with fail
    refine (live6_any _).mono ?_
    rintro z wl ⟨rfl, hk⟩
    replace Hf1 := Lib.hid (Hf1.out.kept hk (by simp))
    replace Hf2 := Lib.hid (Hf2.out.kept hk (by simp))
    replace HR6 := Lib.hid (HR6.out.kept0 hk)
    replace HR7 := Lib.hid (HR7.out.kept0 hk)
    replace HR8 := Lib.hid (HR8.out.kept0 hk)
    replace HR9 := Lib.hid (HR9.out.kept0 hk)
    replace K0 := Lib.hid (K0.out.trans hk)
    clear hk
    go_wp2_with fail
    refine (sameBytes_any bs bs A6 A7 c6 c7 _ HR6.out HR7.out HEN.out HEN.out).mono ?_
    rintro z wf ⟨rfl, nq, hnq⟩
    have hk : Kept [] wl wf := hnq ▸ (Kept.refl [] _).drewN nq
    rw [show decide (bs = bs) = true from decide_eq_true rfl]
    replace Hf1 := Lib.hid (Hf1.out.kept hk (by simp))
    replace Hf2 := Lib.hid (Hf2.out.kept hk (by simp))
    replace HR8 := Lib.hid (HR8.out.kept0 hk)
    replace HR9 := Lib.hid (HR9.out.kept0 hk)
    replace K0 := Lib.hid (K0.out.trans hk)
    clear hk hnq
    go_wp2_with fail
    refine (sameT_any t t A8 A9 c8 c9 _ HT.out HT.out HR8.out HR9.out).mono ?_
    rintro z wg ⟨rfl, hk⟩
    rw [show decide (t = t) = true from decide_eq_true rfl]
    replace Hf1 := Lib.hid (Hf1.out.kept hk (by simp))
    replace Hf2 := Lib.hid (Hf2.out.kept hk (by simp))
    replace K0 := Lib.hid (K0.out.trans hk)
    clear hk
    have a0 := Hf1.out.cell 0
    have a1 := Hf1.out.cell 1
    have al := Hf1.out.lt
    have b0 := Hf2.out.cell 0
    have b1 := Hf2.out.cell 1
    have bl := Hf2.out.lt
    simp only [List.getElem?_cons_zero, List.getElem?_cons_succ] at a0 a1 b0 b1
    go_wp2_with fail
    go_ret
    exact ⟨ret_bool (by simp), K0.out⟩
set_option maxRecDepth 100000 in
theorem open_pair {H : Type} {enc : TypeId × Value → H} {W : World} {base : Nat} {v : Value} {d : DataW H} {ps : List MemPlace} (hok : Value.okWide Tryz.prog W .any base 40 v) (h : DataW.Trod enc Tryz.prog W 0 (fun _ => true) true 40 v d ps) :
    ∃ n0 n1 : Int, v = .agg #[.int .i64 n0, .int .i64 n1] := by
  simp only [Value.okWide, Tryz.underlying40] at hok
  obtain ⟨cs, rfl, h2, _⟩ := hok
  have hc : Tryz.prog.cellsOf 40 = 2 := by kernel_rfl
  rw [hc] at h2
  obtain ⟨fuel, hF⟩ := h
  obtain ⟨xs, m, _, _, _, hxl, hf⟩ := DataW.trod_array Tryz.underlying40 hF
  match cs, h2 with
  | ⟨[u0, u1]⟩, _ =>
    have g0 := hf 0 (by decide)
    have g1 := hf 1 (by decide)
    rw [List.getElem?_eq_getElem (by omega), cInt] at g0 g1
    obtain ⟨n0, rfl, _⟩ := trod_i64 Tryz.underlying3 g0
    obtain ⟨n1, rfl, _⟩ := trod_i64 Tryz.underlying3 g1
    exact ⟨n0, n1, rfl⟩

set_option maxRecDepth 100000 in
theorem loaderMatrix_lifted (os : Os) (started : os.Started) (H : Type) (enc : TypeId × Value → H) :
    ReturnsInHanded {} Tryz.checked os 5 .any (Rows.loaderMatrixSpec.pre6 enc Tryz.prog Tryz.f5 Rows.loaderMatrixRow.domain false) (Rows.loaderMatrixSpec.post enc Tryz.prog Tryz.f5 false true false false) := by
  refine returnsInHanded_of_change (C := Tryz.checked) own started (by kernel_rfl) Tryz.func5
    (ChangeSpec.witness6 (enc := enc) (C := Tryz.checked) false ⟨#[], #[.agg #[.int .i64 0, .int .i64 0], .slice none 0 0, .slice none 0 0], []⟩ 8 (by kernel_rfl) (by kernel_rfl) (by kernel_rfl) (by kernel_rfl)) ?_
  intro W base args ds gs before hval0 hW hcnd _
  have hval : ∀ (j : Nat) t v, Tryz.f5.params[j]? = some t → args[j]? = some v → Value.okWide Tryz.prog W .any base t v := hval0
  have hW' := hW
  obtain ⟨p, q, hA0, hV, rfl, hfz, hnd⟩ := hW
  have hA : DataW.TrodAll enc Tryz.prog W 0 (fun _ => true) true Tryz.f5.params.toList args.toList ds p := hA0
  rw [Tryz.params5] at hA hval
  obtain ⟨v0, vs0, d0, ds0, p0, q0, hargs, rfl, rfl, h0, r0⟩ := trodAll_cons hA
  obtain ⟨v1, vs1, d1, ds1, p1, q1, rfl, rfl, rfl, h1, r1⟩ := trodAll_cons r0
  obtain ⟨v2, vs2, d2, ds2, p2, q2, rfl, rfl, rfl, h2, r2⟩ := trodAll_cons r1
  obtain ⟨rfl, rfl, rfl⟩ := trodAll_nil r2
  obtain rfl : args = #[v0, v1, v2] := by cases args; simp_all
  obtain ⟨rfl, rfl⟩ := trodVars_none hV
  obtain ⟨n0, n1, rfl⟩ := open_pair (hval 0 40 v0 rfl rfl) h0
  obtain ⟨A, c, l, rfl, l1, l2, hAr, _, _⟩ := open_recs edV (fun r => In64 r.1 ∧ In64 r.2.1 ∧ In64 r.2.2) 3 (by decide) cTriple (fun _ => rfl) (fun _ _ _ hx => elem_trip hx) Tryz.underlying41 (hval 1 41 v1 rfl rfl) h1
  obtain ⟨B, cb, b, rfl, l3, l4, hBr, _⟩ := open_bytes Tryz.underlying26 Tryz.underlying5 (by kernel_rfl) (hval 2 26 v2 rfl rfl) h2
  refine (loaderMatrix_walk n0 n1 l A c b B cb W hAr (Nat.le_trans l1 l2) hBr (Nat.le_trans l3 l4)).mono fun e W' ⟨he, hk⟩ => ?_
  exact ⟨_, he, post_true rfl Tryz.underlying4 rfl rfl rfl rfl laidOut (by decide +kernel) hW' hk⟩

theorem loaderMatrix_holds : Rows.LoaderMatrixSaid :=
  OpenClaim.holds_of_wide 5 Tryz.f5 rfl rfl rfl rfl rfl rfl rfl ⟨rfl, rfl, rfl, rfl, rfl⟩ rfl rfl rfl rfl rfl (by kernel_rfl) Tryz.func5 (by kernel_rfl)
    (of_decide_eq_true (by kernel_rfl)) (by unfold Func.isWrapper; first | (rw [if_pos (by decide +kernel)]; kernel_rfl) | (rw [if_neg (by decide +kernel)]; exact ⟨rfl, rfl⟩))
    (fun os started H enc _ => loaderMatrix_lifted os started H enc)
end Go.Proofs.YtfnhfmffkjljnaaGreat
